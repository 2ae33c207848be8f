/- Plain facts on lists of names: parts. No program. -/
import Derived.Test.YtpolpopkiegjkaaStPlain
namespace Go.Proofs.Ytpolpopkiegjkaa.St
set_option linter.unusedVariables false

theorem str_eq {a b : ByteArray} : (a.toList == b.toList) = true ↔ a = b := by
  constructor
  · intro h
    have h := eq_of_beq h
    rw [Go.ByteArray.toList_eq, Go.ByteArray.toList_eq] at h
    cases a; cases b
    congr
    exact Array.toList_inj.1 h
  · rintro rfl; simp
theorem has_iff (l : List ByteArray) (s : ByteArray) : has l s = true ↔ s ∈ l := by
  unfold has
  rw [List.any_eq_true]
  constructor
  · rintro ⟨x, hx, h⟩
    rw [str_eq] at h
    subst h; exact hx
  · intro h; exact ⟨s, h, str_eq.2 rfl⟩
theorem okTo_iff (us : List ByteArray) : ∀ n, n ≤ us.length → (okTo us n = true ↔ (∀ u ∈ us.take n, Nm.nameOk u.data.toList = true) ∧ (us.take n).Nodup)
  | 0, _ => by simp [okTo]
  | n + 1, h => by
    have hu := List.getElem?_eq_getElem (by omega : n < us.length)
    have ht : us.take (n + 1) = us.take n ++ [us[n]] := by rw [List.take_add_one, hu]; rfl
    rw [okTo_succ, Bool.and_eq_true, okTo_iff us n (by omega), ht, List.nodup_append]
    cases hn : Nm.nameOk us[n].data.toList
    · rw [item_no1 hu hn]
      simp only [Bool.false_eq_true, and_false, false_iff]
      rintro ⟨h1, _⟩
      have := h1 us[n] (List.mem_append_right _ (List.mem_singleton.2 rfl))
      rw [hn] at this
      cases this
    · rw [item_is hu hn]
      have e : (!has (us.take n) us[n]) = true ↔ us[n] ∉ us.take n := by
        rw [← has_iff]; cases has (us.take n) us[n] <;> simp
      rw [e]
      constructor
      · rintro ⟨⟨h1, h2⟩, h3⟩
        refine ⟨fun u hu => ?_, h2, by simp, fun a ha b hb => ?_⟩
        · rcases List.mem_append.1 hu with h' | h'
          · exact h1 u h'
          · rw [List.mem_singleton] at h'; subst h'; exact hn
        · rw [List.mem_singleton] at hb; subst hb
          rintro rfl; exact h3 ha
      · rintro ⟨h1, h2, _, h4⟩
        exact ⟨⟨fun u hu => h1 u (List.mem_append_left _ hu), h2⟩, fun hm => h4 _ hm us[n] (List.mem_singleton.2 rfl) rfl⟩
theorem namesOk_iff (us : List ByteArray) : namesOk us = true ↔ us.length ≤ 3 ∧ (∀ u ∈ us, Nm.nameOk u.data.toList = true) ∧ us.Nodup := by
  unfold namesOk
  rw [Bool.and_eq_true, decide_eq_true_eq, okTo_iff us us.length (Nat.le_refl _), List.take_length]
theorem namesOk_sub {us vs : List ByteArray} (h : namesOk us = true) (hs : vs.Sublist us) : namesOk vs = true := by
  obtain ⟨h1, h2, h3⟩ := (namesOk_iff us).1 h
  exact (namesOk_iff vs).2 ⟨Nat.le_trans hs.length_le h1, fun u hu => h2 u (hs.subset hu), h3.sublist hs⟩
theorem out_sub {us : List ByteArray} {k : Nat} (hk : k < us.length) : (us.take k ++ us.drop (k + 1)).Sublist us := by
  have e : us = us.take k ++ us.drop k := (List.take_append_drop k us).symm
  conv => rhs; rw [e]
  refine List.Sublist.append (List.Sublist.refl _) ?_
  rw [List.drop_eq_getElem_cons hk]
  exact List.sublist_cons_self _ _
theorem namesOk_twice {us : List ByteArray} {k : Nat} (hk : k < us.length) : namesOk (us.take (k + 1) ++ us.drop k) = false := by
  cases hv : namesOk (us.take (k + 1) ++ us.drop k)
  · rfl
  · exfalso
    obtain ⟨_, _, h3⟩ := (namesOk_iff _).1 hv
    rw [List.nodup_append] at h3
    exact h3.2.2 us[k] (by rw [List.mem_take_iff_getElem]; exact ⟨k, by omega, rfl⟩) us[k] (by rw [List.drop_eq_getElem_cons hk]; exact List.mem_cons_self ..) rfl

end Go.Proofs.Ytpolpopkiegjkaa.St
