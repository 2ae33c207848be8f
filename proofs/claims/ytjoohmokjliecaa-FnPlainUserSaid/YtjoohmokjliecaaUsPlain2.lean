/- Plain facts on lists of users: order, parts, finding. No program. -/
import Derived.Test.YtjoohmokjliecaaUsPlain
namespace Go.Proofs.Ytjoohmokjliecaa.Us
set_option linter.unusedVariables false

theorem okTo_item {us : List U} : ∀ n, okTo us n = true → ∀ i, i < n → itemOk us i = true := by
  intro n
  induction n with
  | zero => intro _ i hi; omega
  | succ n ih =>
    intro h i hi
    rw [okTo_succ, Bool.and_eq_true] at h
    by_cases hin : i = n
    · subst hin; exact h.2
    · exact ih h.1 i (by omega)
theorem okTo_of {us : List U} : ∀ n, (∀ i, i < n → itemOk us i = true) → okTo us n = true := by
  intro n
  induction n with
  | zero => intro _; rfl
  | succ n ih =>
    intro h
    rw [okTo_succ, ih fun i hi => h i (by omega), h n (by omega)]; rfl
theorem usersOk_iff (us : List U) : usersOk us = true ↔ (1 ≤ us.length ∧ us.length ≤ 4) ∧ (∀ u ∈ us, valid u = true) ∧ us.Pairwise (fun a b => slt a.name b.name = true) := by
  unfold usersOk
  rw [Bool.and_eq_true, decide_eq_true_eq]
  constructor
  · rintro ⟨h1, h2⟩
    have hi := okTo_item _ h2
    refine ⟨h1, fun u hu => ?_, ?_⟩
    · obtain ⟨i, hl, rfl⟩ := List.mem_iff_getElem.1 hu
      have := hi i hl
      by_cases h0 : 0 < i
      · rw [itemOk_next hl h0, Bool.and_eq_true] at this; exact this.1
      · obtain rfl : i = 0 := by omega
        rw [itemOk_zero hl] at this; exact this
    · rw [List.pairwise_iff_getElem]
      intro i j hil hjl hij
      obtain ⟨d, rfl⟩ : ∃ d, j = i + 1 + d := ⟨j - i - 1, by omega⟩
      induction d with
      | zero =>
        have := hi (i + 1) hjl
        rw [itemOk_next hjl (by omega), Bool.and_eq_true] at this
        exact this.2
      | succ d ih =>
        have := hi (i + 1 + (d + 1)) hjl
        rw [itemOk_next hjl (by omega), Bool.and_eq_true] at this
        exact slt_trans (ih (by omega) (by omega)) this.2
  · rintro ⟨h1, h2, h3⟩
    refine ⟨h1, okTo_of _ fun i hi => ?_⟩
    rw [List.pairwise_iff_getElem] at h3
    by_cases h0 : 0 < i
    · rw [itemOk_next hi h0, h2 _ (List.getElem_mem hi), h3 (i - 1) i (by omega) hi (by omega)]; rfl
    · obtain rfl : i = 0 := by omega
      rw [itemOk_zero hi]; exact h2 _ (List.getElem_mem hi)
theorem usersOk_sub {us vs : List U} (h : usersOk us = true) (hs : vs.Sublist us) (hl : 1 ≤ vs.length) : usersOk vs = true := by
  obtain ⟨h1, h2, h3⟩ := (usersOk_iff us).1 h
  refine (usersOk_iff vs).2 ⟨⟨hl, Nat.le_trans hs.length_le h1.2⟩, fun u hu => h2 u (hs.subset hu), h3.sublist hs⟩
theorem usersOk_out {us : List U} {k : Nat} (h : usersOk us = true) (hk : k < us.length) : usersOk (us.take k ++ us.drop (k + 1)) = decide (us.length > 1) := by
  have hlen : (us.take k ++ us.drop (k + 1)).length = us.length - 1 := by simp; omega
  by_cases h1 : us.length > 1
  · rw [decide_eq_true h1]
    refine usersOk_sub h ?_ (by omega)
    have e : us = us.take k ++ us.drop k := (List.take_append_drop k us).symm
    conv => rhs; rw [e]
    refine List.Sublist.append (List.Sublist.refl _) ?_
    rw [List.drop_eq_getElem_cons hk]
    exact List.sublist_cons_self _ _
  · rw [decide_eq_false h1]
    exact usersOk_size (by omega)
theorem usersOk_twice {us : List U} {k : Nat} (hk : k < us.length) : usersOk (us.take (k + 1) ++ us.drop k) = false := by
  cases hv : usersOk (us.take (k + 1) ++ us.drop k)
  · rfl
  · exfalso
    obtain ⟨_, _, h3⟩ := (usersOk_iff _).1 hv
    rw [List.pairwise_append] at h3
    have h := h3.2.2 us[k] (by rw [List.mem_take_iff_getElem]; exact ⟨k, by omega, rfl⟩) us[k] (by rw [List.drop_eq_getElem_cons hk]; exact List.mem_cons_self ..)
    rw [slt_irrefl] at h
    cases h
theorem same_of {a b : ByteArray} (h : (a.toList == b.toList) = true) : a = b := by
  have h := eq_of_beq h
  rw [Go.ByteArray.toList_eq, Go.ByteArray.toList_eq] at h
  cases a; cases b
  congr
  exact Array.toList_inj.1 h
theorem find_at {us : List U} {k : Nat} {u : U} (h : usersOk us = true) (hu : us[k]? = some u) : us.find? (fun x => x.name.toList == u.name.toList) = some u := by
  obtain ⟨_, _, h3⟩ := (usersOk_iff us).1 h
  rw [List.pairwise_iff_getElem] at h3
  have hk : k < us.length := (List.getElem?_eq_some_iff.1 hu).1
  have e : us[k] = u := (List.getElem?_eq_some_iff.1 hu).2
  rw [List.find?_eq_some_iff_getElem]
  refine ⟨by simp, k, hk, e, fun j hj => ?_⟩
  cases hb : (us[j].name.toList == u.name.toList)
  · rfl
  · have h4 := h3 j k (by omega) hk hj
    rw [e, same_of hb, slt_irrefl] at h4
    cases h4
theorem find_anyone {us : List U} {nm : ByteArray} (h : usersOk us = true) (hn : nm.toList = anyoneL) : us.find? (fun x => x.name.toList == nm.toList) = none := by
  obtain ⟨_, h2, _⟩ := (usersOk_iff us).1 h
  rw [List.find?_eq_none]
  intro u hu
  have := h2 u hu
  unfold valid at this
  simp only [Bool.and_eq_true, Bool.not_eq_true'] at this
  rw [hn, this.1.1.2]
  simp

end Go.Proofs.Ytjoohmokjliecaa.Us
