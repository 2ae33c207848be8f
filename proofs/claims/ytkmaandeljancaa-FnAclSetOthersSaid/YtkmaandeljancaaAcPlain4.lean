/- Plain facts on the laws of setting grants. No program. -/
import Derived.Test.YtkmaandeljancaaAcPlain3
namespace Go.Proofs.Ytkmaandeljancaa.Ac
set_option linter.unusedVariables false

theorem build_length {us : List G} {s : ByteArray} {r : Int} (hp : us.Pairwise (fun a b => slt a.user b.user = true)) : (build us s r).length = (drop us s).length + if r = 0 then 0 else 1 := by
  by_cases hr : r = 0
  · subst hr; rw [build_zero, if_pos rfl]; rfl
  · rw [build_pos hr hp, ins_len, if_neg hr]
theorem set_inv {us : List G} {s : ByteArray} {r : Int} (h : (set us s r).2 = true) : aclOk us = true ∧ Nm.nameOk s.data.toList = true ∧ (0 ≤ r ∧ r ≤ 63) ∧ aclOk (build us s r) = true ∧ (set us s r).1 = build us s r := by
  unfold set at h ⊢
  split at h
  · rename_i h1
    rw [if_pos h1]
    split at h
    · rename_i h2
      rw [if_pos h2]
      simp only [Bool.and_eq_true, decide_eq_true_eq] at h1
      exact ⟨h1.1.1, h1.1.2, h1.2, h2, rfl⟩
    · cases h
  · cases h
/-- setting again gives the same -/
theorem set_twice {us : List G} {s : ByteArray} {r : Int} (h : (set us s r).2 = true) : set (set us s r).1 s r = ((set us s r).1, true) := by
  obtain ⟨h1, h2, h3, h4, h5⟩ := set_inv h
  obtain ⟨_, _, hp⟩ := (aclOk_iff us).1 h1
  have e : build (build us s r) s r = build us s r := by
    have hp2 := build_sorted (s := s) (r := r) hp
    refine sorted_eq (build_sorted hp2) hp2 fun u => ?_
    rw [build_iff hp2, build_iff hp]
    constructor
    · rintro (⟨h6 | h6, h7⟩ | h6)
      · exact .inl h6
      · exact .inr h6
      · exact .inr h6
    · rintro (h6 | h6)
      · exact .inl ⟨.inl h6, h6.2⟩
      · exact .inr h6
  rw [h5, set_yes h4 h2 h3 (by rw [e]; exact h4), e]
/-- setting back gives what was -/
theorem set_back {us : List G} {s : ByteArray} {r q : Int} (h : (set us s r).2 = true) (hq : (∃ u ∈ us, u.user = s ∧ u.rights = q) ∨ (q = 0 ∧ ∀ u ∈ us, u.user ≠ s)) : set (set us s r).1 s q = (us, true) := by
  obtain ⟨h1, h2, h3, h4, h5⟩ := set_inv h
  obtain ⟨_, hv, hp⟩ := (aclOk_iff us).1 h1
  have hp2 := build_sorted (s := s) (r := r) hp
  have hqr : 0 ≤ q ∧ q ≤ 63 := by
    rcases hq with ⟨u, hu, _, rfl⟩ | ⟨rfl, _⟩
    · have := valid_rights (hv u hu); omega
    · omega
  have e : build (build us s r) s q = us := by
    refine sorted_eq (build_sorted hp2) hp fun u => ?_
    rw [build_iff hp2, build_iff hp]
    constructor
    · rintro (⟨h6 | ⟨_, rfl⟩, h7⟩ | ⟨h6, rfl⟩)
      · exact h6.1
      · exact absurd rfl h7
      · rcases hq with ⟨v, hv1, hv2, hv3⟩ | ⟨h8, _⟩
        · obtain ⟨vu, vr⟩ := v
          simp only at hv2 hv3
          subst hv2 hv3
          exact hv1
        · exact absurd h8 h6
    · intro hu
      by_cases hus : u.user = s
      · right
        rcases hq with ⟨v, hv1, hv2, hv3⟩ | ⟨_, h8⟩
        · have huv : u = v := by
            obtain ⟨i, hi, rfl⟩ := List.mem_iff_getElem.1 hu
            obtain ⟨j, hj, rfl⟩ := List.mem_iff_getElem.1 hv1
            rw [List.pairwise_iff_getElem] at hp
            rcases Nat.lt_trichotomy i j with h9 | h9 | h9
            · exact absurd (hus.trans hv2.symm) (slt_ne (hp i j hi hj h9))
            · subst h9; rfl
            · exact absurd (hv2.trans hus.symm) (slt_ne (hp j i hj hi h9))
          subst huv
          have := valid_rights (hv u hu)
          obtain ⟨uu, ur⟩ := u
          simp only at hus hv3 this
          subst hus hv3
          exact ⟨by omega, rfl⟩
        · exact absurd hus (h8 u hu)
      · exact .inl ⟨.inl ⟨hu, hus⟩, hus⟩
  rw [h5, set_yes h4 h2 hqr (by rw [e]; exact h1), e]
/-- there was no space: the list is full, and has no such name -/
theorem set_full_inv {us : List G} {s : ByteArray} {r : Int} (h : (set us s r).2 = false) (h1 : aclOk us = true) (h2 : Nm.nameOk s.data.toList = true) (h3 : 0 ≤ r ∧ r ≤ 63) : (set us s r).1 = us ∧ us.length = 4 ∧ (∀ u ∈ us, u.user ≠ s) ∧ 0 < r := by
  obtain ⟨hl, _, hp⟩ := (aclOk_iff us).1 h1
  cases h4 : aclOk (build us s r)
  · rw [set_full h1 h2 h3 h4]
    rw [build_ok h1 h2 h3] at h4
    have h5 : ¬ (build us s r).length ≤ 4 := of_decide_eq_false h4
    rw [build_length hp] at h5
    have h6 := (drop_sub us s).length_le
    have hr : r ≠ 0 := by
      rintro rfl
      rw [if_pos rfl] at h5
      omega
    rw [if_neg hr] at h5
    have h7 : drop us s = us := (drop_sub us s).eq_of_length (by omega)
    refine ⟨rfl, by omega, fun u hu e => ?_, by omega⟩
    rw [← h7] at hu
    exact ((drop_mem us s u).1 hu).2 e
  · rw [set_yes h1 h2 h3 h4] at h; cases h
end Go.Proofs.Ytkmaandeljancaa.Ac
