/- What a text made of a user and a password proves: plain. -/
import Derived.Test.YtnbggmmghopphaaGreatDoorPl
import Derived.Test.YtnbggmmghopphaaGreatDoorUpS
namespace Go.Proofs.YtnbggmmghopphaaGreatDoor
set_option linter.unusedVariables false
open Us (U)

theorem Ct.mk_self (s : ByteArray) : Ct.mk s.data.toList = s := (Ct.ext rfl).symm
theorem Pp.parse_nil : Pp.parse [] = none := by
  unfold Pp.parse
  rw [show B6.decode [] = some [] from rfl]
  rfl
theorem Pp.parse_make {u p : ByteArray} (hu : Nm.nameOk u.data.toList = true) (hp : Nm.nameOk p.data.toList = true) : Pp.parse (Pp.make u p).data.toList = some (u.data.toList, p.data.toList) := by
  have e : (Pp.make u p).data.toList = B6.enc (0 :: (u.data.toList ++ 0 :: p.data.toList)) := by
    unfold Pp.make; rw [if_pos ⟨hu, hp⟩]
  have h1 := (Nm.nameOk_len hu).2
  have h2 := (Nm.nameOk_len hp).2
  unfold Pp.parse
  rw [e, B6.decode_enc (by simp only [List.length_cons, List.length_append]; omega)]
  exact Pp.parts_yes hu hp
theorem Pp.make_bad {u p : ByteArray} (h : ¬ (Nm.nameOk u.data.toList = true ∧ Nm.nameOk p.data.toList = true)) : Pp.make u p = ⟨#[]⟩ := by unfold Pp.make; rw [if_neg h]
theorem Us.ans_mem {us : List U} {n : ByteArray} {u : U} (h : Us.ans us n = some u) : Us.usersOk us = true ∧ u ∈ us ∧ u.name = n ∧ Nm.nameOk u.name.data.toList = true ∧ Nm.nameOk u.pass.data.toList = true := by
  unfold Us.ans at h
  cases hok : Us.usersOk us
  · rw [hok] at h; cases h
  · rw [hok] at h
    simp only [if_true] at h
    have hm := List.mem_of_find?_eq_some h
    have hn := List.find?_some h
    obtain ⟨_, hv, _⟩ := (Us.usersOk_iff us).1 hok
    have := hv u hm
    unfold Us.valid at this
    simp only [Bool.and_eq_true] at this
    exact ⟨rfl, hm, Us.same_of hn, this.1.1.1, this.1.2⟩
theorem Us.proves_inv {us : List U} {n p : ByteArray} (h : Us.proves us n p = true) : ∃ u, Us.ans us n = some u ∧ u ∈ us ∧ u.name = n ∧ u.pass = p ∧ Us.usersOk us = true ∧ Nm.nameOk n.data.toList = true ∧ Nm.nameOk p.data.toList = true := by
  unfold Us.proves at h
  rw [Bool.and_eq_true] at h
  obtain ⟨u, hu⟩ := Option.isSome_iff_exists.1 h.1
  have h2 := h.2
  rw [hu] at h2
  have hp : u.pass = p := Us.same_of h2
  obtain ⟨h3, h4, h5, h6, h7⟩ := Us.ans_mem hu
  exact ⟨u, hu, h4, h5, hp, h3, h5 ▸ h6, hp ▸ h7⟩
/-- a text that was made proves just what the password proves -/
theorem Up.ans_make (us : List U) (n p : ByteArray) : Up.ans us (Pp.make n p).data.toList = if Us.proves us n p = true then some n.data.toList else none := by
  by_cases h : Nm.nameOk n.data.toList = true ∧ Nm.nameOk p.data.toList = true
  · have hp := Pp.parse_make h.1 h.2
    cases hv : Us.proves us n p
    · rw [Up.ans_no hp (by rw [Ct.mk_self, Ct.mk_self]; exact hv)]; rfl
    · rw [Up.ans_yes hp (by rw [Ct.mk_self, Ct.mk_self]; exact hv)]; rfl
  · rw [Pp.make_bad h, Up.ans_none (by exact Pp.parse_nil)]
    cases hv : Us.proves us n p
    · rfl
    · obtain ⟨u, _, _, _, _, _, h1, h2⟩ := Us.proves_inv hv
      exact absurd ⟨h1, h2⟩ h
/-- a text that proves is the text of the user and the password -/
theorem Up.ans_text {us : List U} {t n : List UInt8} (h : Up.ans us t = some n) : ∃ u, Us.ans us (Ct.mk n) = some u ∧ u.name = Ct.mk n ∧ Pp.make u.name u.pass = Ct.mk t := by
  cases hp : Pp.parse t with
  | none => rw [Up.ans_none hp] at h; cases h
  | some np =>
    obtain ⟨n', p⟩ := np
    cases hv : Us.proves us (Ct.mk n') (Ct.mk p)
    · rw [Up.ans_no hp hv] at h; cases h
    · rw [Up.ans_yes hp hv] at h
      injection h with h
      subst h
      obtain ⟨u, h1, _, h3, h4, _, h6, h7⟩ := Us.proves_inv hv
      refine ⟨u, h1, h3, ?_⟩
      unfold Pp.parse at hp
      cases hd : B6.decode t with
      | none => rw [hd] at hp; cases hp
      | some s =>
        rw [hd] at hp
        obtain ⟨e1, _, _⟩ := Pp.parts_inv hp
        obtain ⟨e2, _⟩ := B6.decode_some hd
        rw [h3, h4]
        unfold Pp.make
        rw [if_pos ⟨h6, h7⟩]
        show (⟨(B6.enc (0 :: (n' ++ 0 :: p))).toArray⟩ : ByteArray) = Ct.mk t
        rw [← e1, e2]
        rfl
end Go.Proofs.YtnbggmmghopphaaGreatDoor
