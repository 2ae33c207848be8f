/- Users: UsersValid of the program. -/
import Derived.Test.YtjoohmokjliecaaUsW
namespace Go.Proofs.Ytjoohmokjliecaa
set_option linter.unusedVariables false
open Go.RowKit
open Us (U)

set_option maxRecDepth 100000 in
set_option maxHeartbeats 1600000 in
theorem iUsersValid_any (A : Option Addr) (us : List U) (c : Nat) (w : World) (h : AtUsers w w.heap.size A us) (hn : us.length ≤ maxLen) :
    Calls Try.prog 74 #[.slice A us.length c] w fun e w' => e = .returned (.bool (Us.usersOk us)) ∧ Below w.heap.size w w' := by
  unfold maxLen at hn
  by_cases hl1 : us.length < 1
  · have HF := Lib.hid (Us.usersOk_size (us := us) (by omega))
    go_enter Try.func74, Try.ntmps74
    go_wp2
    go_ret
    exact ⟨by rw [HF.out]; rfl, Below.refl _ _⟩
  by_cases hl4 : 4 < us.length
  · have HF := Lib.hid (Us.usersOk_size (us := us) (by omega))
    go_enter Try.func74, Try.ntmps74
    go_wp2
    go_ret
    exact ⟨by rw [HF.out]; rfl, Below.refl _ _⟩
  go_enter Try.func74, Try.ntmps74
  go_wp2_with fail
  go_loopg [3, 16] us.length (fun gg bf i wr => ∃ k : Nat, k ≤ us.length ∧ Hid (gg = us.length - k) ∧ i = .int .i64 k ∧ bf = .string (Us.prevName us k) ∧ Hid (Us.okTo us k = true) ∧ Below w.heap.size w wr)
  case atStart => exact ⟨0, Nat.zero_le _, Lib.hid rfl, rfl, rfl, Lib.hid rfl, Below.refl _ _⟩
  case round =>
    obtain ⟨k, hk, HG, rfl, rfl, HO, hb⟩ := hrel
    by_cases hlt : k < us.length
    · obtain ⟨g, off, rfl, hg, hc⟩ := (h.below hb).1 (by omega)
      obtain ⟨u, hu⟩ : ∃ u, us[k]? = some u := ⟨_, List.getElem?_eq_getElem hlt⟩
      obtain ⟨c1, c2, c3⟩ := hc k u hu
      obtain ⟨z1, z2⟩ := h.2 u (List.mem_of_getElem? hu)
      have HU := Lib.hid hu
      clear hu hc
      obtain ⟨wo, rfl⟩ : ∃ wo : World, wo = wr := ⟨_, rfl⟩
      go_wp2_with fail
      refine (userValid_any u _ z1 z2).mono ?_
      rintro e w1 ⟨rfl, hb1⟩
      have hbx := boxed hb1
      have d0 : w1.cell? ⟨wo.heap.size, 0, none⟩ = some (.string u.name) := cell_at hbx 0 _ rfl
      clear hbx c1 c2 c3
      have hB := hb.trans ((unbox hb1).mono hb.size)
      cases hv : Us.valid u
      · have HF : Hid (Us.usersOk us = false) := Lib.hid (Us.usersOk_stop hlt (Us.itemOk_bad HU.out hv))
        go_wp2_with fail
        go_ret
        exact ⟨by rw [HF.out]; rfl, hB⟩
      · have HE := Lib.hid (Us.itemOk_prev HU.out hv)
        have HP := Lib.hid (Us.prevName_succ HU.out)
        have hcmp := sle_eq u.name (Us.prevName us k)
        cases hs : slt (Us.prevName us k) u.name
        · have HF : Hid (Us.usersOk us = false) := Lib.hid (Us.usersOk_stop hlt (by rw [HE.out, hs]))
          rw [hs] at hcmp
          go_wp2_with fail
          go_ret
          exact ⟨by rw [HF.out]; rfl, hB⟩
        · have HK : Hid (Us.okTo us (k + 1) = true) := Lib.hid (by rw [Us.okTo_succ, HO.out, HE.out, hs]; rfl)
          rw [hs] at hcmp
          go_wp2_with fail
          go_roundg (us.length - (k + 1))
          case measure => have := HG.out; omega
          case rel => exact ⟨k + 1, by omega, Lib.hid rfl, by go_num, by rw [HP.out], HK, hB⟩
    · obtain rfl : k = us.length := by omega
      have HF : Hid (Us.usersOk us = true) := Lib.hid (by rw [Us.usersOk_all HO.out]; simp; omega)
      go_wp2_with fail
      go_ret
      exact ⟨by rw [HF.out]; rfl, hb⟩

end Go.Proofs.Ytjoohmokjliecaa
