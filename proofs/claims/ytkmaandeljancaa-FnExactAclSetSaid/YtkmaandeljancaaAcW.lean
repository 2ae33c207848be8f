/- Grants: AclValid of the reference. -/
import Derived.Test.YtkmaandeljancaaAcPlain
import Derived.Test.YtkmaandeljancaaNm
import Derived.Deep.DeepCutAuto
import Derived.BigQuiet
namespace Go.Proofs.Ytkmaandeljancaa
set_option linter.unusedVariables false
open Go.RowKit
open Ac (G)

/-- a slice of grants that reads as a list, below block B -/
def AtGrants (w : World) (B : Nat) (A : Option Addr) (us : List G) : Prop :=
  (0 < us.length → ∃ g off, A = some ⟨g, off, none⟩ ∧ g < B ∧ ∀ i u, us[i]? = some u →
    w.cell? ⟨g, off + i * 2, none⟩ = some (.string u.user) ∧ w.cell? ⟨g, off + i * 2 + 1, none⟩ = some (.int .i64 u.rights)) ∧
  ∀ u ∈ us, u.user.size ≤ maxLen
section
variable {w w' : World} {B : Nat} {A : Option Addr} {us : List G}
theorem AtGrants.keep (h : AtGrants w B A us) (hB : ∀ i, i < B → w'.heap[i]? = w.heap[i]?) : AtGrants w' B A us := by
  refine ⟨fun hl => ?_, h.2⟩
  obtain ⟨g, off, ha, hlt, hc⟩ := h.1 hl
  refine ⟨g, off, ha, hlt, fun i u hu => ?_⟩
  obtain ⟨h1, h2⟩ := hc i u hu
  exact ⟨by rw [World.cell?_of_block (hB g hlt)]; exact h1, by rw [World.cell?_of_block (hB g hlt)]; exact h2⟩
theorem AtGrants.below (h : AtGrants w B A us) (k : Below B w w') : AtGrants w' B A us := h.keep k.block
theorem AtGrants.mono (h : AtGrants w B A us) {B' : Nat} (hB : B ≤ B') : AtGrants w B' A us := by
  refine ⟨fun hl => ?_, h.2⟩
  obtain ⟨g, off, ha, hlt, hc⟩ := h.1 hl
  exact ⟨g, off, ha, by omega, hc⟩
end

theorem AcW.sName_q (s : ByteArray) (w : World) (hs : s.size ≤ maxLen) :
    Calls Try.prog 14 #[.string s] w fun e w' => e = .returned (.bool (Nm.nameOk s.data.toList)) ∧ w' = w :=
  (sNameValid_any s w hs).mono fun _ _ h => ⟨h.1, h.2.symm⟩
theorem AcW.l6In_q (n lo hi : Int) (w : World) :
    Calls Try.prog 32 #[.int .i64 n, .int .i64 lo, .int .i64 hi] w fun e w' => e = .returned (.bool (inB n lo hi)) ∧ w' = w :=
  (l6In_any n lo hi w).mono fun _ _ h => ⟨h.1, h.2.symm⟩
open AcW (sName_q l6In_q)

set_option maxRecDepth 100000 in
set_option maxHeartbeats 1600000 in
theorem sAclValid_any (A : Option Addr) (us : List G) (c : Nat) (w : World) (h : AtGrants w w.heap.size A us) (hn : us.length ≤ maxLen) :
    Calls Try.prog 13 #[.slice A us.length c] w fun e w' => e = .returned (.bool (Ac.aclOk us)) ∧ Below w.heap.size w w' := by
  unfold maxLen at hn
  go_enter Try.func13, Try.ntmps13
  go_wp2_with fail
  go_loopg [3] us.length (fun g i wr => ∃ k : Nat, k ≤ us.length ∧ Hid (g = us.length - k) ∧ i = .int .i64 k ∧ Hid (Ac.okTo us k = true) ∧ Below w.heap.size w wr)
  case atStart => exact ⟨0, Nat.zero_le _, Lib.hid rfl, rfl, Lib.hid rfl, Below.refl _ _⟩
  case round =>
    obtain ⟨k, hk, HG, rfl, HO, hb⟩ := hrel
    by_cases hlt : k < us.length
    · obtain ⟨g, off, rfl, hg, hc⟩ := (h.below hb).1 (by omega)
      obtain ⟨u, hu⟩ : ∃ u, us[k]? = some u := ⟨_, List.getElem?_eq_getElem hlt⟩
      obtain ⟨c1, c2⟩ := hc k u hu
      have z1 := h.2 u (List.mem_of_getElem? hu)
      have HU := Lib.hid hu
      have HC := Lib.hid hc
      clear hu hc
      obtain ⟨wo, rfl⟩ : ∃ wo : World, wo = wr := ⟨_, rfl⟩
      cases n1 : Nm.nameOk u.user.data.toList
      · have HF : Hid (Ac.aclOk us = false) := Lib.hid (Ac.aclOk_stop hlt (Ac.itemOk_bad HU.out (Ac.valid_no1 n1)))
        go_upto_region 4 with fail
        go_quiet ((first | (go_at_call 14; exact Calls.quiet_of_same (sName_q _ _ (by assumption))) | (go_at_call 32; exact Calls.quiet_of_same (l6In_q _ _ _ _))))
        go_wp2_with fail
        go_ret
        exact ⟨by rw [HF.out]; rfl, below_drewN hb _⟩
      · cases n4 : inB u.rights 1 63
        · have HF : Hid (Ac.aclOk us = false) := Lib.hid (Ac.aclOk_stop hlt (Ac.itemOk_bad HU.out (Ac.valid_no4 (by have := inB_no.1 n4; omega))))
          go_upto_region 4 with fail
          go_quiet ((first | (go_at_call 14; exact Calls.quiet_of_same (sName_q _ _ (by assumption))) | (go_at_call 32; exact Calls.quiet_of_same (l6In_q _ _ _ _))))
          go_wp2_with fail
          go_ret
          exact ⟨by rw [HF.out]; rfl, below_drewN hb _⟩
        · have HV := Lib.hid (Ac.valid_of n1 (inB_iff.1 n4))
          by_cases hk0 : k = 0
          · subst hk0
            simp only [Nat.zero_mul, Nat.add_zero] at c1 c2
            have HK : Hid (Ac.okTo us (0 + 1) = true) := Lib.hid (by
              rw [Ac.okTo_succ, HO.out]
              unfold Ac.itemOk
              rw [HU.out]; simp [HV.out])
            have hd : decide ((0 : Int) < (0 : Int)) = false := by decide
            go_upto_region 4 with fail
            go_quiet ((first | (go_at_call 14; exact Calls.quiet_of_same (sName_q _ _ (by assumption))) | (go_at_call 32; exact Calls.quiet_of_same (l6In_q _ _ _ _))))
            go_wp2_with fail
            go_roundg (us.length - (0 + 1))
            case measure => have := HG.out; omega
            case rel => exact ⟨0 + 1, by omega, Lib.hid rfl, by go_num, HK, below_drewN hb _⟩
          · have hk1 : 0 < k := by omega
            obtain ⟨j, hj⟩ : ∃ j, j + 1 = k := ⟨k - 1, by omega⟩
            have hjl : j < us.length := by omega
            have hjw : IntKind.i64.wrap ((k : Int) - 1) = (j : Int) := by rw [IntKind.wrap_i64]; omega
            obtain ⟨pv, hpv⟩ : ∃ pv, us[j]? = some pv := ⟨_, List.getElem?_eq_getElem (by omega)⟩
            obtain ⟨e1, _⟩ := HC.out j pv hpv
            have HE : Hid (Ac.itemOk us k = slt pv.user u.user) := Lib.hid (by
              unfold Ac.itemOk
              rw [HU.out, show k - 1 = j from by omega, hpv]
              have : (k == 0) = false := by simp; omega
              simp [HV.out, this])
            clear hpv hj
            cases n5 : Op.bytesLess pv.user.toList u.user.toList
            · have HF : Hid (Ac.aclOk us = false) := Lib.hid (Ac.aclOk_stop hlt (by rw [HE.out]; exact n5))
              go_upto_region 4 with fail
              go_quiet ((first | (go_at_call 14; exact Calls.quiet_of_same (sName_q _ _ (by assumption))) | (go_at_call 32; exact Calls.quiet_of_same (l6In_q _ _ _ _))))
              go_wp2_with fail
              go_ret
              exact ⟨by rw [HF.out]; rfl, below_drewN hb _⟩
            · have HK : Hid (Ac.okTo us (k + 1) = true) := Lib.hid (by rw [Ac.okTo_succ, HO.out, HE.out]; exact n5)
              go_upto_region 4 with fail
              go_quiet ((first | (go_at_call 14; exact Calls.quiet_of_same (sName_q _ _ (by assumption))) | (go_at_call 32; exact Calls.quiet_of_same (l6In_q _ _ _ _))))
              go_wp2_with fail
              go_roundg (us.length - (k + 1))
              case measure => have := HG.out; omega
              case rel => exact ⟨k + 1, by omega, Lib.hid rfl, by go_num, HK, below_drewN hb _⟩
    · obtain rfl : k = us.length := by omega
      have HF : Hid (Ac.aclOk us = decide (us.length ≤ 4)) := Lib.hid (Ac.aclOk_all HO.out)
      go_wp2_with fail
      go_ret
      exact ⟨by rw [HF.out]; simp; omega, hb⟩

end Go.Proofs.Ytkmaandeljancaa
