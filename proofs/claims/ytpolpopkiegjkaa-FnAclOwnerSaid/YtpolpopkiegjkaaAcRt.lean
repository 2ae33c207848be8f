/- AclRights of the program. -/
import Derived.Test.YtpolpopkiegjkaaAcAt
import Derived.Deep.DeepCutAuto
namespace Go.Proofs.Ytpolpopkiegjkaa
set_option linter.unusedVariables false
open Go.RowKit Go.Maps
open Ac (G)

def Ac.anyone : ByteArray := ⟨#[97, 110, 121, 111, 110, 101]⟩
theorem Ac.anyone_size : Ac.anyone.size = 6 := rfl
theorem Ac.anyone_len : Ac.anyone.size ≤ maxLen := by rw [Ac.anyone_size]; unfold maxLen; omega
theorem Ac.anyone_lit : (ByteArray.mk #[97, 110, 121, 111, 110, 101]) = Ac.anyone := rfl
def Ac.rights (us : List G) (o n : ByteArray) : Int :=
  if (Ac.aclOk us && Nm.nameOk o.data.toList && Nm.nameOk n.data.toList) = true then
    if (n.toList == o.toList) = true then 63 else bits .or .i64 (Ac.lastR us n us.length) (Ac.lastR us Ac.anyone us.length)
  else -1

theorem Ac.zeroE (w : World) : (zeroValue 3).run Try.prog w = .ok (.int .i64 0) w := by kernel_rfl

set_option maxRecDepth 100000 in
set_option maxHeartbeats 1600000 in
theorem iAclRights_any (A : Option Addr) (us : List G) (c : Nat) (o n : ByteArray) (w : World) (h : AtGrants w w.heap.size A us) (hn : us.length ≤ maxLen) (ho : o.size ≤ maxLen) (hnn : n.size ≤ maxLen) :
    Calls Try.prog 32 #[.slice A us.length c, .string o, .string n] w fun e w' => e = .returned (.int .i64 (Ac.rights us o n)) ∧ Below w.heap.size w w' := by
  go_enter Try.func32, Try.ntmps32
  go_wp2_with fail
  refine (aclMap_any A us c _ h hn).mono ?_
  rintro e w1 ⟨m, rfl, hb1, hm⟩
  have HM := Lib.hid hm
  clear hm
  cases n0 : Ac.aclOk us
  · have HF : Hid (Ac.rights us o n = -1) := Lib.hid (by unfold Ac.rights; rw [n0]; rfl)
    go_wp2_with fail
    go_ret
    exact ⟨by rw [HF.out]; rfl, hb1⟩
  · go_wp2_with fail
    refine (iNameValid_any _ _ ho).mono ?_
    rintro e w2 ⟨rfl, hb2⟩
    have hB2 := hb1.trans (hb2.mono hb1.size)
    cases n1 : Nm.nameOk o.data.toList
    · have HF : Hid (Ac.rights us o n = -1) := Lib.hid (by unfold Ac.rights; rw [n0, n1]; rfl)
      go_wp2_with fail
      go_ret
      exact ⟨by rw [HF.out]; rfl, hB2⟩
    · go_wp2_with fail
      refine (iNameValid_any _ _ hnn).mono ?_
      rintro e w3 ⟨rfl, hb3⟩
      have hB3 := hB2.trans (hb3.mono hB2.size)
      cases n2 : Nm.nameOk n.data.toList
      · have HF : Hid (Ac.rights us o n = -1) := Lib.hid (by unfold Ac.rights; rw [n0, n1, n2]; rfl)
        go_wp2_with fail
        go_ret
        exact ⟨by rw [HF.out]; rfl, hB3⟩
      · cases n3 : (n.toList == o.toList)
        · have HF : Hid (Ac.rights us o n = bits .or .i64 (Ac.lastR us n us.length) (Ac.lastR us Ac.anyone us.length)) := Lib.hid (by unfold Ac.rights; rw [n0, n1, n2, n3]; rfl)
          obtain ⟨b, rfl, hbs, hmap⟩ := HM.out n0
          have HM3 := Lib.hid (Ac.Map.below (Ac.Map.below hmap hb2) hb3)
          have HA1 := Lib.hid (Ac.mapD_at us n us.length (Nat.le_refl _))
          have HA2 := Lib.hid (Ac.mapD_at us Ac.anyone us.length (Nat.le_refl _))
          have HK1 := Lib.hid (WideMaps.keyOf_string_mk (P := Try.prog) Try.underlying9 hnn)
          have HK2 : Hid (keyOf Try.prog 9 (.string ⟨#[97, 110, 121, 111, 110, 101]⟩) = some (.string Ac.anyone.data.toList)) := Lib.hid (by rw [Ac.anyone_lit]; exact WideMaps.keyOf_string_mk Try.underlying9 Ac.anyone_len)
          clear hmap
          go_wp2_with (first | (at_lookup; refine wpList_lookup_own_int _ rfl _ _ 75 rfl 9 3 .i64 Ac.law Try.underlying75 Try.underlying3 (Ac.zeroE _) b us.length _ rfl HM3.out _ _ rfl HK1.out ?_; intro c1 hat1 hwc1) | (at_lookup; refine wpList_lookup_own_int _ rfl _ _ 75 rfl 9 3 .i64 Ac.law Try.underlying75 Try.underlying3 (Ac.zeroE _) b us.length _ rfl HM3.out _ _ rfl HK2.out ?_; intro c2 hat2 hwc2))
          have e1 : c1 = Ac.lastR us n us.length := by
            have := hat1.symm.trans HA1.out
            injection this with this
            injection this
          have e2 : c2 = Ac.lastR us Ac.anyone us.length := by
            have := hat2.symm.trans HA2.out
            injection this with this
            injection this
          go_ret
          exact ⟨by rw [HF.out, ← e1, ← e2]; rfl, hB3⟩
        · have HF : Hid (Ac.rights us o n = 63) := Lib.hid (by unfold Ac.rights; rw [n0, n1, n2, n3]; rfl)
          go_wp2_with fail
          go_ret
          exact ⟨by rw [HF.out]; rfl, hB3⟩

end Go.Proofs.Ytpolpopkiegjkaa
