/- FnExactAclRights: the walk. -/
import Derived.Test.YtpolpopkiegjkaaAcSp
namespace Go.Proofs.Ytpolpopkiegjkaa
set_option linter.unusedVariables false
open Go.RowKit
open Ac (G)

set_option maxHeartbeats 1600000 in
theorem walkFnExactAclRights (A : Option Addr) (us : List G) (c : Nat) (o n : ByteArray) (w : World) (h : AtGrants w w.heap.size A us) (hn : us.length ≤ maxLen) (ho : o.size ≤ maxLen) (hnn : n.size ≤ maxLen) :
    Calls Try.prog 6 #[.slice A us.length c, .string o, .string n] w fun e w' => e = .returned (.bool true) ∧ Below w.heap.size w w' := by
  have hol := ho
  have hnl := hnn
  unfold maxLen at hol hnl
  by_cases hb1 : 1048576 < o.size
  · go_enter Try.func6, Try.ntmps6
    go_wp2_with fail
    go_ret
    exact ⟨rfl, Below.refl _ _⟩
  by_cases hb2 : 1048576 < n.size
  · go_enter Try.func6, Try.ntmps6
    go_wp2_with fail
    go_ret
    exact ⟨rfl, Below.refl _ _⟩
  go_enter Try.func6, Try.ntmps6
  go_wp2_with fail
  refine (szGrantS_any A us c _ _ h hn (by omega) (by omega)).mono ?_
  rintro e w1 ⟨r, rfl, hm, hle, hq, hb1⟩
  have HQ := Lib.hid hq
  clear hq
  by_cases hneg : r < 0
  · go_wp2_with fail
    go_ret
    exact ⟨rfl, hb1⟩
  · have hlen := (HQ.out (by omega)).1
    have h1 := (h.below hb1).mono hb1.size
    go_wp2_with fail
    refine (toGrantS_any A us c _ h1 hlen).mono ?_
    rintro e w2 ⟨A2, c2, rfl, hc2, hc2', h2, hb2⟩
    go_wp2_with fail
    refine (sAclRights_any A2 us c2 o n _ h2 hn ho hnn).mono ?_
    rintro e w3 ⟨rfl, hb3⟩
    have h3 := ((h1.below hb2).mono hb2.size).below hb3 |>.mono hb3.size
    go_wp2_with fail
    refine (toGrantS_any A us c _ h3 hlen).mono ?_
    rintro e w4 ⟨A4, c4, rfl, hc4, hc4', h4, hb4⟩
    go_wp2_with fail
    refine (iAclRights_any A4 us c4 o n _ h4 hn ho hnn).mono ?_
    rintro e w5 ⟨rfl, hb5⟩
    have h5 := (((h3.below hb4).mono hb4.size).below hb5).mono hb5.size
    have h45 := (h4.below hb5).mono hb5.size
    go_wp2_with fail
    refine (toGrantS_any A us c _ h5 hlen).mono ?_
    rintro e w6 ⟨A6, c6, rfl, hc6, hc6', h6, hb6⟩
    have h46 := (h45.below hb6).mono hb6.size
    go_wp2_with fail
    refine (eqGrantS_any A4 A6 us c4 c6 _ h46 h6 hn).mono ?_
    rintro e w7 ⟨rfl, hb7⟩
    go_wp2_with fail
    go_ret
    exact ⟨rfl, hb1.trans ((hb2.trans ((hb3.trans ((hb4.trans ((hb5.trans ((hb6.trans (hb7.mono hb6.size)).mono hb5.size)).mono hb4.size)).mono hb3.size)).mono hb2.size)).mono hb1.size)⟩

end Go.Proofs.Ytpolpopkiegjkaa
