/- UsersPlain of the specification. -/
import Derived.Test.YtpjifcljkgcnlaaGreatDoorB6Y
import Derived.Test.YtpjifcljkgcnlaaGreatDoorUsA
namespace Go.Proofs.YtpjifcljkgcnlaaGreatDoor
set_option linter.unusedVariables false
open Go.RowKit
open Us (U)

def Up.ans (us : List U) (t : List UInt8) : Option (List UInt8) := match Pp.parse t with
  | some (n, p) => if Us.proves us (Ct.mk n) (Ct.mk p) = true then some n else none
  | none => none
def Up.val : Option (List UInt8) → Value
  | some n => .tuple #[.string (Ct.mk n), .bool true]
  | none => .tuple #[.string ⟨#[]⟩, .bool false]
theorem Up.ans_none {us : List U} {t : List UInt8} (h : Pp.parse t = none) : Up.ans us t = none := by unfold Up.ans; rw [h]
theorem Up.ans_no {us : List U} {t n p : List UInt8} (h : Pp.parse t = some (n, p)) (h2 : Us.proves us (Ct.mk n) (Ct.mk p) = false) : Up.ans us t = none := by unfold Up.ans; rw [h]; simp [h2]
theorem Up.ans_yes {us : List U} {t n p : List UInt8} (h : Pp.parse t = some (n, p)) (h2 : Us.proves us (Ct.mk n) (Ct.mk p) = true) : Up.ans us t = some n := by unfold Up.ans; rw [h]; simp [h2]

set_option maxRecDepth 100000 in
set_option maxHeartbeats 1600000 in
theorem sUsersPlain_any (A : Option Addr) (us : List U) (c : Nat) (t : ByteArray) (w : World) (h : AtUsers w w.heap.size A us) (hn : us.length ≤ maxLen) :
    Calls Tryz.prog 50 #[.slice A us.length c, .string t] w fun e w' => e = .returned (Up.val (Up.ans us t.data.toList)) ∧ Below w.heap.size w w' := by
  go_enter Tryz.func50, Tryz.ntmps50
  go_wp2_with fail
  refine (sPlainParse_any t _).mono ?_
  rintro e w1 ⟨rfl, hb1⟩
  cases hp : Pp.parse t.data.toList with
  | none =>
    have HN := Lib.hid (Up.ans_none (us := us) hp)
    clear hp
    unfold Pp.val
    go_wp2_with fail
    go_ret2
    rw [HN.out]
    exact ⟨rfl, hb1⟩
  | some np =>
    obtain ⟨n, p⟩ := np
    have HP := Lib.hid hp
    clear hp
    unfold Pp.val
    dsimp only
    obtain ⟨x, HX⟩ : ∃ x : ByteArray, Hid (x = Ct.mk n) := ⟨_, Lib.hid rfl⟩
    obtain ⟨y, HY⟩ : ∃ y : ByteArray, Hid (y = Ct.mk p) := ⟨_, Lib.hid rfl⟩
    rw [← HX.out, ← HY.out]
    cases hv : Us.proves us x y
    · have HN := Lib.hid (Up.ans_no (us := us) HP.out (by rw [← HX.out, ← HY.out]; exact hv))
      have HV := Lib.hid hv
      clear hv
      go_wp2_with fail
      refine (sUsersProve_any A us c x y _ ((h.below hb1).mono hb1.size) hn).mono ?_
      rintro e w2 ⟨rfl, hb2⟩
      rw [HV.out]
      go_wp2_with fail
      go_ret2
      rw [HN.out]
      exact ⟨rfl, hb1.trans (hb2.mono hb1.size)⟩
    · have HN := Lib.hid (Up.ans_yes (us := us) HP.out (by rw [← HX.out, ← HY.out]; exact hv))
      have HV := Lib.hid hv
      clear hv
      go_wp2_with fail
      refine (sUsersProve_any A us c x y _ ((h.below hb1).mono hb1.size) hn).mono ?_
      rintro e w2 ⟨rfl, hb2⟩
      rw [HV.out]
      go_wp2_with fail
      go_ret2
      rw [HN.out]
      unfold Up.val
      dsimp only
      rw [← HX.out]
      exact ⟨rfl, hb1.trans (hb2.mono hb1.size)⟩
end Go.Proofs.YtpjifcljkgcnlaaGreatDoor
