/- UsersProve of the program and of the reference; the draw. -/
import Derived.Test.YtjoohmokjliecaaUsFind2
import Derived.Test.YtjoohmokjliecaaUsDraw
import Derived.Test.YtjoohmokjliecaaUsPlain2
namespace Go.Proofs.Ytjoohmokjliecaa
set_option linter.unusedVariables false
open Go.RowKit
open Us (U)

def Us.proves (us : List U) (nm ps : ByteArray) : Bool := (Us.ans us nm).isSome && ((Us.ans us nm).getD Us.none).pass.toList == ps.toList
theorem Us.split (us : List U) (nm : ByteArray) : ∃ (u : U) (b : Bool), Hid (Us.answer us nm = .tuple #[.agg #[.string u.name, .string u.pass, .int .i64 u.quota], .bool b]) ∧ Hid (∀ ps, Us.proves us nm ps = (b && u.pass.toList == ps.toList)) :=
  ⟨(Us.ans us nm).getD Us.none, (Us.ans us nm).isSome, Lib.hid rfl, Lib.hid fun ps => rfl⟩

set_option maxHeartbeats 1600000 in
theorem iUsersProve_any (A : Option Addr) (us : List U) (c : Nat) (nm ps : ByteArray) (w : World) (h : AtUsers w w.heap.size A us) (hn : us.length ≤ maxLen) :
    Calls Try.prog 31 #[.slice A us.length c, .string nm, .string ps] w fun e w' => e = .returned (.bool (Us.proves us nm ps)) ∧ Below w.heap.size w w' := by
  obtain ⟨u, b, HE, HP⟩ := Us.split us nm
  go_enter Try.func31, Try.ntmps31
  go_wp2_with fail
  refine Calls.mono (iUsersFind_any A us c nm _ h hn) ?_
  rintro e w1 ⟨rfl, hb1⟩
  rw [HE.out]
  cases b
  · go_wp2_with fail
    go_ret
    exact ⟨by rw [HP.out]; rfl, hb1.alloc hb1.size _⟩
  · go_wp2_with fail
    go_ret
    exact ⟨by rw [HP.out]; rfl, hb1.alloc hb1.size _⟩

set_option maxHeartbeats 1600000 in
theorem sUsersProve_any (A : Option Addr) (us : List U) (c : Nat) (nm ps : ByteArray) (w : World) (h : AtUsers w w.heap.size A us) (hn : us.length ≤ maxLen) :
    Calls Try.prog 32 #[.slice A us.length c, .string nm, .string ps] w fun e w' => e = .returned (.bool (Us.proves us nm ps)) ∧ Below w.heap.size w w' := by
  obtain ⟨u, b, HE, HP⟩ := Us.split us nm
  go_enter Try.func32, Try.ntmps32
  go_wp2_with fail
  refine Calls.mono (sUsersFind_any A us c nm _ h hn) ?_
  rintro e w1 ⟨rfl, hb1⟩
  rw [HE.out]
  cases b
  · go_wp2_with fail
    go_ret
    exact ⟨by rw [HP.out]; rfl, hb1.alloc hb1.size _⟩
  · go_wp2_with fail
    go_ret
    exact ⟨by rw [HP.out]; rfl, hb1.alloc hb1.size _⟩

end Go.Proofs.Ytjoohmokjliecaa
