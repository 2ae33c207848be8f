/- markSubmission, markLetter, heldLetter of the laws. -/
import Derived.Test.YtjoohmokjliecaaStMk
namespace Go.Proofs.Ytjoohmokjliecaa
set_option linter.unusedVariables false
open Go.RowKit

set_option maxHeartbeats 800000 in
theorem markSubmission_any (st : Int) (f t : ByteArray) (A : Option Addr) (us : List ByteArray) (c B q : Nat) (w : World) (h : St.Own w B (.slice A us.length c) us) (hq : 0 < q) (hn : q + us.length ≤ 100000000) :
    Calls Try.prog 17 #[.agg #[.int .i64 st, .string f, .slice A us.length c, .string t], .int .i64 (q : Int)] w (St.Mkd us q (.slice A us.length c) B w) := by
  go_enter Try.func17, Try.ntmps17
  go_wp2_with fail
  refine (markStringS_any A us c B q _ (OwnL.alloc h _) hq hn).mono ?_
  rintro e w1 ⟨rfl, ho, hg⟩
  go_wp2_with fail
  go_ret
  exact ⟨rfl, ho, (World.grownBy_alloc _ _ _).trans hg⟩
set_option maxHeartbeats 800000 in
theorem markLetter_any (f t : ByteArray) (A : Option Addr) (us : List ByteArray) (c B q : Nat) (w : World) (h : St.Own w B (.slice A us.length c) us) (hq : 0 < q) (hn : q + us.length ≤ 100000000) :
    Calls Try.prog 18 #[.agg #[.string f, .slice A us.length c, .string t], .int .i64 (q : Int)] w (St.Mkd us q (.slice A us.length c) B w) := by
  go_enter Try.func18, Try.ntmps18
  go_wp2_with fail
  refine (markStringS_any A us c B q _ (OwnL.alloc h _) hq hn).mono ?_
  rintro e w1 ⟨rfl, ho, hg⟩
  go_wp2_with fail
  go_ret
  exact ⟨rfl, ho, (World.grownBy_alloc _ _ _).trans hg⟩
set_option maxHeartbeats 800000 in
theorem heldLetter_any (f t : ByteArray) (A : Option Addr) (n c q : Nat) (w : World) (h : AtStrs w w.heap.size A (St.marks q n)) (hq : 0 < q) (hn : q + n ≤ 100000000) :
    Calls Try.prog 19 #[.agg #[.string f, .slice A n c, .string t], .int .i64 (q : Int)] w fun e w' => e = .returned (.int .i64 ((q + n : Nat) : Int)) ∧ Below w.heap.size w w' := by
  have hb : Below w.heap.size w (w.alloc (.cells #[.string f, .slice A n c, .string t] 27)) := (Below.refl _ _).alloc (Nat.le_refl _) _
  have HC := Lib.hid (heldStringS_any A n c q _ ((h.below hb).mono hb.size) hq hn)
  have hnn : ¬ ((q + n : Nat) : Int) < 0 := by omega
  generalize ((q + n : Nat) : Int) = r at HC hnn ⊢
  go_enter Try.func19, Try.ntmps19
  go_wp2_with fail
  have H1 := HC.out
  refine Calls.mono H1 ?_
  rintro e w1 ⟨rfl, hb1⟩
  go_wp2_with fail
  go_ret
  exact ⟨rfl, unbox hb1⟩

end Go.Proofs.Ytjoohmokjliecaa
