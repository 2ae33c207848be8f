/- Letters that come in as plain data: sizes, copies, comparison. -/
import Derived.Test.YtpjifcljkgcnlaaGreatDoorStX
namespace Go.Proofs.YtpjifcljkgcnlaaGreatDoor
set_option linter.unusedVariables false
open Go.RowKit


set_option maxHeartbeats 1600000 in
theorem eqLetter_any (f t : ByteArray) (A A' : Option Addr) (us : List ByteArray) (c c' : Nat) (w : World) (h : AtStrs w w.heap.size A us) (h' : AtStrs w w.heap.size A' us) (hn : us.length ≤ maxLen) :
    Calls Tryz.prog 30 #[.agg #[.string f, .slice A us.length c, .string t], .agg #[.string f, .slice A' us.length c', .string t]] w fun e w' => e = .returned (.bool true) ∧ Below w.heap.size w w' := by
  go_enter Tryz.func30, Tryz.ntmps30
  go_wp2_with fail
  refine (eqStringS_any A A' us c c' _ ((h.below (by go_grown)).mono (by simp; omega)) ((h'.below (by go_grown)).mono (by simp; omega)) hn).mono ?_
  rintro e w1 ⟨rfl, hb1⟩
  have hB := Below.trans (B := w.heap.size) (a := w) (by go_grown) (hb1.mono (by simp; omega))
  have hbx2 : w1.heap[w.heap.size + 1]? = some (.cells #[.string f, .slice A' us.length c', .string t] 49 (0, 0)) := (hb1.block _ (by simp)).trans (by simpa using heap_alloc_new (w.alloc _) (.cells #[.string f, .slice A' us.length c', .string t] 49 (0, 0)))
  have hbx1 : w1.heap[w.heap.size]? = some (.cells #[.string f, .slice A us.length c, .string t] 49 (0, 0)) := (hb1.block _ (by simp; omega)).trans ((((Below.refl _ (w.alloc (.cells #[.string f, .slice A us.length c, .string t] 49 (0, 0)))).alloc (Nat.le_refl _) _).block _ (by simp)).trans (heap_alloc_new w _))
  have d1 : w1.cell? ⟨w.heap.size, 2, none⟩ = some (.string t) := cell_at hbx1 2 _ rfl
  have d2 : w1.cell? ⟨w.heap.size + 1, 2, none⟩ = some (.string t) := cell_at hbx2 2 _ rfl
  clear hbx1 hbx2
  go_wp2_with fail
  go_ret
  exact ⟨rfl, hB⟩


end Go.Proofs.YtpjifcljkgcnlaaGreatDoor
