/- Small facts on slices of names. -/
import Derived.Test.YtpjifcljkgcnlaaGreatDoorStX
namespace Go.Proofs.YtpjifcljkgcnlaaGreatDoor
set_option linter.unusedVariables false
open Go.RowKit

theorem Sx.at_of {w : World} {B : Nat} {A : Option Addr} {us : List ByteArray} (h : AtStrs w B A us) : At w B 1 St.cells A us := fun hl => by
  obtain ⟨g, off, ha, hlt, hc⟩ := h.1 hl
  refine ⟨g, off, ha, hlt, fun i u hu j v hv => ?_⟩
  match j, hv with
  | 0, hv => simp [St.cells] at hv; subst hv; simpa using hc i u hu
  | j + 1, hv => simp [St.cells] at hv
theorem Sx.cells_one (us : List ByteArray) : ∀ v ∈ us.flatMap St.cells, v.oneCell' = true := by
  intro v hv
  obtain ⟨u, _, hu⟩ := List.mem_flatMap.1 hv
  exact St.cells_one1 u v hu
theorem Sx.below_drew {B : Nat} {a w : World} (h : Below B a w) : Below B a w.drew := ⟨h.os, h.tape, h.output, h.size, h.block⟩
theorem Sx.one_one (x : ByteArray) : ∀ v ∈ ([.string x] : List Value), v.oneCell' = true := by
  intro v hv; simp at hv; subst hv; rfl
theorem Sx.reads_one (w : World) (x : ByteArray) : Reads (w.alloc (.cells #[.string x] 9)) (w.heap.size + 1) 1 (some ⟨w.heap.size, 0, none⟩) 1 [.string x] := by
  have := reads_of_at (by omega) St.cells_len (at_lit (us := [x]) (B := w.heap.size + 1) (f := St.cells) St.cells_len (heap_alloc_new w (.cells #[.string x] 9)) (by simp [St.cells]) (by omega))
  simpa [St.cells] using this
theorem Sx.reads_blk {w : World} {g : Nat} {x : ByteArray} (h : w.heap[g]? = some (.cells #[.string x] 9 (0, 0))) : Reads w (g + 1) 1 (some ⟨g, 0, none⟩) 1 [.string x] := by
  have := reads_of_at (by omega) St.cells_len (at_lit (us := [x]) (B := g + 1) (f := St.cells) St.cells_len h (by simp [St.cells]) (by omega))
  simpa [St.cells] using this
theorem Sx.below_two {n : Nat} {e : TypeId} {size : Nat} {v : Value} {xs : List Value} {w wa wb : World} {o : Obj} (h : Below w.heap.size w wa) (hown : wa.ownsRow w.heap.size e size v n xs) (hg : (wa.alloc o).grownBy wb v.ownBlock) : Below w.heap.size w wb :=
  (h.alloc h.size o).grown hg (Nat.le_trans h.size (by simp)) (fun q hq => (hown.lt q hq).1)
end Go.Proofs.YtpjifcljkgcnlaaGreatDoor
