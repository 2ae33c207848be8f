/- The draw of receivers. -/
import Derived.Test.YtpjifcljkgcnlaaGreatDoorStX
namespace Go.Proofs.YtpjifcljkgcnlaaGreatDoor
set_option linter.unusedVariables false
open Go.RowKit

abbrev St.four : Obj := .cells #[.string ⟨#[97, 109, 121]⟩, .string ⟨#[98, 111, 98]⟩, .string ⟨#[99, 121, 100]⟩, .string ⟨#[100, 97, 110]⟩] 9
theorem St.four_at {w : World} {g : Nat} (h : w.heap[g]? = some St.four) {k : Nat} (hk : k < 4) : ∃ s : ByteArray, s.size ≤ 9 ∧ w.cell? ⟨g, k, none⟩ = some (.string s) := by
  have hc : k = 0 ∨ k = 1 ∨ k = 2 ∨ k = 3 := by omega
  rcases hc with rfl | rfl | rfl | rfl
  · exact ⟨_, by decide, cell_at h 0 _ rfl⟩
  · exact ⟨_, by decide, cell_at h 1 _ rfl⟩
  · exact ⟨_, by decide, cell_at h 2 _ rfl⟩
  · exact ⟨_, by decide, cell_at h 3 _ rfl⟩
/-- the names' block lies apart from the slice -/
def St.Apart (w : World) (g : Nat) (v : Value) : Prop := w.heap[g]? = some St.four ∧ g < w.heap.size ∧ v.ownBlock ≠ some g
theorem St.Apart.grown {w w' : World} {g b : Nat} {v : Value} (h : St.Apart w g v) (hg : w.grownBy w' (some b)) (hb : b < g) : St.Apart w' g v :=
  ⟨(hg.block g h.2.1 (by intro e; injection e with e; omega)).trans h.1, Nat.lt_of_lt_of_le h.2.1 hg.size, h.2.2⟩
theorem St.Apart.snoc {w w' : World} {g : Nat} {v v' : Value} {o : Obj} (h : St.Apart w g v) (hg : (w.alloc o).grownBy w' v.ownBlock) (hv : v'.ownBlock = v.ownBlock ∨ v'.ownBlock = some (w.heap.size + 1)) : St.Apart w' g v' := by
  refine ⟨(hg.block g (by have := h.2.1; simp; omega) (fun e => h.2.2 e.symm)).trans ((Below.heap_alloc w o g h.2.1).trans h.1), Nat.lt_of_lt_of_le h.2.1 (Nat.le_trans (by simp) hg.size), ?_⟩
  rcases hv with e | e
  · rw [e]; exact h.2.2
  · rw [e]; intro e2; injection e2 with e2; have := h.2.1; omega

end Go.Proofs.YtpjifcljkgcnlaaGreatDoor
