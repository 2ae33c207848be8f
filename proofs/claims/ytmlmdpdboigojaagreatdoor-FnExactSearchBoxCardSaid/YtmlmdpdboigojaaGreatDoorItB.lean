/- Slices of numbers. -/
import Derived.Test.YtmlmdpdboigojaaGreatDoorProg
import Derived.Test.YtmlmdpdboigojaaGreatDoorKt
namespace Go.Proofs.YtmlmdpdboigojaaGreatDoor
set_option linter.unusedVariables false
open Go.RowKit

def It.cells (n : Int) : List Value := [.int .i64 n]
theorem It.cells_len (n : Int) : (It.cells n).length = 1 := rfl
theorem It.one1 (n : Int) : ∀ v ∈ It.cells n, v.oneCell' = true := by intro v hv; simp [It.cells] at hv; subst hv; rfl
theorem int_info : (Tryz.prog.info? 3).map (fun i => (i.zero, i.size, i.bytes)) = some (some (.int .i64 0), 1, 8) := by kernel_rfl
theorem At.ints {w : World} {B : Nat} {A : Option Addr} {ns : List Int} (h : At w B 1 It.cells A ns) (hl : 0 < ns.length) : ∃ g off, A = some ⟨g, off, none⟩ ∧ g < B ∧ ∀ i n, ns[i]? = some n → w.cell? ⟨g, off + i, none⟩ = some (.int .i64 n) := by
  obtain ⟨g, off, ha, hg, hc⟩ := h hl
  refine ⟨g, off, ha, hg, fun i n hn => ?_⟩
  have := hc i n hn 0 (.int .i64 n) rfl
  simpa using this
def It.Own (w : World) (B : Nat) (v : Value) (us : List Int) : Prop := OwnL 3 1 It.cells w B v us
end Go.Proofs.YtmlmdpdboigojaaGreatDoor
