/- What a law's closing text asks: bytes that came in. -/
import Derived.Test.YtmlmdpdboigojaaGreatDoorRx
import Derived.ProofKit
namespace Go.Proofs.YtmlmdpdboigojaaGreatDoor
set_option linter.unusedVariables false
open Go.RowKit

theorem bytes_nil (w : World) : Bytes w none 0 0 := ⟨Nat.le_refl _, Nat.zero_le _, fun h => absurd h (by omega)⟩
theorem bytes_of {w : World} {x : Addr} {l c : Nat} {zs : List Int} (hl : l ≤ c) (hm : c ≤ maxLen) (hz : zs.length = c)
    (hcell : ∀ i, i < zs.length → w.cell? (x.add i) = some (.int .u8 (zs.getD i 0))) (hwz : ∀ n ∈ zs, (Lit.int .u8 n).wf = true) : Bytes w (some x) l c := by
  refine ⟨hl, hm, fun h0 => ?_⟩
  obtain ⟨b, off, spot⟩ := x
  have hc0 := hcell 0 (by omega)
  have hspot : spot = none := by simpa [Addr.add] using World.cell?_spot hc0
  subst hspot
  have hlt := World.block_lt_of_cell? w _ hc0
  refine ⟨b, off, rfl, by simpa [Addr.add] using hlt, fun j hj => ?_⟩
  have hc := hcell j (by omega)
  have hmem : zs.getD j 0 ∈ zs := by
    rw [List.getD_eq_getElem?_getD, List.getElem?_eq_getElem (by omega : j < zs.length)]
    exact List.getElem_mem _
  have hw := hwz _ hmem
  have hx : 0 ≤ zs.getD j 0 ∧ zs.getD j 0 ≤ 255 := by simpa [Lit.wf, IntKind.min, IntKind.max, IntKind.signed, IntKind.bits] using hw
  refine ⟨(zs.getD j 0).toNat, by omega, ?_⟩
  have e : (((zs.getD j 0).toNat : Nat) : Int) = zs.getD j 0 := by omega
  rw [e]
  by_cases hj0 : j = 0
  · subst hj0; simpa [Addr.add] using hc
  · simpa [Addr.add, hj0] using hc

end Go.Proofs.YtmlmdpdboigojaaGreatDoor
