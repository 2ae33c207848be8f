/- Slices of the call's own in blocks of different types are apart. -/
import Derived.Test.YtmlmdpdboigojaaGreatDoorProg
import Derived.Test.YtmlmdpdboigojaaGreatDoorKt
import Derived.Test.YtmlmdpdboigojaaGreatDoorRx
namespace Go.Proofs.YtmlmdpdboigojaaGreatDoor
set_option linter.unusedVariables false
open Go.RowKit
section
variable {α β : Type} {E E2 : TypeId} {n n2 : Nat} {f : α → List Value} {f2 : β → List Value} {w w' : World} {B B2 : Nat} {v v2 : Value} {us : List α} {us2 : List β}
theorem ow_grown_set (w : World) (p : Addr) (v : Value) : w.grownBy (w.setCell p v) (some p.block) :=
  ⟨rfl, rfl, rfl, by simp, fun i hi hne => Below.heap_setCell _ _ _ _ (fun e => hne (by rw [e]))⟩
theorem ow_typed (h : OwnL E n f w B v us) {q : Nat} (hq : v.ownBlock = some q) : ∃ cur, w.heap[q]? = some (.cells cur E (0, 0)) := by
  rcases h.2 with ⟨rfl, _⟩ | ⟨g, cap, cur, rfl, _, hx, _⟩
  · simp [Value.ownBlock] at hq
  · simp only [Value.ownBlock, Option.some.injEq] at hq
    subst hq
    exact ⟨cur, hx⟩
theorem ow_not (h : OwnL E n f w B v us) (hE : E ≠ E2) {q : Nat} {cs : Array Value} (hx : w.heap[q]? = some (.cells cs E2 (0, 0))) : v.ownBlock ≠ some q := fun hq => by
  obtain ⟨cur, hc⟩ := ow_typed h hq
  rw [hx] at hc
  injection hc with hc; injection hc with _ ht _
  exact hE ht.symm
/-- a row of another type is grown or written -/
theorem ow_keptBy (h2 : OwnL E2 n2 f2 w B2 v2 us2) (h : OwnL E n f w B v us) (hE : E ≠ E2) (hg : w.grownBy w' v.ownBlock) : OwnL E2 n2 f2 w' B2 v2 us2 :=
  World.ownsRow.kept h2 hg (by
    cases hq : v2.ownBlock with
    | none => exact .inl rfl
    | some q =>
      obtain ⟨cur, hc⟩ := ow_typed h2 hq
      exact .inr (fun e => ow_not h hE hc e.symm))
/-- a variable of another type is written -/
theorem ow_setTo (h : OwnL E n f w B v us) {b : Nat} {cs : Array Value} {T : TypeId} (hb : w.heap[b]? = some (.cells cs T (0, 0))) (hE : E ≠ T) (i : Nat) (x : Value) : OwnL E n f (w.setCell ⟨b, i, none⟩ x) B v us :=
  World.ownsRow.kept (row := some b) h (ow_grown_set w ⟨b, i, none⟩ x) (by
    cases hq : v.ownBlock with
    | none => exact .inl rfl
    | some q => exact .inr (fun e => by injection e with e; subst e; exact ow_not h hE hb hq))
/-- a block that lies still while a row of another type turns -/
theorem ow_block (h : OwnL E n f w B v us) {b : Nat} {cs : Array Value} {T : TypeId} (hb : w.heap[b]? = some (.cells cs T (0, 0))) (hE : E ≠ T) (hg : w.grownBy w' v.ownBlock) : w'.heap[b]? = w.heap[b]? :=
  hg.block b (Array.getElem?_eq_some_iff.1 hb).1 (fun e => ow_not h hE hb e.symm)
theorem ow_setHeap {W : World} {b i : Nat} {cs : Array Value} {t : TypeId} {v : Value} (h : W.heap[b]? = some (.cells cs t (0, 0))) : (W.setCell ⟨b, i, none⟩ v).heap[b]? = some (.cells (cs.setIfInBounds i v) t (0, 0)) := by
  simp [World.setCell, Array.getElem?_modify, h]
theorem ow_setOther {W : World} {b b' i : Nat} {v : Value} {o : Obj} (h : W.heap[b']? = some o) (hne : b ≠ b') : (W.setCell ⟨b, i, none⟩ v).heap[b']? = some o := (Below.heap_setCell _ _ _ _ (fun e => hne e.symm)).trans h
theorem ow_set1 {b : Nat} {T : TypeId} {x : Value} (hb : w.heap[b]? = some (.cells #[x] T (0, 0))) (y : Value) : (w.setCell ⟨b, 0, none⟩ y).heap[b]? = some (.cells #[y] T (0, 0)) := by
  simp [World.setCell, Array.getElem?_modify, hb]
end
end Go.Proofs.YtmlmdpdboigojaaGreatDoor
