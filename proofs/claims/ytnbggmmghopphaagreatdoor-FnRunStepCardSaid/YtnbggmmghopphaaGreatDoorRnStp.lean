/- Facts for the law that goes line by line. -/
import Derived.Test.YtnbggmmghopphaaGreatDoorRnV
import Derived.Test.YtnbggmmghopphaaGreatDoorLwOw
namespace Go.Proofs.YtnbggmmghopphaaGreatDoor
set_option linter.unusedVariables false
open Go.RowKit
open Us (U)
namespace Rn
variable {us : List U} {d : ByteArray}
theorem reps_get {s : Sm.S} {ls : List ByteArray} {k : Nat} {l : ByteArray} (h : ls[k]? = some l) : (reps us d s ls)[k]? = some (Sm.line us d (st us d s (ls.take k)) l).2 := by
  have hk : k < ls.length := (List.getElem?_eq_some_iff.1 h).1
  have e : ls.take (k + 1) = ls.take k ++ [l] := by rw [List.take_add_one, h]; rfl
  rw [reps_part s ls (k + 1), e, reps_snoc, List.append_assoc, List.getElem?_append_right (by rw [reps_len, List.length_take]; omega), reps_len, List.length_take, show k - min k ls.length = 0 by omega]
  rfl
theorem lets_get {s : Sm.S} {ls : List ByteArray} {k : Nat} {l : ByteArray} (h : ls[k]? = some l) {x : V} (hx : step (st us d s (ls.take k)) l = [x]) : (lets us d s ls)[(lets us d s (ls.take k)).length]? = some x := by
  have e : ls.take (k + 1) = ls.take k ++ [l] := by rw [List.take_add_one, h]; rfl
  obtain ⟨r, hr⟩ := lets_part (us := us) (d := d) s ls (k + 1)
  rw [hr, e, lets_snoc, hx, List.append_assoc, List.getElem?_append_right (Nat.le_refl _), Nat.sub_self]
  rfl
theorem Var.store {w : World} {b : Nat} {s : Sm.S} (h : Var w b s) {s2 : Sm.S} {A : Option Addr} {c : Nat} (ht : AtTy 0 w w.heap.size A s2.tos) (h1 : s2.tos.length ≤ c) (h2 : c ≤ maxLen) :
    Var ((((w.setCell ⟨b, 0, none⟩ (.int .i64 s2.st)).setCell ⟨b, 1, none⟩ (.string s2.user)).setCell ⟨b, 2, none⟩ (.slice A s2.tos.length c)).setCell ⟨b, 3, none⟩ (.string s2.text)) b s2 := by
  obtain ⟨A0, c0, hx, _⟩ := h
  exact ⟨A, c, Lw.box4 hx _ _ _ _, ht.set4 hx _ _ _ _, h1, h2⟩
end Rn
end Go.Proofs.YtnbggmmghopphaaGreatDoor
