/- Draws of names and texts. -/
import Derived.Test.YtjoohmokjliecaaRdr
import Derived.Test.YtjoohmokjliecaaNm
namespace Go.Proofs.Ytjoohmokjliecaa
set_option linter.unusedVariables false
open Go.RowKit

theorem Rd.base {w w' : World} {B b m B' : Nat} (h : Rd w B b m) (k : Below B' w w') (hb : b < B') : Rd w' B b m :=
  h.keep (k.block b hb) (fun i hi => k.block i (by have := h.1; omega))
theorem grown_base {b : Nat} {w w1 w2 : World} (h : w.grownBy w1 (some b)) (k : Below w.heap.size w1 w2) : w.grownBy w2 (some b) :=
  ⟨k.os.trans h.os, k.tape.trans h.tape, k.output.trans h.output, Nat.le_trans h.size k.size, fun i hi hne => (k.block i hi).trans (h.block i hi hne)⟩
/-- what drawing a string gives: a short one -/
def Dr.Str (n c : Nat) (w : World) (B b m : Nat) (e : Ending) (w' : World) : Prop :=
  ∃ s : ByteArray, s.size ≤ n ∧ e = .returned (.string s) ∧ Rd w' B b (m + c) ∧ w.grownBy w' (some b)
set_option maxHeartbeats 800000 in
theorem Dr.l91Name_any (w : World) (B b m : Nat) (hm : m ≤ 999999000) (h : Rd w B b m) :
    Calls Try.prog 60 #[.pointer (some ⟨b, 0, none⟩)] w (Dr.Str 9 2 w B b m) := by
  go_enter Try.func60, Try.ntmps60
  go_wp2_with fail
  refine (pick_any _ (by omega) _ B b m (by omega) h).mono ?_
  rintro e w1 ⟨r, hr, rfl, h1, hg1⟩
  by_cases h0 : r = 0
  · subst h0
    go_wp2_with fail
    refine Calls.mono (of_any (fun s => decide (s.size ≤ 9) = true) 7 _ (by omega) _ _ _ _ (by omega) (by have := h1.lt; omega) (h1.laid _) (laid_of (fun s => decide (s.size ≤ 9)) _ _ _ 7 rfl (by decide))) ?_
    rintro e w3 ⟨s, hs, rfl, h3, hg3⟩
    go_wp2_with fail
    go_ret
    exact ⟨s, by simpa using hs, rfl, h3, grown_trans (grown_laid hg1 _) hg3⟩
  · have h0' : ((r : Int) == 0) = false := by simp; omega
    go_wp2_with fail
    refine Calls.mono (of_any (fun s => decide (s.size ≤ 9) = true) 6 _ (by omega) _ _ _ _ (by omega) (by have := h1.lt; omega) (h1.laid _) (laid_of (fun s => decide (s.size ≤ 9)) _ _ _ 6 rfl (by decide))) ?_
    rintro e w3 ⟨s, hs, rfl, h3, hg3⟩
    go_wp2_with fail
    go_ret
    exact ⟨s, by simpa using hs, rfl, h3, grown_trans (grown_laid hg1 _) hg3⟩

end Go.Proofs.Ytjoohmokjliecaa
