/- FnExactLetterValid: the argument opened, the walk. -/
import Derived.Test.YtpbaimofffcnaaaLtW
import Derived.Test.YtpbaimofffcnaaaLtEx
import Derived.Deep.Strs
import Derived.Deep.RegionWith
import Derived.Deep.DeepCutAuto
namespace Go.Proofs.Ytpbaimofffcnaaa
set_option linter.unusedVariables false
open Go.RowKit Go.ChangeShapes Go.WideShapes Go.Deep

theorem open_strings {H : Type} {enc : TypeId × Value → H} {w : World} {spare : Nat → Bool} {held : Bool} {fuel : Nat} {v : Value} {x : DataW H × List MemPlace}
    (h : DataW.trod enc Try.prog w 0 spare held fuel 41 [v] = some x) : ∃ (A : Option Addr) (us : List ByteArray) (c : Nat), v = .slice A us.length c ∧ us.length ≤ c ∧ c ≤ maxLen ∧ AtStrs w w.heap.size A us := by
  rcases open_strs Try.underlying41 Try.underlying9 (by kernel_rfl) h with ⟨hcs, _⟩ | ⟨a, l, c, m, Sx, hcs, _, hl, hm, hmm, _, hi⟩
  · simp at hcs
    exact ⟨none, [], 0, hcs, Nat.le_refl _, Nat.zero_le _, fun h0 => absurd h0 (by simp), by simp⟩
  · simp at hcs
    have hml : l ≤ m := by rw [hmm]; split <;> omega
    have hall : ∀ i, i < l → ∃ u : ByteArray, w.cell? (a.add i) = some (.string u) ∧ u.size ≤ maxLen := fun i hil => ⟨Sx i, hi i (by omega)⟩
    obtain ⟨us, hul, hq⟩ := choose_list l hall
    refine ⟨some a, us, c, by rw [hul]; exact hcs, by omega, hm, fun h0 => ?_, fun u hu => ?_⟩
    · obtain ⟨b, off, spot⟩ := a
      have hu0 : us[0]? = some us[0] := List.getElem?_eq_getElem h0
      have hc0 := (hq 0 _ hu0).1
      have hspot : spot = none := by simpa [Addr.add] using World.cell?_spot hc0
      subst hspot
      have hlt := World.block_lt_of_cell? w _ hc0
      refine ⟨b, off, rfl, by simpa [Addr.add] using hlt, fun i u hu => ?_⟩
      have h1 := (hq i u hu).1
      rw [add_none] at h1
      exact h1
    · obtain ⟨i, hil, rfl⟩ := List.getElem_of_mem hu
      exact (hq i _ (List.getElem?_eq_getElem hil)).2

end Go.Proofs.Ytpbaimofffcnaaa
