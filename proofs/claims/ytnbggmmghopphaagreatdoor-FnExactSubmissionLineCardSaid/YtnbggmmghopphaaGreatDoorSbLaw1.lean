/- FnExactSubmissionValid: the argument opened, the walk. -/
import Derived.Test.YtnbggmmghopphaaGreatDoorSbX
import Derived.Test.YtnbggmmghopphaaGreatDoorSbEx
import Derived.Deep.Strs
import Derived.Deep.RegionWith
import Derived.Deep.DeepCutAuto
namespace Go.Proofs.YtnbggmmghopphaaGreatDoor
set_option linter.unusedVariables false
open Go.RowKit Go.ChangeShapes Go.WideShapes Go.Deep

theorem open_strings {H : Type} {enc : TypeId × Value → H} {w : World} {spare : Nat → Bool} {held : Bool} {fuel : Nat} {v : Value} {x : DataW H × List MemPlace}
    (h : DataW.trod enc Tryz.prog w 0 spare held fuel 24 [v] = some x) : ∃ (A : Option Addr) (us : List ByteArray) (c : Nat), v = .slice A us.length c ∧ us.length ≤ c ∧ c ≤ maxLen ∧ AtStrs w w.heap.size A us := by
  rcases open_strs Tryz.underlying24 Tryz.underlying9 (by kernel_rfl) h with ⟨hcs, _⟩ | ⟨a, l, c, m, Sx, hcs, _, hl, hm, hmm, _, hi⟩
  · simp at hcs
    exact ⟨none, [], 0, hcs, Nat.le_refl _, Nat.zero_le _, fun h0 => absurd h0 (by simp), by simp⟩
  · simp at hcs
    have hml : l ≤ m := by rw [hmm]; split <;> omega
    have hall : ∀ i, i < l → ∃ u : ByteArray, w.cell? (a.add i) = some (.string u) ∧ u.size ≤ maxLen := fun i hil => ⟨Sx i, hi i (by omega)⟩
    obtain ⟨us, hul, hq⟩ := choose_list l hall
    refine ⟨some a, us, c, by rw [hul]; exact hcs, by omega, hm, fun h0 => ?_, fun u hu => ?_⟩
    · obtain ⟨b, off, spot⟩ := a
      have hu0 : us[0]? = some us[0] := List.getElem?_eq_getElem h0
      have hc0 := (hq 0 _ hu0).1
      have hspot : spot = none := by simpa [Addr.add] using World.cell?_spot hc0
      subst hspot
      have hlt := World.block_lt_of_cell? w _ hc0
      refine ⟨b, off, rfl, by simpa [Addr.add] using hlt, fun i u hu => ?_⟩
      have h1 := (hq i u hu).1
      rw [add_none] at h1
      exact h1
    · obtain ⟨i, hil, rfl⟩ := List.getElem_of_mem hu
      exact (hq i _ (List.getElem?_eq_getElem hil)).2

theorem open_submission {H : Type} {enc : TypeId × Value → H} {w : World} {spare : Nat → Bool} {held : Bool} {fuel : Nat} {cs : Array Value} {x : DataW H × List MemPlace} (hs : cs.size = Tryz.prog.cellsOf 68)
    (h : DataW.trod enc Tryz.prog w 0 spare held fuel 68 cs.toList = some x) :
    ∃ (st : Int) (f : ByteArray) (A : Option Addr) (us : List ByteArray) (c : Nat) (t : ByteArray), cs = #[.int .i64 st, .string f, .slice A us.length c, .string t] ∧ us.length ≤ c ∧ c ≤ maxLen ∧ AtStrs w w.heap.size A us ∧ f.size ≤ maxLen ∧ t.size ≤ maxLen := by
  have h3 : Tryz.prog.cellsOf 68 = 4 := by kernel_rfl
  have hc9 : Tryz.prog.cellsOf 9 = 1 := by kernel_rfl
  have hc3 : Tryz.prog.cellsOf 3 = 1 := by kernel_rfl
  have hc27 : Tryz.prog.cellsOf 24 = 1 := by kernel_rfl
  rw [h3] at hs
  obtain ⟨vs, v0, v1, v2, rfl⟩ : ∃ vs v0 v1 v2, cs = #[vs, v0, v1, v2] := by
    obtain ⟨l⟩ := cs
    match l, hs with
    | [z, a, b, c], _ => exact ⟨z, a, b, c, rfl⟩
  obtain ⟨xs, n, _, _, _, hlen, hf⟩ := DataW.trod_struct Tryz.underlying68 h
  match xs, hlen with
  | [ys, y0, y1, y2], _ =>
    have ts : DataW.trod enc Tryz.prog w 0 spare held n 3 [vs] = some ys := by simpa [hc3] using hf 0 _ rfl
    have t0 : DataW.trod enc Tryz.prog w 0 spare held n 9 [v0] = some y0 := by simpa [hc9] using hf 1 _ rfl
    have t1 : DataW.trod enc Tryz.prog w 0 spare held n 24 [v1] = some y1 := by simpa [hc27] using hf 2 _ rfl
    have t2 : DataW.trod enc Tryz.prog w 0 spare held n 9 [v2] = some y2 := by simpa [hc9] using hf 3 _ rfl
    obtain ⟨f, e0, _, z0⟩ := DataW.trod_string Tryz.underlying9 t0
    obtain ⟨t, e2, _, z2⟩ := DataW.trod_string Tryz.underlying9 t2
    obtain ⟨A, us, c, e1, hl, hm, ha⟩ := open_strings (v := v1) t1
    obtain ⟨st, es, _, _⟩ := DataW.trod_int Tryz.underlying3 ts
    simp at es e0 e2
    subst es e0 e1 e2
    exact ⟨st, f, A, us, c, t, rfl, hl, hm, ha, z0, z2⟩


end Go.Proofs.YtnbggmmghopphaaGreatDoor
