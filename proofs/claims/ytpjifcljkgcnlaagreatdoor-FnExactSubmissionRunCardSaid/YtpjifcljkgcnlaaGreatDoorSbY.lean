/- SbY: SbEx SbTo SbLaw1, in one text. -/
import Derived.Test.YtpjifcljkgcnlaaGreatDoorStX
import Derived.Test.YtpjifcljkgcnlaaGreatDoorSbX
import Derived.Deep.Strs
import Derived.Deep.RegionWith
import Derived.Deep.DeepCutAuto
namespace Go.Proofs.YtpjifcljkgcnlaaGreatDoor
set_option linter.unusedVariables false
open Go.RowKit

end Go.Proofs.YtpjifcljkgcnlaaGreatDoor

namespace Go.Proofs.YtpjifcljkgcnlaaGreatDoor
set_option linter.unusedVariables false
open Go.RowKit Go.ChangeShapes Go.WideShapes Go.Deep

set_option maxRecDepth 100000 in
set_option maxHeartbeats 1600000 in
theorem toStringS_own (A : Option Addr) (us : List ByteArray) (c : Nat) (w : World) (h : AtStrs w w.heap.size A us) (hn : us.length ≤ 1048576) :
    Calls Tryz.prog 8 #[.slice A us.length c] w fun e w' => ∃ A' c', e = .returned (.slice A' us.length c') ∧ us.length ≤ c' ∧ c' ≤ maxLen ∧ St.Own w' w.heap.size (.slice A' us.length c') us ∧ Below w.heap.size w w' := by
  obtain ⟨i0, hi, hz0, hz1, hz2⟩ := info_parts str_info
  have hmk := fun W => run_make_rowN (P := Tryz.prog) 23 9 i0 _ Tryz.underlying23 hi hz0 .i64 .i64 us.length us.length (Nat.le_refl _) (by rw [hz2]; omega) (by omega) W
  rw [hz1] at hmk
  have hml : (madeCells (Value.string ⟨#[]⟩).cells (us.length * 1)).toList = (St.part us 0).flatMap St.cells := by
    rw [St.part_zero]
    exact made_flat (by omega) St.cells_len rfl
  have HML := Lib.hid hml
  clear hml
  have hown0 : (w.alloc (.cells (madeCells (Value.string ⟨#[]⟩).cells (us.length * 1)) 9)).ownsRow w.heap.size 9 1 (.slice (some ⟨w.heap.size, 0, none⟩) us.length us.length) us.length ((St.part us 0).flatMap St.cells) := by
    rw [← HML.out]
    exact World.ownsRow_lit w _ us.length (Nat.le_refl _) (by unfold maxLen; omega) (size_madeCells _ _)
  have H0 : Hid ((w.alloc (.cells (madeCells #[.string ⟨#[]⟩] us.length) 9)).ownsRow w.heap.size 9 1 (.slice (some ⟨w.heap.size, 0, none⟩) us.length us.length) us.length ((St.part us 0).flatMap St.cells)) := Lib.hid (by rw [Nat.mul_one] at hown0; exact hown0)
  clear hown0
  go_enter Tryz.func8, Tryz.ntmps8
  go_wp2_with fail
  go_loopg [4] us.length (fun g i wr => ∃ k : Nat, k ≤ us.length ∧ Hid (g = us.length - k) ∧ i = .int .i64 k ∧ wr.ownsRow w.heap.size 9 1 (.slice (some ⟨w.heap.size, 0, none⟩) us.length us.length) us.length ((St.part us k).flatMap St.cells) ∧ Below w.heap.size w wr)
  case atStart => exact ⟨0, Nat.zero_le _, Lib.hid rfl, rfl, H0.out, by go_grown⟩
  case round =>
    obtain ⟨k, hk, HG, rfl, hown, hb⟩ := hrel
    by_cases hlt : k < us.length
    · obtain ⟨g, off, rfl, hg, hc⟩ := (h.below hb).1 (by omega)
      obtain ⟨u, hu⟩ : ∃ u, us[k]? = some u := ⟨_, List.getElem?_eq_getElem hlt⟩
      have d1 := hc k u hu
      have HU := Lib.hid hu
      have HO := Lib.hid hown
      clear hc hu hown
      have hown1 := HO.out
      have e0 : wr.cell? ⟨w.heap.size, k, none⟩ = some (.string ⟨#[]⟩) := by simpa [St.zero] using own_cell (j := 0) St.cells_len hown1 (St.part_get us k hlt) rfl
      have f0 : wr.frozen? ⟨w.heap.size, k, none⟩ = false := hown1.frozenAt _
      have hs1 := own_set (j := 0) (u' := u) (v := .string u) St.cells_len hown1 (St.part_get us k hlt) (by omega) rfl
      rw [St.part_set us k u HU.out] at hs1
      simp only [Nat.mul_one, Nat.add_zero] at hs1
      have HS := Lib.hid hs1
      clear hs1 hown1
      go_wp2_with fail
      go_roundg (us.length - (k + 1))
      case measure => have := HG.out; omega
      case rel => exact ⟨k + 1, by omega, Lib.hid rfl, by go_num, HS.out, hb.setCell (p := ⟨w.heap.size, k, none⟩) (Nat.le_refl _) _⟩
    · obtain rfl : k = us.length := by omega
      rw [St.part_all] at hown
      have HAT := Lib.hid hown
      clear hown
      go_wp2_with fail
      go_ret
      exact ⟨_, _, rfl, Nat.le_refl _, by unfold maxLen; omega, HAT.out, hb⟩


end Go.Proofs.YtpjifcljkgcnlaaGreatDoor

namespace Go.Proofs.YtpjifcljkgcnlaaGreatDoor
set_option linter.unusedVariables false
open Go.RowKit Go.ChangeShapes Go.WideShapes Go.Deep

theorem open_strings {H : Type} {enc : TypeId × Value → H} {w : World} {spare : Nat → Bool} {held : Bool} {fuel : Nat} {v : Value} {x : DataW H × List MemPlace}
    (h : DataW.trod enc Tryz.prog w 0 spare held fuel 23 [v] = some x) : ∃ (A : Option Addr) (us : List ByteArray) (c : Nat), v = .slice A us.length c ∧ us.length ≤ c ∧ c ≤ maxLen ∧ AtStrs w w.heap.size A us := by
  rcases open_strs Tryz.underlying23 Tryz.underlying9 (by kernel_rfl) h with ⟨hcs, _⟩ | ⟨a, l, c, m, Sx, hcs, _, hl, hm, hmm, _, hi⟩
  · simp at hcs
    exact ⟨none, [], 0, hcs, Nat.le_refl _, Nat.zero_le _, fun h0 => absurd h0 (by simp), by simp⟩
  · simp at hcs
    have hml : l ≤ m := by rw [hmm]; split <;> omega
    have hall : ∀ i, i < l → ∃ u : ByteArray, w.cell? (a.add i) = some (.string u) ∧ u.size ≤ maxLen := fun i hil => ⟨Sx i, hi i (by omega)⟩
    obtain ⟨us, hul, hq⟩ := choose_list l hall
    refine ⟨some a, us, c, by rw [hul]; exact hcs, by omega, hm, fun h0 => ?_, fun u hu => ?_⟩
    · obtain ⟨b, off, spot⟩ := a
      have hu0 : us[0]? = some us[0] := List.getElem?_eq_getElem h0
      have hc0 := (hq 0 _ hu0).1
      have hspot : spot = none := by simpa [Addr.add] using World.cell?_spot hc0
      subst hspot
      have hlt := World.block_lt_of_cell? w _ hc0
      refine ⟨b, off, rfl, by simpa [Addr.add] using hlt, fun i u hu => ?_⟩
      have h1 := (hq i u hu).1
      rw [add_none] at h1
      exact h1
    · obtain ⟨i, hil, rfl⟩ := List.getElem_of_mem hu
      exact (hq i _ (List.getElem?_eq_getElem hil)).2

end Go.Proofs.YtpjifcljkgcnlaaGreatDoor
