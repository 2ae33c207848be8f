/- Copies of strings and of submissions that lie in memory of the call's own (toStringS, toSubmission of the laws, again). -/
import Derived.Test.YtnbggmmghopphaaGreatDoorSbEx
import Derived.Test.YtnbggmmghopphaaGreatDoorSbX
namespace Go.Proofs.YtnbggmmghopphaaGreatDoor
set_option linter.unusedVariables false
open Go.RowKit Go.ChangeShapes Go.WideShapes Go.Deep

set_option maxRecDepth 100000 in
set_option maxHeartbeats 1600000 in
theorem toStringS_own (A : Option Addr) (us : List ByteArray) (c : Nat) (w : World) (h : AtStrs w w.heap.size A us) (hn : us.length ≤ 1048576) :
    Calls Tryz.prog 34 #[.slice A us.length c] w fun e w' => ∃ A' c', e = .returned (.slice A' us.length c') ∧ us.length ≤ c' ∧ c' ≤ maxLen ∧ St.Own w' w.heap.size (.slice A' us.length c') us ∧ Below w.heap.size w w' := by
  obtain ⟨i0, hi, hz0, hz1, hz2⟩ := info_parts str_info
  have hmk := fun W => run_make_rowN (P := Tryz.prog) 24 9 i0 _ Tryz.underlying24 hi hz0 .i64 .i64 us.length us.length (Nat.le_refl _) (by rw [hz2]; omega) (by omega) W
  rw [hz1] at hmk
  have hml : (madeCells (Value.string ⟨#[]⟩).cells (us.length * 1)).toList = (St.part us 0).flatMap St.cells := by
    rw [St.part_zero]
    exact made_flat (by omega) St.cells_len rfl
  have HML := Lib.hid hml
  clear hml
  have hown0 : (w.alloc (.cells (madeCells (Value.string ⟨#[]⟩).cells (us.length * 1)) 9)).ownsRow w.heap.size 9 1 (.slice (some ⟨w.heap.size, 0, none⟩) us.length us.length) us.length ((St.part us 0).flatMap St.cells) := by
    rw [← HML.out]
    exact World.ownsRow_lit w _ us.length (Nat.le_refl _) (by unfold maxLen; omega) (size_madeCells _ _)
  have H0 : Hid ((w.alloc (.cells (madeCells #[.string ⟨#[]⟩] us.length) 9)).ownsRow w.heap.size 9 1 (.slice (some ⟨w.heap.size, 0, none⟩) us.length us.length) us.length ((St.part us 0).flatMap St.cells)) := Lib.hid (by rw [Nat.mul_one] at hown0; exact hown0)
  clear hown0
  go_enter Tryz.func34, Tryz.ntmps34
  go_wp2_with fail
  go_loopg [4] us.length (fun g i wr => ∃ k : Nat, k ≤ us.length ∧ Hid (g = us.length - k) ∧ i = .int .i64 k ∧ wr.ownsRow w.heap.size 9 1 (.slice (some ⟨w.heap.size, 0, none⟩) us.length us.length) us.length ((St.part us k).flatMap St.cells) ∧ Below w.heap.size w wr)
  case atStart => exact ⟨0, Nat.zero_le _, Lib.hid rfl, rfl, H0.out, by go_grown⟩
  case round =>
    obtain ⟨k, hk, HG, rfl, hown, hb⟩ := hrel
    by_cases hlt : k < us.length
    · obtain ⟨g, off, rfl, hg, hc⟩ := (h.below hb).1 (by omega)
      obtain ⟨u, hu⟩ : ∃ u, us[k]? = some u := ⟨_, List.getElem?_eq_getElem hlt⟩
      have d1 := hc k u hu
      have HU := Lib.hid hu
      have HO := Lib.hid hown
      clear hc hu hown
      have hown1 := HO.out
      have e0 : wr.cell? ⟨w.heap.size, k, none⟩ = some (.string ⟨#[]⟩) := by simpa [St.zero] using own_cell (j := 0) St.cells_len hown1 (St.part_get us k hlt) rfl
      have f0 : wr.frozen? ⟨w.heap.size, k, none⟩ = false := hown1.frozenAt _
      have hs1 := own_set (j := 0) (u' := u) (v := .string u) St.cells_len hown1 (St.part_get us k hlt) (by omega) rfl
      rw [St.part_set us k u HU.out] at hs1
      simp only [Nat.mul_one, Nat.add_zero] at hs1
      have HS := Lib.hid hs1
      clear hs1 hown1
      go_wp2_with fail
      go_roundg (us.length - (k + 1))
      case measure => have := HG.out; omega
      case rel => exact ⟨k + 1, by omega, Lib.hid rfl, by go_num, HS.out, hb.setCell (p := ⟨w.heap.size, k, none⟩) (Nat.le_refl _) _⟩
    · obtain rfl : k = us.length := by omega
      rw [St.part_all] at hown
      have HAT := Lib.hid hown
      clear hown
      go_wp2_with fail
      go_ret
      exact ⟨_, _, rfl, Nat.le_refl _, by unfold maxLen; omega, HAT.out, hb⟩


set_option maxHeartbeats 1600000 in
theorem toSubmission_own (st : Int) (f t : ByteArray) (A : Option Addr) (us : List ByteArray) (c : Nat) (w : World) (h : AtStrs w w.heap.size A us) (hn : us.length ≤ 1048576) :
    Calls Tryz.prog 52 #[.agg #[.int .i64 st, .string f, .slice A us.length c, .string t]] w fun e w' => ∃ A' c', e = .returned (.agg #[.int .i64 st, .string f, .slice A' us.length c', .string t]) ∧ us.length ≤ c' ∧ c' ≤ maxLen ∧ St.Own w' w.heap.size (.slice A' us.length c') us ∧ Below w.heap.size w w' := by
  go_enter Tryz.func52, Tryz.ntmps52
  go_wp2_with fail
  refine (toStringS_own A us c _ ((h.below (by go_grown)).mono (by simp; omega)) hn).mono ?_
  rintro e w1 ⟨A', c', rfl, hc1, hc2, h1, hb1⟩
  have hB := Below.trans (B := w.heap.size) (a := w) (by go_grown) (hb1.mono (by simp; omega))
  have hx3 : w1.heap[w.heap.size + 1 + 1]? = some (.cells #[.int .i64 st, .string f, .slice none 0 0, .string ⟨#[]⟩] 36 (0, 0)) := (hb1.block _ (by simp)).trans (by simpa using heap_alloc_new ((w.alloc _).alloc _) (.cells #[.int .i64 st, .string f, .slice none 0 0, .string ⟨#[]⟩] 36 (0, 0)))
  have hx2 : w1.heap[w.heap.size + 1]? = some (.cells #[.int .i64 0, .string ⟨#[]⟩, .slice none 0 0, .string ⟨#[]⟩] 36 (0, 0)) := (hb1.block _ (by simp)).trans ((((Below.refl _ ((w.alloc (.cells #[.int .i64 st, .string f, .slice A us.length c, .string t] 68 (0, 0))).alloc (.cells #[.int .i64 0, .string ⟨#[]⟩, .slice none 0 0, .string ⟨#[]⟩] 36 (0, 0)))).alloc (Nat.le_refl _) _).block _ (by simp)).trans (by simpa using heap_alloc_new (w.alloc _) (.cells #[.int .i64 0, .string ⟨#[]⟩, .slice none 0 0, .string ⟨#[]⟩] 36 (0, 0))))
  have hx1 : w1.heap[w.heap.size]? = some (.cells #[.int .i64 st, .string f, .slice A us.length c, .string t] 68 (0, 0)) := (hb1.block _ (by simp; omega)).trans (((((Below.refl _ (w.alloc (.cells #[.int .i64 st, .string f, .slice A us.length c, .string t] 68 (0, 0)))).alloc (Nat.le_refl _) _).alloc (by simp) _).block _ (by simp)).trans (heap_alloc_new w _))
  have b2 : w1.cell? ⟨w.heap.size, 3, none⟩ = some (.string t) := cell_at hx1 3 _ rfl
  have p0 : w1.cell? ⟨w.heap.size + 1, 0, none⟩ = some (.int .i64 0) := cell_at hx2 0 _ rfl
  have p1 : w1.cell? ⟨w.heap.size + 1, 1, none⟩ = some (.string ⟨#[]⟩) := cell_at hx2 1 _ rfl
  have p2 : w1.cell? ⟨w.heap.size + 1, 2, none⟩ = some (.slice none 0 0) := cell_at hx2 2 _ rfl
  have p3 : w1.cell? ⟨w.heap.size + 1, 3, none⟩ = some (.string ⟨#[]⟩) := cell_at hx2 3 _ rfl
  have q0 : w1.cell? ⟨w.heap.size + 1 + 1, 0, none⟩ = some (.int .i64 st) := cell_at hx3 0 _ rfl
  have q1 : w1.cell? ⟨w.heap.size + 1 + 1, 1, none⟩ = some (.string f) := cell_at hx3 1 _ rfl
  have q2 : w1.cell? ⟨w.heap.size + 1 + 1, 2, none⟩ = some (.slice none 0 0) := cell_at hx3 2 _ rfl
  have q3 : w1.cell? ⟨w.heap.size + 1 + 1, 3, none⟩ = some (.string ⟨#[]⟩) := cell_at hx3 3 _ rfl
  have fp0 := free_at hx2 0
  have fp1 := free_at hx2 1
  have fp2 := free_at hx2 2
  have fp3 := free_at hx2 3
  have fq0 := free_at hx3 0
  have fq1 := free_at hx3 1
  have fq2 := free_at hx3 2
  have fq3 := free_at hx3 3
  have H1 := Lib.hid h1
  clear hx1 hx2 hx3 h1
  go_wp2_with fail
  refine bodyPost_ret (v := .agg #[.int .i64 st, .string f, .slice A' us.length c', .string t]) (by simp [results, Tryz.results52, go_sem, p0, p1, p2, p3]) rfl ⟨A', c', rfl, hc1, hc2, ?_, ?_⟩
  · exact (own_setNew (own_setNew (own_setNew (own_setNew (own_setNew (own_setNew H1.out (by simp) _) (by simp) _) (by simp) _) (by simp) _) (by simp) _) (by simp) _).base (by simp; omega)
  · exact (((((hB.setCell (p := ⟨w.heap.size + 1 + 1, 2, none⟩) (by simp; omega) _).setCell (p := ⟨w.heap.size + 1 + 1, 3, none⟩) (by simp; omega) _).setCell (p := ⟨w.heap.size + 1, 0, none⟩) (by simp) _).setCell (p := ⟨w.heap.size + 1, 1, none⟩) (by simp) _).setCell (p := ⟨w.heap.size + 1, 2, none⟩) (by simp) _).setCell (p := ⟨w.heap.size + 1, 3, none⟩) (by simp) _


end Go.Proofs.YtnbggmmghopphaaGreatDoor
