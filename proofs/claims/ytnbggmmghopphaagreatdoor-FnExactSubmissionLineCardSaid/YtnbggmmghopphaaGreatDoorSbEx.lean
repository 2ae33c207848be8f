/- Submissions that come in as plain data: sizes, copies, comparison. -/
import Derived.Test.YtnbggmmghopphaaGreatDoorStX
namespace Go.Proofs.YtnbggmmghopphaaGreatDoor
set_option linter.unusedVariables false
open Go.RowKit

set_option maxHeartbeats 1600000 in
theorem szSubmission_any (st : Int) (f t : ByteArray) (A : Option Addr) (us : List ByteArray) (c : Nat) (left : Int) (w : World) (h : AtStrs w w.heap.size A us) (hn : us.length ≤ maxLen) (hf : f.size ≤ maxLen) (ht : t.size ≤ maxLen) (h0 : 0 ≤ left) (h1 : left ≤ 1048576) :
    Calls Tryz.prog 51 #[.agg #[.int .i64 st, .string f, .slice A us.length c, .string t], .int .i64 left] w (Szd left (us.length ≤ 1048576) w) := by
  have hfl := hf
  have htl := ht
  unfold maxLen at hfl htl
  have hB : Below w.heap.size w (w.alloc (.cells #[.int .i64 st, .string f, .slice A us.length c, .string t] 68)) := (Below.refl _ _).alloc (Nat.le_refl _) _
  have hbx := heap_alloc_new w (.cells #[.int .i64 st, .string f, .slice A us.length c, .string t] 68)
  have HBX := Lib.hid hbx
  have HA := Lib.hid ((h.below hB).mono hB.size)
  have HB := Lib.hid hB
  clear hbx hB
  by_cases c1 : left - (f.size : Int) < 0
  · go_enter Tryz.func51, Tryz.ntmps51
    go_wp2
    go_ret
    exact ⟨-1, rfl, by omega, by omega, fun h => absurd h (by omega), HB.out⟩
  · go_enter Tryz.func51, Tryz.ntmps51
    go_wp2_with fail
    refine (szStringS_any A us c (left - (f.size : Int)) _ HA.out hn (by omega) (by omega)).mono ?_
    rintro e w1 ⟨r, rfl, hm, hle, hq, hb1⟩
    have HQ := Lib.hid hq
    have hB1 := HB.out.trans (hb1.mono HB.out.size)
    have d2 : w1.cell? ⟨w.heap.size, 3, none⟩ = some (.string t) := cell_at ((hb1.block _ (by simp)).trans HBX.out) 3 _ rfl
    clear hq
    by_cases hneg : r < 0
    · go_wp2_with fail
      go_ret
      exact ⟨-1, rfl, by omega, by omega, fun h => absurd h (by omega), hB1⟩
    · by_cases hneg2 : r - (t.size : Int) < 0
      · go_wp2_with fail
        go_ret
        exact ⟨-1, rfl, by omega, by omega, fun h => absurd h (by omega), hB1⟩
      · go_wp2_with fail
        go_ret
        exact ⟨r - (t.size : Int), rfl, by omega, by omega, fun _ => (HQ.out (by omega)).1, hB1⟩

set_option maxHeartbeats 1600000 in
theorem eqSubmission_any (st : Int) (f t : ByteArray) (A A' : Option Addr) (us : List ByteArray) (c c' : Nat) (w : World) (h : AtStrs w w.heap.size A us) (h' : AtStrs w w.heap.size A' us) (hn : us.length ≤ maxLen) :
    Calls Tryz.prog 53 #[.agg #[.int .i64 st, .string f, .slice A us.length c, .string t], .agg #[.int .i64 st, .string f, .slice A' us.length c', .string t]] w fun e w' => e = .returned (.bool true) ∧ Below w.heap.size w w' := by
  go_enter Tryz.func53, Tryz.ntmps53
  go_wp2_with fail
  refine (eqStringS_any A A' us c c' _ ((h.below (by go_grown)).mono (by simp; omega)) ((h'.below (by go_grown)).mono (by simp; omega)) hn).mono ?_
  rintro e w1 ⟨rfl, hb1⟩
  have hB := Below.trans (B := w.heap.size) (a := w) (by go_grown) (hb1.mono (by simp; omega))
  have hbx2 : w1.heap[w.heap.size + 1]? = some (.cells #[.int .i64 st, .string f, .slice A' us.length c', .string t] 36 (0, 0)) := (hb1.block _ (by simp)).trans (by simpa using heap_alloc_new (w.alloc _) (.cells #[.int .i64 st, .string f, .slice A' us.length c', .string t] 36 (0, 0)))
  have hbx1 : w1.heap[w.heap.size]? = some (.cells #[.int .i64 st, .string f, .slice A us.length c, .string t] 36 (0, 0)) := (hb1.block _ (by simp; omega)).trans ((((Below.refl _ (w.alloc (.cells #[.int .i64 st, .string f, .slice A us.length c, .string t] 36 (0, 0)))).alloc (Nat.le_refl _) _).block _ (by simp)).trans (heap_alloc_new w _))
  have d1 : w1.cell? ⟨w.heap.size, 3, none⟩ = some (.string t) := cell_at hbx1 3 _ rfl
  have d2 : w1.cell? ⟨w.heap.size + 1, 3, none⟩ = some (.string t) := cell_at hbx2 3 _ rfl
  clear hbx1 hbx2
  go_wp2_with fail
  go_ret
  exact ⟨rfl, hB⟩

set_option maxHeartbeats 1600000 in
theorem toSubmission_any (st : Int) (f t : ByteArray) (A : Option Addr) (us : List ByteArray) (c : Nat) (w : World) (h : AtStrs w w.heap.size A us) (hn : us.length ≤ 1048576) :
    Calls Tryz.prog 52 #[.agg #[.int .i64 st, .string f, .slice A us.length c, .string t]] w fun e w' => ∃ A' c', e = .returned (.agg #[.int .i64 st, .string f, .slice A' us.length c', .string t]) ∧ us.length ≤ c' ∧ c' ≤ maxLen ∧ AtStrs w' w'.heap.size A' us ∧ Below w.heap.size w w' := by
  go_enter Tryz.func52, Tryz.ntmps52
  go_wp2_with fail
  refine (toStringS_any A us c _ ((h.below (by go_grown)).mono (by simp; omega)) hn).mono ?_
  rintro e w1 ⟨A', c', rfl, hc1, hc2, h1, hfr, hb1⟩
  have hB := Below.trans (B := w.heap.size) (a := w) (by go_grown) (hb1.mono (by simp; omega))
  have hx3 : w1.heap[w.heap.size + 1 + 1]? = some (.cells #[.int .i64 st, .string f, .slice none 0 0, .string ⟨#[]⟩] 36 (0, 0)) := (hb1.block _ (by simp)).trans (by simpa using heap_alloc_new ((w.alloc _).alloc _) (.cells #[.int .i64 st, .string f, .slice none 0 0, .string ⟨#[]⟩] 36 (0, 0)))
  have hx2 : w1.heap[w.heap.size + 1]? = some (.cells #[.int .i64 0, .string ⟨#[]⟩, .slice none 0 0, .string ⟨#[]⟩] 36 (0, 0)) := (hb1.block _ (by simp)).trans ((((Below.refl _ ((w.alloc (.cells #[.int .i64 st, .string f, .slice A us.length c, .string t] 68 (0, 0))).alloc (.cells #[.int .i64 0, .string ⟨#[]⟩, .slice none 0 0, .string ⟨#[]⟩] 36 (0, 0)))).alloc (Nat.le_refl _) _).block _ (by simp)).trans (by simpa using heap_alloc_new (w.alloc _) (.cells #[.int .i64 0, .string ⟨#[]⟩, .slice none 0 0, .string ⟨#[]⟩] 36 (0, 0))))
  have hx1 : w1.heap[w.heap.size]? = some (.cells #[.int .i64 st, .string f, .slice A us.length c, .string t] 68 (0, 0)) := (hb1.block _ (by simp; omega)).trans (((((Below.refl _ (w.alloc (.cells #[.int .i64 st, .string f, .slice A us.length c, .string t] 68 (0, 0)))).alloc (Nat.le_refl _) _).alloc (by simp) _).block _ (by simp)).trans (heap_alloc_new w _))
  have b2 : w1.cell? ⟨w.heap.size, 3, none⟩ = some (.string t) := cell_at hx1 3 _ rfl
  have p0 : w1.cell? ⟨w.heap.size + 1, 0, none⟩ = some (.int .i64 0) := cell_at hx2 0 _ rfl
  have p1 : w1.cell? ⟨w.heap.size + 1, 1, none⟩ = some (.string ⟨#[]⟩) := cell_at hx2 1 _ rfl
  have p2 : w1.cell? ⟨w.heap.size + 1, 2, none⟩ = some (.slice none 0 0) := cell_at hx2 2 _ rfl
  have p3 : w1.cell? ⟨w.heap.size + 1, 3, none⟩ = some (.string ⟨#[]⟩) := cell_at hx2 3 _ rfl
  have q0 : w1.cell? ⟨w.heap.size + 1 + 1, 0, none⟩ = some (.int .i64 st) := cell_at hx3 0 _ rfl
  have q1 : w1.cell? ⟨w.heap.size + 1 + 1, 1, none⟩ = some (.string f) := cell_at hx3 1 _ rfl
  have q2 : w1.cell? ⟨w.heap.size + 1 + 1, 2, none⟩ = some (.slice none 0 0) := cell_at hx3 2 _ rfl
  have q3 : w1.cell? ⟨w.heap.size + 1 + 1, 3, none⟩ = some (.string ⟨#[]⟩) := cell_at hx3 3 _ rfl
  have fp0 := free_at hx2 0
  have fp1 := free_at hx2 1
  have fp2 := free_at hx2 2
  have fp3 := free_at hx2 3
  have fq0 := free_at hx3 0
  have fq1 := free_at hx3 1
  have fq2 := free_at hx3 2
  have fq3 := free_at hx3 3
  have H1 := Lib.hid h1
  clear hx1 hx2 hx3 h1
  go_wp2_with fail
  have hf1 : ∀ g off, A' = some ⟨g, off, none⟩ → w.heap.size + 1 ≠ g := fun g off e => by have := hfr g off e; simp at this; omega
  have hf2 : ∀ g off, A' = some ⟨g, off, none⟩ → w.heap.size + 1 + 1 ≠ g := fun g off e => by have := hfr g off e; simp at this; omega
  refine bodyPost_ret (v := .agg #[.int .i64 st, .string f, .slice A' us.length c', .string t]) (by simp [results, Tryz.results52, go_sem, p0, p1, p2, p3]) rfl ⟨A', c', rfl, hc1, hc2, ?_, ?_⟩
  · refine AtStrs.mono (AtStrs.setCell (AtStrs.setCell (AtStrs.setCell (AtStrs.setCell (AtStrs.setCell (AtStrs.setCell H1.out hf2 _) hf2 _) hf1 _) hf1 _) hf1 _) hf1 _) (by simp)
  · exact (((((hB.setCell (p := ⟨w.heap.size + 1 + 1, 2, none⟩) (by simp; omega) _).setCell (p := ⟨w.heap.size + 1 + 1, 3, none⟩) (by simp; omega) _).setCell (p := ⟨w.heap.size + 1, 0, none⟩) (by simp) _).setCell (p := ⟨w.heap.size + 1, 1, none⟩) (by simp) _).setCell (p := ⟨w.heap.size + 1, 2, none⟩) (by simp) _).setCell (p := ⟨w.heap.size + 1, 3, none⟩) (by simp) _

end Go.Proofs.YtnbggmmghopphaaGreatDoor
