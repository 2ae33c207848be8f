/- FnExactSubmissionValid: the argument opened, the walk. -/
import Derived.Test.YtpolpopkiegjkaaSbW2
import Derived.Test.YtpolpopkiegjkaaSbEx
import Derived.Deep.Strs
import Derived.Deep.RegionWith
import Derived.Deep.DeepCutAuto
namespace Go.Proofs.Ytpolpopkiegjkaa
set_option linter.unusedVariables false
open Go.RowKit Go.ChangeShapes Go.WideShapes Go.Deep

theorem open_strings {H : Type} {enc : TypeId × Value → H} {w : World} {spare : Nat → Bool} {held : Bool} {fuel : Nat} {v : Value} {x : DataW H × List MemPlace}
    (h : DataW.trod enc Try.prog w 0 spare held fuel 27 [v] = some x) : ∃ (A : Option Addr) (us : List ByteArray) (c : Nat), v = .slice A us.length c ∧ us.length ≤ c ∧ c ≤ maxLen ∧ AtStrs w w.heap.size A us := by
  rcases open_strs Try.underlying27 Try.underlying9 (by kernel_rfl) h with ⟨hcs, _⟩ | ⟨a, l, c, m, Sx, hcs, _, hl, hm, hmm, _, hi⟩
  · simp at hcs
    exact ⟨none, [], 0, hcs, Nat.le_refl _, Nat.zero_le _, fun h0 => absurd h0 (by simp), by simp⟩
  · simp at hcs
    have hml : l ≤ m := by rw [hmm]; split <;> omega
    have hall : ∀ i, i < l → ∃ u : ByteArray, w.cell? (a.add i) = some (.string u) ∧ u.size ≤ maxLen := fun i hil => ⟨Sx i, hi i (by omega)⟩
    obtain ⟨us, hul, hq⟩ := choose_list l hall
    refine ⟨some a, us, c, by rw [hul]; exact hcs, by omega, hm, fun h0 => ?_, fun u hu => ?_⟩
    · obtain ⟨b, off, spot⟩ := a
      have hu0 : us[0]? = some us[0] := List.getElem?_eq_getElem h0
      have hc0 := (hq 0 _ hu0).1
      have hspot : spot = none := by simpa [Addr.add] using World.cell?_spot hc0
      subst hspot
      have hlt := World.block_lt_of_cell? w _ hc0
      refine ⟨b, off, rfl, by simpa [Addr.add] using hlt, fun i u hu => ?_⟩
      have h1 := (hq i u hu).1
      rw [add_none] at h1
      exact h1
    · obtain ⟨i, hil, rfl⟩ := List.getElem_of_mem hu
      exact (hq i _ (List.getElem?_eq_getElem hil)).2

theorem open_submission {H : Type} {enc : TypeId × Value → H} {w : World} {spare : Nat → Bool} {held : Bool} {fuel : Nat} {cs : Array Value} {x : DataW H × List MemPlace} (hs : cs.size = Try.prog.cellsOf 60)
    (h : DataW.trod enc Try.prog w 0 spare held fuel 60 cs.toList = some x) :
    ∃ (st : Int) (f : ByteArray) (A : Option Addr) (us : List ByteArray) (c : Nat) (t : ByteArray), cs = #[.int .i64 st, .string f, .slice A us.length c, .string t] ∧ us.length ≤ c ∧ c ≤ maxLen ∧ AtStrs w w.heap.size A us ∧ f.size ≤ maxLen ∧ t.size ≤ maxLen := by
  have h3 : Try.prog.cellsOf 60 = 4 := by kernel_rfl
  have hc9 : Try.prog.cellsOf 9 = 1 := by kernel_rfl
  have hc3 : Try.prog.cellsOf 3 = 1 := by kernel_rfl
  have hc27 : Try.prog.cellsOf 27 = 1 := by kernel_rfl
  rw [h3] at hs
  obtain ⟨vs, v0, v1, v2, rfl⟩ : ∃ vs v0 v1 v2, cs = #[vs, v0, v1, v2] := by
    obtain ⟨l⟩ := cs
    match l, hs with
    | [z, a, b, c], _ => exact ⟨z, a, b, c, rfl⟩
  obtain ⟨xs, n, _, _, _, hlen, hf⟩ := DataW.trod_struct Try.underlying60 h
  match xs, hlen with
  | [ys, y0, y1, y2], _ =>
    have ts : DataW.trod enc Try.prog w 0 spare held n 3 [vs] = some ys := by simpa [hc3] using hf 0 _ rfl
    have t0 : DataW.trod enc Try.prog w 0 spare held n 9 [v0] = some y0 := by simpa [hc9] using hf 1 _ rfl
    have t1 : DataW.trod enc Try.prog w 0 spare held n 27 [v1] = some y1 := by simpa [hc27] using hf 2 _ rfl
    have t2 : DataW.trod enc Try.prog w 0 spare held n 9 [v2] = some y2 := by simpa [hc9] using hf 3 _ rfl
    obtain ⟨f, e0, _, z0⟩ := DataW.trod_string Try.underlying9 t0
    obtain ⟨t, e2, _, z2⟩ := DataW.trod_string Try.underlying9 t2
    obtain ⟨A, us, c, e1, hl, hm, ha⟩ := open_strings (v := v1) t1
    obtain ⟨st, es, _, _⟩ := DataW.trod_int Try.underlying3 ts
    simp at es e0 e2
    subst es e0 e1 e2
    exact ⟨st, f, A, us, c, t, rfl, hl, hm, ha, z0, z2⟩

set_option maxHeartbeats 1600000 in
theorem walkFnExactSubmissionValid (st : Int) (f : ByteArray) (A : Option Addr) (us : List ByteArray) (c : Nat) (t : ByteArray) (w : World) (h : AtStrs w w.heap.size A us) (hcap : us.length ≤ c) (hcm : c ≤ maxLen) (hf : f.size ≤ maxLen) (ht : t.size ≤ maxLen) :
    Calls Try.prog 11 #[.agg #[.int .i64 st, .string f, .slice A us.length c, .string t]] w fun e w' => e = .returned (.bool true) ∧ Below w.heap.size w w' := by
  have hn : us.length ≤ maxLen := Nat.le_trans hcap hcm
  have hbox : Below w.heap.size w (w.alloc (.cells #[.int .i64 st, .string f, .slice A us.length c, .string t] 60)) := (Below.refl _ _).alloc (Nat.le_refl _) _
  go_enter Try.func11, Try.ntmps11
  go_wp2_with fail
  refine (szSubmission_any st f t A us c _ _ ((h.below hbox).mono hbox.size) hn hf ht (by omega) (by omega)).mono ?_
  rintro e w1 ⟨r, rfl, hm, hle, hq, hb1⟩
  have HQ := Lib.hid hq
  have hbx := boxed hb1
  have d0 : w1.cell? ⟨w.heap.size, 0, none⟩ = some (.int .i64 st) := cell_at hbx 0 _ rfl
  have d1 : w1.cell? ⟨w.heap.size, 1, none⟩ = some (.string f) := cell_at hbx 1 _ rfl
  have d2 : w1.cell? ⟨w.heap.size, 2, none⟩ = some (.slice A us.length c) := cell_at hbx 2 _ rfl
  have d3 : w1.cell? ⟨w.heap.size, 3, none⟩ = some (.string t) := cell_at hbx 3 _ rfl
  have hB1 := unbox hb1
  have hlt1 := (Array.getElem?_eq_some_iff.1 hbx).1
  clear hq hbx
  by_cases hneg : r < 0
  · go_wp2_with fail
    go_ret
    exact ⟨rfl, hB1⟩
  · have hlen := HQ.out (by omega)
    have h1 := (h.below hB1).mono hB1.size
    go_wp2_with fail
    refine (toSubmission_any st f t A us c _ h1 hlen).mono ?_
    rintro e w2 ⟨A2, c2, rfl, hc2, hc2', h2, hb2⟩
    go_wp2_with fail
    refine (sSubmissionValid_any st f t A2 us c2 _ h2 hc2 hc2' hf ht).mono ?_
    rintro e w3 ⟨rfl, hb3⟩
    have hB3 := hb2.trans (hb3.mono hb2.size)
    have d0 := (hB3.cell (p := ⟨w.heap.size, 0, none⟩) hlt1).trans d0
    have d1 := (hB3.cell (p := ⟨w.heap.size, 1, none⟩) hlt1).trans d1
    have d2 := (hB3.cell (p := ⟨w.heap.size, 2, none⟩) hlt1).trans d2
    have d3 := (hB3.cell (p := ⟨w.heap.size, 3, none⟩) hlt1).trans d3
    have h3 := (h1.below hB3).mono hB3.size
    have hB13 := hB1.trans (hB3.mono hB1.size)
    have hlt3 : w.heap.size < w3.heap.size := Nat.lt_of_lt_of_le hlt1 hB3.size
    go_wp2_with fail
    refine (toSubmission_any st f t A us c _ h3 hlen).mono ?_
    rintro e w4 ⟨A4, c4, rfl, hc4, hc4', h4, hb4⟩
    have hb4' := hb4.alloc hb4.size (.cells #[.int .i64 st, .string f, .slice A4 us.length c4, .string t] 63)
    have hx := heap_alloc_new w4 (.cells #[.int .i64 st, .string f, .slice A4 us.length c4, .string t] 63)
    have h4' := (h4.below ((Below.refl _ w4).alloc (Nat.le_refl _) (.cells #[.int .i64 st, .string f, .slice A4 us.length c4, .string t] 63))).mono (by simp : w4.heap.size ≤ (w4.alloc (.cells #[.int .i64 st, .string f, .slice A4 us.length c4, .string t] 63)).heap.size)
    go_upto_region 7 with fail
    generalize w4.alloc (.cells #[.int .i64 st, .string f, .slice A4 us.length c4, .string t] 63) = w4' at hb4' hx h4' ⊢
    have x0 : w4'.cell? ⟨w4.heap.size, 0, none⟩ = some (.int .i64 st) := cell_at hx 0 _ rfl
    have x1 : w4'.cell? ⟨w4.heap.size, 1, none⟩ = some (.string f) := cell_at hx 1 _ rfl
    have x2 : w4'.cell? ⟨w4.heap.size, 2, none⟩ = some (.slice A4 us.length c4) := cell_at hx 2 _ rfl
    have x3 : w4'.cell? ⟨w4.heap.size, 3, none⟩ = some (.string t) := cell_at hx 3 _ rfl
    have hltx := (Array.getElem?_eq_some_iff.1 hx).1
    clear hx
    go_wp2_with fail
    refine (iSubmissionValid_any st f t A4 us c4 _ h4' hc4 hc4' hf ht).mono ?_
    rintro e w5 ⟨rfl, hb5⟩
    have hB45 := hb4'.trans (hb5.mono hb4'.size)
    have d0 := (hB45.cell (p := ⟨w.heap.size, 0, none⟩) hlt3).trans d0
    have d1 := (hB45.cell (p := ⟨w.heap.size, 1, none⟩) hlt3).trans d1
    have d2 := (hB45.cell (p := ⟨w.heap.size, 2, none⟩) hlt3).trans d2
    have d3 := (hB45.cell (p := ⟨w.heap.size, 3, none⟩) hlt3).trans d3
    have x0 := (hb5.cell (p := ⟨w4.heap.size, 0, none⟩) hltx).trans x0
    have x1 := (hb5.cell (p := ⟨w4.heap.size, 1, none⟩) hltx).trans x1
    have x2 := (hb5.cell (p := ⟨w4.heap.size, 2, none⟩) hltx).trans x2
    have x3 := (hb5.cell (p := ⟨w4.heap.size, 3, none⟩) hltx).trans x3
    have hltx5 := Nat.lt_of_lt_of_le hltx hb5.size
    have H5 : Hid (AtStrs w5.drew w5.drew.heap.size A us) := Lib.hid ((h3.below hB45).mono hB45.size)
    have H45 := Lib.hid ((h4'.below hb5).mono hb5.size)
    have hB5 := hB13.trans (hB45.mono hB13.size)
    go_upto_region 10 with fail
    go_region_with ((first
      | (go_at_call 40; refine (toSubmission_any st f t A us c _ H5.out hlen).mono ?_; rintro e w6 ⟨A6, c6, rfl, hc6, hc6', h6, hb6⟩; have hb6' : Below w5.heap.size w5 w6 := ⟨hb6.os, hb6.tape, hb6.output, hb6.size, hb6.block⟩; have x0 := (hb6'.cell (p := ⟨w4.heap.size, 0, none⟩) hltx5).trans x0; have x1 := (hb6'.cell (p := ⟨w4.heap.size, 1, none⟩) hltx5).trans x1; have x2 := (hb6'.cell (p := ⟨w4.heap.size, 2, none⟩) hltx5).trans x2; have x3 := (hb6'.cell (p := ⟨w4.heap.size, 3, none⟩) hltx5).trans x3)
      | (go_at_call 42; refine (eqSubmission_any st f t A4 A6 us c4 c6 _ ((H45.out.below hb6').mono hb6'.size) h6 hn).mono ?_; rintro e w7 ⟨rfl, hb7⟩)))
    all_goals
      go_wp2_with fail
      go_ret
      exact ⟨rfl, hB5.trans ((hb6'.trans (hb7.mono hb6'.size)).mono hB5.size)⟩

end Go.Proofs.Ytpolpopkiegjkaa
