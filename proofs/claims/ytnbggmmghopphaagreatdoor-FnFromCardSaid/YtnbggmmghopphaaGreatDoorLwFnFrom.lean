/- FnFrom: the walk. (Printed by mklw.py.) -/
import Derived.Test.YtnbggmmghopphaaGreatDoorSmUu
import Derived.Test.YtnbggmmghopphaaGreatDoorLwPl
import Derived.Test.YtnbggmmghopphaaGreatDoorLwKn
import Derived.Test.YtnbggmmghopphaaGreatDoorLwOw
import Derived.Deep.RegionHeld3
import Derived.Deep.DeepCutAuto
namespace Go.Proofs.YtnbggmmghopphaaGreatDoor
set_option linter.unusedVariables false
open Go.RowKit
open Us (U)

set_option maxRecDepth 100000 in
set_option maxHeartbeats 6400000 in
theorem walkFnFrom (a : Option Addr) (len cap : Nat) (w : World) (h : Bytes w a len cap) (m : Int) (hm : w.cell? ⟨0, 0, none⟩ = some (.int .i64 m)) :
    Calls Tryz.prog 8 #[.slice a len cap] w fun e w' => e = .returned (.bool true) ∧ Below w.heap.size w w' := by
  by_cases hbig : len ≤ 1048576
  · have hbi : ¬ (1048576 : Int) < (len : Int) := by omega
    have hpos := Po.base_pos hm
    go_enter Tryz.func8, Tryz.ntmps8
    go_wp2_with fail
    refine Calls.mono (drawSubmissionLine_any a len cap _ h) ?_
    rintro e w1 ⟨st, f, A, us, c, t, Au, vs, cu, d, l, hsm, hcap, hcm, hsv, hds, hls, rfl, hat, hau, hb1⟩
    have hfm := (Sm.small_max hsm).1
    have htm := (Sm.small_max hsm).2.1
    have hul := Sm.small_len hsm
    dsimp only at hfm htm hul
    have hvl : vs.length ≤ maxLen := small_len hsv
    have hdz : d.size ≤ 16777216 := by omega
    have hlz : l.size ≤ 16777216 := by omega
    have FU1 : Hid (∀ w', Below w1.heap.size w1 w' → AtUsers w' w'.heap.size Au vs) := Lib.hid (fun w' hb => ((at_users hau (small_sizes hsv)).below hb).mono hb.size)
    have FM1 : Hid (∀ w', Below w1.heap.size w1 w' → w'.cell? ⟨0, 0, none⟩ = some (.int .i64 m)) := Lib.hid (fun w' hb => Po.mem (hb1.trans (hb.mono hb1.size)) hm hpos)
    have FB1 : Hid (∀ w', Below w1.heap.size w1 w' → Below w.heap.size w w') := Lib.hid (fun w' hb => hb1.trans (hb.mono hb1.size))
    have FAA1 : Hid (∀ w', Below w1.heap.size w1 w' → AtStrs w' w'.heap.size A us) := Lib.hid (fun w' hb => (hat.below hb).mono hb.size)
    have HK1 : Hid (Below w1.heap.size w1 w1) := Lib.hid (Below.refl _ _)
    have HSM := Lib.hid hsm
    clear hat hau hb1 hm h hsm
    have hx := heap_alloc_new w1 (.cells #[.int .i64 st, .string f, .slice A us.length c, .string t] 36)
    have hE := Below.alloc (Below.refl w1.heap.size w1) (Nat.le_refl _) (.cells #[.int .i64 st, .string f, .slice A us.length c, .string t] 36)
    have hs : w1.heap.size < (w1.alloc (.cells #[.int .i64 st, .string f, .slice A us.length c, .string t] 36)).heap.size := by simp
    go_upto_region 4 with fail
    generalize w1.alloc (.cells #[.int .i64 st, .string f, .slice A us.length c, .string t] 36) = w2 at hx hE hs ⊢
    obtain ⟨bd, hbb⟩ : ∃ b, b = w1.heap.size := ⟨_, rfl⟩
    rw [← hbb] at hx hs ⊢
    have HK2 := Lib.hid (HK1.out.trans (hE.mono HK1.out.size))
    have FXd2 : Hid (∀ w', Below w2.heap.size w2 w' → w'.heap[bd]? = some (.cells #[.int .i64 st, .string f, .slice A us.length c, .string t] 36 (0, 0))) := Lib.hid (fun w' hb => (hb.block _ hs).trans hx)
    clear hx hE hs hbb
    have FU2 := Lib.hid (fun w' (hb : Below w2.heap.size w2 w') => FU1.out w' (HK2.out.trans (hb.mono HK2.out.size)))
    have FM2 := Lib.hid (fun w' (hb : Below w2.heap.size w2 w') => FM1.out w' (HK2.out.trans (hb.mono HK2.out.size)))
    have FB2 := Lib.hid (fun w' (hb : Below w2.heap.size w2 w') => FB1.out w' (HK2.out.trans (hb.mono HK2.out.size)))
    have FAA2 := Lib.hid (fun w' (hb : Below w2.heap.size w2 w') => FAA1.out w' (HK2.out.trans (hb.mono HK2.out.size)))
    have HKb : Hid (Below w2.heap.size w2 w2) := Lib.hid (Below.refl _ _)
    clear HK2
    have HK2 := HKb
    clear HKb
    have d0 : w2.cell? ⟨bd, 0, none⟩ = some (.int .i64 st) := cell_at (FXd2.out _ HK2.out) 0 _ rfl
    have d1 : w2.cell? ⟨bd, 1, none⟩ = some (.string f) := cell_at (FXd2.out _ HK2.out) 1 _ rfl
    have d2 : w2.cell? ⟨bd, 2, none⟩ = some (.slice A us.length c) := cell_at (FXd2.out _ HK2.out) 2 _ rfl
    have d3 : w2.cell? ⟨bd, 3, none⟩ = some (.string t) := cell_at (FXd2.out _ HK2.out) 3 _ rfl
    obtain ⟨R, hR⟩ : ∃ R, R = Sm.ans vs d ⟨st, f, us, t⟩ l := ⟨_, rfl⟩
    obtain ⟨⟨so, fo, uo, to_⟩, no⟩ := R
    have HR := Lib.hid hR.symm
    have hulo : uo.length ≤ maxLen := by have := (Sm.ans_sizes vs d ⟨st, f, us, t⟩ l).1; rw [← hR] at this; unfold maxLen; dsimp only at this; omega
    have hfo : fo.size ≤ maxLen := by have := (Sm.ans_sizes vs d ⟨st, f, us, t⟩ l).2.2.1; rw [← hR] at this; exact this
    have hto : to_.size ≤ maxLen := by have := (Sm.ans_sizes vs d ⟨st, f, us, t⟩ l).2.2.2; rw [← hR] at this; exact this
    clear hR
    go_wp2_with fail
    refine Calls.mono (iLine_any st f t A us c _ (FAA2.out _ HK2.out) hcap hcm hfm htm Au vs cu (FU2.out _ HK2.out) hvl d l hdz hlz m (FM2.out _ HK2.out) HR.out) ?_
    rintro e w3 ⟨Al, cl, rfl, hatl, hkl, hjl, hb⟩
    clear d0 d1 d2 d3
    have HK3 := Lib.hid (HK2.out.trans (hb.mono HK2.out.size))
    clear hb
    have d0 : w3.cell? ⟨bd, 0, none⟩ = some (.int .i64 st) := cell_at (FXd2.out _ HK3.out) 0 _ rfl
    have d1 : w3.cell? ⟨bd, 1, none⟩ = some (.string f) := cell_at (FXd2.out _ HK3.out) 1 _ rfl
    have d2 : w3.cell? ⟨bd, 2, none⟩ = some (.slice A us.length c) := cell_at (FXd2.out _ HK3.out) 2 _ rfl
    have d3 : w3.cell? ⟨bd, 3, none⟩ = some (.string t) := cell_at (FXd2.out _ HK3.out) 3 _ rfl
    clear d0 d1 d2 d3
    have hx := heap_alloc_new w3 (.cells #[.int .i64 so, .string fo, .slice Al uo.length cl, .string to_] 36)
    have hE := Below.alloc (Below.refl w3.heap.size w3) (Nat.le_refl _) (.cells #[.int .i64 so, .string fo, .slice Al uo.length cl, .string to_] 36)
    have hs : w3.heap.size < (w3.alloc (.cells #[.int .i64 so, .string fo, .slice Al uo.length cl, .string to_] 36)).heap.size := by simp
    go_upto_region 5 with fail
    generalize w3.alloc (.cells #[.int .i64 so, .string fo, .slice Al uo.length cl, .string to_] 36) = w4 at hx hE hs ⊢
    obtain ⟨bl, hbb⟩ : ∃ b, b = w3.heap.size := ⟨_, rfl⟩
    rw [← hbb] at hx hs ⊢
    have hltdl : bd < bl := by have := (Array.getElem?_eq_some_iff.1 (FXd2.out _ HK3.out)).1; omega
    have HK4 := Lib.hid (HK3.out.trans (hE.mono HK3.out.size))
    have FXl4 : Hid (∀ w', Below w4.heap.size w4 w' → w'.heap[bl]? = some (.cells #[.int .i64 so, .string fo, .slice Al uo.length cl, .string to_] 36 (0, 0))) := Lib.hid (fun w' hb => (hb.block _ hs).trans hx)
    have FAL4 : Hid (∀ w', Below w4.heap.size w4 w' → AtStrs w' w'.heap.size Al uo) := Lib.hid (fun w' hb => (((hatl.below hE).mono hE.size).below hb).mono hb.size)
    clear hx hE hs hbb
    have FU4 := Lib.hid (fun w' (hb : Below w4.heap.size w4 w') => FU2.out w' (HK4.out.trans (hb.mono HK4.out.size)))
    have FM4 := Lib.hid (fun w' (hb : Below w4.heap.size w4 w') => FM2.out w' (HK4.out.trans (hb.mono HK4.out.size)))
    have FB4 := Lib.hid (fun w' (hb : Below w4.heap.size w4 w') => FB2.out w' (HK4.out.trans (hb.mono HK4.out.size)))
    have FXd4 := Lib.hid (fun w' (hb : Below w4.heap.size w4 w') => FXd2.out w' (HK4.out.trans (hb.mono HK4.out.size)))
    have FAA4 := Lib.hid (fun w' (hb : Below w4.heap.size w4 w') => FAA2.out w' (HK4.out.trans (hb.mono HK4.out.size)))
    have HKb : Hid (Below w4.heap.size w4 w4) := Lib.hid (Below.refl _ _)
    clear HK4
    have HK4 := HKb
    clear HKb
    have d0 : w4.cell? ⟨bd, 0, none⟩ = some (.int .i64 st) := cell_at (FXd4.out _ HK4.out) 0 _ rfl
    have d1 : w4.cell? ⟨bd, 1, none⟩ = some (.string f) := cell_at (FXd4.out _ HK4.out) 1 _ rfl
    have d2 : w4.cell? ⟨bd, 2, none⟩ = some (.slice A us.length c) := cell_at (FXd4.out _ HK4.out) 2 _ rfl
    have d3 : w4.cell? ⟨bd, 3, none⟩ = some (.string t) := cell_at (FXd4.out _ HK4.out) 3 _ rfl
    have l0 : w4.cell? ⟨bl, 0, none⟩ = some (.int .i64 so) := cell_at (FXl4.out _ HK4.out) 0 _ rfl
    have l1 : w4.cell? ⟨bl, 1, none⟩ = some (.string fo) := cell_at (FXl4.out _ HK4.out) 1 _ rfl
    have l2 : w4.cell? ⟨bl, 2, none⟩ = some (.slice Al uo.length cl) := cell_at (FXl4.out _ HK4.out) 2 _ rfl
    have l3 : w4.cell? ⟨bl, 3, none⟩ = some (.string to_) := cell_at (FXl4.out _ HK4.out) 3 _ rfl
    clear hatl
    go_wp2_with fail
    refine Calls.mono (sLine_any st f t A us c _ (FAA4.out _ HK4.out) hcap hcm hfm htm Au vs cu (FU4.out _ HK4.out) hvl d l hdz hlz HR.out) ?_
    rintro e w5 ⟨Am, cm, rfl, hatm, hkm, hjm, hb⟩
    clear d0 d1 d2 d3 l0 l1 l2 l3
    have HK5 := Lib.hid (HK4.out.trans (hb.mono HK4.out.size))
    clear hb
    have d0 : w5.cell? ⟨bd, 0, none⟩ = some (.int .i64 st) := cell_at (FXd4.out _ HK5.out) 0 _ rfl
    have d1 : w5.cell? ⟨bd, 1, none⟩ = some (.string f) := cell_at (FXd4.out _ HK5.out) 1 _ rfl
    have d2 : w5.cell? ⟨bd, 2, none⟩ = some (.slice A us.length c) := cell_at (FXd4.out _ HK5.out) 2 _ rfl
    have d3 : w5.cell? ⟨bd, 3, none⟩ = some (.string t) := cell_at (FXd4.out _ HK5.out) 3 _ rfl
    have l0 : w5.cell? ⟨bl, 0, none⟩ = some (.int .i64 so) := cell_at (FXl4.out _ HK5.out) 0 _ rfl
    have l1 : w5.cell? ⟨bl, 1, none⟩ = some (.string fo) := cell_at (FXl4.out _ HK5.out) 1 _ rfl
    have l2 : w5.cell? ⟨bl, 2, none⟩ = some (.slice Al uo.length cl) := cell_at (FXl4.out _ HK5.out) 2 _ rfl
    have l3 : w5.cell? ⟨bl, 3, none⟩ = some (.string to_) := cell_at (FXl4.out _ HK5.out) 3 _ rfl
    clear d0 d1 d2 d3 l0 l1 l2 l3
    have hx := heap_alloc_new w5 (.cells #[.int .i64 so, .string fo, .slice Am uo.length cm, .string to_] 36)
    have hE := Below.alloc (Below.refl w5.heap.size w5) (Nat.le_refl _) (.cells #[.int .i64 so, .string fo, .slice Am uo.length cm, .string to_] 36)
    have hs : w5.heap.size < (w5.alloc (.cells #[.int .i64 so, .string fo, .slice Am uo.length cm, .string to_] 36)).heap.size := by simp
    go_upto_region 6 with fail
    generalize w5.alloc (.cells #[.int .i64 so, .string fo, .slice Am uo.length cm, .string to_] 36) = w6 at hx hE hs ⊢
    obtain ⟨bm, hbb⟩ : ∃ b, b = w5.heap.size := ⟨_, rfl⟩
    rw [← hbb] at hx hs ⊢
    have hltdm : bd < bm := by have := (Array.getElem?_eq_some_iff.1 (FXd4.out _ HK5.out)).1; omega
    have hltlm : bl < bm := by have := (Array.getElem?_eq_some_iff.1 (FXl4.out _ HK5.out)).1; omega
    have HK6 := Lib.hid (HK5.out.trans (hE.mono HK5.out.size))
    have FXm6 : Hid (∀ w', Below w6.heap.size w6 w' → w'.heap[bm]? = some (.cells #[.int .i64 so, .string fo, .slice Am uo.length cm, .string to_] 36 (0, 0))) := Lib.hid (fun w' hb => (hb.block _ hs).trans hx)
    have FAM6 : Hid (∀ w', Below w6.heap.size w6 w' → AtStrs w' w'.heap.size Am uo) := Lib.hid (fun w' hb => (((hatm.below hE).mono hE.size).below hb).mono hb.size)
    clear hx hE hs hbb
    have FU6 := Lib.hid (fun w' (hb : Below w6.heap.size w6 w') => FU4.out w' (HK6.out.trans (hb.mono HK6.out.size)))
    have FM6 := Lib.hid (fun w' (hb : Below w6.heap.size w6 w') => FM4.out w' (HK6.out.trans (hb.mono HK6.out.size)))
    have FB6 := Lib.hid (fun w' (hb : Below w6.heap.size w6 w') => FB4.out w' (HK6.out.trans (hb.mono HK6.out.size)))
    have FXd6 := Lib.hid (fun w' (hb : Below w6.heap.size w6 w') => FXd4.out w' (HK6.out.trans (hb.mono HK6.out.size)))
    have FXl6 := Lib.hid (fun w' (hb : Below w6.heap.size w6 w') => FXl4.out w' (HK6.out.trans (hb.mono HK6.out.size)))
    have FAA6 := Lib.hid (fun w' (hb : Below w6.heap.size w6 w') => FAA4.out w' (HK6.out.trans (hb.mono HK6.out.size)))
    have FAL6 := Lib.hid (fun w' (hb : Below w6.heap.size w6 w') => FAL4.out w' (HK6.out.trans (hb.mono HK6.out.size)))
    have HKb : Hid (Below w6.heap.size w6 w6) := Lib.hid (Below.refl _ _)
    clear HK6
    have HK6 := HKb
    clear HKb
    have d0 : w6.cell? ⟨bd, 0, none⟩ = some (.int .i64 st) := cell_at (FXd6.out _ HK6.out) 0 _ rfl
    have d1 : w6.cell? ⟨bd, 1, none⟩ = some (.string f) := cell_at (FXd6.out _ HK6.out) 1 _ rfl
    have d2 : w6.cell? ⟨bd, 2, none⟩ = some (.slice A us.length c) := cell_at (FXd6.out _ HK6.out) 2 _ rfl
    have d3 : w6.cell? ⟨bd, 3, none⟩ = some (.string t) := cell_at (FXd6.out _ HK6.out) 3 _ rfl
    have l0 : w6.cell? ⟨bl, 0, none⟩ = some (.int .i64 so) := cell_at (FXl6.out _ HK6.out) 0 _ rfl
    have l1 : w6.cell? ⟨bl, 1, none⟩ = some (.string fo) := cell_at (FXl6.out _ HK6.out) 1 _ rfl
    have l2 : w6.cell? ⟨bl, 2, none⟩ = some (.slice Al uo.length cl) := cell_at (FXl6.out _ HK6.out) 2 _ rfl
    have l3 : w6.cell? ⟨bl, 3, none⟩ = some (.string to_) := cell_at (FXl6.out _ HK6.out) 3 _ rfl
    have m0 : w6.cell? ⟨bm, 0, none⟩ = some (.int .i64 so) := cell_at (FXm6.out _ HK6.out) 0 _ rfl
    have m1 : w6.cell? ⟨bm, 1, none⟩ = some (.string fo) := cell_at (FXm6.out _ HK6.out) 1 _ rfl
    have m2 : w6.cell? ⟨bm, 2, none⟩ = some (.slice Am uo.length cm) := cell_at (FXm6.out _ HK6.out) 2 _ rfl
    have m3 : w6.cell? ⟨bm, 3, none⟩ = some (.string to_) := cell_at (FXm6.out _ HK6.out) 3 _ rfl
    clear hatm
    go_wp2_with fail
    refine Calls.mono (sameSub_any so fo to_ Al Am uo cl cm _ (FAL6.out _ HK6.out) (FAM6.out _ HK6.out) hulo) ?_
    rintro e w7 ⟨rfl, hb⟩
    clear d0 d1 d2 d3 l0 l1 l2 l3 m0 m1 m2 m3
    have HK7 := Lib.hid (HK6.out.trans (hb.mono HK6.out.size))
    clear hb
    have d0 : w7.cell? ⟨bd, 0, none⟩ = some (.int .i64 st) := cell_at (FXd6.out _ HK7.out) 0 _ rfl
    have d1 : w7.cell? ⟨bd, 1, none⟩ = some (.string f) := cell_at (FXd6.out _ HK7.out) 1 _ rfl
    have d2 : w7.cell? ⟨bd, 2, none⟩ = some (.slice A us.length c) := cell_at (FXd6.out _ HK7.out) 2 _ rfl
    have d3 : w7.cell? ⟨bd, 3, none⟩ = some (.string t) := cell_at (FXd6.out _ HK7.out) 3 _ rfl
    have l0 : w7.cell? ⟨bl, 0, none⟩ = some (.int .i64 so) := cell_at (FXl6.out _ HK7.out) 0 _ rfl
    have l1 : w7.cell? ⟨bl, 1, none⟩ = some (.string fo) := cell_at (FXl6.out _ HK7.out) 1 _ rfl
    have l2 : w7.cell? ⟨bl, 2, none⟩ = some (.slice Al uo.length cl) := cell_at (FXl6.out _ HK7.out) 2 _ rfl
    have l3 : w7.cell? ⟨bl, 3, none⟩ = some (.string to_) := cell_at (FXl6.out _ HK7.out) 3 _ rfl
    have m0 : w7.cell? ⟨bm, 0, none⟩ = some (.int .i64 so) := cell_at (FXm6.out _ HK7.out) 0 _ rfl
    have m1 : w7.cell? ⟨bm, 1, none⟩ = some (.string fo) := cell_at (FXm6.out _ HK7.out) 1 _ rfl
    have m2 : w7.cell? ⟨bm, 2, none⟩ = some (.slice Am uo.length cm) := cell_at (FXm6.out _ HK7.out) 2 _ rfl
    have m3 : w7.cell? ⟨bm, 3, none⟩ = some (.string to_) := cell_at (FXm6.out _ HK7.out) 3 _ rfl
    by_cases hans : Sm.ok ⟨st, f, us, t⟩ = true ∧ Us.usersOk vs = true ∧ Dm.ok d.data.toList = true
    · have HL : Hid (Sm.line vs d ⟨st, f, us, t⟩ l = (⟨so, fo, uo, to_⟩, no)) := Lib.hid (by rw [← Sm.ans_good hans]; exact HR.out)
      have HANS := Lib.hid hans
      have hnn : ¬ no < 0 := by have := Sm.line_reply vs d ⟨st, f, us, t⟩ l; rw [HL.out] at this; exact this
      clear hans
      by_cases h2 : st = 2
      · have h2i : (st != 2) = false := by simpa using h2
        have HF : Hid (Nm.nameOk f.data.toList = true ∧ us = [] ∧ t = Sm.e0) := Lib.hid (Sm.ok_two HANS.out.1 h2)
        have H2 := Lib.hid h2
        by_cases hz : f = ⟨#[122, 101, 100]⟩
        · have q0 : (f.toList == [122, 101, 100]) = true := lit_yes hz
          clear hz h2
          go_wp2_with fail
          refine Calls.mono (sameSub_any so fo to_ Al Am uo cl cm _ (FAL6.out _ HK7.out) (FAM6.out _ HK7.out) hulo) ?_
          rintro e w8 ⟨rfl, hb⟩
          clear d0 d1 d2 d3 l0 l1 l2 l3 m0 m1 m2 m3
          have HK8 := Lib.hid (HK7.out.trans (hb.mono HK7.out.size))
          clear hb
          have d0 : w8.cell? ⟨bd, 0, none⟩ = some (.int .i64 st) := cell_at (FXd6.out _ HK8.out) 0 _ rfl
          have d1 : w8.cell? ⟨bd, 1, none⟩ = some (.string f) := cell_at (FXd6.out _ HK8.out) 1 _ rfl
          have d2 : w8.cell? ⟨bd, 2, none⟩ = some (.slice A us.length c) := cell_at (FXd6.out _ HK8.out) 2 _ rfl
          have d3 : w8.cell? ⟨bd, 3, none⟩ = some (.string t) := cell_at (FXd6.out _ HK8.out) 3 _ rfl
          have l0 : w8.cell? ⟨bl, 0, none⟩ = some (.int .i64 so) := cell_at (FXl6.out _ HK8.out) 0 _ rfl
          have l1 : w8.cell? ⟨bl, 1, none⟩ = some (.string fo) := cell_at (FXl6.out _ HK8.out) 1 _ rfl
          have l2 : w8.cell? ⟨bl, 2, none⟩ = some (.slice Al uo.length cl) := cell_at (FXl6.out _ HK8.out) 2 _ rfl
          have l3 : w8.cell? ⟨bl, 3, none⟩ = some (.string to_) := cell_at (FXl6.out _ HK8.out) 3 _ rfl
          have m0 : w8.cell? ⟨bm, 0, none⟩ = some (.int .i64 so) := cell_at (FXm6.out _ HK8.out) 0 _ rfl
          have m1 : w8.cell? ⟨bm, 1, none⟩ = some (.string fo) := cell_at (FXm6.out _ HK8.out) 1 _ rfl
          have m2 : w8.cell? ⟨bm, 2, none⟩ = some (.slice Am uo.length cm) := cell_at (FXm6.out _ HK8.out) 2 _ rfl
          have m3 : w8.cell? ⟨bm, 3, none⟩ = some (.string to_) := cell_at (FXm6.out _ HK8.out) 3 _ rfl
          go_wp2_with fail
          go_ret
          exact ⟨rfl, (FB6.out _ HK8.out)⟩
        · have q0 : (f.toList == [122, 101, 100]) = false := lit_no hz
          have HNZ := Lib.hid hz
          clear hz h2
          by_cases hz : d = ⟨#[122, 101, 100]⟩
          · have q1 : (d.toList == [122, 101, 100]) = true := lit_yes hz
            clear hz
            go_wp2_with fail
            refine Calls.mono (sameSub_any so fo to_ Al Am uo cl cm _ (FAL6.out _ HK7.out) (FAM6.out _ HK7.out) hulo) ?_
            rintro e w8 ⟨rfl, hb⟩
            clear d0 d1 d2 d3 l0 l1 l2 l3 m0 m1 m2 m3
            have HK8 := Lib.hid (HK7.out.trans (hb.mono HK7.out.size))
            clear hb
            have d0 : w8.cell? ⟨bd, 0, none⟩ = some (.int .i64 st) := cell_at (FXd6.out _ HK8.out) 0 _ rfl
            have d1 : w8.cell? ⟨bd, 1, none⟩ = some (.string f) := cell_at (FXd6.out _ HK8.out) 1 _ rfl
            have d2 : w8.cell? ⟨bd, 2, none⟩ = some (.slice A us.length c) := cell_at (FXd6.out _ HK8.out) 2 _ rfl
            have d3 : w8.cell? ⟨bd, 3, none⟩ = some (.string t) := cell_at (FXd6.out _ HK8.out) 3 _ rfl
            have l0 : w8.cell? ⟨bl, 0, none⟩ = some (.int .i64 so) := cell_at (FXl6.out _ HK8.out) 0 _ rfl
            have l1 : w8.cell? ⟨bl, 1, none⟩ = some (.string fo) := cell_at (FXl6.out _ HK8.out) 1 _ rfl
            have l2 : w8.cell? ⟨bl, 2, none⟩ = some (.slice Al uo.length cl) := cell_at (FXl6.out _ HK8.out) 2 _ rfl
            have l3 : w8.cell? ⟨bl, 3, none⟩ = some (.string to_) := cell_at (FXl6.out _ HK8.out) 3 _ rfl
            have m0 : w8.cell? ⟨bm, 0, none⟩ = some (.int .i64 so) := cell_at (FXm6.out _ HK8.out) 0 _ rfl
            have m1 : w8.cell? ⟨bm, 1, none⟩ = some (.string fo) := cell_at (FXm6.out _ HK8.out) 1 _ rfl
            have m2 : w8.cell? ⟨bm, 2, none⟩ = some (.slice Am uo.length cm) := cell_at (FXm6.out _ HK8.out) 2 _ rfl
            have m3 : w8.cell? ⟨bm, 3, none⟩ = some (.string to_) := cell_at (FXm6.out _ HK8.out) 3 _ rfl
            go_wp2_with fail
            go_ret
            exact ⟨rfl, (FB6.out _ HK8.out)⟩
          · have q1 : (d.toList == [122, 101, 100]) = false := lit_no hz
            have HND := Lib.hid hz
            clear hz
            have hfz8 : f.size ≤ 8 := (Sm.ok_sizes HANS.out.1).1
            have hdz20 : d.size ≤ 20 := Sm.dom_size HANS.out.2.2
            have hzl0 : (ByteArray.mk #[77, 65, 73, 76, 32, 70, 82, 79, 77, 58, 60]).size = 11 := rfl
            have hzl1 : (ByteArray.mk #[64]).size = 1 := rfl
            have hzl2 : (ByteArray.mk #[62]).size = 1 := rfl
            have hzl3 : (ByteArray.mk #[77, 65, 73, 76, 32, 70, 82, 79, 77, 58, 60, 122, 101, 100, 64]).size = 15 := rfl
            have hzl4 : (ByteArray.mk #[64, 122, 101, 100, 62]).size = 5 := rfl
            have hzl5 : (ByteArray.mk #[77, 65, 73, 76, 32, 70, 82, 79, 77, 58, 60, 62]).size = 12 := rfl
            have HRX : Hid (Sm.ans vs d ⟨st, f, us, t⟩ (ByteArray.mk #[77, 65, 73, 76, 32, 70, 82, 79, 77, 58, 60] ++ f ++ ByteArray.mk #[64] ++ d ++ ByteArray.mk #[62]) = (⟨3, f, [], Sm.e0⟩, 250)) := Lib.hid (by rw [Sm.ans_good HANS.out, Sm.from_yes vs (s := ⟨st, f, us, t⟩) H2.out (Sm.text5 Sm.begF _ f d rfl) HF.out.1 HANS.out.2.2, ← HF.out.2.1, ← HF.out.2.2])
            have HRY : Hid (Sm.ans vs d ⟨st, f, us, t⟩ (ByteArray.mk #[77, 65, 73, 76, 32, 70, 82, 79, 77, 58, 60, 122, 101, 100, 64] ++ d ++ ByteArray.mk #[62]) = (⟨st, f, us, t⟩, 550)) := Lib.hid (by rw [Sm.ans_good HANS.out]; exact Sm.from_no vs (s := ⟨st, f, us, t⟩) H2.out (Sm.text3a Sm.begF _ d rfl) Sm.zed_ok HANS.out.2.2 (fun e => HNZ.out e.1.symm))
            have HRC : Hid (Sm.ans vs d ⟨st, f, us, t⟩ (ByteArray.mk #[77, 65, 73, 76, 32, 70, 82, 79, 77, 58, 60] ++ f ++ ByteArray.mk #[64, 122, 101, 100, 62]) = (⟨st, f, us, t⟩, 550)) := Lib.hid (by rw [Sm.ans_good HANS.out]; exact Sm.from_no vs (s := ⟨st, f, us, t⟩) H2.out (Sm.text3b Sm.begF _ f rfl) HF.out.1 Sm.zed_dm (fun e => HND.out e.2.symm))
            have HRD : Hid (Sm.ans vs d ⟨st, f, us, t⟩ (ByteArray.mk #[77, 65, 73, 76, 32, 70, 82, 79, 77, 58, 60, 62]) = (⟨st, f, us, t⟩, 501)) := Lib.hid (by rw [Sm.ans_good HANS.out]; exact Sm.from_nil vs (s := ⟨st, f, us, t⟩) H2.out rfl)
            have hlX : (ByteArray.mk #[77, 65, 73, 76, 32, 70, 82, 79, 77, 58, 60] ++ f ++ ByteArray.mk #[64] ++ d ++ ByteArray.mk #[62]).size ≤ 16777216 := by simp only [ByteArray.size_append]; omega
            have hlY : (ByteArray.mk #[77, 65, 73, 76, 32, 70, 82, 79, 77, 58, 60, 122, 101, 100, 64] ++ d ++ ByteArray.mk #[62]).size ≤ 16777216 := by simp only [ByteArray.size_append]; omega
            have hlC : (ByteArray.mk #[77, 65, 73, 76, 32, 70, 82, 79, 77, 58, 60] ++ f ++ ByteArray.mk #[64, 122, 101, 100, 62]).size ≤ 16777216 := by simp only [ByteArray.size_append]; omega
            go_wp2_with fail
            refine Calls.mono (iLine_any st f t A us c _ (FAA6.out _ HK7.out) hcap hcm hfm htm Au vs cu (FU6.out _ HK7.out) hvl d (ByteArray.mk #[77, 65, 73, 76, 32, 70, 82, 79, 77, 58, 60] ++ f ++ ByteArray.mk #[64] ++ d ++ ByteArray.mk #[62]) hdz hlX m (FM6.out _ HK7.out) HRX.out) ?_
            rintro e w8 ⟨Ax, cx, rfl, hatx, hkx, hjx, hb⟩
            clear d0 d1 d2 d3 l0 l1 l2 l3 m0 m1 m2 m3
            have HK8 := Lib.hid (HK7.out.trans (hb.mono HK7.out.size))
            clear hb
            have d0 : w8.cell? ⟨bd, 0, none⟩ = some (.int .i64 st) := cell_at (FXd6.out _ HK8.out) 0 _ rfl
            have d1 : w8.cell? ⟨bd, 1, none⟩ = some (.string f) := cell_at (FXd6.out _ HK8.out) 1 _ rfl
            have d2 : w8.cell? ⟨bd, 2, none⟩ = some (.slice A us.length c) := cell_at (FXd6.out _ HK8.out) 2 _ rfl
            have d3 : w8.cell? ⟨bd, 3, none⟩ = some (.string t) := cell_at (FXd6.out _ HK8.out) 3 _ rfl
            have l0 : w8.cell? ⟨bl, 0, none⟩ = some (.int .i64 so) := cell_at (FXl6.out _ HK8.out) 0 _ rfl
            have l1 : w8.cell? ⟨bl, 1, none⟩ = some (.string fo) := cell_at (FXl6.out _ HK8.out) 1 _ rfl
            have l2 : w8.cell? ⟨bl, 2, none⟩ = some (.slice Al uo.length cl) := cell_at (FXl6.out _ HK8.out) 2 _ rfl
            have l3 : w8.cell? ⟨bl, 3, none⟩ = some (.string to_) := cell_at (FXl6.out _ HK8.out) 3 _ rfl
            have m0 : w8.cell? ⟨bm, 0, none⟩ = some (.int .i64 so) := cell_at (FXm6.out _ HK8.out) 0 _ rfl
            have m1 : w8.cell? ⟨bm, 1, none⟩ = some (.string fo) := cell_at (FXm6.out _ HK8.out) 1 _ rfl
            have m2 : w8.cell? ⟨bm, 2, none⟩ = some (.slice Am uo.length cm) := cell_at (FXm6.out _ HK8.out) 2 _ rfl
            have m3 : w8.cell? ⟨bm, 3, none⟩ = some (.string to_) := cell_at (FXm6.out _ HK8.out) 3 _ rfl
            clear d0 d1 d2 d3 l0 l1 l2 l3 m0 m1 m2 m3
            have hx := heap_alloc_new w8 (.cells #[.int .i64 3, .string f, .slice Ax ([] : List ByteArray).length cx, .string Sm.e0] 36)
            have hE := Below.alloc (Below.refl w8.heap.size w8) (Nat.le_refl _) (.cells #[.int .i64 3, .string f, .slice Ax ([] : List ByteArray).length cx, .string Sm.e0] 36)
            have hs : w8.heap.size < (w8.alloc (.cells #[.int .i64 3, .string f, .slice Ax ([] : List ByteArray).length cx, .string Sm.e0] 36)).heap.size := by simp
            go_upto_region 9 with fail
            generalize w8.alloc (.cells #[.int .i64 3, .string f, .slice Ax ([] : List ByteArray).length cx, .string Sm.e0] 36) = w9 at hx hE hs ⊢
            obtain ⟨bx, hbb⟩ : ∃ b, b = w8.heap.size := ⟨_, rfl⟩
            rw [← hbb] at hx hs ⊢
            have hltdx : bd < bx := by have := (Array.getElem?_eq_some_iff.1 (FXd6.out _ HK8.out)).1; omega
            have hltlx : bl < bx := by have := (Array.getElem?_eq_some_iff.1 (FXl6.out _ HK8.out)).1; omega
            have hltmx : bm < bx := by have := (Array.getElem?_eq_some_iff.1 (FXm6.out _ HK8.out)).1; omega
            have HK9 := Lib.hid (HK8.out.trans (hE.mono HK8.out.size))
            have FXx9 : Hid (∀ w', Below w9.heap.size w9 w' → w'.heap[bx]? = some (.cells #[.int .i64 3, .string f, .slice Ax ([] : List ByteArray).length cx, .string Sm.e0] 36 (0, 0))) := Lib.hid (fun w' hb => (hb.block _ hs).trans hx)
            have FAX9 : Hid (∀ w', Below w9.heap.size w9 w' → AtStrs w' w'.heap.size Ax ([] : List ByteArray)) := Lib.hid (fun w' hb => (((hatx.below hE).mono hE.size).below hb).mono hb.size)
            clear hx hE hs hbb
            have FU9 := Lib.hid (fun w' (hb : Below w9.heap.size w9 w') => FU6.out w' (HK9.out.trans (hb.mono HK9.out.size)))
            have FM9 := Lib.hid (fun w' (hb : Below w9.heap.size w9 w') => FM6.out w' (HK9.out.trans (hb.mono HK9.out.size)))
            have FB9 := Lib.hid (fun w' (hb : Below w9.heap.size w9 w') => FB6.out w' (HK9.out.trans (hb.mono HK9.out.size)))
            have FXd9 := Lib.hid (fun w' (hb : Below w9.heap.size w9 w') => FXd6.out w' (HK9.out.trans (hb.mono HK9.out.size)))
            have FXl9 := Lib.hid (fun w' (hb : Below w9.heap.size w9 w') => FXl6.out w' (HK9.out.trans (hb.mono HK9.out.size)))
            have FXm9 := Lib.hid (fun w' (hb : Below w9.heap.size w9 w') => FXm6.out w' (HK9.out.trans (hb.mono HK9.out.size)))
            have FAA9 := Lib.hid (fun w' (hb : Below w9.heap.size w9 w') => FAA6.out w' (HK9.out.trans (hb.mono HK9.out.size)))
            have FAL9 := Lib.hid (fun w' (hb : Below w9.heap.size w9 w') => FAL6.out w' (HK9.out.trans (hb.mono HK9.out.size)))
            have FAM9 := Lib.hid (fun w' (hb : Below w9.heap.size w9 w') => FAM6.out w' (HK9.out.trans (hb.mono HK9.out.size)))
            have HKb : Hid (Below w9.heap.size w9 w9) := Lib.hid (Below.refl _ _)
            clear HK9
            have HK9 := HKb
            clear HKb
            have d0 : w9.cell? ⟨bd, 0, none⟩ = some (.int .i64 st) := cell_at (FXd9.out _ HK9.out) 0 _ rfl
            have d1 : w9.cell? ⟨bd, 1, none⟩ = some (.string f) := cell_at (FXd9.out _ HK9.out) 1 _ rfl
            have d2 : w9.cell? ⟨bd, 2, none⟩ = some (.slice A us.length c) := cell_at (FXd9.out _ HK9.out) 2 _ rfl
            have d3 : w9.cell? ⟨bd, 3, none⟩ = some (.string t) := cell_at (FXd9.out _ HK9.out) 3 _ rfl
            have l0 : w9.cell? ⟨bl, 0, none⟩ = some (.int .i64 so) := cell_at (FXl9.out _ HK9.out) 0 _ rfl
            have l1 : w9.cell? ⟨bl, 1, none⟩ = some (.string fo) := cell_at (FXl9.out _ HK9.out) 1 _ rfl
            have l2 : w9.cell? ⟨bl, 2, none⟩ = some (.slice Al uo.length cl) := cell_at (FXl9.out _ HK9.out) 2 _ rfl
            have l3 : w9.cell? ⟨bl, 3, none⟩ = some (.string to_) := cell_at (FXl9.out _ HK9.out) 3 _ rfl
            have m0 : w9.cell? ⟨bm, 0, none⟩ = some (.int .i64 so) := cell_at (FXm9.out _ HK9.out) 0 _ rfl
            have m1 : w9.cell? ⟨bm, 1, none⟩ = some (.string fo) := cell_at (FXm9.out _ HK9.out) 1 _ rfl
            have m2 : w9.cell? ⟨bm, 2, none⟩ = some (.slice Am uo.length cm) := cell_at (FXm9.out _ HK9.out) 2 _ rfl
            have m3 : w9.cell? ⟨bm, 3, none⟩ = some (.string to_) := cell_at (FXm9.out _ HK9.out) 3 _ rfl
            have x0 : w9.cell? ⟨bx, 0, none⟩ = some (.int .i64 3) := cell_at (FXx9.out _ HK9.out) 0 _ rfl
            have x1 : w9.cell? ⟨bx, 1, none⟩ = some (.string f) := cell_at (FXx9.out _ HK9.out) 1 _ rfl
            have x2 : w9.cell? ⟨bx, 2, none⟩ = some (.slice Ax ([] : List ByteArray).length cx) := cell_at (FXx9.out _ HK9.out) 2 _ rfl
            have x3 : w9.cell? ⟨bx, 3, none⟩ = some (.string Sm.e0) := cell_at (FXx9.out _ HK9.out) 3 _ rfl
            clear hatx
            go_wp2_with fail
            refine Calls.mono (iLine_any st f t A us c _ (FAA9.out _ HK9.out) hcap hcm hfm htm Au vs cu (FU9.out _ HK9.out) hvl d (ByteArray.mk #[77, 65, 73, 76, 32, 70, 82, 79, 77, 58, 60, 122, 101, 100, 64] ++ d ++ ByteArray.mk #[62]) hdz hlY m (FM9.out _ HK9.out) HRY.out) ?_
            rintro e w10 ⟨Ay, cy, rfl, haty, hky, hjy, hb⟩
            clear d0 d1 d2 d3 l0 l1 l2 l3 m0 m1 m2 m3 x0 x1 x2 x3
            have HK10 := Lib.hid (HK9.out.trans (hb.mono HK9.out.size))
            clear hb
            have d0 : w10.cell? ⟨bd, 0, none⟩ = some (.int .i64 st) := cell_at (FXd9.out _ HK10.out) 0 _ rfl
            have d1 : w10.cell? ⟨bd, 1, none⟩ = some (.string f) := cell_at (FXd9.out _ HK10.out) 1 _ rfl
            have d2 : w10.cell? ⟨bd, 2, none⟩ = some (.slice A us.length c) := cell_at (FXd9.out _ HK10.out) 2 _ rfl
            have d3 : w10.cell? ⟨bd, 3, none⟩ = some (.string t) := cell_at (FXd9.out _ HK10.out) 3 _ rfl
            have l0 : w10.cell? ⟨bl, 0, none⟩ = some (.int .i64 so) := cell_at (FXl9.out _ HK10.out) 0 _ rfl
            have l1 : w10.cell? ⟨bl, 1, none⟩ = some (.string fo) := cell_at (FXl9.out _ HK10.out) 1 _ rfl
            have l2 : w10.cell? ⟨bl, 2, none⟩ = some (.slice Al uo.length cl) := cell_at (FXl9.out _ HK10.out) 2 _ rfl
            have l3 : w10.cell? ⟨bl, 3, none⟩ = some (.string to_) := cell_at (FXl9.out _ HK10.out) 3 _ rfl
            have m0 : w10.cell? ⟨bm, 0, none⟩ = some (.int .i64 so) := cell_at (FXm9.out _ HK10.out) 0 _ rfl
            have m1 : w10.cell? ⟨bm, 1, none⟩ = some (.string fo) := cell_at (FXm9.out _ HK10.out) 1 _ rfl
            have m2 : w10.cell? ⟨bm, 2, none⟩ = some (.slice Am uo.length cm) := cell_at (FXm9.out _ HK10.out) 2 _ rfl
            have m3 : w10.cell? ⟨bm, 3, none⟩ = some (.string to_) := cell_at (FXm9.out _ HK10.out) 3 _ rfl
            have x0 : w10.cell? ⟨bx, 0, none⟩ = some (.int .i64 3) := cell_at (FXx9.out _ HK10.out) 0 _ rfl
            have x1 : w10.cell? ⟨bx, 1, none⟩ = some (.string f) := cell_at (FXx9.out _ HK10.out) 1 _ rfl
            have x2 : w10.cell? ⟨bx, 2, none⟩ = some (.slice Ax ([] : List ByteArray).length cx) := cell_at (FXx9.out _ HK10.out) 2 _ rfl
            have x3 : w10.cell? ⟨bx, 3, none⟩ = some (.string Sm.e0) := cell_at (FXx9.out _ HK10.out) 3 _ rfl
            clear d0 d1 d2 d3 l0 l1 l2 l3 m0 m1 m2 m3 x0 x1 x2 x3
            have hx := heap_alloc_new w10 (.cells #[.int .i64 st, .string f, .slice Ay us.length cy, .string t] 36)
            have hE := Below.alloc (Below.refl w10.heap.size w10) (Nat.le_refl _) (.cells #[.int .i64 st, .string f, .slice Ay us.length cy, .string t] 36)
            have hs : w10.heap.size < (w10.alloc (.cells #[.int .i64 st, .string f, .slice Ay us.length cy, .string t] 36)).heap.size := by simp
            go_upto_region 10 with fail
            generalize w10.alloc (.cells #[.int .i64 st, .string f, .slice Ay us.length cy, .string t] 36) = w11 at hx hE hs ⊢
            obtain ⟨byy, hbb⟩ : ∃ b, b = w10.heap.size := ⟨_, rfl⟩
            rw [← hbb] at hx hs ⊢
            have hltdyy : bd < byy := by have := (Array.getElem?_eq_some_iff.1 (FXd9.out _ HK10.out)).1; omega
            have hltlyy : bl < byy := by have := (Array.getElem?_eq_some_iff.1 (FXl9.out _ HK10.out)).1; omega
            have hltmyy : bm < byy := by have := (Array.getElem?_eq_some_iff.1 (FXm9.out _ HK10.out)).1; omega
            have hltxyy : bx < byy := by have := (Array.getElem?_eq_some_iff.1 (FXx9.out _ HK10.out)).1; omega
            have HK11 := Lib.hid (HK10.out.trans (hE.mono HK10.out.size))
            have FXyy11 : Hid (∀ w', Below w11.heap.size w11 w' → w'.heap[byy]? = some (.cells #[.int .i64 st, .string f, .slice Ay us.length cy, .string t] 36 (0, 0))) := Lib.hid (fun w' hb => (hb.block _ hs).trans hx)
            have FAY11 : Hid (∀ w', Below w11.heap.size w11 w' → AtStrs w' w'.heap.size Ay us) := Lib.hid (fun w' hb => (((haty.below hE).mono hE.size).below hb).mono hb.size)
            clear hx hE hs hbb
            have FU11 := Lib.hid (fun w' (hb : Below w11.heap.size w11 w') => FU9.out w' (HK11.out.trans (hb.mono HK11.out.size)))
            have FM11 := Lib.hid (fun w' (hb : Below w11.heap.size w11 w') => FM9.out w' (HK11.out.trans (hb.mono HK11.out.size)))
            have FB11 := Lib.hid (fun w' (hb : Below w11.heap.size w11 w') => FB9.out w' (HK11.out.trans (hb.mono HK11.out.size)))
            have FXd11 := Lib.hid (fun w' (hb : Below w11.heap.size w11 w') => FXd9.out w' (HK11.out.trans (hb.mono HK11.out.size)))
            have FXl11 := Lib.hid (fun w' (hb : Below w11.heap.size w11 w') => FXl9.out w' (HK11.out.trans (hb.mono HK11.out.size)))
            have FXm11 := Lib.hid (fun w' (hb : Below w11.heap.size w11 w') => FXm9.out w' (HK11.out.trans (hb.mono HK11.out.size)))
            have FXx11 := Lib.hid (fun w' (hb : Below w11.heap.size w11 w') => FXx9.out w' (HK11.out.trans (hb.mono HK11.out.size)))
            have FAA11 := Lib.hid (fun w' (hb : Below w11.heap.size w11 w') => FAA9.out w' (HK11.out.trans (hb.mono HK11.out.size)))
            have FAL11 := Lib.hid (fun w' (hb : Below w11.heap.size w11 w') => FAL9.out w' (HK11.out.trans (hb.mono HK11.out.size)))
            have FAM11 := Lib.hid (fun w' (hb : Below w11.heap.size w11 w') => FAM9.out w' (HK11.out.trans (hb.mono HK11.out.size)))
            have FAX11 := Lib.hid (fun w' (hb : Below w11.heap.size w11 w') => FAX9.out w' (HK11.out.trans (hb.mono HK11.out.size)))
            have HKb : Hid (Below w11.heap.size w11 w11) := Lib.hid (Below.refl _ _)
            clear HK11
            have HK11 := HKb
            clear HKb
            have d0 : w11.cell? ⟨bd, 0, none⟩ = some (.int .i64 st) := cell_at (FXd11.out _ HK11.out) 0 _ rfl
            have d1 : w11.cell? ⟨bd, 1, none⟩ = some (.string f) := cell_at (FXd11.out _ HK11.out) 1 _ rfl
            have d2 : w11.cell? ⟨bd, 2, none⟩ = some (.slice A us.length c) := cell_at (FXd11.out _ HK11.out) 2 _ rfl
            have d3 : w11.cell? ⟨bd, 3, none⟩ = some (.string t) := cell_at (FXd11.out _ HK11.out) 3 _ rfl
            have l0 : w11.cell? ⟨bl, 0, none⟩ = some (.int .i64 so) := cell_at (FXl11.out _ HK11.out) 0 _ rfl
            have l1 : w11.cell? ⟨bl, 1, none⟩ = some (.string fo) := cell_at (FXl11.out _ HK11.out) 1 _ rfl
            have l2 : w11.cell? ⟨bl, 2, none⟩ = some (.slice Al uo.length cl) := cell_at (FXl11.out _ HK11.out) 2 _ rfl
            have l3 : w11.cell? ⟨bl, 3, none⟩ = some (.string to_) := cell_at (FXl11.out _ HK11.out) 3 _ rfl
            have m0 : w11.cell? ⟨bm, 0, none⟩ = some (.int .i64 so) := cell_at (FXm11.out _ HK11.out) 0 _ rfl
            have m1 : w11.cell? ⟨bm, 1, none⟩ = some (.string fo) := cell_at (FXm11.out _ HK11.out) 1 _ rfl
            have m2 : w11.cell? ⟨bm, 2, none⟩ = some (.slice Am uo.length cm) := cell_at (FXm11.out _ HK11.out) 2 _ rfl
            have m3 : w11.cell? ⟨bm, 3, none⟩ = some (.string to_) := cell_at (FXm11.out _ HK11.out) 3 _ rfl
            have x0 : w11.cell? ⟨bx, 0, none⟩ = some (.int .i64 3) := cell_at (FXx11.out _ HK11.out) 0 _ rfl
            have x1 : w11.cell? ⟨bx, 1, none⟩ = some (.string f) := cell_at (FXx11.out _ HK11.out) 1 _ rfl
            have x2 : w11.cell? ⟨bx, 2, none⟩ = some (.slice Ax ([] : List ByteArray).length cx) := cell_at (FXx11.out _ HK11.out) 2 _ rfl
            have x3 : w11.cell? ⟨bx, 3, none⟩ = some (.string Sm.e0) := cell_at (FXx11.out _ HK11.out) 3 _ rfl
            have yy0 : w11.cell? ⟨byy, 0, none⟩ = some (.int .i64 st) := cell_at (FXyy11.out _ HK11.out) 0 _ rfl
            have yy1 : w11.cell? ⟨byy, 1, none⟩ = some (.string f) := cell_at (FXyy11.out _ HK11.out) 1 _ rfl
            have yy2 : w11.cell? ⟨byy, 2, none⟩ = some (.slice Ay us.length cy) := cell_at (FXyy11.out _ HK11.out) 2 _ rfl
            have yy3 : w11.cell? ⟨byy, 3, none⟩ = some (.string t) := cell_at (FXyy11.out _ HK11.out) 3 _ rfl
            clear haty
            go_wp2_with fail
            refine Calls.mono (iLine_any st f t A us c _ (FAA11.out _ HK11.out) hcap hcm hfm htm Au vs cu (FU11.out _ HK11.out) hvl d (ByteArray.mk #[77, 65, 73, 76, 32, 70, 82, 79, 77, 58, 60] ++ f ++ ByteArray.mk #[64, 122, 101, 100, 62]) hdz hlC m (FM11.out _ HK11.out) HRC.out) ?_
            rintro e w12 ⟨Ac, cc, rfl, hatc, hkc, hjc, hb⟩
            clear d0 d1 d2 d3 l0 l1 l2 l3 m0 m1 m2 m3 x0 x1 x2 x3 yy0 yy1 yy2 yy3
            have HK12 := Lib.hid (HK11.out.trans (hb.mono HK11.out.size))
            clear hb
            have d0 : w12.cell? ⟨bd, 0, none⟩ = some (.int .i64 st) := cell_at (FXd11.out _ HK12.out) 0 _ rfl
            have d1 : w12.cell? ⟨bd, 1, none⟩ = some (.string f) := cell_at (FXd11.out _ HK12.out) 1 _ rfl
            have d2 : w12.cell? ⟨bd, 2, none⟩ = some (.slice A us.length c) := cell_at (FXd11.out _ HK12.out) 2 _ rfl
            have d3 : w12.cell? ⟨bd, 3, none⟩ = some (.string t) := cell_at (FXd11.out _ HK12.out) 3 _ rfl
            have l0 : w12.cell? ⟨bl, 0, none⟩ = some (.int .i64 so) := cell_at (FXl11.out _ HK12.out) 0 _ rfl
            have l1 : w12.cell? ⟨bl, 1, none⟩ = some (.string fo) := cell_at (FXl11.out _ HK12.out) 1 _ rfl
            have l2 : w12.cell? ⟨bl, 2, none⟩ = some (.slice Al uo.length cl) := cell_at (FXl11.out _ HK12.out) 2 _ rfl
            have l3 : w12.cell? ⟨bl, 3, none⟩ = some (.string to_) := cell_at (FXl11.out _ HK12.out) 3 _ rfl
            have m0 : w12.cell? ⟨bm, 0, none⟩ = some (.int .i64 so) := cell_at (FXm11.out _ HK12.out) 0 _ rfl
            have m1 : w12.cell? ⟨bm, 1, none⟩ = some (.string fo) := cell_at (FXm11.out _ HK12.out) 1 _ rfl
            have m2 : w12.cell? ⟨bm, 2, none⟩ = some (.slice Am uo.length cm) := cell_at (FXm11.out _ HK12.out) 2 _ rfl
            have m3 : w12.cell? ⟨bm, 3, none⟩ = some (.string to_) := cell_at (FXm11.out _ HK12.out) 3 _ rfl
            have x0 : w12.cell? ⟨bx, 0, none⟩ = some (.int .i64 3) := cell_at (FXx11.out _ HK12.out) 0 _ rfl
            have x1 : w12.cell? ⟨bx, 1, none⟩ = some (.string f) := cell_at (FXx11.out _ HK12.out) 1 _ rfl
            have x2 : w12.cell? ⟨bx, 2, none⟩ = some (.slice Ax ([] : List ByteArray).length cx) := cell_at (FXx11.out _ HK12.out) 2 _ rfl
            have x3 : w12.cell? ⟨bx, 3, none⟩ = some (.string Sm.e0) := cell_at (FXx11.out _ HK12.out) 3 _ rfl
            have yy0 : w12.cell? ⟨byy, 0, none⟩ = some (.int .i64 st) := cell_at (FXyy11.out _ HK12.out) 0 _ rfl
            have yy1 : w12.cell? ⟨byy, 1, none⟩ = some (.string f) := cell_at (FXyy11.out _ HK12.out) 1 _ rfl
            have yy2 : w12.cell? ⟨byy, 2, none⟩ = some (.slice Ay us.length cy) := cell_at (FXyy11.out _ HK12.out) 2 _ rfl
            have yy3 : w12.cell? ⟨byy, 3, none⟩ = some (.string t) := cell_at (FXyy11.out _ HK12.out) 3 _ rfl
            clear d0 d1 d2 d3 l0 l1 l2 l3 m0 m1 m2 m3 x0 x1 x2 x3 yy0 yy1 yy2 yy3
            have hx := heap_alloc_new w12 (.cells #[.int .i64 st, .string f, .slice Ac us.length cc, .string t] 36)
            have hE := Below.alloc (Below.refl w12.heap.size w12) (Nat.le_refl _) (.cells #[.int .i64 st, .string f, .slice Ac us.length cc, .string t] 36)
            have hs : w12.heap.size < (w12.alloc (.cells #[.int .i64 st, .string f, .slice Ac us.length cc, .string t] 36)).heap.size := by simp
            go_upto_region 11 with fail
            generalize w12.alloc (.cells #[.int .i64 st, .string f, .slice Ac us.length cc, .string t] 36) = w13 at hx hE hs ⊢
            obtain ⟨bc, hbb⟩ : ∃ b, b = w12.heap.size := ⟨_, rfl⟩
            rw [← hbb] at hx hs ⊢
            have hltdc : bd < bc := by have := (Array.getElem?_eq_some_iff.1 (FXd11.out _ HK12.out)).1; omega
            have hltlc : bl < bc := by have := (Array.getElem?_eq_some_iff.1 (FXl11.out _ HK12.out)).1; omega
            have hltmc : bm < bc := by have := (Array.getElem?_eq_some_iff.1 (FXm11.out _ HK12.out)).1; omega
            have hltxc : bx < bc := by have := (Array.getElem?_eq_some_iff.1 (FXx11.out _ HK12.out)).1; omega
            have hltyyc : byy < bc := by have := (Array.getElem?_eq_some_iff.1 (FXyy11.out _ HK12.out)).1; omega
            have HK13 := Lib.hid (HK12.out.trans (hE.mono HK12.out.size))
            have FXc13 : Hid (∀ w', Below w13.heap.size w13 w' → w'.heap[bc]? = some (.cells #[.int .i64 st, .string f, .slice Ac us.length cc, .string t] 36 (0, 0))) := Lib.hid (fun w' hb => (hb.block _ hs).trans hx)
            have FAC13 : Hid (∀ w', Below w13.heap.size w13 w' → AtStrs w' w'.heap.size Ac us) := Lib.hid (fun w' hb => (((hatc.below hE).mono hE.size).below hb).mono hb.size)
            clear hx hE hs hbb
            have FU13 := Lib.hid (fun w' (hb : Below w13.heap.size w13 w') => FU11.out w' (HK13.out.trans (hb.mono HK13.out.size)))
            have FM13 := Lib.hid (fun w' (hb : Below w13.heap.size w13 w') => FM11.out w' (HK13.out.trans (hb.mono HK13.out.size)))
            have FB13 := Lib.hid (fun w' (hb : Below w13.heap.size w13 w') => FB11.out w' (HK13.out.trans (hb.mono HK13.out.size)))
            have FXd13 := Lib.hid (fun w' (hb : Below w13.heap.size w13 w') => FXd11.out w' (HK13.out.trans (hb.mono HK13.out.size)))
            have FXl13 := Lib.hid (fun w' (hb : Below w13.heap.size w13 w') => FXl11.out w' (HK13.out.trans (hb.mono HK13.out.size)))
            have FXm13 := Lib.hid (fun w' (hb : Below w13.heap.size w13 w') => FXm11.out w' (HK13.out.trans (hb.mono HK13.out.size)))
            have FXx13 := Lib.hid (fun w' (hb : Below w13.heap.size w13 w') => FXx11.out w' (HK13.out.trans (hb.mono HK13.out.size)))
            have FXyy13 := Lib.hid (fun w' (hb : Below w13.heap.size w13 w') => FXyy11.out w' (HK13.out.trans (hb.mono HK13.out.size)))
            have FAA13 := Lib.hid (fun w' (hb : Below w13.heap.size w13 w') => FAA11.out w' (HK13.out.trans (hb.mono HK13.out.size)))
            have FAL13 := Lib.hid (fun w' (hb : Below w13.heap.size w13 w') => FAL11.out w' (HK13.out.trans (hb.mono HK13.out.size)))
            have FAM13 := Lib.hid (fun w' (hb : Below w13.heap.size w13 w') => FAM11.out w' (HK13.out.trans (hb.mono HK13.out.size)))
            have FAX13 := Lib.hid (fun w' (hb : Below w13.heap.size w13 w') => FAX11.out w' (HK13.out.trans (hb.mono HK13.out.size)))
            have FAY13 := Lib.hid (fun w' (hb : Below w13.heap.size w13 w') => FAY11.out w' (HK13.out.trans (hb.mono HK13.out.size)))
            have HKb : Hid (Below w13.heap.size w13 w13) := Lib.hid (Below.refl _ _)
            clear HK13
            have HK13 := HKb
            clear HKb
            have d0 : w13.cell? ⟨bd, 0, none⟩ = some (.int .i64 st) := cell_at (FXd13.out _ HK13.out) 0 _ rfl
            have d1 : w13.cell? ⟨bd, 1, none⟩ = some (.string f) := cell_at (FXd13.out _ HK13.out) 1 _ rfl
            have d2 : w13.cell? ⟨bd, 2, none⟩ = some (.slice A us.length c) := cell_at (FXd13.out _ HK13.out) 2 _ rfl
            have d3 : w13.cell? ⟨bd, 3, none⟩ = some (.string t) := cell_at (FXd13.out _ HK13.out) 3 _ rfl
            have l0 : w13.cell? ⟨bl, 0, none⟩ = some (.int .i64 so) := cell_at (FXl13.out _ HK13.out) 0 _ rfl
            have l1 : w13.cell? ⟨bl, 1, none⟩ = some (.string fo) := cell_at (FXl13.out _ HK13.out) 1 _ rfl
            have l2 : w13.cell? ⟨bl, 2, none⟩ = some (.slice Al uo.length cl) := cell_at (FXl13.out _ HK13.out) 2 _ rfl
            have l3 : w13.cell? ⟨bl, 3, none⟩ = some (.string to_) := cell_at (FXl13.out _ HK13.out) 3 _ rfl
            have m0 : w13.cell? ⟨bm, 0, none⟩ = some (.int .i64 so) := cell_at (FXm13.out _ HK13.out) 0 _ rfl
            have m1 : w13.cell? ⟨bm, 1, none⟩ = some (.string fo) := cell_at (FXm13.out _ HK13.out) 1 _ rfl
            have m2 : w13.cell? ⟨bm, 2, none⟩ = some (.slice Am uo.length cm) := cell_at (FXm13.out _ HK13.out) 2 _ rfl
            have m3 : w13.cell? ⟨bm, 3, none⟩ = some (.string to_) := cell_at (FXm13.out _ HK13.out) 3 _ rfl
            have x0 : w13.cell? ⟨bx, 0, none⟩ = some (.int .i64 3) := cell_at (FXx13.out _ HK13.out) 0 _ rfl
            have x1 : w13.cell? ⟨bx, 1, none⟩ = some (.string f) := cell_at (FXx13.out _ HK13.out) 1 _ rfl
            have x2 : w13.cell? ⟨bx, 2, none⟩ = some (.slice Ax ([] : List ByteArray).length cx) := cell_at (FXx13.out _ HK13.out) 2 _ rfl
            have x3 : w13.cell? ⟨bx, 3, none⟩ = some (.string Sm.e0) := cell_at (FXx13.out _ HK13.out) 3 _ rfl
            have yy0 : w13.cell? ⟨byy, 0, none⟩ = some (.int .i64 st) := cell_at (FXyy13.out _ HK13.out) 0 _ rfl
            have yy1 : w13.cell? ⟨byy, 1, none⟩ = some (.string f) := cell_at (FXyy13.out _ HK13.out) 1 _ rfl
            have yy2 : w13.cell? ⟨byy, 2, none⟩ = some (.slice Ay us.length cy) := cell_at (FXyy13.out _ HK13.out) 2 _ rfl
            have yy3 : w13.cell? ⟨byy, 3, none⟩ = some (.string t) := cell_at (FXyy13.out _ HK13.out) 3 _ rfl
            have c0 : w13.cell? ⟨bc, 0, none⟩ = some (.int .i64 st) := cell_at (FXc13.out _ HK13.out) 0 _ rfl
            have c1 : w13.cell? ⟨bc, 1, none⟩ = some (.string f) := cell_at (FXc13.out _ HK13.out) 1 _ rfl
            have c2 : w13.cell? ⟨bc, 2, none⟩ = some (.slice Ac us.length cc) := cell_at (FXc13.out _ HK13.out) 2 _ rfl
            have c3 : w13.cell? ⟨bc, 3, none⟩ = some (.string t) := cell_at (FXc13.out _ HK13.out) 3 _ rfl
            clear hatc
            go_wp2_with fail
            refine Calls.mono (iLine_any st f t A us c _ (FAA13.out _ HK13.out) hcap hcm hfm htm Au vs cu (FU13.out _ HK13.out) hvl d (ByteArray.mk #[77, 65, 73, 76, 32, 70, 82, 79, 77, 58, 60, 62]) hdz (by decide) m (FM13.out _ HK13.out) HRD.out) ?_
            rintro e w14 ⟨Ae, ce, rfl, hate, hke, hje, hb⟩
            clear d0 d1 d2 d3 l0 l1 l2 l3 m0 m1 m2 m3 x0 x1 x2 x3 yy0 yy1 yy2 yy3 c0 c1 c2 c3
            have HK14 := Lib.hid (HK13.out.trans (hb.mono HK13.out.size))
            clear hb
            have d0 : w14.cell? ⟨bd, 0, none⟩ = some (.int .i64 st) := cell_at (FXd13.out _ HK14.out) 0 _ rfl
            have d1 : w14.cell? ⟨bd, 1, none⟩ = some (.string f) := cell_at (FXd13.out _ HK14.out) 1 _ rfl
            have d2 : w14.cell? ⟨bd, 2, none⟩ = some (.slice A us.length c) := cell_at (FXd13.out _ HK14.out) 2 _ rfl
            have d3 : w14.cell? ⟨bd, 3, none⟩ = some (.string t) := cell_at (FXd13.out _ HK14.out) 3 _ rfl
            have l0 : w14.cell? ⟨bl, 0, none⟩ = some (.int .i64 so) := cell_at (FXl13.out _ HK14.out) 0 _ rfl
            have l1 : w14.cell? ⟨bl, 1, none⟩ = some (.string fo) := cell_at (FXl13.out _ HK14.out) 1 _ rfl
            have l2 : w14.cell? ⟨bl, 2, none⟩ = some (.slice Al uo.length cl) := cell_at (FXl13.out _ HK14.out) 2 _ rfl
            have l3 : w14.cell? ⟨bl, 3, none⟩ = some (.string to_) := cell_at (FXl13.out _ HK14.out) 3 _ rfl
            have m0 : w14.cell? ⟨bm, 0, none⟩ = some (.int .i64 so) := cell_at (FXm13.out _ HK14.out) 0 _ rfl
            have m1 : w14.cell? ⟨bm, 1, none⟩ = some (.string fo) := cell_at (FXm13.out _ HK14.out) 1 _ rfl
            have m2 : w14.cell? ⟨bm, 2, none⟩ = some (.slice Am uo.length cm) := cell_at (FXm13.out _ HK14.out) 2 _ rfl
            have m3 : w14.cell? ⟨bm, 3, none⟩ = some (.string to_) := cell_at (FXm13.out _ HK14.out) 3 _ rfl
            have x0 : w14.cell? ⟨bx, 0, none⟩ = some (.int .i64 3) := cell_at (FXx13.out _ HK14.out) 0 _ rfl
            have x1 : w14.cell? ⟨bx, 1, none⟩ = some (.string f) := cell_at (FXx13.out _ HK14.out) 1 _ rfl
            have x2 : w14.cell? ⟨bx, 2, none⟩ = some (.slice Ax ([] : List ByteArray).length cx) := cell_at (FXx13.out _ HK14.out) 2 _ rfl
            have x3 : w14.cell? ⟨bx, 3, none⟩ = some (.string Sm.e0) := cell_at (FXx13.out _ HK14.out) 3 _ rfl
            have yy0 : w14.cell? ⟨byy, 0, none⟩ = some (.int .i64 st) := cell_at (FXyy13.out _ HK14.out) 0 _ rfl
            have yy1 : w14.cell? ⟨byy, 1, none⟩ = some (.string f) := cell_at (FXyy13.out _ HK14.out) 1 _ rfl
            have yy2 : w14.cell? ⟨byy, 2, none⟩ = some (.slice Ay us.length cy) := cell_at (FXyy13.out _ HK14.out) 2 _ rfl
            have yy3 : w14.cell? ⟨byy, 3, none⟩ = some (.string t) := cell_at (FXyy13.out _ HK14.out) 3 _ rfl
            have c0 : w14.cell? ⟨bc, 0, none⟩ = some (.int .i64 st) := cell_at (FXc13.out _ HK14.out) 0 _ rfl
            have c1 : w14.cell? ⟨bc, 1, none⟩ = some (.string f) := cell_at (FXc13.out _ HK14.out) 1 _ rfl
            have c2 : w14.cell? ⟨bc, 2, none⟩ = some (.slice Ac us.length cc) := cell_at (FXc13.out _ HK14.out) 2 _ rfl
            have c3 : w14.cell? ⟨bc, 3, none⟩ = some (.string t) := cell_at (FXc13.out _ HK14.out) 3 _ rfl
            clear d0 d1 d2 d3 l0 l1 l2 l3 m0 m1 m2 m3 x0 x1 x2 x3 yy0 yy1 yy2 yy3 c0 c1 c2 c3
            have hx := heap_alloc_new w14 (.cells #[.int .i64 st, .string f, .slice Ae us.length ce, .string t] 36)
            have hE := Below.alloc (Below.refl w14.heap.size w14) (Nat.le_refl _) (.cells #[.int .i64 st, .string f, .slice Ae us.length ce, .string t] 36)
            have hs : w14.heap.size < (w14.alloc (.cells #[.int .i64 st, .string f, .slice Ae us.length ce, .string t] 36)).heap.size := by simp
            go_upto_region 12 with fail
            generalize w14.alloc (.cells #[.int .i64 st, .string f, .slice Ae us.length ce, .string t] 36) = w15 at hx hE hs ⊢
            obtain ⟨be, hbb⟩ : ∃ b, b = w14.heap.size := ⟨_, rfl⟩
            rw [← hbb] at hx hs ⊢
            have hltde : bd < be := by have := (Array.getElem?_eq_some_iff.1 (FXd13.out _ HK14.out)).1; omega
            have hltle : bl < be := by have := (Array.getElem?_eq_some_iff.1 (FXl13.out _ HK14.out)).1; omega
            have hltme : bm < be := by have := (Array.getElem?_eq_some_iff.1 (FXm13.out _ HK14.out)).1; omega
            have hltxe : bx < be := by have := (Array.getElem?_eq_some_iff.1 (FXx13.out _ HK14.out)).1; omega
            have hltyye : byy < be := by have := (Array.getElem?_eq_some_iff.1 (FXyy13.out _ HK14.out)).1; omega
            have hltce : bc < be := by have := (Array.getElem?_eq_some_iff.1 (FXc13.out _ HK14.out)).1; omega
            have HK15 := Lib.hid (HK14.out.trans (hE.mono HK14.out.size))
            have FXe15 : Hid (∀ w', Below w15.heap.size w15 w' → w'.heap[be]? = some (.cells #[.int .i64 st, .string f, .slice Ae us.length ce, .string t] 36 (0, 0))) := Lib.hid (fun w' hb => (hb.block _ hs).trans hx)
            have FAE15 : Hid (∀ w', Below w15.heap.size w15 w' → AtStrs w' w'.heap.size Ae us) := Lib.hid (fun w' hb => (((hate.below hE).mono hE.size).below hb).mono hb.size)
            clear hx hE hs hbb
            have FU15 := Lib.hid (fun w' (hb : Below w15.heap.size w15 w') => FU13.out w' (HK15.out.trans (hb.mono HK15.out.size)))
            have FM15 := Lib.hid (fun w' (hb : Below w15.heap.size w15 w') => FM13.out w' (HK15.out.trans (hb.mono HK15.out.size)))
            have FB15 := Lib.hid (fun w' (hb : Below w15.heap.size w15 w') => FB13.out w' (HK15.out.trans (hb.mono HK15.out.size)))
            have FXd15 := Lib.hid (fun w' (hb : Below w15.heap.size w15 w') => FXd13.out w' (HK15.out.trans (hb.mono HK15.out.size)))
            have FXl15 := Lib.hid (fun w' (hb : Below w15.heap.size w15 w') => FXl13.out w' (HK15.out.trans (hb.mono HK15.out.size)))
            have FXm15 := Lib.hid (fun w' (hb : Below w15.heap.size w15 w') => FXm13.out w' (HK15.out.trans (hb.mono HK15.out.size)))
            have FXx15 := Lib.hid (fun w' (hb : Below w15.heap.size w15 w') => FXx13.out w' (HK15.out.trans (hb.mono HK15.out.size)))
            have FXyy15 := Lib.hid (fun w' (hb : Below w15.heap.size w15 w') => FXyy13.out w' (HK15.out.trans (hb.mono HK15.out.size)))
            have FXc15 := Lib.hid (fun w' (hb : Below w15.heap.size w15 w') => FXc13.out w' (HK15.out.trans (hb.mono HK15.out.size)))
            have FAA15 := Lib.hid (fun w' (hb : Below w15.heap.size w15 w') => FAA13.out w' (HK15.out.trans (hb.mono HK15.out.size)))
            have FAL15 := Lib.hid (fun w' (hb : Below w15.heap.size w15 w') => FAL13.out w' (HK15.out.trans (hb.mono HK15.out.size)))
            have FAM15 := Lib.hid (fun w' (hb : Below w15.heap.size w15 w') => FAM13.out w' (HK15.out.trans (hb.mono HK15.out.size)))
            have FAX15 := Lib.hid (fun w' (hb : Below w15.heap.size w15 w') => FAX13.out w' (HK15.out.trans (hb.mono HK15.out.size)))
            have FAY15 := Lib.hid (fun w' (hb : Below w15.heap.size w15 w') => FAY13.out w' (HK15.out.trans (hb.mono HK15.out.size)))
            have FAC15 := Lib.hid (fun w' (hb : Below w15.heap.size w15 w') => FAC13.out w' (HK15.out.trans (hb.mono HK15.out.size)))
            have HKb : Hid (Below w15.heap.size w15 w15) := Lib.hid (Below.refl _ _)
            clear HK15
            have HK15 := HKb
            clear HKb
            have d0 : w15.cell? ⟨bd, 0, none⟩ = some (.int .i64 st) := cell_at (FXd15.out _ HK15.out) 0 _ rfl
            have d1 : w15.cell? ⟨bd, 1, none⟩ = some (.string f) := cell_at (FXd15.out _ HK15.out) 1 _ rfl
            have d2 : w15.cell? ⟨bd, 2, none⟩ = some (.slice A us.length c) := cell_at (FXd15.out _ HK15.out) 2 _ rfl
            have d3 : w15.cell? ⟨bd, 3, none⟩ = some (.string t) := cell_at (FXd15.out _ HK15.out) 3 _ rfl
            have l0 : w15.cell? ⟨bl, 0, none⟩ = some (.int .i64 so) := cell_at (FXl15.out _ HK15.out) 0 _ rfl
            have l1 : w15.cell? ⟨bl, 1, none⟩ = some (.string fo) := cell_at (FXl15.out _ HK15.out) 1 _ rfl
            have l2 : w15.cell? ⟨bl, 2, none⟩ = some (.slice Al uo.length cl) := cell_at (FXl15.out _ HK15.out) 2 _ rfl
            have l3 : w15.cell? ⟨bl, 3, none⟩ = some (.string to_) := cell_at (FXl15.out _ HK15.out) 3 _ rfl
            have m0 : w15.cell? ⟨bm, 0, none⟩ = some (.int .i64 so) := cell_at (FXm15.out _ HK15.out) 0 _ rfl
            have m1 : w15.cell? ⟨bm, 1, none⟩ = some (.string fo) := cell_at (FXm15.out _ HK15.out) 1 _ rfl
            have m2 : w15.cell? ⟨bm, 2, none⟩ = some (.slice Am uo.length cm) := cell_at (FXm15.out _ HK15.out) 2 _ rfl
            have m3 : w15.cell? ⟨bm, 3, none⟩ = some (.string to_) := cell_at (FXm15.out _ HK15.out) 3 _ rfl
            have x0 : w15.cell? ⟨bx, 0, none⟩ = some (.int .i64 3) := cell_at (FXx15.out _ HK15.out) 0 _ rfl
            have x1 : w15.cell? ⟨bx, 1, none⟩ = some (.string f) := cell_at (FXx15.out _ HK15.out) 1 _ rfl
            have x2 : w15.cell? ⟨bx, 2, none⟩ = some (.slice Ax ([] : List ByteArray).length cx) := cell_at (FXx15.out _ HK15.out) 2 _ rfl
            have x3 : w15.cell? ⟨bx, 3, none⟩ = some (.string Sm.e0) := cell_at (FXx15.out _ HK15.out) 3 _ rfl
            have yy0 : w15.cell? ⟨byy, 0, none⟩ = some (.int .i64 st) := cell_at (FXyy15.out _ HK15.out) 0 _ rfl
            have yy1 : w15.cell? ⟨byy, 1, none⟩ = some (.string f) := cell_at (FXyy15.out _ HK15.out) 1 _ rfl
            have yy2 : w15.cell? ⟨byy, 2, none⟩ = some (.slice Ay us.length cy) := cell_at (FXyy15.out _ HK15.out) 2 _ rfl
            have yy3 : w15.cell? ⟨byy, 3, none⟩ = some (.string t) := cell_at (FXyy15.out _ HK15.out) 3 _ rfl
            have c0 : w15.cell? ⟨bc, 0, none⟩ = some (.int .i64 st) := cell_at (FXc15.out _ HK15.out) 0 _ rfl
            have c1 : w15.cell? ⟨bc, 1, none⟩ = some (.string f) := cell_at (FXc15.out _ HK15.out) 1 _ rfl
            have c2 : w15.cell? ⟨bc, 2, none⟩ = some (.slice Ac us.length cc) := cell_at (FXc15.out _ HK15.out) 2 _ rfl
            have c3 : w15.cell? ⟨bc, 3, none⟩ = some (.string t) := cell_at (FXc15.out _ HK15.out) 3 _ rfl
            have e0 : w15.cell? ⟨be, 0, none⟩ = some (.int .i64 st) := cell_at (FXe15.out _ HK15.out) 0 _ rfl
            have e1 : w15.cell? ⟨be, 1, none⟩ = some (.string f) := cell_at (FXe15.out _ HK15.out) 1 _ rfl
            have e2 : w15.cell? ⟨be, 2, none⟩ = some (.slice Ae us.length ce) := cell_at (FXe15.out _ HK15.out) 2 _ rfl
            have e3 : w15.cell? ⟨be, 3, none⟩ = some (.string t) := cell_at (FXe15.out _ HK15.out) 3 _ rfl
            clear hate
            go_wp2_with fail
            refine Calls.mono (sameSub_any st f t Ay A us cy c _ (FAY15.out _ HK15.out) (FAA15.out _ HK15.out) hul) ?_
            rintro e w16 ⟨rfl, hb⟩
            clear d0 d1 d2 d3 l0 l1 l2 l3 m0 m1 m2 m3 x0 x1 x2 x3 yy0 yy1 yy2 yy3 c0 c1 c2 c3 e0 e1 e2 e3
            have HK16 := Lib.hid (HK15.out.trans (hb.mono HK15.out.size))
            clear hb
            have d0 : w16.cell? ⟨bd, 0, none⟩ = some (.int .i64 st) := cell_at (FXd15.out _ HK16.out) 0 _ rfl
            have d1 : w16.cell? ⟨bd, 1, none⟩ = some (.string f) := cell_at (FXd15.out _ HK16.out) 1 _ rfl
            have d2 : w16.cell? ⟨bd, 2, none⟩ = some (.slice A us.length c) := cell_at (FXd15.out _ HK16.out) 2 _ rfl
            have d3 : w16.cell? ⟨bd, 3, none⟩ = some (.string t) := cell_at (FXd15.out _ HK16.out) 3 _ rfl
            have l0 : w16.cell? ⟨bl, 0, none⟩ = some (.int .i64 so) := cell_at (FXl15.out _ HK16.out) 0 _ rfl
            have l1 : w16.cell? ⟨bl, 1, none⟩ = some (.string fo) := cell_at (FXl15.out _ HK16.out) 1 _ rfl
            have l2 : w16.cell? ⟨bl, 2, none⟩ = some (.slice Al uo.length cl) := cell_at (FXl15.out _ HK16.out) 2 _ rfl
            have l3 : w16.cell? ⟨bl, 3, none⟩ = some (.string to_) := cell_at (FXl15.out _ HK16.out) 3 _ rfl
            have m0 : w16.cell? ⟨bm, 0, none⟩ = some (.int .i64 so) := cell_at (FXm15.out _ HK16.out) 0 _ rfl
            have m1 : w16.cell? ⟨bm, 1, none⟩ = some (.string fo) := cell_at (FXm15.out _ HK16.out) 1 _ rfl
            have m2 : w16.cell? ⟨bm, 2, none⟩ = some (.slice Am uo.length cm) := cell_at (FXm15.out _ HK16.out) 2 _ rfl
            have m3 : w16.cell? ⟨bm, 3, none⟩ = some (.string to_) := cell_at (FXm15.out _ HK16.out) 3 _ rfl
            have x0 : w16.cell? ⟨bx, 0, none⟩ = some (.int .i64 3) := cell_at (FXx15.out _ HK16.out) 0 _ rfl
            have x1 : w16.cell? ⟨bx, 1, none⟩ = some (.string f) := cell_at (FXx15.out _ HK16.out) 1 _ rfl
            have x2 : w16.cell? ⟨bx, 2, none⟩ = some (.slice Ax ([] : List ByteArray).length cx) := cell_at (FXx15.out _ HK16.out) 2 _ rfl
            have x3 : w16.cell? ⟨bx, 3, none⟩ = some (.string Sm.e0) := cell_at (FXx15.out _ HK16.out) 3 _ rfl
            have yy0 : w16.cell? ⟨byy, 0, none⟩ = some (.int .i64 st) := cell_at (FXyy15.out _ HK16.out) 0 _ rfl
            have yy1 : w16.cell? ⟨byy, 1, none⟩ = some (.string f) := cell_at (FXyy15.out _ HK16.out) 1 _ rfl
            have yy2 : w16.cell? ⟨byy, 2, none⟩ = some (.slice Ay us.length cy) := cell_at (FXyy15.out _ HK16.out) 2 _ rfl
            have yy3 : w16.cell? ⟨byy, 3, none⟩ = some (.string t) := cell_at (FXyy15.out _ HK16.out) 3 _ rfl
            have c0 : w16.cell? ⟨bc, 0, none⟩ = some (.int .i64 st) := cell_at (FXc15.out _ HK16.out) 0 _ rfl
            have c1 : w16.cell? ⟨bc, 1, none⟩ = some (.string f) := cell_at (FXc15.out _ HK16.out) 1 _ rfl
            have c2 : w16.cell? ⟨bc, 2, none⟩ = some (.slice Ac us.length cc) := cell_at (FXc15.out _ HK16.out) 2 _ rfl
            have c3 : w16.cell? ⟨bc, 3, none⟩ = some (.string t) := cell_at (FXc15.out _ HK16.out) 3 _ rfl
            have e0 : w16.cell? ⟨be, 0, none⟩ = some (.int .i64 st) := cell_at (FXe15.out _ HK16.out) 0 _ rfl
            have e1 : w16.cell? ⟨be, 1, none⟩ = some (.string f) := cell_at (FXe15.out _ HK16.out) 1 _ rfl
            have e2 : w16.cell? ⟨be, 2, none⟩ = some (.slice Ae us.length ce) := cell_at (FXe15.out _ HK16.out) 2 _ rfl
            have e3 : w16.cell? ⟨be, 3, none⟩ = some (.string t) := cell_at (FXe15.out _ HK16.out) 3 _ rfl
            go_wp2_with fail
            refine Calls.mono (sameSub_any 3 f Sm.e0 Ax none [] cx 0 _ (FAX15.out _ HK16.out) at_none (Nat.zero_le _)) ?_
            rintro e w17 ⟨rfl, hb⟩
            clear d0 d1 d2 d3 l0 l1 l2 l3 m0 m1 m2 m3 x0 x1 x2 x3 yy0 yy1 yy2 yy3 c0 c1 c2 c3 e0 e1 e2 e3
            have HK17 := Lib.hid (HK16.out.trans (hb.mono HK16.out.size))
            clear hb
            have d0 : w17.cell? ⟨bd, 0, none⟩ = some (.int .i64 st) := cell_at (FXd15.out _ HK17.out) 0 _ rfl
            have d1 : w17.cell? ⟨bd, 1, none⟩ = some (.string f) := cell_at (FXd15.out _ HK17.out) 1 _ rfl
            have d2 : w17.cell? ⟨bd, 2, none⟩ = some (.slice A us.length c) := cell_at (FXd15.out _ HK17.out) 2 _ rfl
            have d3 : w17.cell? ⟨bd, 3, none⟩ = some (.string t) := cell_at (FXd15.out _ HK17.out) 3 _ rfl
            have l0 : w17.cell? ⟨bl, 0, none⟩ = some (.int .i64 so) := cell_at (FXl15.out _ HK17.out) 0 _ rfl
            have l1 : w17.cell? ⟨bl, 1, none⟩ = some (.string fo) := cell_at (FXl15.out _ HK17.out) 1 _ rfl
            have l2 : w17.cell? ⟨bl, 2, none⟩ = some (.slice Al uo.length cl) := cell_at (FXl15.out _ HK17.out) 2 _ rfl
            have l3 : w17.cell? ⟨bl, 3, none⟩ = some (.string to_) := cell_at (FXl15.out _ HK17.out) 3 _ rfl
            have m0 : w17.cell? ⟨bm, 0, none⟩ = some (.int .i64 so) := cell_at (FXm15.out _ HK17.out) 0 _ rfl
            have m1 : w17.cell? ⟨bm, 1, none⟩ = some (.string fo) := cell_at (FXm15.out _ HK17.out) 1 _ rfl
            have m2 : w17.cell? ⟨bm, 2, none⟩ = some (.slice Am uo.length cm) := cell_at (FXm15.out _ HK17.out) 2 _ rfl
            have m3 : w17.cell? ⟨bm, 3, none⟩ = some (.string to_) := cell_at (FXm15.out _ HK17.out) 3 _ rfl
            have x0 : w17.cell? ⟨bx, 0, none⟩ = some (.int .i64 3) := cell_at (FXx15.out _ HK17.out) 0 _ rfl
            have x1 : w17.cell? ⟨bx, 1, none⟩ = some (.string f) := cell_at (FXx15.out _ HK17.out) 1 _ rfl
            have x2 : w17.cell? ⟨bx, 2, none⟩ = some (.slice Ax ([] : List ByteArray).length cx) := cell_at (FXx15.out _ HK17.out) 2 _ rfl
            have x3 : w17.cell? ⟨bx, 3, none⟩ = some (.string Sm.e0) := cell_at (FXx15.out _ HK17.out) 3 _ rfl
            have yy0 : w17.cell? ⟨byy, 0, none⟩ = some (.int .i64 st) := cell_at (FXyy15.out _ HK17.out) 0 _ rfl
            have yy1 : w17.cell? ⟨byy, 1, none⟩ = some (.string f) := cell_at (FXyy15.out _ HK17.out) 1 _ rfl
            have yy2 : w17.cell? ⟨byy, 2, none⟩ = some (.slice Ay us.length cy) := cell_at (FXyy15.out _ HK17.out) 2 _ rfl
            have yy3 : w17.cell? ⟨byy, 3, none⟩ = some (.string t) := cell_at (FXyy15.out _ HK17.out) 3 _ rfl
            have c0 : w17.cell? ⟨bc, 0, none⟩ = some (.int .i64 st) := cell_at (FXc15.out _ HK17.out) 0 _ rfl
            have c1 : w17.cell? ⟨bc, 1, none⟩ = some (.string f) := cell_at (FXc15.out _ HK17.out) 1 _ rfl
            have c2 : w17.cell? ⟨bc, 2, none⟩ = some (.slice Ac us.length cc) := cell_at (FXc15.out _ HK17.out) 2 _ rfl
            have c3 : w17.cell? ⟨bc, 3, none⟩ = some (.string t) := cell_at (FXc15.out _ HK17.out) 3 _ rfl
            have e0 : w17.cell? ⟨be, 0, none⟩ = some (.int .i64 st) := cell_at (FXe15.out _ HK17.out) 0 _ rfl
            have e1 : w17.cell? ⟨be, 1, none⟩ = some (.string f) := cell_at (FXe15.out _ HK17.out) 1 _ rfl
            have e2 : w17.cell? ⟨be, 2, none⟩ = some (.slice Ae us.length ce) := cell_at (FXe15.out _ HK17.out) 2 _ rfl
            have e3 : w17.cell? ⟨be, 3, none⟩ = some (.string t) := cell_at (FXe15.out _ HK17.out) 3 _ rfl
            go_wp2_with fail
            go_ret
            exact ⟨rfl, (FB15.out _ HK17.out)⟩
      · have h2i : (st != 2) = true := by simpa using h2
        clear h2
        go_wp2_with fail
        refine Calls.mono (sameSub_any so fo to_ Al Am uo cl cm _ (FAL6.out _ HK7.out) (FAM6.out _ HK7.out) hulo) ?_
        rintro e w8 ⟨rfl, hb⟩
        clear d0 d1 d2 d3 l0 l1 l2 l3 m0 m1 m2 m3
        have HK8 := Lib.hid (HK7.out.trans (hb.mono HK7.out.size))
        clear hb
        have d0 : w8.cell? ⟨bd, 0, none⟩ = some (.int .i64 st) := cell_at (FXd6.out _ HK8.out) 0 _ rfl
        have d1 : w8.cell? ⟨bd, 1, none⟩ = some (.string f) := cell_at (FXd6.out _ HK8.out) 1 _ rfl
        have d2 : w8.cell? ⟨bd, 2, none⟩ = some (.slice A us.length c) := cell_at (FXd6.out _ HK8.out) 2 _ rfl
        have d3 : w8.cell? ⟨bd, 3, none⟩ = some (.string t) := cell_at (FXd6.out _ HK8.out) 3 _ rfl
        have l0 : w8.cell? ⟨bl, 0, none⟩ = some (.int .i64 so) := cell_at (FXl6.out _ HK8.out) 0 _ rfl
        have l1 : w8.cell? ⟨bl, 1, none⟩ = some (.string fo) := cell_at (FXl6.out _ HK8.out) 1 _ rfl
        have l2 : w8.cell? ⟨bl, 2, none⟩ = some (.slice Al uo.length cl) := cell_at (FXl6.out _ HK8.out) 2 _ rfl
        have l3 : w8.cell? ⟨bl, 3, none⟩ = some (.string to_) := cell_at (FXl6.out _ HK8.out) 3 _ rfl
        have m0 : w8.cell? ⟨bm, 0, none⟩ = some (.int .i64 so) := cell_at (FXm6.out _ HK8.out) 0 _ rfl
        have m1 : w8.cell? ⟨bm, 1, none⟩ = some (.string fo) := cell_at (FXm6.out _ HK8.out) 1 _ rfl
        have m2 : w8.cell? ⟨bm, 2, none⟩ = some (.slice Am uo.length cm) := cell_at (FXm6.out _ HK8.out) 2 _ rfl
        have m3 : w8.cell? ⟨bm, 3, none⟩ = some (.string to_) := cell_at (FXm6.out _ HK8.out) 3 _ rfl
        go_wp2_with fail
        go_ret
        exact ⟨rfl, (FB6.out _ HK8.out)⟩
    · have hno : no = -1 := by have := HR.out; rw [Sm.ans_bad hans] at this; injection this with _ this; exact this.symm
      have hneg : no < 0 := by omega
      clear hans hno
      go_wp2_with fail
      refine Calls.mono (sameSub_any so fo to_ Al Am uo cl cm _ (FAL6.out _ HK7.out) (FAM6.out _ HK7.out) hulo) ?_
      rintro e w8 ⟨rfl, hb⟩
      clear d0 d1 d2 d3 l0 l1 l2 l3 m0 m1 m2 m3
      have HK8 := Lib.hid (HK7.out.trans (hb.mono HK7.out.size))
      clear hb
      have d0 : w8.cell? ⟨bd, 0, none⟩ = some (.int .i64 st) := cell_at (FXd6.out _ HK8.out) 0 _ rfl
      have d1 : w8.cell? ⟨bd, 1, none⟩ = some (.string f) := cell_at (FXd6.out _ HK8.out) 1 _ rfl
      have d2 : w8.cell? ⟨bd, 2, none⟩ = some (.slice A us.length c) := cell_at (FXd6.out _ HK8.out) 2 _ rfl
      have d3 : w8.cell? ⟨bd, 3, none⟩ = some (.string t) := cell_at (FXd6.out _ HK8.out) 3 _ rfl
      have l0 : w8.cell? ⟨bl, 0, none⟩ = some (.int .i64 so) := cell_at (FXl6.out _ HK8.out) 0 _ rfl
      have l1 : w8.cell? ⟨bl, 1, none⟩ = some (.string fo) := cell_at (FXl6.out _ HK8.out) 1 _ rfl
      have l2 : w8.cell? ⟨bl, 2, none⟩ = some (.slice Al uo.length cl) := cell_at (FXl6.out _ HK8.out) 2 _ rfl
      have l3 : w8.cell? ⟨bl, 3, none⟩ = some (.string to_) := cell_at (FXl6.out _ HK8.out) 3 _ rfl
      have m0 : w8.cell? ⟨bm, 0, none⟩ = some (.int .i64 so) := cell_at (FXm6.out _ HK8.out) 0 _ rfl
      have m1 : w8.cell? ⟨bm, 1, none⟩ = some (.string fo) := cell_at (FXm6.out _ HK8.out) 1 _ rfl
      have m2 : w8.cell? ⟨bm, 2, none⟩ = some (.slice Am uo.length cm) := cell_at (FXm6.out _ HK8.out) 2 _ rfl
      have m3 : w8.cell? ⟨bm, 3, none⟩ = some (.string to_) := cell_at (FXm6.out _ HK8.out) 3 _ rfl
      go_wp2_with fail
      go_ret
      exact ⟨rfl, (FB6.out _ HK8.out)⟩
  · have hbi : (1048576 : Int) < (len : Int) := by omega
    go_enter Tryz.func8, Tryz.ntmps8
    go_wp2_with fail
    go_ret
    exact ⟨rfl, Below.refl _ _⟩
end Go.Proofs.YtnbggmmghopphaaGreatDoor
