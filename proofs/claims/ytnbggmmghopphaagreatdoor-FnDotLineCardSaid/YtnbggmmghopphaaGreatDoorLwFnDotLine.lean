/- FnDotLine: the walk. (Printed by mklw.py.) -/
import Derived.Test.YtnbggmmghopphaaGreatDoorSmUu
import Derived.Test.YtnbggmmghopphaaGreatDoorLwPl
import Derived.Test.YtnbggmmghopphaaGreatDoorLwKn
import Derived.Test.YtnbggmmghopphaaGreatDoorLwOw
import Derived.Deep.RegionHeld3
import Derived.Deep.DeepCutAuto
namespace Go.Proofs.YtnbggmmghopphaaGreatDoor
set_option linter.unusedVariables false
open Go.RowKit
open Us (U)

set_option maxRecDepth 100000 in
set_option maxHeartbeats 6400000 in
theorem walkFnDotLine (a : Option Addr) (len cap : Nat) (w : World) (h : Bytes w a len cap) (m : Int) (hm : w.cell? ⟨0, 0, none⟩ = some (.int .i64 m)) :
    Calls Tryz.prog 7 #[.slice a len cap] w fun e w' => e = .returned (.bool true) ∧ Below w.heap.size w w' := by
  by_cases hbig : len ≤ 1048576
  · have hbi : ¬ (1048576 : Int) < (len : Int) := by omega
    have hpos := Po.base_pos hm
    go_enter Tryz.func7, Tryz.ntmps7
    go_wp2_with fail
    refine Calls.mono (drawSubmissionLine_any a len cap _ h) ?_
    rintro e w1 ⟨st, f, A, us, c, t, Au, vs, cu, d, l, hsm, hcap, hcm, hsv, hds, hls, rfl, hat, hau, hb1⟩
    have hfm := (Sm.small_max hsm).1
    have htm := (Sm.small_max hsm).2.1
    have hul := Sm.small_len hsm
    dsimp only at hfm htm hul
    have hvl : vs.length ≤ maxLen := small_len hsv
    have hdz : d.size ≤ 16777216 := by omega
    have hlz : l.size ≤ 16777216 := by omega
    have FU1 : Hid (∀ w', Below w1.heap.size w1 w' → AtUsers w' w'.heap.size Au vs) := Lib.hid (fun w' hb => ((at_users hau (small_sizes hsv)).below hb).mono hb.size)
    have FM1 : Hid (∀ w', Below w1.heap.size w1 w' → w'.cell? ⟨0, 0, none⟩ = some (.int .i64 m)) := Lib.hid (fun w' hb => Po.mem (hb1.trans (hb.mono hb1.size)) hm hpos)
    have FB1 : Hid (∀ w', Below w1.heap.size w1 w' → Below w.heap.size w w') := Lib.hid (fun w' hb => hb1.trans (hb.mono hb1.size))
    have FAA1 : Hid (∀ w', Below w1.heap.size w1 w' → AtStrs w' w'.heap.size A us) := Lib.hid (fun w' hb => (hat.below hb).mono hb.size)
    have HK1 : Hid (Below w1.heap.size w1 w1) := Lib.hid (Below.refl _ _)
    have HSM := Lib.hid hsm
    clear hat hau hb1 hm h hsm
    have hx := heap_alloc_new w1 (.cells #[.int .i64 st, .string f, .slice A us.length c, .string t] 36)
    have hE := Below.alloc (Below.refl w1.heap.size w1) (Nat.le_refl _) (.cells #[.int .i64 st, .string f, .slice A us.length c, .string t] 36)
    have hs : w1.heap.size < (w1.alloc (.cells #[.int .i64 st, .string f, .slice A us.length c, .string t] 36)).heap.size := by simp
    go_upto_region 4 with fail
    generalize w1.alloc (.cells #[.int .i64 st, .string f, .slice A us.length c, .string t] 36) = w2 at hx hE hs ⊢
    obtain ⟨bd, hbb⟩ : ∃ b, b = w1.heap.size := ⟨_, rfl⟩
    rw [← hbb] at hx hs ⊢
    have HK2 := Lib.hid (HK1.out.trans (hE.mono HK1.out.size))
    have FXd2 : Hid (∀ w', Below w2.heap.size w2 w' → w'.heap[bd]? = some (.cells #[.int .i64 st, .string f, .slice A us.length c, .string t] 36 (0, 0))) := Lib.hid (fun w' hb => (hb.block _ hs).trans hx)
    clear hx hE hs hbb
    have FU2 := Lib.hid (fun w' (hb : Below w2.heap.size w2 w') => FU1.out w' (HK2.out.trans (hb.mono HK2.out.size)))
    have FM2 := Lib.hid (fun w' (hb : Below w2.heap.size w2 w') => FM1.out w' (HK2.out.trans (hb.mono HK2.out.size)))
    have FB2 := Lib.hid (fun w' (hb : Below w2.heap.size w2 w') => FB1.out w' (HK2.out.trans (hb.mono HK2.out.size)))
    have FAA2 := Lib.hid (fun w' (hb : Below w2.heap.size w2 w') => FAA1.out w' (HK2.out.trans (hb.mono HK2.out.size)))
    have HKb : Hid (Below w2.heap.size w2 w2) := Lib.hid (Below.refl _ _)
    clear HK2
    have HK2 := HKb
    clear HKb
    have d0 : w2.cell? ⟨bd, 0, none⟩ = some (.int .i64 st) := cell_at (FXd2.out _ HK2.out) 0 _ rfl
    have d1 : w2.cell? ⟨bd, 1, none⟩ = some (.string f) := cell_at (FXd2.out _ HK2.out) 1 _ rfl
    have d2 : w2.cell? ⟨bd, 2, none⟩ = some (.slice A us.length c) := cell_at (FXd2.out _ HK2.out) 2 _ rfl
    have d3 : w2.cell? ⟨bd, 3, none⟩ = some (.string t) := cell_at (FXd2.out _ HK2.out) 3 _ rfl
    obtain ⟨R, hR⟩ : ∃ R, R = Sm.ans vs d ⟨st, f, us, t⟩ l := ⟨_, rfl⟩
    obtain ⟨⟨so, fo, uo, to_⟩, no⟩ := R
    have HR := Lib.hid hR.symm
    have hulo : uo.length ≤ maxLen := by have := (Sm.ans_sizes vs d ⟨st, f, us, t⟩ l).1; rw [← hR] at this; unfold maxLen; dsimp only at this; omega
    have hfo : fo.size ≤ maxLen := by have := (Sm.ans_sizes vs d ⟨st, f, us, t⟩ l).2.2.1; rw [← hR] at this; exact this
    have hto : to_.size ≤ maxLen := by have := (Sm.ans_sizes vs d ⟨st, f, us, t⟩ l).2.2.2; rw [← hR] at this; exact this
    clear hR
    go_wp2_with fail
    refine Calls.mono (iLine_any st f t A us c _ (FAA2.out _ HK2.out) hcap hcm hfm htm Au vs cu (FU2.out _ HK2.out) hvl d l hdz hlz m (FM2.out _ HK2.out) HR.out) ?_
    rintro e w3 ⟨Al, cl, rfl, hatl, hkl, hjl, hb⟩
    clear d0 d1 d2 d3
    have HK3 := Lib.hid (HK2.out.trans (hb.mono HK2.out.size))
    clear hb
    have d0 : w3.cell? ⟨bd, 0, none⟩ = some (.int .i64 st) := cell_at (FXd2.out _ HK3.out) 0 _ rfl
    have d1 : w3.cell? ⟨bd, 1, none⟩ = some (.string f) := cell_at (FXd2.out _ HK3.out) 1 _ rfl
    have d2 : w3.cell? ⟨bd, 2, none⟩ = some (.slice A us.length c) := cell_at (FXd2.out _ HK3.out) 2 _ rfl
    have d3 : w3.cell? ⟨bd, 3, none⟩ = some (.string t) := cell_at (FXd2.out _ HK3.out) 3 _ rfl
    clear d0 d1 d2 d3
    have hx := heap_alloc_new w3 (.cells #[.int .i64 so, .string fo, .slice Al uo.length cl, .string to_] 36)
    have hE := Below.alloc (Below.refl w3.heap.size w3) (Nat.le_refl _) (.cells #[.int .i64 so, .string fo, .slice Al uo.length cl, .string to_] 36)
    have hs : w3.heap.size < (w3.alloc (.cells #[.int .i64 so, .string fo, .slice Al uo.length cl, .string to_] 36)).heap.size := by simp
    go_upto_region 5 with fail
    generalize w3.alloc (.cells #[.int .i64 so, .string fo, .slice Al uo.length cl, .string to_] 36) = w4 at hx hE hs ⊢
    obtain ⟨bl, hbb⟩ : ∃ b, b = w3.heap.size := ⟨_, rfl⟩
    rw [← hbb] at hx hs ⊢
    have hltdl : bd < bl := by have := (Array.getElem?_eq_some_iff.1 (FXd2.out _ HK3.out)).1; omega
    have HK4 := Lib.hid (HK3.out.trans (hE.mono HK3.out.size))
    have FXl4 : Hid (∀ w', Below w4.heap.size w4 w' → w'.heap[bl]? = some (.cells #[.int .i64 so, .string fo, .slice Al uo.length cl, .string to_] 36 (0, 0))) := Lib.hid (fun w' hb => (hb.block _ hs).trans hx)
    have FAL4 : Hid (∀ w', Below w4.heap.size w4 w' → AtStrs w' w'.heap.size Al uo) := Lib.hid (fun w' hb => (((hatl.below hE).mono hE.size).below hb).mono hb.size)
    clear hx hE hs hbb
    have FU4 := Lib.hid (fun w' (hb : Below w4.heap.size w4 w') => FU2.out w' (HK4.out.trans (hb.mono HK4.out.size)))
    have FM4 := Lib.hid (fun w' (hb : Below w4.heap.size w4 w') => FM2.out w' (HK4.out.trans (hb.mono HK4.out.size)))
    have FB4 := Lib.hid (fun w' (hb : Below w4.heap.size w4 w') => FB2.out w' (HK4.out.trans (hb.mono HK4.out.size)))
    have FXd4 := Lib.hid (fun w' (hb : Below w4.heap.size w4 w') => FXd2.out w' (HK4.out.trans (hb.mono HK4.out.size)))
    have FAA4 := Lib.hid (fun w' (hb : Below w4.heap.size w4 w') => FAA2.out w' (HK4.out.trans (hb.mono HK4.out.size)))
    have HKb : Hid (Below w4.heap.size w4 w4) := Lib.hid (Below.refl _ _)
    clear HK4
    have HK4 := HKb
    clear HKb
    have d0 : w4.cell? ⟨bd, 0, none⟩ = some (.int .i64 st) := cell_at (FXd4.out _ HK4.out) 0 _ rfl
    have d1 : w4.cell? ⟨bd, 1, none⟩ = some (.string f) := cell_at (FXd4.out _ HK4.out) 1 _ rfl
    have d2 : w4.cell? ⟨bd, 2, none⟩ = some (.slice A us.length c) := cell_at (FXd4.out _ HK4.out) 2 _ rfl
    have d3 : w4.cell? ⟨bd, 3, none⟩ = some (.string t) := cell_at (FXd4.out _ HK4.out) 3 _ rfl
    have l0 : w4.cell? ⟨bl, 0, none⟩ = some (.int .i64 so) := cell_at (FXl4.out _ HK4.out) 0 _ rfl
    have l1 : w4.cell? ⟨bl, 1, none⟩ = some (.string fo) := cell_at (FXl4.out _ HK4.out) 1 _ rfl
    have l2 : w4.cell? ⟨bl, 2, none⟩ = some (.slice Al uo.length cl) := cell_at (FXl4.out _ HK4.out) 2 _ rfl
    have l3 : w4.cell? ⟨bl, 3, none⟩ = some (.string to_) := cell_at (FXl4.out _ HK4.out) 3 _ rfl
    clear hatl
    go_wp2_with fail
    refine Calls.mono (sLine_any st f t A us c _ (FAA4.out _ HK4.out) hcap hcm hfm htm Au vs cu (FU4.out _ HK4.out) hvl d l hdz hlz HR.out) ?_
    rintro e w5 ⟨Am, cm, rfl, hatm, hkm, hjm, hb⟩
    clear d0 d1 d2 d3 l0 l1 l2 l3
    have HK5 := Lib.hid (HK4.out.trans (hb.mono HK4.out.size))
    clear hb
    have d0 : w5.cell? ⟨bd, 0, none⟩ = some (.int .i64 st) := cell_at (FXd4.out _ HK5.out) 0 _ rfl
    have d1 : w5.cell? ⟨bd, 1, none⟩ = some (.string f) := cell_at (FXd4.out _ HK5.out) 1 _ rfl
    have d2 : w5.cell? ⟨bd, 2, none⟩ = some (.slice A us.length c) := cell_at (FXd4.out _ HK5.out) 2 _ rfl
    have d3 : w5.cell? ⟨bd, 3, none⟩ = some (.string t) := cell_at (FXd4.out _ HK5.out) 3 _ rfl
    have l0 : w5.cell? ⟨bl, 0, none⟩ = some (.int .i64 so) := cell_at (FXl4.out _ HK5.out) 0 _ rfl
    have l1 : w5.cell? ⟨bl, 1, none⟩ = some (.string fo) := cell_at (FXl4.out _ HK5.out) 1 _ rfl
    have l2 : w5.cell? ⟨bl, 2, none⟩ = some (.slice Al uo.length cl) := cell_at (FXl4.out _ HK5.out) 2 _ rfl
    have l3 : w5.cell? ⟨bl, 3, none⟩ = some (.string to_) := cell_at (FXl4.out _ HK5.out) 3 _ rfl
    clear d0 d1 d2 d3 l0 l1 l2 l3
    have hx := heap_alloc_new w5 (.cells #[.int .i64 so, .string fo, .slice Am uo.length cm, .string to_] 36)
    have hE := Below.alloc (Below.refl w5.heap.size w5) (Nat.le_refl _) (.cells #[.int .i64 so, .string fo, .slice Am uo.length cm, .string to_] 36)
    have hs : w5.heap.size < (w5.alloc (.cells #[.int .i64 so, .string fo, .slice Am uo.length cm, .string to_] 36)).heap.size := by simp
    go_upto_region 6 with fail
    generalize w5.alloc (.cells #[.int .i64 so, .string fo, .slice Am uo.length cm, .string to_] 36) = w6 at hx hE hs ⊢
    obtain ⟨bm, hbb⟩ : ∃ b, b = w5.heap.size := ⟨_, rfl⟩
    rw [← hbb] at hx hs ⊢
    have hltdm : bd < bm := by have := (Array.getElem?_eq_some_iff.1 (FXd4.out _ HK5.out)).1; omega
    have hltlm : bl < bm := by have := (Array.getElem?_eq_some_iff.1 (FXl4.out _ HK5.out)).1; omega
    have HK6 := Lib.hid (HK5.out.trans (hE.mono HK5.out.size))
    have FXm6 : Hid (∀ w', Below w6.heap.size w6 w' → w'.heap[bm]? = some (.cells #[.int .i64 so, .string fo, .slice Am uo.length cm, .string to_] 36 (0, 0))) := Lib.hid (fun w' hb => (hb.block _ hs).trans hx)
    have FAM6 : Hid (∀ w', Below w6.heap.size w6 w' → AtStrs w' w'.heap.size Am uo) := Lib.hid (fun w' hb => (((hatm.below hE).mono hE.size).below hb).mono hb.size)
    clear hx hE hs hbb
    have FU6 := Lib.hid (fun w' (hb : Below w6.heap.size w6 w') => FU4.out w' (HK6.out.trans (hb.mono HK6.out.size)))
    have FM6 := Lib.hid (fun w' (hb : Below w6.heap.size w6 w') => FM4.out w' (HK6.out.trans (hb.mono HK6.out.size)))
    have FB6 := Lib.hid (fun w' (hb : Below w6.heap.size w6 w') => FB4.out w' (HK6.out.trans (hb.mono HK6.out.size)))
    have FXd6 := Lib.hid (fun w' (hb : Below w6.heap.size w6 w') => FXd4.out w' (HK6.out.trans (hb.mono HK6.out.size)))
    have FXl6 := Lib.hid (fun w' (hb : Below w6.heap.size w6 w') => FXl4.out w' (HK6.out.trans (hb.mono HK6.out.size)))
    have FAA6 := Lib.hid (fun w' (hb : Below w6.heap.size w6 w') => FAA4.out w' (HK6.out.trans (hb.mono HK6.out.size)))
    have FAL6 := Lib.hid (fun w' (hb : Below w6.heap.size w6 w') => FAL4.out w' (HK6.out.trans (hb.mono HK6.out.size)))
    have HKb : Hid (Below w6.heap.size w6 w6) := Lib.hid (Below.refl _ _)
    clear HK6
    have HK6 := HKb
    clear HKb
    have d0 : w6.cell? ⟨bd, 0, none⟩ = some (.int .i64 st) := cell_at (FXd6.out _ HK6.out) 0 _ rfl
    have d1 : w6.cell? ⟨bd, 1, none⟩ = some (.string f) := cell_at (FXd6.out _ HK6.out) 1 _ rfl
    have d2 : w6.cell? ⟨bd, 2, none⟩ = some (.slice A us.length c) := cell_at (FXd6.out _ HK6.out) 2 _ rfl
    have d3 : w6.cell? ⟨bd, 3, none⟩ = some (.string t) := cell_at (FXd6.out _ HK6.out) 3 _ rfl
    have l0 : w6.cell? ⟨bl, 0, none⟩ = some (.int .i64 so) := cell_at (FXl6.out _ HK6.out) 0 _ rfl
    have l1 : w6.cell? ⟨bl, 1, none⟩ = some (.string fo) := cell_at (FXl6.out _ HK6.out) 1 _ rfl
    have l2 : w6.cell? ⟨bl, 2, none⟩ = some (.slice Al uo.length cl) := cell_at (FXl6.out _ HK6.out) 2 _ rfl
    have l3 : w6.cell? ⟨bl, 3, none⟩ = some (.string to_) := cell_at (FXl6.out _ HK6.out) 3 _ rfl
    have m0 : w6.cell? ⟨bm, 0, none⟩ = some (.int .i64 so) := cell_at (FXm6.out _ HK6.out) 0 _ rfl
    have m1 : w6.cell? ⟨bm, 1, none⟩ = some (.string fo) := cell_at (FXm6.out _ HK6.out) 1 _ rfl
    have m2 : w6.cell? ⟨bm, 2, none⟩ = some (.slice Am uo.length cm) := cell_at (FXm6.out _ HK6.out) 2 _ rfl
    have m3 : w6.cell? ⟨bm, 3, none⟩ = some (.string to_) := cell_at (FXm6.out _ HK6.out) 3 _ rfl
    clear hatm
    go_wp2_with fail
    refine Calls.mono (sameSub_any so fo to_ Al Am uo cl cm _ (FAL6.out _ HK6.out) (FAM6.out _ HK6.out) hulo) ?_
    rintro e w7 ⟨rfl, hb⟩
    clear d0 d1 d2 d3 l0 l1 l2 l3 m0 m1 m2 m3
    have HK7 := Lib.hid (HK6.out.trans (hb.mono HK6.out.size))
    clear hb
    have d0 : w7.cell? ⟨bd, 0, none⟩ = some (.int .i64 st) := cell_at (FXd6.out _ HK7.out) 0 _ rfl
    have d1 : w7.cell? ⟨bd, 1, none⟩ = some (.string f) := cell_at (FXd6.out _ HK7.out) 1 _ rfl
    have d2 : w7.cell? ⟨bd, 2, none⟩ = some (.slice A us.length c) := cell_at (FXd6.out _ HK7.out) 2 _ rfl
    have d3 : w7.cell? ⟨bd, 3, none⟩ = some (.string t) := cell_at (FXd6.out _ HK7.out) 3 _ rfl
    have l0 : w7.cell? ⟨bl, 0, none⟩ = some (.int .i64 so) := cell_at (FXl6.out _ HK7.out) 0 _ rfl
    have l1 : w7.cell? ⟨bl, 1, none⟩ = some (.string fo) := cell_at (FXl6.out _ HK7.out) 1 _ rfl
    have l2 : w7.cell? ⟨bl, 2, none⟩ = some (.slice Al uo.length cl) := cell_at (FXl6.out _ HK7.out) 2 _ rfl
    have l3 : w7.cell? ⟨bl, 3, none⟩ = some (.string to_) := cell_at (FXl6.out _ HK7.out) 3 _ rfl
    have m0 : w7.cell? ⟨bm, 0, none⟩ = some (.int .i64 so) := cell_at (FXm6.out _ HK7.out) 0 _ rfl
    have m1 : w7.cell? ⟨bm, 1, none⟩ = some (.string fo) := cell_at (FXm6.out _ HK7.out) 1 _ rfl
    have m2 : w7.cell? ⟨bm, 2, none⟩ = some (.slice Am uo.length cm) := cell_at (FXm6.out _ HK7.out) 2 _ rfl
    have m3 : w7.cell? ⟨bm, 3, none⟩ = some (.string to_) := cell_at (FXm6.out _ HK7.out) 3 _ rfl
    by_cases hans : Sm.ok ⟨st, f, us, t⟩ = true ∧ Us.usersOk vs = true ∧ Dm.ok d.data.toList = true
    · have HL : Hid (Sm.line vs d ⟨st, f, us, t⟩ l = (⟨so, fo, uo, to_⟩, no)) := Lib.hid (by rw [← Sm.ans_good hans]; exact HR.out)
      have HANS := Lib.hid hans
      have hnn : ¬ no < 0 := by have := Sm.line_reply vs d ⟨st, f, us, t⟩ l; rw [HL.out] at this; exact this
      clear hans
      by_cases h5 : st = 5
      · have h5i : (st != 5) = false := by simpa using h5
        have ht30 : t.size ≤ 30 := HSM.out.2.2.2
        have HR1 : Hid (Sm.ans vs d ⟨st, f, us, t⟩ ⟨#[46, 120]⟩ = (⟨st, f, us, Sm.cut21 (t ++ ⟨#[120]⟩ ++ ⟨#[10]⟩)⟩, 0)) := Lib.hid (by rw [Sm.ans_good HANS.out, Sm.line, if_neg (by dsimp only; omega), if_pos h5, Sm.data, if_neg (by decide), show Sm.strip ⟨#[46, 120]⟩ = ⟨#[120]⟩ by rfl])
        have HR2 : Hid (Sm.ans vs d ⟨st, f, us, t⟩ ⟨#[120]⟩ = (⟨st, f, us, Sm.cut21 (t ++ ⟨#[120]⟩ ++ ⟨#[10]⟩)⟩, 0)) := Lib.hid (by rw [Sm.ans_good HANS.out, Sm.line, if_neg (by dsimp only; omega), if_pos h5, Sm.data, if_neg (by decide), show Sm.strip ⟨#[120]⟩ = ⟨#[120]⟩ by rfl])
        have HR3 : Hid (Sm.ans vs d ⟨st, f, us, t⟩ ⟨#[46, 46]⟩ = (⟨st, f, us, Sm.cut21 (t ++ ⟨#[46]⟩ ++ ⟨#[10]⟩)⟩, 0)) := Lib.hid (by rw [Sm.ans_good HANS.out, Sm.line, if_neg (by dsimp only; omega), if_pos h5, Sm.data, if_neg (by decide), show Sm.strip ⟨#[46, 46]⟩ = ⟨#[46]⟩ by rfl])
        obtain ⟨tw1, htw1⟩ : ∃ x1, x1 = Sm.cut21 (t ++ ⟨#[120]⟩ ++ ⟨#[10]⟩) := ⟨_, rfl⟩
        rw [← htw1] at HR1 HR2
        have HY : Hid (t ++ ByteArray.mk #[46] ++ ByteArray.mk #[10] = t ++ ByteArray.mk #[46, 10]) := Lib.hid (by rw [ByteArray.append_assoc]; rfl)
        rw [HY.out] at HR3
        clear h5 htw1
        have hz2 : (ByteArray.mk #[46, 10]).size = 2 := rfl
        have HXS : Hid ((t ++ ByteArray.mk #[46, 10]).size = t.size + 2) := Lib.hid (by rw [ByteArray.size_append]; rfl)
        by_cases h21 : (t ++ ByteArray.mk #[46, 10]).size ≤ 21
        · have h21i : ¬ (21 : Int) < ((t ++ ByteArray.mk #[46, 10]).size : Int) := by omega
          have HCT : Hid (Sm.cut21 (t ++ ByteArray.mk #[46, 10]) = (t ++ ByteArray.mk #[46, 10])) := Lib.hid (Sm.cut21_small h21)
          clear h21
          have h21j : ¬ (21 : Int) < (t.size : Int) + 2 := by have := HXS.out; omega
          rw [HCT.out] at HR3
          go_wp2_with fail
          refine Calls.mono (iLine_any st f t A us c _ (FAA6.out _ HK7.out) hcap hcm hfm htm Au vs cu (FU6.out _ HK7.out) hvl d ⟨#[46, 120]⟩ hdz (by decide) m (FM6.out _ HK7.out) HR1.out) ?_
          rintro e w8 ⟨Ax, cx, rfl, hatx, hkx, hjx, hb⟩
          clear d0 d1 d2 d3 l0 l1 l2 l3 m0 m1 m2 m3
          have HK8 := Lib.hid (HK7.out.trans (hb.mono HK7.out.size))
          clear hb
          have d0 : w8.cell? ⟨bd, 0, none⟩ = some (.int .i64 st) := cell_at (FXd6.out _ HK8.out) 0 _ rfl
          have d1 : w8.cell? ⟨bd, 1, none⟩ = some (.string f) := cell_at (FXd6.out _ HK8.out) 1 _ rfl
          have d2 : w8.cell? ⟨bd, 2, none⟩ = some (.slice A us.length c) := cell_at (FXd6.out _ HK8.out) 2 _ rfl
          have d3 : w8.cell? ⟨bd, 3, none⟩ = some (.string t) := cell_at (FXd6.out _ HK8.out) 3 _ rfl
          have l0 : w8.cell? ⟨bl, 0, none⟩ = some (.int .i64 so) := cell_at (FXl6.out _ HK8.out) 0 _ rfl
          have l1 : w8.cell? ⟨bl, 1, none⟩ = some (.string fo) := cell_at (FXl6.out _ HK8.out) 1 _ rfl
          have l2 : w8.cell? ⟨bl, 2, none⟩ = some (.slice Al uo.length cl) := cell_at (FXl6.out _ HK8.out) 2 _ rfl
          have l3 : w8.cell? ⟨bl, 3, none⟩ = some (.string to_) := cell_at (FXl6.out _ HK8.out) 3 _ rfl
          have m0 : w8.cell? ⟨bm, 0, none⟩ = some (.int .i64 so) := cell_at (FXm6.out _ HK8.out) 0 _ rfl
          have m1 : w8.cell? ⟨bm, 1, none⟩ = some (.string fo) := cell_at (FXm6.out _ HK8.out) 1 _ rfl
          have m2 : w8.cell? ⟨bm, 2, none⟩ = some (.slice Am uo.length cm) := cell_at (FXm6.out _ HK8.out) 2 _ rfl
          have m3 : w8.cell? ⟨bm, 3, none⟩ = some (.string to_) := cell_at (FXm6.out _ HK8.out) 3 _ rfl
          clear d0 d1 d2 d3 l0 l1 l2 l3 m0 m1 m2 m3
          have hx := heap_alloc_new w8 (.cells #[.int .i64 st, .string f, .slice Ax us.length cx, .string tw1] 36)
          have hE := Below.alloc (Below.refl w8.heap.size w8) (Nat.le_refl _) (.cells #[.int .i64 st, .string f, .slice Ax us.length cx, .string tw1] 36)
          have hs : w8.heap.size < (w8.alloc (.cells #[.int .i64 st, .string f, .slice Ax us.length cx, .string tw1] 36)).heap.size := by simp
          go_upto_region 9 with fail
          generalize w8.alloc (.cells #[.int .i64 st, .string f, .slice Ax us.length cx, .string tw1] 36) = w9 at hx hE hs ⊢
          obtain ⟨bx, hbb⟩ : ∃ b, b = w8.heap.size := ⟨_, rfl⟩
          rw [← hbb] at hx hs ⊢
          have hltdx : bd < bx := by have := (Array.getElem?_eq_some_iff.1 (FXd6.out _ HK8.out)).1; omega
          have hltlx : bl < bx := by have := (Array.getElem?_eq_some_iff.1 (FXl6.out _ HK8.out)).1; omega
          have hltmx : bm < bx := by have := (Array.getElem?_eq_some_iff.1 (FXm6.out _ HK8.out)).1; omega
          have HK9 := Lib.hid (HK8.out.trans (hE.mono HK8.out.size))
          have FXx9 : Hid (∀ w', Below w9.heap.size w9 w' → w'.heap[bx]? = some (.cells #[.int .i64 st, .string f, .slice Ax us.length cx, .string tw1] 36 (0, 0))) := Lib.hid (fun w' hb => (hb.block _ hs).trans hx)
          have FAX9 : Hid (∀ w', Below w9.heap.size w9 w' → AtStrs w' w'.heap.size Ax us) := Lib.hid (fun w' hb => (((hatx.below hE).mono hE.size).below hb).mono hb.size)
          clear hx hE hs hbb
          have FU9 := Lib.hid (fun w' (hb : Below w9.heap.size w9 w') => FU6.out w' (HK9.out.trans (hb.mono HK9.out.size)))
          have FM9 := Lib.hid (fun w' (hb : Below w9.heap.size w9 w') => FM6.out w' (HK9.out.trans (hb.mono HK9.out.size)))
          have FB9 := Lib.hid (fun w' (hb : Below w9.heap.size w9 w') => FB6.out w' (HK9.out.trans (hb.mono HK9.out.size)))
          have FXd9 := Lib.hid (fun w' (hb : Below w9.heap.size w9 w') => FXd6.out w' (HK9.out.trans (hb.mono HK9.out.size)))
          have FXl9 := Lib.hid (fun w' (hb : Below w9.heap.size w9 w') => FXl6.out w' (HK9.out.trans (hb.mono HK9.out.size)))
          have FXm9 := Lib.hid (fun w' (hb : Below w9.heap.size w9 w') => FXm6.out w' (HK9.out.trans (hb.mono HK9.out.size)))
          have FAA9 := Lib.hid (fun w' (hb : Below w9.heap.size w9 w') => FAA6.out w' (HK9.out.trans (hb.mono HK9.out.size)))
          have FAL9 := Lib.hid (fun w' (hb : Below w9.heap.size w9 w') => FAL6.out w' (HK9.out.trans (hb.mono HK9.out.size)))
          have FAM9 := Lib.hid (fun w' (hb : Below w9.heap.size w9 w') => FAM6.out w' (HK9.out.trans (hb.mono HK9.out.size)))
          have HKb : Hid (Below w9.heap.size w9 w9) := Lib.hid (Below.refl _ _)
          clear HK9
          have HK9 := HKb
          clear HKb
          have d0 : w9.cell? ⟨bd, 0, none⟩ = some (.int .i64 st) := cell_at (FXd9.out _ HK9.out) 0 _ rfl
          have d1 : w9.cell? ⟨bd, 1, none⟩ = some (.string f) := cell_at (FXd9.out _ HK9.out) 1 _ rfl
          have d2 : w9.cell? ⟨bd, 2, none⟩ = some (.slice A us.length c) := cell_at (FXd9.out _ HK9.out) 2 _ rfl
          have d3 : w9.cell? ⟨bd, 3, none⟩ = some (.string t) := cell_at (FXd9.out _ HK9.out) 3 _ rfl
          have l0 : w9.cell? ⟨bl, 0, none⟩ = some (.int .i64 so) := cell_at (FXl9.out _ HK9.out) 0 _ rfl
          have l1 : w9.cell? ⟨bl, 1, none⟩ = some (.string fo) := cell_at (FXl9.out _ HK9.out) 1 _ rfl
          have l2 : w9.cell? ⟨bl, 2, none⟩ = some (.slice Al uo.length cl) := cell_at (FXl9.out _ HK9.out) 2 _ rfl
          have l3 : w9.cell? ⟨bl, 3, none⟩ = some (.string to_) := cell_at (FXl9.out _ HK9.out) 3 _ rfl
          have m0 : w9.cell? ⟨bm, 0, none⟩ = some (.int .i64 so) := cell_at (FXm9.out _ HK9.out) 0 _ rfl
          have m1 : w9.cell? ⟨bm, 1, none⟩ = some (.string fo) := cell_at (FXm9.out _ HK9.out) 1 _ rfl
          have m2 : w9.cell? ⟨bm, 2, none⟩ = some (.slice Am uo.length cm) := cell_at (FXm9.out _ HK9.out) 2 _ rfl
          have m3 : w9.cell? ⟨bm, 3, none⟩ = some (.string to_) := cell_at (FXm9.out _ HK9.out) 3 _ rfl
          have x0 : w9.cell? ⟨bx, 0, none⟩ = some (.int .i64 st) := cell_at (FXx9.out _ HK9.out) 0 _ rfl
          have x1 : w9.cell? ⟨bx, 1, none⟩ = some (.string f) := cell_at (FXx9.out _ HK9.out) 1 _ rfl
          have x2 : w9.cell? ⟨bx, 2, none⟩ = some (.slice Ax us.length cx) := cell_at (FXx9.out _ HK9.out) 2 _ rfl
          have x3 : w9.cell? ⟨bx, 3, none⟩ = some (.string tw1) := cell_at (FXx9.out _ HK9.out) 3 _ rfl
          clear hatx
          go_wp2_with fail
          refine Calls.mono (iLine_any st f t A us c _ (FAA9.out _ HK9.out) hcap hcm hfm htm Au vs cu (FU9.out _ HK9.out) hvl d ⟨#[120]⟩ hdz (by decide) m (FM9.out _ HK9.out) HR2.out) ?_
          rintro e w10 ⟨Ap, cp, rfl, hatp, hkp, hjp, hb⟩
          clear d0 d1 d2 d3 l0 l1 l2 l3 m0 m1 m2 m3 x0 x1 x2 x3
          have HK10 := Lib.hid (HK9.out.trans (hb.mono HK9.out.size))
          clear hb
          have d0 : w10.cell? ⟨bd, 0, none⟩ = some (.int .i64 st) := cell_at (FXd9.out _ HK10.out) 0 _ rfl
          have d1 : w10.cell? ⟨bd, 1, none⟩ = some (.string f) := cell_at (FXd9.out _ HK10.out) 1 _ rfl
          have d2 : w10.cell? ⟨bd, 2, none⟩ = some (.slice A us.length c) := cell_at (FXd9.out _ HK10.out) 2 _ rfl
          have d3 : w10.cell? ⟨bd, 3, none⟩ = some (.string t) := cell_at (FXd9.out _ HK10.out) 3 _ rfl
          have l0 : w10.cell? ⟨bl, 0, none⟩ = some (.int .i64 so) := cell_at (FXl9.out _ HK10.out) 0 _ rfl
          have l1 : w10.cell? ⟨bl, 1, none⟩ = some (.string fo) := cell_at (FXl9.out _ HK10.out) 1 _ rfl
          have l2 : w10.cell? ⟨bl, 2, none⟩ = some (.slice Al uo.length cl) := cell_at (FXl9.out _ HK10.out) 2 _ rfl
          have l3 : w10.cell? ⟨bl, 3, none⟩ = some (.string to_) := cell_at (FXl9.out _ HK10.out) 3 _ rfl
          have m0 : w10.cell? ⟨bm, 0, none⟩ = some (.int .i64 so) := cell_at (FXm9.out _ HK10.out) 0 _ rfl
          have m1 : w10.cell? ⟨bm, 1, none⟩ = some (.string fo) := cell_at (FXm9.out _ HK10.out) 1 _ rfl
          have m2 : w10.cell? ⟨bm, 2, none⟩ = some (.slice Am uo.length cm) := cell_at (FXm9.out _ HK10.out) 2 _ rfl
          have m3 : w10.cell? ⟨bm, 3, none⟩ = some (.string to_) := cell_at (FXm9.out _ HK10.out) 3 _ rfl
          have x0 : w10.cell? ⟨bx, 0, none⟩ = some (.int .i64 st) := cell_at (FXx9.out _ HK10.out) 0 _ rfl
          have x1 : w10.cell? ⟨bx, 1, none⟩ = some (.string f) := cell_at (FXx9.out _ HK10.out) 1 _ rfl
          have x2 : w10.cell? ⟨bx, 2, none⟩ = some (.slice Ax us.length cx) := cell_at (FXx9.out _ HK10.out) 2 _ rfl
          have x3 : w10.cell? ⟨bx, 3, none⟩ = some (.string tw1) := cell_at (FXx9.out _ HK10.out) 3 _ rfl
          clear d0 d1 d2 d3 l0 l1 l2 l3 m0 m1 m2 m3 x0 x1 x2 x3
          have hx := heap_alloc_new w10 (.cells #[.int .i64 st, .string f, .slice Ap us.length cp, .string tw1] 36)
          have hE := Below.alloc (Below.refl w10.heap.size w10) (Nat.le_refl _) (.cells #[.int .i64 st, .string f, .slice Ap us.length cp, .string tw1] 36)
          have hs : w10.heap.size < (w10.alloc (.cells #[.int .i64 st, .string f, .slice Ap us.length cp, .string tw1] 36)).heap.size := by simp
          go_upto_region 10 with fail
          generalize w10.alloc (.cells #[.int .i64 st, .string f, .slice Ap us.length cp, .string tw1] 36) = w11 at hx hE hs ⊢
          obtain ⟨bp, hbb⟩ : ∃ b, b = w10.heap.size := ⟨_, rfl⟩
          rw [← hbb] at hx hs ⊢
          have hltdp : bd < bp := by have := (Array.getElem?_eq_some_iff.1 (FXd9.out _ HK10.out)).1; omega
          have hltlp : bl < bp := by have := (Array.getElem?_eq_some_iff.1 (FXl9.out _ HK10.out)).1; omega
          have hltmp : bm < bp := by have := (Array.getElem?_eq_some_iff.1 (FXm9.out _ HK10.out)).1; omega
          have hltxp : bx < bp := by have := (Array.getElem?_eq_some_iff.1 (FXx9.out _ HK10.out)).1; omega
          have HK11 := Lib.hid (HK10.out.trans (hE.mono HK10.out.size))
          have FXp11 : Hid (∀ w', Below w11.heap.size w11 w' → w'.heap[bp]? = some (.cells #[.int .i64 st, .string f, .slice Ap us.length cp, .string tw1] 36 (0, 0))) := Lib.hid (fun w' hb => (hb.block _ hs).trans hx)
          have FAP11 : Hid (∀ w', Below w11.heap.size w11 w' → AtStrs w' w'.heap.size Ap us) := Lib.hid (fun w' hb => (((hatp.below hE).mono hE.size).below hb).mono hb.size)
          clear hx hE hs hbb
          have FU11 := Lib.hid (fun w' (hb : Below w11.heap.size w11 w') => FU9.out w' (HK11.out.trans (hb.mono HK11.out.size)))
          have FM11 := Lib.hid (fun w' (hb : Below w11.heap.size w11 w') => FM9.out w' (HK11.out.trans (hb.mono HK11.out.size)))
          have FB11 := Lib.hid (fun w' (hb : Below w11.heap.size w11 w') => FB9.out w' (HK11.out.trans (hb.mono HK11.out.size)))
          have FXd11 := Lib.hid (fun w' (hb : Below w11.heap.size w11 w') => FXd9.out w' (HK11.out.trans (hb.mono HK11.out.size)))
          have FXl11 := Lib.hid (fun w' (hb : Below w11.heap.size w11 w') => FXl9.out w' (HK11.out.trans (hb.mono HK11.out.size)))
          have FXm11 := Lib.hid (fun w' (hb : Below w11.heap.size w11 w') => FXm9.out w' (HK11.out.trans (hb.mono HK11.out.size)))
          have FXx11 := Lib.hid (fun w' (hb : Below w11.heap.size w11 w') => FXx9.out w' (HK11.out.trans (hb.mono HK11.out.size)))
          have FAA11 := Lib.hid (fun w' (hb : Below w11.heap.size w11 w') => FAA9.out w' (HK11.out.trans (hb.mono HK11.out.size)))
          have FAL11 := Lib.hid (fun w' (hb : Below w11.heap.size w11 w') => FAL9.out w' (HK11.out.trans (hb.mono HK11.out.size)))
          have FAM11 := Lib.hid (fun w' (hb : Below w11.heap.size w11 w') => FAM9.out w' (HK11.out.trans (hb.mono HK11.out.size)))
          have FAX11 := Lib.hid (fun w' (hb : Below w11.heap.size w11 w') => FAX9.out w' (HK11.out.trans (hb.mono HK11.out.size)))
          have HKb : Hid (Below w11.heap.size w11 w11) := Lib.hid (Below.refl _ _)
          clear HK11
          have HK11 := HKb
          clear HKb
          have d0 : w11.cell? ⟨bd, 0, none⟩ = some (.int .i64 st) := cell_at (FXd11.out _ HK11.out) 0 _ rfl
          have d1 : w11.cell? ⟨bd, 1, none⟩ = some (.string f) := cell_at (FXd11.out _ HK11.out) 1 _ rfl
          have d2 : w11.cell? ⟨bd, 2, none⟩ = some (.slice A us.length c) := cell_at (FXd11.out _ HK11.out) 2 _ rfl
          have d3 : w11.cell? ⟨bd, 3, none⟩ = some (.string t) := cell_at (FXd11.out _ HK11.out) 3 _ rfl
          have l0 : w11.cell? ⟨bl, 0, none⟩ = some (.int .i64 so) := cell_at (FXl11.out _ HK11.out) 0 _ rfl
          have l1 : w11.cell? ⟨bl, 1, none⟩ = some (.string fo) := cell_at (FXl11.out _ HK11.out) 1 _ rfl
          have l2 : w11.cell? ⟨bl, 2, none⟩ = some (.slice Al uo.length cl) := cell_at (FXl11.out _ HK11.out) 2 _ rfl
          have l3 : w11.cell? ⟨bl, 3, none⟩ = some (.string to_) := cell_at (FXl11.out _ HK11.out) 3 _ rfl
          have m0 : w11.cell? ⟨bm, 0, none⟩ = some (.int .i64 so) := cell_at (FXm11.out _ HK11.out) 0 _ rfl
          have m1 : w11.cell? ⟨bm, 1, none⟩ = some (.string fo) := cell_at (FXm11.out _ HK11.out) 1 _ rfl
          have m2 : w11.cell? ⟨bm, 2, none⟩ = some (.slice Am uo.length cm) := cell_at (FXm11.out _ HK11.out) 2 _ rfl
          have m3 : w11.cell? ⟨bm, 3, none⟩ = some (.string to_) := cell_at (FXm11.out _ HK11.out) 3 _ rfl
          have x0 : w11.cell? ⟨bx, 0, none⟩ = some (.int .i64 st) := cell_at (FXx11.out _ HK11.out) 0 _ rfl
          have x1 : w11.cell? ⟨bx, 1, none⟩ = some (.string f) := cell_at (FXx11.out _ HK11.out) 1 _ rfl
          have x2 : w11.cell? ⟨bx, 2, none⟩ = some (.slice Ax us.length cx) := cell_at (FXx11.out _ HK11.out) 2 _ rfl
          have x3 : w11.cell? ⟨bx, 3, none⟩ = some (.string tw1) := cell_at (FXx11.out _ HK11.out) 3 _ rfl
          have p0 : w11.cell? ⟨bp, 0, none⟩ = some (.int .i64 st) := cell_at (FXp11.out _ HK11.out) 0 _ rfl
          have p1 : w11.cell? ⟨bp, 1, none⟩ = some (.string f) := cell_at (FXp11.out _ HK11.out) 1 _ rfl
          have p2 : w11.cell? ⟨bp, 2, none⟩ = some (.slice Ap us.length cp) := cell_at (FXp11.out _ HK11.out) 2 _ rfl
          have p3 : w11.cell? ⟨bp, 3, none⟩ = some (.string tw1) := cell_at (FXp11.out _ HK11.out) 3 _ rfl
          clear hatp
          go_wp2_with fail
          refine Calls.mono (iLine_any st f t A us c _ (FAA11.out _ HK11.out) hcap hcm hfm htm Au vs cu (FU11.out _ HK11.out) hvl d ⟨#[46, 46]⟩ hdz (by decide) m (FM11.out _ HK11.out) HR3.out) ?_
          rintro e w12 ⟨Az, cz, rfl, hatz, hkz, hjz, hb⟩
          clear d0 d1 d2 d3 l0 l1 l2 l3 m0 m1 m2 m3 x0 x1 x2 x3 p0 p1 p2 p3
          have HK12 := Lib.hid (HK11.out.trans (hb.mono HK11.out.size))
          clear hb
          have d0 : w12.cell? ⟨bd, 0, none⟩ = some (.int .i64 st) := cell_at (FXd11.out _ HK12.out) 0 _ rfl
          have d1 : w12.cell? ⟨bd, 1, none⟩ = some (.string f) := cell_at (FXd11.out _ HK12.out) 1 _ rfl
          have d2 : w12.cell? ⟨bd, 2, none⟩ = some (.slice A us.length c) := cell_at (FXd11.out _ HK12.out) 2 _ rfl
          have d3 : w12.cell? ⟨bd, 3, none⟩ = some (.string t) := cell_at (FXd11.out _ HK12.out) 3 _ rfl
          have l0 : w12.cell? ⟨bl, 0, none⟩ = some (.int .i64 so) := cell_at (FXl11.out _ HK12.out) 0 _ rfl
          have l1 : w12.cell? ⟨bl, 1, none⟩ = some (.string fo) := cell_at (FXl11.out _ HK12.out) 1 _ rfl
          have l2 : w12.cell? ⟨bl, 2, none⟩ = some (.slice Al uo.length cl) := cell_at (FXl11.out _ HK12.out) 2 _ rfl
          have l3 : w12.cell? ⟨bl, 3, none⟩ = some (.string to_) := cell_at (FXl11.out _ HK12.out) 3 _ rfl
          have m0 : w12.cell? ⟨bm, 0, none⟩ = some (.int .i64 so) := cell_at (FXm11.out _ HK12.out) 0 _ rfl
          have m1 : w12.cell? ⟨bm, 1, none⟩ = some (.string fo) := cell_at (FXm11.out _ HK12.out) 1 _ rfl
          have m2 : w12.cell? ⟨bm, 2, none⟩ = some (.slice Am uo.length cm) := cell_at (FXm11.out _ HK12.out) 2 _ rfl
          have m3 : w12.cell? ⟨bm, 3, none⟩ = some (.string to_) := cell_at (FXm11.out _ HK12.out) 3 _ rfl
          have x0 : w12.cell? ⟨bx, 0, none⟩ = some (.int .i64 st) := cell_at (FXx11.out _ HK12.out) 0 _ rfl
          have x1 : w12.cell? ⟨bx, 1, none⟩ = some (.string f) := cell_at (FXx11.out _ HK12.out) 1 _ rfl
          have x2 : w12.cell? ⟨bx, 2, none⟩ = some (.slice Ax us.length cx) := cell_at (FXx11.out _ HK12.out) 2 _ rfl
          have x3 : w12.cell? ⟨bx, 3, none⟩ = some (.string tw1) := cell_at (FXx11.out _ HK12.out) 3 _ rfl
          have p0 : w12.cell? ⟨bp, 0, none⟩ = some (.int .i64 st) := cell_at (FXp11.out _ HK12.out) 0 _ rfl
          have p1 : w12.cell? ⟨bp, 1, none⟩ = some (.string f) := cell_at (FXp11.out _ HK12.out) 1 _ rfl
          have p2 : w12.cell? ⟨bp, 2, none⟩ = some (.slice Ap us.length cp) := cell_at (FXp11.out _ HK12.out) 2 _ rfl
          have p3 : w12.cell? ⟨bp, 3, none⟩ = some (.string tw1) := cell_at (FXp11.out _ HK12.out) 3 _ rfl
          clear d0 d1 d2 d3 l0 l1 l2 l3 m0 m1 m2 m3 x0 x1 x2 x3 p0 p1 p2 p3
          have hx := heap_alloc_new w12 (.cells #[.int .i64 st, .string f, .slice Az us.length cz, .string (t ++ ByteArray.mk #[46, 10])] 36)
          have hE := Below.alloc (Below.refl w12.heap.size w12) (Nat.le_refl _) (.cells #[.int .i64 st, .string f, .slice Az us.length cz, .string (t ++ ByteArray.mk #[46, 10])] 36)
          have hs : w12.heap.size < (w12.alloc (.cells #[.int .i64 st, .string f, .slice Az us.length cz, .string (t ++ ByteArray.mk #[46, 10])] 36)).heap.size := by simp
          go_upto_region 11 with fail
          generalize w12.alloc (.cells #[.int .i64 st, .string f, .slice Az us.length cz, .string (t ++ ByteArray.mk #[46, 10])] 36) = w13 at hx hE hs ⊢
          obtain ⟨bz, hbb⟩ : ∃ b, b = w12.heap.size := ⟨_, rfl⟩
          rw [← hbb] at hx hs ⊢
          have hltdz : bd < bz := by have := (Array.getElem?_eq_some_iff.1 (FXd11.out _ HK12.out)).1; omega
          have hltlz : bl < bz := by have := (Array.getElem?_eq_some_iff.1 (FXl11.out _ HK12.out)).1; omega
          have hltmz : bm < bz := by have := (Array.getElem?_eq_some_iff.1 (FXm11.out _ HK12.out)).1; omega
          have hltxz : bx < bz := by have := (Array.getElem?_eq_some_iff.1 (FXx11.out _ HK12.out)).1; omega
          have hltpz : bp < bz := by have := (Array.getElem?_eq_some_iff.1 (FXp11.out _ HK12.out)).1; omega
          have HK13 := Lib.hid (HK12.out.trans (hE.mono HK12.out.size))
          have FXz13 : Hid (∀ w', Below w13.heap.size w13 w' → w'.heap[bz]? = some (.cells #[.int .i64 st, .string f, .slice Az us.length cz, .string (t ++ ByteArray.mk #[46, 10])] 36 (0, 0))) := Lib.hid (fun w' hb => (hb.block _ hs).trans hx)
          have FAZ13 : Hid (∀ w', Below w13.heap.size w13 w' → AtStrs w' w'.heap.size Az us) := Lib.hid (fun w' hb => (((hatz.below hE).mono hE.size).below hb).mono hb.size)
          clear hx hE hs hbb
          have FU13 := Lib.hid (fun w' (hb : Below w13.heap.size w13 w') => FU11.out w' (HK13.out.trans (hb.mono HK13.out.size)))
          have FM13 := Lib.hid (fun w' (hb : Below w13.heap.size w13 w') => FM11.out w' (HK13.out.trans (hb.mono HK13.out.size)))
          have FB13 := Lib.hid (fun w' (hb : Below w13.heap.size w13 w') => FB11.out w' (HK13.out.trans (hb.mono HK13.out.size)))
          have FXd13 := Lib.hid (fun w' (hb : Below w13.heap.size w13 w') => FXd11.out w' (HK13.out.trans (hb.mono HK13.out.size)))
          have FXl13 := Lib.hid (fun w' (hb : Below w13.heap.size w13 w') => FXl11.out w' (HK13.out.trans (hb.mono HK13.out.size)))
          have FXm13 := Lib.hid (fun w' (hb : Below w13.heap.size w13 w') => FXm11.out w' (HK13.out.trans (hb.mono HK13.out.size)))
          have FXx13 := Lib.hid (fun w' (hb : Below w13.heap.size w13 w') => FXx11.out w' (HK13.out.trans (hb.mono HK13.out.size)))
          have FXp13 := Lib.hid (fun w' (hb : Below w13.heap.size w13 w') => FXp11.out w' (HK13.out.trans (hb.mono HK13.out.size)))
          have FAA13 := Lib.hid (fun w' (hb : Below w13.heap.size w13 w') => FAA11.out w' (HK13.out.trans (hb.mono HK13.out.size)))
          have FAL13 := Lib.hid (fun w' (hb : Below w13.heap.size w13 w') => FAL11.out w' (HK13.out.trans (hb.mono HK13.out.size)))
          have FAM13 := Lib.hid (fun w' (hb : Below w13.heap.size w13 w') => FAM11.out w' (HK13.out.trans (hb.mono HK13.out.size)))
          have FAX13 := Lib.hid (fun w' (hb : Below w13.heap.size w13 w') => FAX11.out w' (HK13.out.trans (hb.mono HK13.out.size)))
          have FAP13 := Lib.hid (fun w' (hb : Below w13.heap.size w13 w') => FAP11.out w' (HK13.out.trans (hb.mono HK13.out.size)))
          have HKb : Hid (Below w13.heap.size w13 w13) := Lib.hid (Below.refl _ _)
          clear HK13
          have HK13 := HKb
          clear HKb
          have d0 : w13.cell? ⟨bd, 0, none⟩ = some (.int .i64 st) := cell_at (FXd13.out _ HK13.out) 0 _ rfl
          have d1 : w13.cell? ⟨bd, 1, none⟩ = some (.string f) := cell_at (FXd13.out _ HK13.out) 1 _ rfl
          have d2 : w13.cell? ⟨bd, 2, none⟩ = some (.slice A us.length c) := cell_at (FXd13.out _ HK13.out) 2 _ rfl
          have d3 : w13.cell? ⟨bd, 3, none⟩ = some (.string t) := cell_at (FXd13.out _ HK13.out) 3 _ rfl
          have l0 : w13.cell? ⟨bl, 0, none⟩ = some (.int .i64 so) := cell_at (FXl13.out _ HK13.out) 0 _ rfl
          have l1 : w13.cell? ⟨bl, 1, none⟩ = some (.string fo) := cell_at (FXl13.out _ HK13.out) 1 _ rfl
          have l2 : w13.cell? ⟨bl, 2, none⟩ = some (.slice Al uo.length cl) := cell_at (FXl13.out _ HK13.out) 2 _ rfl
          have l3 : w13.cell? ⟨bl, 3, none⟩ = some (.string to_) := cell_at (FXl13.out _ HK13.out) 3 _ rfl
          have m0 : w13.cell? ⟨bm, 0, none⟩ = some (.int .i64 so) := cell_at (FXm13.out _ HK13.out) 0 _ rfl
          have m1 : w13.cell? ⟨bm, 1, none⟩ = some (.string fo) := cell_at (FXm13.out _ HK13.out) 1 _ rfl
          have m2 : w13.cell? ⟨bm, 2, none⟩ = some (.slice Am uo.length cm) := cell_at (FXm13.out _ HK13.out) 2 _ rfl
          have m3 : w13.cell? ⟨bm, 3, none⟩ = some (.string to_) := cell_at (FXm13.out _ HK13.out) 3 _ rfl
          have x0 : w13.cell? ⟨bx, 0, none⟩ = some (.int .i64 st) := cell_at (FXx13.out _ HK13.out) 0 _ rfl
          have x1 : w13.cell? ⟨bx, 1, none⟩ = some (.string f) := cell_at (FXx13.out _ HK13.out) 1 _ rfl
          have x2 : w13.cell? ⟨bx, 2, none⟩ = some (.slice Ax us.length cx) := cell_at (FXx13.out _ HK13.out) 2 _ rfl
          have x3 : w13.cell? ⟨bx, 3, none⟩ = some (.string tw1) := cell_at (FXx13.out _ HK13.out) 3 _ rfl
          have p0 : w13.cell? ⟨bp, 0, none⟩ = some (.int .i64 st) := cell_at (FXp13.out _ HK13.out) 0 _ rfl
          have p1 : w13.cell? ⟨bp, 1, none⟩ = some (.string f) := cell_at (FXp13.out _ HK13.out) 1 _ rfl
          have p2 : w13.cell? ⟨bp, 2, none⟩ = some (.slice Ap us.length cp) := cell_at (FXp13.out _ HK13.out) 2 _ rfl
          have p3 : w13.cell? ⟨bp, 3, none⟩ = some (.string tw1) := cell_at (FXp13.out _ HK13.out) 3 _ rfl
          have z0 : w13.cell? ⟨bz, 0, none⟩ = some (.int .i64 st) := cell_at (FXz13.out _ HK13.out) 0 _ rfl
          have z1 : w13.cell? ⟨bz, 1, none⟩ = some (.string f) := cell_at (FXz13.out _ HK13.out) 1 _ rfl
          have z2 : w13.cell? ⟨bz, 2, none⟩ = some (.slice Az us.length cz) := cell_at (FXz13.out _ HK13.out) 2 _ rfl
          have z3 : w13.cell? ⟨bz, 3, none⟩ = some (.string (t ++ ByteArray.mk #[46, 10])) := cell_at (FXz13.out _ HK13.out) 3 _ rfl
          clear hatz
          have hx := heap_alloc_new w13 (.cells #[.int .i64 st, .string f, .slice A us.length c, .string t] 36)
          have hE := Below.alloc (Below.refl w13.heap.size w13) (Nat.le_refl _) (.cells #[.int .i64 st, .string f, .slice A us.length c, .string t] 36)
          go_upto_region 12 with fail
          clear d0 d1 d2 d3 l0 l1 l2 l3 m0 m1 m2 m3 x0 x1 x2 x3 p0 p1 p2 p3 z0 z1 z2 z3
          generalize w13.alloc (.cells #[.int .i64 st, .string f, .slice A us.length c, .string t] 36) = w14 at hx hE ⊢
          obtain ⟨bY, hbb⟩ : ∃ b, b = w13.heap.size := ⟨_, rfl⟩
          rw [← hbb] at hx ⊢
          have hleY : w13.heap.size ≤ bY := by have := HK13.out.size; omega
          have hnedY : bd ≠ bY := by have := (Array.getElem?_eq_some_iff.1 (FXd13.out _ HK13.out)).1; omega
          have hneYd : bY ≠ bd := Ne.symm hnedY
          have hnelY : bl ≠ bY := by have := (Array.getElem?_eq_some_iff.1 (FXl13.out _ HK13.out)).1; omega
          have hneYl : bY ≠ bl := Ne.symm hnelY
          have hnemY : bm ≠ bY := by have := (Array.getElem?_eq_some_iff.1 (FXm13.out _ HK13.out)).1; omega
          have hneYm : bY ≠ bm := Ne.symm hnemY
          have hnexY : bx ≠ bY := by have := (Array.getElem?_eq_some_iff.1 (FXx13.out _ HK13.out)).1; omega
          have hneYx : bY ≠ bx := Ne.symm hnexY
          have hnepY : bp ≠ bY := by have := (Array.getElem?_eq_some_iff.1 (FXp13.out _ HK13.out)).1; omega
          have hneYp : bY ≠ bp := Ne.symm hnepY
          have hnezY : bz ≠ bY := by have := (Array.getElem?_eq_some_iff.1 (FXz13.out _ HK13.out)).1; omega
          have hneYz : bY ≠ bz := Ne.symm hnezY
          have HK14 := Lib.hid (HK13.out.trans (hE.mono HK13.out.size))
          have HZY := Lib.hid hx
          clear hx hE hbb
          have d0 : w14.cell? ⟨bd, 0, none⟩ = some (.int .i64 st) := cell_at (FXd13.out _ HK14.out) 0 _ rfl
          have d1 : w14.cell? ⟨bd, 1, none⟩ = some (.string f) := cell_at (FXd13.out _ HK14.out) 1 _ rfl
          have d2 : w14.cell? ⟨bd, 2, none⟩ = some (.slice A us.length c) := cell_at (FXd13.out _ HK14.out) 2 _ rfl
          have d3 : w14.cell? ⟨bd, 3, none⟩ = some (.string t) := cell_at (FXd13.out _ HK14.out) 3 _ rfl
          have l0 : w14.cell? ⟨bl, 0, none⟩ = some (.int .i64 so) := cell_at (FXl13.out _ HK14.out) 0 _ rfl
          have l1 : w14.cell? ⟨bl, 1, none⟩ = some (.string fo) := cell_at (FXl13.out _ HK14.out) 1 _ rfl
          have l2 : w14.cell? ⟨bl, 2, none⟩ = some (.slice Al uo.length cl) := cell_at (FXl13.out _ HK14.out) 2 _ rfl
          have l3 : w14.cell? ⟨bl, 3, none⟩ = some (.string to_) := cell_at (FXl13.out _ HK14.out) 3 _ rfl
          have m0 : w14.cell? ⟨bm, 0, none⟩ = some (.int .i64 so) := cell_at (FXm13.out _ HK14.out) 0 _ rfl
          have m1 : w14.cell? ⟨bm, 1, none⟩ = some (.string fo) := cell_at (FXm13.out _ HK14.out) 1 _ rfl
          have m2 : w14.cell? ⟨bm, 2, none⟩ = some (.slice Am uo.length cm) := cell_at (FXm13.out _ HK14.out) 2 _ rfl
          have m3 : w14.cell? ⟨bm, 3, none⟩ = some (.string to_) := cell_at (FXm13.out _ HK14.out) 3 _ rfl
          have x0 : w14.cell? ⟨bx, 0, none⟩ = some (.int .i64 st) := cell_at (FXx13.out _ HK14.out) 0 _ rfl
          have x1 : w14.cell? ⟨bx, 1, none⟩ = some (.string f) := cell_at (FXx13.out _ HK14.out) 1 _ rfl
          have x2 : w14.cell? ⟨bx, 2, none⟩ = some (.slice Ax us.length cx) := cell_at (FXx13.out _ HK14.out) 2 _ rfl
          have x3 : w14.cell? ⟨bx, 3, none⟩ = some (.string tw1) := cell_at (FXx13.out _ HK14.out) 3 _ rfl
          have p0 : w14.cell? ⟨bp, 0, none⟩ = some (.int .i64 st) := cell_at (FXp13.out _ HK14.out) 0 _ rfl
          have p1 : w14.cell? ⟨bp, 1, none⟩ = some (.string f) := cell_at (FXp13.out _ HK14.out) 1 _ rfl
          have p2 : w14.cell? ⟨bp, 2, none⟩ = some (.slice Ap us.length cp) := cell_at (FXp13.out _ HK14.out) 2 _ rfl
          have p3 : w14.cell? ⟨bp, 3, none⟩ = some (.string tw1) := cell_at (FXp13.out _ HK14.out) 3 _ rfl
          have z0 : w14.cell? ⟨bz, 0, none⟩ = some (.int .i64 st) := cell_at (FXz13.out _ HK14.out) 0 _ rfl
          have z1 : w14.cell? ⟨bz, 1, none⟩ = some (.string f) := cell_at (FXz13.out _ HK14.out) 1 _ rfl
          have z2 : w14.cell? ⟨bz, 2, none⟩ = some (.slice Az us.length cz) := cell_at (FXz13.out _ HK14.out) 2 _ rfl
          have z3 : w14.cell? ⟨bz, 3, none⟩ = some (.string (t ++ ByteArray.mk #[46, 10])) := cell_at (FXz13.out _ HK14.out) 3 _ rfl
          have Y0 : w14.cell? ⟨bY, 0, none⟩ = some (.int .i64 st) := cell_at (HZY.out) 0 _ rfl
          have Y1 : w14.cell? ⟨bY, 1, none⟩ = some (.string f) := cell_at (HZY.out) 1 _ rfl
          have Y2 : w14.cell? ⟨bY, 2, none⟩ = some (.slice A us.length c) := cell_at (HZY.out) 2 _ rfl
          have Y3 : w14.cell? ⟨bY, 3, none⟩ = some (.string t) := cell_at (HZY.out) 3 _ rfl
          have fY0 := free_at HZY.out 0
          have fY1 := free_at HZY.out 1
          have fY2 := free_at HZY.out 2
          have fY3 := free_at HZY.out 3
          have HS1 : Hid (∀ v, Below w13.heap.size w13 (w14.setCell ⟨bY, 3, none⟩ v)) := Lib.hid (fun v => HK14.out.setCell (p := ⟨bY, 3, none⟩) hleY _)
          have HS2 : Hid (∀ v u, Below w13.heap.size w13 ((w14.setCell ⟨bY, 3, none⟩ v).setCell ⟨bY, 3, none⟩ u)) := Lib.hid (fun v u => (HS1.out v).setCell (p := ⟨bY, 3, none⟩) hleY _)
          go_wp2_with fail
          first | refine Calls.mono (sameSub_any st f tw1 Ax Ap us cx cp _ (FAX13.out _ (HS1.out _)) (FAP13.out _ (HS1.out _)) hul) ?_ | refine Calls.mono (sameSub_any st f tw1 Ax Ap us cx cp _ (FAX13.out _ (HS2.out _ _)) (FAP13.out _ (HS2.out _ _)) hul) ?_
          rintro e wz ⟨rfl, hb⟩
          have HKz : Hid (Below w13.heap.size w13 wz) := Lib.hid (by first | exact (HS1.out _).trans (hb.mono (HS1.out _).size) | exact (HS2.out _ _).trans (hb.mono (HS2.out _ _).size))
          have HZw := Lib.hid ((hb.block bY (by simp; exact (Array.getElem?_eq_some_iff.1 HZY.out).1)).trans (by first | exact set_heap (set_heap HZY.out) | exact set_heap HZY.out))
          clear d0 d1 d2 d3 l0 l1 l2 l3 m0 m1 m2 m3 x0 x1 x2 x3 p0 p1 p2 p3 z0 z1 z2 z3
          clear Y0 Y1 Y2 Y3 fY0 fY1 fY2 fY3 hb
          have d0 : wz.cell? ⟨bd, 0, none⟩ = some (.int .i64 st) := cell_at (FXd13.out _ HKz.out) 0 _ rfl
          have d1 : wz.cell? ⟨bd, 1, none⟩ = some (.string f) := cell_at (FXd13.out _ HKz.out) 1 _ rfl
          have d2 : wz.cell? ⟨bd, 2, none⟩ = some (.slice A us.length c) := cell_at (FXd13.out _ HKz.out) 2 _ rfl
          have d3 : wz.cell? ⟨bd, 3, none⟩ = some (.string t) := cell_at (FXd13.out _ HKz.out) 3 _ rfl
          have l0 : wz.cell? ⟨bl, 0, none⟩ = some (.int .i64 so) := cell_at (FXl13.out _ HKz.out) 0 _ rfl
          have l1 : wz.cell? ⟨bl, 1, none⟩ = some (.string fo) := cell_at (FXl13.out _ HKz.out) 1 _ rfl
          have l2 : wz.cell? ⟨bl, 2, none⟩ = some (.slice Al uo.length cl) := cell_at (FXl13.out _ HKz.out) 2 _ rfl
          have l3 : wz.cell? ⟨bl, 3, none⟩ = some (.string to_) := cell_at (FXl13.out _ HKz.out) 3 _ rfl
          have m0 : wz.cell? ⟨bm, 0, none⟩ = some (.int .i64 so) := cell_at (FXm13.out _ HKz.out) 0 _ rfl
          have m1 : wz.cell? ⟨bm, 1, none⟩ = some (.string fo) := cell_at (FXm13.out _ HKz.out) 1 _ rfl
          have m2 : wz.cell? ⟨bm, 2, none⟩ = some (.slice Am uo.length cm) := cell_at (FXm13.out _ HKz.out) 2 _ rfl
          have m3 : wz.cell? ⟨bm, 3, none⟩ = some (.string to_) := cell_at (FXm13.out _ HKz.out) 3 _ rfl
          have x0 : wz.cell? ⟨bx, 0, none⟩ = some (.int .i64 st) := cell_at (FXx13.out _ HKz.out) 0 _ rfl
          have x1 : wz.cell? ⟨bx, 1, none⟩ = some (.string f) := cell_at (FXx13.out _ HKz.out) 1 _ rfl
          have x2 : wz.cell? ⟨bx, 2, none⟩ = some (.slice Ax us.length cx) := cell_at (FXx13.out _ HKz.out) 2 _ rfl
          have x3 : wz.cell? ⟨bx, 3, none⟩ = some (.string tw1) := cell_at (FXx13.out _ HKz.out) 3 _ rfl
          have p0 : wz.cell? ⟨bp, 0, none⟩ = some (.int .i64 st) := cell_at (FXp13.out _ HKz.out) 0 _ rfl
          have p1 : wz.cell? ⟨bp, 1, none⟩ = some (.string f) := cell_at (FXp13.out _ HKz.out) 1 _ rfl
          have p2 : wz.cell? ⟨bp, 2, none⟩ = some (.slice Ap us.length cp) := cell_at (FXp13.out _ HKz.out) 2 _ rfl
          have p3 : wz.cell? ⟨bp, 3, none⟩ = some (.string tw1) := cell_at (FXp13.out _ HKz.out) 3 _ rfl
          have z0 : wz.cell? ⟨bz, 0, none⟩ = some (.int .i64 st) := cell_at (FXz13.out _ HKz.out) 0 _ rfl
          have z1 : wz.cell? ⟨bz, 1, none⟩ = some (.string f) := cell_at (FXz13.out _ HKz.out) 1 _ rfl
          have z2 : wz.cell? ⟨bz, 2, none⟩ = some (.slice Az us.length cz) := cell_at (FXz13.out _ HKz.out) 2 _ rfl
          have z3 : wz.cell? ⟨bz, 3, none⟩ = some (.string (t ++ ByteArray.mk #[46, 10])) := cell_at (FXz13.out _ HKz.out) 3 _ rfl
          have Y0 : wz.cell? ⟨bY, 0, none⟩ = some (.int .i64 st) := cell_at (HZw.out) 0 _ rfl
          have Y1 : wz.cell? ⟨bY, 1, none⟩ = some (.string f) := cell_at (HZw.out) 1 _ rfl
          have Y2 : wz.cell? ⟨bY, 2, none⟩ = some (.slice A us.length c) := cell_at (HZw.out) 2 _ rfl
          have Y3 : wz.cell? ⟨bY, 3, none⟩ = some (.string (t ++ ByteArray.mk #[46, 10])) := cell_at (HZw.out) 3 _ rfl
          go_wp2_with fail
          refine Calls.mono (sameSub_any st f (t ++ ByteArray.mk #[46, 10]) Az A us cz c _ (FAZ13.out _ HKz.out) (FAA13.out _ HKz.out) hul) ?_
          rintro e wq ⟨rfl, hb⟩
          go_wp2_with fail
          go_ret
          exact ⟨rfl, FB13.out _ (HKz.out.trans (hb.mono HKz.out.size))⟩
        · have h21i : (21 : Int) < ((t ++ ByteArray.mk #[46, 10]).size : Int) := by omega
          have HCT : Hid ((t ++ ByteArray.mk #[46, 10]).extract 0 21 = Sm.cut21 (t ++ ByteArray.mk #[46, 10])) := Lib.hid (Sm.cut21_big (by omega))
          clear h21
          have h21j : (21 : Int) < (t.size : Int) + 2 := by have := HXS.out; omega
          obtain ⟨tw3, HX3⟩ : ∃ x3, Hid (Sm.cut21 (t ++ ByteArray.mk #[46, 10]) = x3) := ⟨_, Lib.hid rfl⟩
          rw [HX3.out] at HR3 HCT
          go_wp2_with fail
          refine Calls.mono (iLine_any st f t A us c _ (FAA6.out _ HK7.out) hcap hcm hfm htm Au vs cu (FU6.out _ HK7.out) hvl d ⟨#[46, 120]⟩ hdz (by decide) m (FM6.out _ HK7.out) HR1.out) ?_
          rintro e w8 ⟨Ax, cx, rfl, hatx, hkx, hjx, hb⟩
          clear d0 d1 d2 d3 l0 l1 l2 l3 m0 m1 m2 m3
          have HK8 := Lib.hid (HK7.out.trans (hb.mono HK7.out.size))
          clear hb
          have d0 : w8.cell? ⟨bd, 0, none⟩ = some (.int .i64 st) := cell_at (FXd6.out _ HK8.out) 0 _ rfl
          have d1 : w8.cell? ⟨bd, 1, none⟩ = some (.string f) := cell_at (FXd6.out _ HK8.out) 1 _ rfl
          have d2 : w8.cell? ⟨bd, 2, none⟩ = some (.slice A us.length c) := cell_at (FXd6.out _ HK8.out) 2 _ rfl
          have d3 : w8.cell? ⟨bd, 3, none⟩ = some (.string t) := cell_at (FXd6.out _ HK8.out) 3 _ rfl
          have l0 : w8.cell? ⟨bl, 0, none⟩ = some (.int .i64 so) := cell_at (FXl6.out _ HK8.out) 0 _ rfl
          have l1 : w8.cell? ⟨bl, 1, none⟩ = some (.string fo) := cell_at (FXl6.out _ HK8.out) 1 _ rfl
          have l2 : w8.cell? ⟨bl, 2, none⟩ = some (.slice Al uo.length cl) := cell_at (FXl6.out _ HK8.out) 2 _ rfl
          have l3 : w8.cell? ⟨bl, 3, none⟩ = some (.string to_) := cell_at (FXl6.out _ HK8.out) 3 _ rfl
          have m0 : w8.cell? ⟨bm, 0, none⟩ = some (.int .i64 so) := cell_at (FXm6.out _ HK8.out) 0 _ rfl
          have m1 : w8.cell? ⟨bm, 1, none⟩ = some (.string fo) := cell_at (FXm6.out _ HK8.out) 1 _ rfl
          have m2 : w8.cell? ⟨bm, 2, none⟩ = some (.slice Am uo.length cm) := cell_at (FXm6.out _ HK8.out) 2 _ rfl
          have m3 : w8.cell? ⟨bm, 3, none⟩ = some (.string to_) := cell_at (FXm6.out _ HK8.out) 3 _ rfl
          clear d0 d1 d2 d3 l0 l1 l2 l3 m0 m1 m2 m3
          have hx := heap_alloc_new w8 (.cells #[.int .i64 st, .string f, .slice Ax us.length cx, .string tw1] 36)
          have hE := Below.alloc (Below.refl w8.heap.size w8) (Nat.le_refl _) (.cells #[.int .i64 st, .string f, .slice Ax us.length cx, .string tw1] 36)
          have hs : w8.heap.size < (w8.alloc (.cells #[.int .i64 st, .string f, .slice Ax us.length cx, .string tw1] 36)).heap.size := by simp
          go_upto_region 9 with fail
          generalize w8.alloc (.cells #[.int .i64 st, .string f, .slice Ax us.length cx, .string tw1] 36) = w9 at hx hE hs ⊢
          obtain ⟨bx, hbb⟩ : ∃ b, b = w8.heap.size := ⟨_, rfl⟩
          rw [← hbb] at hx hs ⊢
          have hltdx : bd < bx := by have := (Array.getElem?_eq_some_iff.1 (FXd6.out _ HK8.out)).1; omega
          have hltlx : bl < bx := by have := (Array.getElem?_eq_some_iff.1 (FXl6.out _ HK8.out)).1; omega
          have hltmx : bm < bx := by have := (Array.getElem?_eq_some_iff.1 (FXm6.out _ HK8.out)).1; omega
          have HK9 := Lib.hid (HK8.out.trans (hE.mono HK8.out.size))
          have FXx9 : Hid (∀ w', Below w9.heap.size w9 w' → w'.heap[bx]? = some (.cells #[.int .i64 st, .string f, .slice Ax us.length cx, .string tw1] 36 (0, 0))) := Lib.hid (fun w' hb => (hb.block _ hs).trans hx)
          have FAX9 : Hid (∀ w', Below w9.heap.size w9 w' → AtStrs w' w'.heap.size Ax us) := Lib.hid (fun w' hb => (((hatx.below hE).mono hE.size).below hb).mono hb.size)
          clear hx hE hs hbb
          have FU9 := Lib.hid (fun w' (hb : Below w9.heap.size w9 w') => FU6.out w' (HK9.out.trans (hb.mono HK9.out.size)))
          have FM9 := Lib.hid (fun w' (hb : Below w9.heap.size w9 w') => FM6.out w' (HK9.out.trans (hb.mono HK9.out.size)))
          have FB9 := Lib.hid (fun w' (hb : Below w9.heap.size w9 w') => FB6.out w' (HK9.out.trans (hb.mono HK9.out.size)))
          have FXd9 := Lib.hid (fun w' (hb : Below w9.heap.size w9 w') => FXd6.out w' (HK9.out.trans (hb.mono HK9.out.size)))
          have FXl9 := Lib.hid (fun w' (hb : Below w9.heap.size w9 w') => FXl6.out w' (HK9.out.trans (hb.mono HK9.out.size)))
          have FXm9 := Lib.hid (fun w' (hb : Below w9.heap.size w9 w') => FXm6.out w' (HK9.out.trans (hb.mono HK9.out.size)))
          have FAA9 := Lib.hid (fun w' (hb : Below w9.heap.size w9 w') => FAA6.out w' (HK9.out.trans (hb.mono HK9.out.size)))
          have FAL9 := Lib.hid (fun w' (hb : Below w9.heap.size w9 w') => FAL6.out w' (HK9.out.trans (hb.mono HK9.out.size)))
          have FAM9 := Lib.hid (fun w' (hb : Below w9.heap.size w9 w') => FAM6.out w' (HK9.out.trans (hb.mono HK9.out.size)))
          have HKb : Hid (Below w9.heap.size w9 w9) := Lib.hid (Below.refl _ _)
          clear HK9
          have HK9 := HKb
          clear HKb
          have d0 : w9.cell? ⟨bd, 0, none⟩ = some (.int .i64 st) := cell_at (FXd9.out _ HK9.out) 0 _ rfl
          have d1 : w9.cell? ⟨bd, 1, none⟩ = some (.string f) := cell_at (FXd9.out _ HK9.out) 1 _ rfl
          have d2 : w9.cell? ⟨bd, 2, none⟩ = some (.slice A us.length c) := cell_at (FXd9.out _ HK9.out) 2 _ rfl
          have d3 : w9.cell? ⟨bd, 3, none⟩ = some (.string t) := cell_at (FXd9.out _ HK9.out) 3 _ rfl
          have l0 : w9.cell? ⟨bl, 0, none⟩ = some (.int .i64 so) := cell_at (FXl9.out _ HK9.out) 0 _ rfl
          have l1 : w9.cell? ⟨bl, 1, none⟩ = some (.string fo) := cell_at (FXl9.out _ HK9.out) 1 _ rfl
          have l2 : w9.cell? ⟨bl, 2, none⟩ = some (.slice Al uo.length cl) := cell_at (FXl9.out _ HK9.out) 2 _ rfl
          have l3 : w9.cell? ⟨bl, 3, none⟩ = some (.string to_) := cell_at (FXl9.out _ HK9.out) 3 _ rfl
          have m0 : w9.cell? ⟨bm, 0, none⟩ = some (.int .i64 so) := cell_at (FXm9.out _ HK9.out) 0 _ rfl
          have m1 : w9.cell? ⟨bm, 1, none⟩ = some (.string fo) := cell_at (FXm9.out _ HK9.out) 1 _ rfl
          have m2 : w9.cell? ⟨bm, 2, none⟩ = some (.slice Am uo.length cm) := cell_at (FXm9.out _ HK9.out) 2 _ rfl
          have m3 : w9.cell? ⟨bm, 3, none⟩ = some (.string to_) := cell_at (FXm9.out _ HK9.out) 3 _ rfl
          have x0 : w9.cell? ⟨bx, 0, none⟩ = some (.int .i64 st) := cell_at (FXx9.out _ HK9.out) 0 _ rfl
          have x1 : w9.cell? ⟨bx, 1, none⟩ = some (.string f) := cell_at (FXx9.out _ HK9.out) 1 _ rfl
          have x2 : w9.cell? ⟨bx, 2, none⟩ = some (.slice Ax us.length cx) := cell_at (FXx9.out _ HK9.out) 2 _ rfl
          have x3 : w9.cell? ⟨bx, 3, none⟩ = some (.string tw1) := cell_at (FXx9.out _ HK9.out) 3 _ rfl
          clear hatx
          go_wp2_with fail
          refine Calls.mono (iLine_any st f t A us c _ (FAA9.out _ HK9.out) hcap hcm hfm htm Au vs cu (FU9.out _ HK9.out) hvl d ⟨#[120]⟩ hdz (by decide) m (FM9.out _ HK9.out) HR2.out) ?_
          rintro e w10 ⟨Ap, cp, rfl, hatp, hkp, hjp, hb⟩
          clear d0 d1 d2 d3 l0 l1 l2 l3 m0 m1 m2 m3 x0 x1 x2 x3
          have HK10 := Lib.hid (HK9.out.trans (hb.mono HK9.out.size))
          clear hb
          have d0 : w10.cell? ⟨bd, 0, none⟩ = some (.int .i64 st) := cell_at (FXd9.out _ HK10.out) 0 _ rfl
          have d1 : w10.cell? ⟨bd, 1, none⟩ = some (.string f) := cell_at (FXd9.out _ HK10.out) 1 _ rfl
          have d2 : w10.cell? ⟨bd, 2, none⟩ = some (.slice A us.length c) := cell_at (FXd9.out _ HK10.out) 2 _ rfl
          have d3 : w10.cell? ⟨bd, 3, none⟩ = some (.string t) := cell_at (FXd9.out _ HK10.out) 3 _ rfl
          have l0 : w10.cell? ⟨bl, 0, none⟩ = some (.int .i64 so) := cell_at (FXl9.out _ HK10.out) 0 _ rfl
          have l1 : w10.cell? ⟨bl, 1, none⟩ = some (.string fo) := cell_at (FXl9.out _ HK10.out) 1 _ rfl
          have l2 : w10.cell? ⟨bl, 2, none⟩ = some (.slice Al uo.length cl) := cell_at (FXl9.out _ HK10.out) 2 _ rfl
          have l3 : w10.cell? ⟨bl, 3, none⟩ = some (.string to_) := cell_at (FXl9.out _ HK10.out) 3 _ rfl
          have m0 : w10.cell? ⟨bm, 0, none⟩ = some (.int .i64 so) := cell_at (FXm9.out _ HK10.out) 0 _ rfl
          have m1 : w10.cell? ⟨bm, 1, none⟩ = some (.string fo) := cell_at (FXm9.out _ HK10.out) 1 _ rfl
          have m2 : w10.cell? ⟨bm, 2, none⟩ = some (.slice Am uo.length cm) := cell_at (FXm9.out _ HK10.out) 2 _ rfl
          have m3 : w10.cell? ⟨bm, 3, none⟩ = some (.string to_) := cell_at (FXm9.out _ HK10.out) 3 _ rfl
          have x0 : w10.cell? ⟨bx, 0, none⟩ = some (.int .i64 st) := cell_at (FXx9.out _ HK10.out) 0 _ rfl
          have x1 : w10.cell? ⟨bx, 1, none⟩ = some (.string f) := cell_at (FXx9.out _ HK10.out) 1 _ rfl
          have x2 : w10.cell? ⟨bx, 2, none⟩ = some (.slice Ax us.length cx) := cell_at (FXx9.out _ HK10.out) 2 _ rfl
          have x3 : w10.cell? ⟨bx, 3, none⟩ = some (.string tw1) := cell_at (FXx9.out _ HK10.out) 3 _ rfl
          clear d0 d1 d2 d3 l0 l1 l2 l3 m0 m1 m2 m3 x0 x1 x2 x3
          have hx := heap_alloc_new w10 (.cells #[.int .i64 st, .string f, .slice Ap us.length cp, .string tw1] 36)
          have hE := Below.alloc (Below.refl w10.heap.size w10) (Nat.le_refl _) (.cells #[.int .i64 st, .string f, .slice Ap us.length cp, .string tw1] 36)
          have hs : w10.heap.size < (w10.alloc (.cells #[.int .i64 st, .string f, .slice Ap us.length cp, .string tw1] 36)).heap.size := by simp
          go_upto_region 10 with fail
          generalize w10.alloc (.cells #[.int .i64 st, .string f, .slice Ap us.length cp, .string tw1] 36) = w11 at hx hE hs ⊢
          obtain ⟨bp, hbb⟩ : ∃ b, b = w10.heap.size := ⟨_, rfl⟩
          rw [← hbb] at hx hs ⊢
          have hltdp : bd < bp := by have := (Array.getElem?_eq_some_iff.1 (FXd9.out _ HK10.out)).1; omega
          have hltlp : bl < bp := by have := (Array.getElem?_eq_some_iff.1 (FXl9.out _ HK10.out)).1; omega
          have hltmp : bm < bp := by have := (Array.getElem?_eq_some_iff.1 (FXm9.out _ HK10.out)).1; omega
          have hltxp : bx < bp := by have := (Array.getElem?_eq_some_iff.1 (FXx9.out _ HK10.out)).1; omega
          have HK11 := Lib.hid (HK10.out.trans (hE.mono HK10.out.size))
          have FXp11 : Hid (∀ w', Below w11.heap.size w11 w' → w'.heap[bp]? = some (.cells #[.int .i64 st, .string f, .slice Ap us.length cp, .string tw1] 36 (0, 0))) := Lib.hid (fun w' hb => (hb.block _ hs).trans hx)
          have FAP11 : Hid (∀ w', Below w11.heap.size w11 w' → AtStrs w' w'.heap.size Ap us) := Lib.hid (fun w' hb => (((hatp.below hE).mono hE.size).below hb).mono hb.size)
          clear hx hE hs hbb
          have FU11 := Lib.hid (fun w' (hb : Below w11.heap.size w11 w') => FU9.out w' (HK11.out.trans (hb.mono HK11.out.size)))
          have FM11 := Lib.hid (fun w' (hb : Below w11.heap.size w11 w') => FM9.out w' (HK11.out.trans (hb.mono HK11.out.size)))
          have FB11 := Lib.hid (fun w' (hb : Below w11.heap.size w11 w') => FB9.out w' (HK11.out.trans (hb.mono HK11.out.size)))
          have FXd11 := Lib.hid (fun w' (hb : Below w11.heap.size w11 w') => FXd9.out w' (HK11.out.trans (hb.mono HK11.out.size)))
          have FXl11 := Lib.hid (fun w' (hb : Below w11.heap.size w11 w') => FXl9.out w' (HK11.out.trans (hb.mono HK11.out.size)))
          have FXm11 := Lib.hid (fun w' (hb : Below w11.heap.size w11 w') => FXm9.out w' (HK11.out.trans (hb.mono HK11.out.size)))
          have FXx11 := Lib.hid (fun w' (hb : Below w11.heap.size w11 w') => FXx9.out w' (HK11.out.trans (hb.mono HK11.out.size)))
          have FAA11 := Lib.hid (fun w' (hb : Below w11.heap.size w11 w') => FAA9.out w' (HK11.out.trans (hb.mono HK11.out.size)))
          have FAL11 := Lib.hid (fun w' (hb : Below w11.heap.size w11 w') => FAL9.out w' (HK11.out.trans (hb.mono HK11.out.size)))
          have FAM11 := Lib.hid (fun w' (hb : Below w11.heap.size w11 w') => FAM9.out w' (HK11.out.trans (hb.mono HK11.out.size)))
          have FAX11 := Lib.hid (fun w' (hb : Below w11.heap.size w11 w') => FAX9.out w' (HK11.out.trans (hb.mono HK11.out.size)))
          have HKb : Hid (Below w11.heap.size w11 w11) := Lib.hid (Below.refl _ _)
          clear HK11
          have HK11 := HKb
          clear HKb
          have d0 : w11.cell? ⟨bd, 0, none⟩ = some (.int .i64 st) := cell_at (FXd11.out _ HK11.out) 0 _ rfl
          have d1 : w11.cell? ⟨bd, 1, none⟩ = some (.string f) := cell_at (FXd11.out _ HK11.out) 1 _ rfl
          have d2 : w11.cell? ⟨bd, 2, none⟩ = some (.slice A us.length c) := cell_at (FXd11.out _ HK11.out) 2 _ rfl
          have d3 : w11.cell? ⟨bd, 3, none⟩ = some (.string t) := cell_at (FXd11.out _ HK11.out) 3 _ rfl
          have l0 : w11.cell? ⟨bl, 0, none⟩ = some (.int .i64 so) := cell_at (FXl11.out _ HK11.out) 0 _ rfl
          have l1 : w11.cell? ⟨bl, 1, none⟩ = some (.string fo) := cell_at (FXl11.out _ HK11.out) 1 _ rfl
          have l2 : w11.cell? ⟨bl, 2, none⟩ = some (.slice Al uo.length cl) := cell_at (FXl11.out _ HK11.out) 2 _ rfl
          have l3 : w11.cell? ⟨bl, 3, none⟩ = some (.string to_) := cell_at (FXl11.out _ HK11.out) 3 _ rfl
          have m0 : w11.cell? ⟨bm, 0, none⟩ = some (.int .i64 so) := cell_at (FXm11.out _ HK11.out) 0 _ rfl
          have m1 : w11.cell? ⟨bm, 1, none⟩ = some (.string fo) := cell_at (FXm11.out _ HK11.out) 1 _ rfl
          have m2 : w11.cell? ⟨bm, 2, none⟩ = some (.slice Am uo.length cm) := cell_at (FXm11.out _ HK11.out) 2 _ rfl
          have m3 : w11.cell? ⟨bm, 3, none⟩ = some (.string to_) := cell_at (FXm11.out _ HK11.out) 3 _ rfl
          have x0 : w11.cell? ⟨bx, 0, none⟩ = some (.int .i64 st) := cell_at (FXx11.out _ HK11.out) 0 _ rfl
          have x1 : w11.cell? ⟨bx, 1, none⟩ = some (.string f) := cell_at (FXx11.out _ HK11.out) 1 _ rfl
          have x2 : w11.cell? ⟨bx, 2, none⟩ = some (.slice Ax us.length cx) := cell_at (FXx11.out _ HK11.out) 2 _ rfl
          have x3 : w11.cell? ⟨bx, 3, none⟩ = some (.string tw1) := cell_at (FXx11.out _ HK11.out) 3 _ rfl
          have p0 : w11.cell? ⟨bp, 0, none⟩ = some (.int .i64 st) := cell_at (FXp11.out _ HK11.out) 0 _ rfl
          have p1 : w11.cell? ⟨bp, 1, none⟩ = some (.string f) := cell_at (FXp11.out _ HK11.out) 1 _ rfl
          have p2 : w11.cell? ⟨bp, 2, none⟩ = some (.slice Ap us.length cp) := cell_at (FXp11.out _ HK11.out) 2 _ rfl
          have p3 : w11.cell? ⟨bp, 3, none⟩ = some (.string tw1) := cell_at (FXp11.out _ HK11.out) 3 _ rfl
          clear hatp
          go_wp2_with fail
          refine Calls.mono (iLine_any st f t A us c _ (FAA11.out _ HK11.out) hcap hcm hfm htm Au vs cu (FU11.out _ HK11.out) hvl d ⟨#[46, 46]⟩ hdz (by decide) m (FM11.out _ HK11.out) HR3.out) ?_
          rintro e w12 ⟨Az, cz, rfl, hatz, hkz, hjz, hb⟩
          clear d0 d1 d2 d3 l0 l1 l2 l3 m0 m1 m2 m3 x0 x1 x2 x3 p0 p1 p2 p3
          have HK12 := Lib.hid (HK11.out.trans (hb.mono HK11.out.size))
          clear hb
          have d0 : w12.cell? ⟨bd, 0, none⟩ = some (.int .i64 st) := cell_at (FXd11.out _ HK12.out) 0 _ rfl
          have d1 : w12.cell? ⟨bd, 1, none⟩ = some (.string f) := cell_at (FXd11.out _ HK12.out) 1 _ rfl
          have d2 : w12.cell? ⟨bd, 2, none⟩ = some (.slice A us.length c) := cell_at (FXd11.out _ HK12.out) 2 _ rfl
          have d3 : w12.cell? ⟨bd, 3, none⟩ = some (.string t) := cell_at (FXd11.out _ HK12.out) 3 _ rfl
          have l0 : w12.cell? ⟨bl, 0, none⟩ = some (.int .i64 so) := cell_at (FXl11.out _ HK12.out) 0 _ rfl
          have l1 : w12.cell? ⟨bl, 1, none⟩ = some (.string fo) := cell_at (FXl11.out _ HK12.out) 1 _ rfl
          have l2 : w12.cell? ⟨bl, 2, none⟩ = some (.slice Al uo.length cl) := cell_at (FXl11.out _ HK12.out) 2 _ rfl
          have l3 : w12.cell? ⟨bl, 3, none⟩ = some (.string to_) := cell_at (FXl11.out _ HK12.out) 3 _ rfl
          have m0 : w12.cell? ⟨bm, 0, none⟩ = some (.int .i64 so) := cell_at (FXm11.out _ HK12.out) 0 _ rfl
          have m1 : w12.cell? ⟨bm, 1, none⟩ = some (.string fo) := cell_at (FXm11.out _ HK12.out) 1 _ rfl
          have m2 : w12.cell? ⟨bm, 2, none⟩ = some (.slice Am uo.length cm) := cell_at (FXm11.out _ HK12.out) 2 _ rfl
          have m3 : w12.cell? ⟨bm, 3, none⟩ = some (.string to_) := cell_at (FXm11.out _ HK12.out) 3 _ rfl
          have x0 : w12.cell? ⟨bx, 0, none⟩ = some (.int .i64 st) := cell_at (FXx11.out _ HK12.out) 0 _ rfl
          have x1 : w12.cell? ⟨bx, 1, none⟩ = some (.string f) := cell_at (FXx11.out _ HK12.out) 1 _ rfl
          have x2 : w12.cell? ⟨bx, 2, none⟩ = some (.slice Ax us.length cx) := cell_at (FXx11.out _ HK12.out) 2 _ rfl
          have x3 : w12.cell? ⟨bx, 3, none⟩ = some (.string tw1) := cell_at (FXx11.out _ HK12.out) 3 _ rfl
          have p0 : w12.cell? ⟨bp, 0, none⟩ = some (.int .i64 st) := cell_at (FXp11.out _ HK12.out) 0 _ rfl
          have p1 : w12.cell? ⟨bp, 1, none⟩ = some (.string f) := cell_at (FXp11.out _ HK12.out) 1 _ rfl
          have p2 : w12.cell? ⟨bp, 2, none⟩ = some (.slice Ap us.length cp) := cell_at (FXp11.out _ HK12.out) 2 _ rfl
          have p3 : w12.cell? ⟨bp, 3, none⟩ = some (.string tw1) := cell_at (FXp11.out _ HK12.out) 3 _ rfl
          clear d0 d1 d2 d3 l0 l1 l2 l3 m0 m1 m2 m3 x0 x1 x2 x3 p0 p1 p2 p3
          have hx := heap_alloc_new w12 (.cells #[.int .i64 st, .string f, .slice Az us.length cz, .string tw3] 36)
          have hE := Below.alloc (Below.refl w12.heap.size w12) (Nat.le_refl _) (.cells #[.int .i64 st, .string f, .slice Az us.length cz, .string tw3] 36)
          have hs : w12.heap.size < (w12.alloc (.cells #[.int .i64 st, .string f, .slice Az us.length cz, .string tw3] 36)).heap.size := by simp
          go_upto_region 11 with fail
          generalize w12.alloc (.cells #[.int .i64 st, .string f, .slice Az us.length cz, .string tw3] 36) = w13 at hx hE hs ⊢
          obtain ⟨bz, hbb⟩ : ∃ b, b = w12.heap.size := ⟨_, rfl⟩
          rw [← hbb] at hx hs ⊢
          have hltdz : bd < bz := by have := (Array.getElem?_eq_some_iff.1 (FXd11.out _ HK12.out)).1; omega
          have hltlz : bl < bz := by have := (Array.getElem?_eq_some_iff.1 (FXl11.out _ HK12.out)).1; omega
          have hltmz : bm < bz := by have := (Array.getElem?_eq_some_iff.1 (FXm11.out _ HK12.out)).1; omega
          have hltxz : bx < bz := by have := (Array.getElem?_eq_some_iff.1 (FXx11.out _ HK12.out)).1; omega
          have hltpz : bp < bz := by have := (Array.getElem?_eq_some_iff.1 (FXp11.out _ HK12.out)).1; omega
          have HK13 := Lib.hid (HK12.out.trans (hE.mono HK12.out.size))
          have FXz13 : Hid (∀ w', Below w13.heap.size w13 w' → w'.heap[bz]? = some (.cells #[.int .i64 st, .string f, .slice Az us.length cz, .string tw3] 36 (0, 0))) := Lib.hid (fun w' hb => (hb.block _ hs).trans hx)
          have FAZ13 : Hid (∀ w', Below w13.heap.size w13 w' → AtStrs w' w'.heap.size Az us) := Lib.hid (fun w' hb => (((hatz.below hE).mono hE.size).below hb).mono hb.size)
          clear hx hE hs hbb
          have FU13 := Lib.hid (fun w' (hb : Below w13.heap.size w13 w') => FU11.out w' (HK13.out.trans (hb.mono HK13.out.size)))
          have FM13 := Lib.hid (fun w' (hb : Below w13.heap.size w13 w') => FM11.out w' (HK13.out.trans (hb.mono HK13.out.size)))
          have FB13 := Lib.hid (fun w' (hb : Below w13.heap.size w13 w') => FB11.out w' (HK13.out.trans (hb.mono HK13.out.size)))
          have FXd13 := Lib.hid (fun w' (hb : Below w13.heap.size w13 w') => FXd11.out w' (HK13.out.trans (hb.mono HK13.out.size)))
          have FXl13 := Lib.hid (fun w' (hb : Below w13.heap.size w13 w') => FXl11.out w' (HK13.out.trans (hb.mono HK13.out.size)))
          have FXm13 := Lib.hid (fun w' (hb : Below w13.heap.size w13 w') => FXm11.out w' (HK13.out.trans (hb.mono HK13.out.size)))
          have FXx13 := Lib.hid (fun w' (hb : Below w13.heap.size w13 w') => FXx11.out w' (HK13.out.trans (hb.mono HK13.out.size)))
          have FXp13 := Lib.hid (fun w' (hb : Below w13.heap.size w13 w') => FXp11.out w' (HK13.out.trans (hb.mono HK13.out.size)))
          have FAA13 := Lib.hid (fun w' (hb : Below w13.heap.size w13 w') => FAA11.out w' (HK13.out.trans (hb.mono HK13.out.size)))
          have FAL13 := Lib.hid (fun w' (hb : Below w13.heap.size w13 w') => FAL11.out w' (HK13.out.trans (hb.mono HK13.out.size)))
          have FAM13 := Lib.hid (fun w' (hb : Below w13.heap.size w13 w') => FAM11.out w' (HK13.out.trans (hb.mono HK13.out.size)))
          have FAX13 := Lib.hid (fun w' (hb : Below w13.heap.size w13 w') => FAX11.out w' (HK13.out.trans (hb.mono HK13.out.size)))
          have FAP13 := Lib.hid (fun w' (hb : Below w13.heap.size w13 w') => FAP11.out w' (HK13.out.trans (hb.mono HK13.out.size)))
          have HKb : Hid (Below w13.heap.size w13 w13) := Lib.hid (Below.refl _ _)
          clear HK13
          have HK13 := HKb
          clear HKb
          have d0 : w13.cell? ⟨bd, 0, none⟩ = some (.int .i64 st) := cell_at (FXd13.out _ HK13.out) 0 _ rfl
          have d1 : w13.cell? ⟨bd, 1, none⟩ = some (.string f) := cell_at (FXd13.out _ HK13.out) 1 _ rfl
          have d2 : w13.cell? ⟨bd, 2, none⟩ = some (.slice A us.length c) := cell_at (FXd13.out _ HK13.out) 2 _ rfl
          have d3 : w13.cell? ⟨bd, 3, none⟩ = some (.string t) := cell_at (FXd13.out _ HK13.out) 3 _ rfl
          have l0 : w13.cell? ⟨bl, 0, none⟩ = some (.int .i64 so) := cell_at (FXl13.out _ HK13.out) 0 _ rfl
          have l1 : w13.cell? ⟨bl, 1, none⟩ = some (.string fo) := cell_at (FXl13.out _ HK13.out) 1 _ rfl
          have l2 : w13.cell? ⟨bl, 2, none⟩ = some (.slice Al uo.length cl) := cell_at (FXl13.out _ HK13.out) 2 _ rfl
          have l3 : w13.cell? ⟨bl, 3, none⟩ = some (.string to_) := cell_at (FXl13.out _ HK13.out) 3 _ rfl
          have m0 : w13.cell? ⟨bm, 0, none⟩ = some (.int .i64 so) := cell_at (FXm13.out _ HK13.out) 0 _ rfl
          have m1 : w13.cell? ⟨bm, 1, none⟩ = some (.string fo) := cell_at (FXm13.out _ HK13.out) 1 _ rfl
          have m2 : w13.cell? ⟨bm, 2, none⟩ = some (.slice Am uo.length cm) := cell_at (FXm13.out _ HK13.out) 2 _ rfl
          have m3 : w13.cell? ⟨bm, 3, none⟩ = some (.string to_) := cell_at (FXm13.out _ HK13.out) 3 _ rfl
          have x0 : w13.cell? ⟨bx, 0, none⟩ = some (.int .i64 st) := cell_at (FXx13.out _ HK13.out) 0 _ rfl
          have x1 : w13.cell? ⟨bx, 1, none⟩ = some (.string f) := cell_at (FXx13.out _ HK13.out) 1 _ rfl
          have x2 : w13.cell? ⟨bx, 2, none⟩ = some (.slice Ax us.length cx) := cell_at (FXx13.out _ HK13.out) 2 _ rfl
          have x3 : w13.cell? ⟨bx, 3, none⟩ = some (.string tw1) := cell_at (FXx13.out _ HK13.out) 3 _ rfl
          have p0 : w13.cell? ⟨bp, 0, none⟩ = some (.int .i64 st) := cell_at (FXp13.out _ HK13.out) 0 _ rfl
          have p1 : w13.cell? ⟨bp, 1, none⟩ = some (.string f) := cell_at (FXp13.out _ HK13.out) 1 _ rfl
          have p2 : w13.cell? ⟨bp, 2, none⟩ = some (.slice Ap us.length cp) := cell_at (FXp13.out _ HK13.out) 2 _ rfl
          have p3 : w13.cell? ⟨bp, 3, none⟩ = some (.string tw1) := cell_at (FXp13.out _ HK13.out) 3 _ rfl
          have z0 : w13.cell? ⟨bz, 0, none⟩ = some (.int .i64 st) := cell_at (FXz13.out _ HK13.out) 0 _ rfl
          have z1 : w13.cell? ⟨bz, 1, none⟩ = some (.string f) := cell_at (FXz13.out _ HK13.out) 1 _ rfl
          have z2 : w13.cell? ⟨bz, 2, none⟩ = some (.slice Az us.length cz) := cell_at (FXz13.out _ HK13.out) 2 _ rfl
          have z3 : w13.cell? ⟨bz, 3, none⟩ = some (.string tw3) := cell_at (FXz13.out _ HK13.out) 3 _ rfl
          clear hatz
          have hx := heap_alloc_new w13 (.cells #[.int .i64 st, .string f, .slice A us.length c, .string t] 36)
          have hE := Below.alloc (Below.refl w13.heap.size w13) (Nat.le_refl _) (.cells #[.int .i64 st, .string f, .slice A us.length c, .string t] 36)
          go_upto_region 12 with fail
          clear d0 d1 d2 d3 l0 l1 l2 l3 m0 m1 m2 m3 x0 x1 x2 x3 p0 p1 p2 p3 z0 z1 z2 z3
          generalize w13.alloc (.cells #[.int .i64 st, .string f, .slice A us.length c, .string t] 36) = w14 at hx hE ⊢
          obtain ⟨bY, hbb⟩ : ∃ b, b = w13.heap.size := ⟨_, rfl⟩
          rw [← hbb] at hx ⊢
          have hleY : w13.heap.size ≤ bY := by have := HK13.out.size; omega
          have hnedY : bd ≠ bY := by have := (Array.getElem?_eq_some_iff.1 (FXd13.out _ HK13.out)).1; omega
          have hneYd : bY ≠ bd := Ne.symm hnedY
          have hnelY : bl ≠ bY := by have := (Array.getElem?_eq_some_iff.1 (FXl13.out _ HK13.out)).1; omega
          have hneYl : bY ≠ bl := Ne.symm hnelY
          have hnemY : bm ≠ bY := by have := (Array.getElem?_eq_some_iff.1 (FXm13.out _ HK13.out)).1; omega
          have hneYm : bY ≠ bm := Ne.symm hnemY
          have hnexY : bx ≠ bY := by have := (Array.getElem?_eq_some_iff.1 (FXx13.out _ HK13.out)).1; omega
          have hneYx : bY ≠ bx := Ne.symm hnexY
          have hnepY : bp ≠ bY := by have := (Array.getElem?_eq_some_iff.1 (FXp13.out _ HK13.out)).1; omega
          have hneYp : bY ≠ bp := Ne.symm hnepY
          have hnezY : bz ≠ bY := by have := (Array.getElem?_eq_some_iff.1 (FXz13.out _ HK13.out)).1; omega
          have hneYz : bY ≠ bz := Ne.symm hnezY
          have HK14 := Lib.hid (HK13.out.trans (hE.mono HK13.out.size))
          have HZY := Lib.hid hx
          clear hx hE hbb
          have d0 : w14.cell? ⟨bd, 0, none⟩ = some (.int .i64 st) := cell_at (FXd13.out _ HK14.out) 0 _ rfl
          have d1 : w14.cell? ⟨bd, 1, none⟩ = some (.string f) := cell_at (FXd13.out _ HK14.out) 1 _ rfl
          have d2 : w14.cell? ⟨bd, 2, none⟩ = some (.slice A us.length c) := cell_at (FXd13.out _ HK14.out) 2 _ rfl
          have d3 : w14.cell? ⟨bd, 3, none⟩ = some (.string t) := cell_at (FXd13.out _ HK14.out) 3 _ rfl
          have l0 : w14.cell? ⟨bl, 0, none⟩ = some (.int .i64 so) := cell_at (FXl13.out _ HK14.out) 0 _ rfl
          have l1 : w14.cell? ⟨bl, 1, none⟩ = some (.string fo) := cell_at (FXl13.out _ HK14.out) 1 _ rfl
          have l2 : w14.cell? ⟨bl, 2, none⟩ = some (.slice Al uo.length cl) := cell_at (FXl13.out _ HK14.out) 2 _ rfl
          have l3 : w14.cell? ⟨bl, 3, none⟩ = some (.string to_) := cell_at (FXl13.out _ HK14.out) 3 _ rfl
          have m0 : w14.cell? ⟨bm, 0, none⟩ = some (.int .i64 so) := cell_at (FXm13.out _ HK14.out) 0 _ rfl
          have m1 : w14.cell? ⟨bm, 1, none⟩ = some (.string fo) := cell_at (FXm13.out _ HK14.out) 1 _ rfl
          have m2 : w14.cell? ⟨bm, 2, none⟩ = some (.slice Am uo.length cm) := cell_at (FXm13.out _ HK14.out) 2 _ rfl
          have m3 : w14.cell? ⟨bm, 3, none⟩ = some (.string to_) := cell_at (FXm13.out _ HK14.out) 3 _ rfl
          have x0 : w14.cell? ⟨bx, 0, none⟩ = some (.int .i64 st) := cell_at (FXx13.out _ HK14.out) 0 _ rfl
          have x1 : w14.cell? ⟨bx, 1, none⟩ = some (.string f) := cell_at (FXx13.out _ HK14.out) 1 _ rfl
          have x2 : w14.cell? ⟨bx, 2, none⟩ = some (.slice Ax us.length cx) := cell_at (FXx13.out _ HK14.out) 2 _ rfl
          have x3 : w14.cell? ⟨bx, 3, none⟩ = some (.string tw1) := cell_at (FXx13.out _ HK14.out) 3 _ rfl
          have p0 : w14.cell? ⟨bp, 0, none⟩ = some (.int .i64 st) := cell_at (FXp13.out _ HK14.out) 0 _ rfl
          have p1 : w14.cell? ⟨bp, 1, none⟩ = some (.string f) := cell_at (FXp13.out _ HK14.out) 1 _ rfl
          have p2 : w14.cell? ⟨bp, 2, none⟩ = some (.slice Ap us.length cp) := cell_at (FXp13.out _ HK14.out) 2 _ rfl
          have p3 : w14.cell? ⟨bp, 3, none⟩ = some (.string tw1) := cell_at (FXp13.out _ HK14.out) 3 _ rfl
          have z0 : w14.cell? ⟨bz, 0, none⟩ = some (.int .i64 st) := cell_at (FXz13.out _ HK14.out) 0 _ rfl
          have z1 : w14.cell? ⟨bz, 1, none⟩ = some (.string f) := cell_at (FXz13.out _ HK14.out) 1 _ rfl
          have z2 : w14.cell? ⟨bz, 2, none⟩ = some (.slice Az us.length cz) := cell_at (FXz13.out _ HK14.out) 2 _ rfl
          have z3 : w14.cell? ⟨bz, 3, none⟩ = some (.string tw3) := cell_at (FXz13.out _ HK14.out) 3 _ rfl
          have Y0 : w14.cell? ⟨bY, 0, none⟩ = some (.int .i64 st) := cell_at (HZY.out) 0 _ rfl
          have Y1 : w14.cell? ⟨bY, 1, none⟩ = some (.string f) := cell_at (HZY.out) 1 _ rfl
          have Y2 : w14.cell? ⟨bY, 2, none⟩ = some (.slice A us.length c) := cell_at (HZY.out) 2 _ rfl
          have Y3 : w14.cell? ⟨bY, 3, none⟩ = some (.string t) := cell_at (HZY.out) 3 _ rfl
          have fY0 := free_at HZY.out 0
          have fY1 := free_at HZY.out 1
          have fY2 := free_at HZY.out 2
          have fY3 := free_at HZY.out 3
          have HS1 : Hid (∀ v, Below w13.heap.size w13 (w14.setCell ⟨bY, 3, none⟩ v)) := Lib.hid (fun v => HK14.out.setCell (p := ⟨bY, 3, none⟩) hleY _)
          have HS2 : Hid (∀ v u, Below w13.heap.size w13 ((w14.setCell ⟨bY, 3, none⟩ v).setCell ⟨bY, 3, none⟩ u)) := Lib.hid (fun v u => (HS1.out v).setCell (p := ⟨bY, 3, none⟩) hleY _)
          go_wp2_with fail
          first | refine Calls.mono (sameSub_any st f tw1 Ax Ap us cx cp _ (FAX13.out _ (HS1.out _)) (FAP13.out _ (HS1.out _)) hul) ?_ | refine Calls.mono (sameSub_any st f tw1 Ax Ap us cx cp _ (FAX13.out _ (HS2.out _ _)) (FAP13.out _ (HS2.out _ _)) hul) ?_
          rintro e wz ⟨rfl, hb⟩
          have HKz : Hid (Below w13.heap.size w13 wz) := Lib.hid (by first | exact (HS1.out _).trans (hb.mono (HS1.out _).size) | exact (HS2.out _ _).trans (hb.mono (HS2.out _ _).size))
          have HZw := Lib.hid ((hb.block bY (by simp; exact (Array.getElem?_eq_some_iff.1 HZY.out).1)).trans (by first | exact set_heap (set_heap HZY.out) | exact set_heap HZY.out))
          clear d0 d1 d2 d3 l0 l1 l2 l3 m0 m1 m2 m3 x0 x1 x2 x3 p0 p1 p2 p3 z0 z1 z2 z3
          clear Y0 Y1 Y2 Y3 fY0 fY1 fY2 fY3 hb
          have d0 : wz.cell? ⟨bd, 0, none⟩ = some (.int .i64 st) := cell_at (FXd13.out _ HKz.out) 0 _ rfl
          have d1 : wz.cell? ⟨bd, 1, none⟩ = some (.string f) := cell_at (FXd13.out _ HKz.out) 1 _ rfl
          have d2 : wz.cell? ⟨bd, 2, none⟩ = some (.slice A us.length c) := cell_at (FXd13.out _ HKz.out) 2 _ rfl
          have d3 : wz.cell? ⟨bd, 3, none⟩ = some (.string t) := cell_at (FXd13.out _ HKz.out) 3 _ rfl
          have l0 : wz.cell? ⟨bl, 0, none⟩ = some (.int .i64 so) := cell_at (FXl13.out _ HKz.out) 0 _ rfl
          have l1 : wz.cell? ⟨bl, 1, none⟩ = some (.string fo) := cell_at (FXl13.out _ HKz.out) 1 _ rfl
          have l2 : wz.cell? ⟨bl, 2, none⟩ = some (.slice Al uo.length cl) := cell_at (FXl13.out _ HKz.out) 2 _ rfl
          have l3 : wz.cell? ⟨bl, 3, none⟩ = some (.string to_) := cell_at (FXl13.out _ HKz.out) 3 _ rfl
          have m0 : wz.cell? ⟨bm, 0, none⟩ = some (.int .i64 so) := cell_at (FXm13.out _ HKz.out) 0 _ rfl
          have m1 : wz.cell? ⟨bm, 1, none⟩ = some (.string fo) := cell_at (FXm13.out _ HKz.out) 1 _ rfl
          have m2 : wz.cell? ⟨bm, 2, none⟩ = some (.slice Am uo.length cm) := cell_at (FXm13.out _ HKz.out) 2 _ rfl
          have m3 : wz.cell? ⟨bm, 3, none⟩ = some (.string to_) := cell_at (FXm13.out _ HKz.out) 3 _ rfl
          have x0 : wz.cell? ⟨bx, 0, none⟩ = some (.int .i64 st) := cell_at (FXx13.out _ HKz.out) 0 _ rfl
          have x1 : wz.cell? ⟨bx, 1, none⟩ = some (.string f) := cell_at (FXx13.out _ HKz.out) 1 _ rfl
          have x2 : wz.cell? ⟨bx, 2, none⟩ = some (.slice Ax us.length cx) := cell_at (FXx13.out _ HKz.out) 2 _ rfl
          have x3 : wz.cell? ⟨bx, 3, none⟩ = some (.string tw1) := cell_at (FXx13.out _ HKz.out) 3 _ rfl
          have p0 : wz.cell? ⟨bp, 0, none⟩ = some (.int .i64 st) := cell_at (FXp13.out _ HKz.out) 0 _ rfl
          have p1 : wz.cell? ⟨bp, 1, none⟩ = some (.string f) := cell_at (FXp13.out _ HKz.out) 1 _ rfl
          have p2 : wz.cell? ⟨bp, 2, none⟩ = some (.slice Ap us.length cp) := cell_at (FXp13.out _ HKz.out) 2 _ rfl
          have p3 : wz.cell? ⟨bp, 3, none⟩ = some (.string tw1) := cell_at (FXp13.out _ HKz.out) 3 _ rfl
          have z0 : wz.cell? ⟨bz, 0, none⟩ = some (.int .i64 st) := cell_at (FXz13.out _ HKz.out) 0 _ rfl
          have z1 : wz.cell? ⟨bz, 1, none⟩ = some (.string f) := cell_at (FXz13.out _ HKz.out) 1 _ rfl
          have z2 : wz.cell? ⟨bz, 2, none⟩ = some (.slice Az us.length cz) := cell_at (FXz13.out _ HKz.out) 2 _ rfl
          have z3 : wz.cell? ⟨bz, 3, none⟩ = some (.string tw3) := cell_at (FXz13.out _ HKz.out) 3 _ rfl
          have Y0 : wz.cell? ⟨bY, 0, none⟩ = some (.int .i64 st) := cell_at (HZw.out) 0 _ rfl
          have Y1 : wz.cell? ⟨bY, 1, none⟩ = some (.string f) := cell_at (HZw.out) 1 _ rfl
          have Y2 : wz.cell? ⟨bY, 2, none⟩ = some (.slice A us.length c) := cell_at (HZw.out) 2 _ rfl
          have Y3 : wz.cell? ⟨bY, 3, none⟩ = some (.string ((t ++ ByteArray.mk #[46, 10]).extract 0 21)) := cell_at (HZw.out) 3 _ rfl
          go_wp2_with fail
          rw [HCT.out]
          refine Calls.mono (sameSub_any st f tw3 Az A us cz c _ (FAZ13.out _ HKz.out) (FAA13.out _ HKz.out) hul) ?_
          rintro e wq ⟨rfl, hb⟩
          go_wp2_with fail
          go_ret
          exact ⟨rfl, FB13.out _ (HKz.out.trans (hb.mono HKz.out.size))⟩
      · have h5i : (st != 5) = true := by simpa using h5
        clear h5
        go_wp2_with fail
        refine Calls.mono (sameSub_any so fo to_ Al Am uo cl cm _ (FAL6.out _ HK7.out) (FAM6.out _ HK7.out) hulo) ?_
        rintro e w8 ⟨rfl, hb⟩
        clear d0 d1 d2 d3 l0 l1 l2 l3 m0 m1 m2 m3
        have HK8 := Lib.hid (HK7.out.trans (hb.mono HK7.out.size))
        clear hb
        have d0 : w8.cell? ⟨bd, 0, none⟩ = some (.int .i64 st) := cell_at (FXd6.out _ HK8.out) 0 _ rfl
        have d1 : w8.cell? ⟨bd, 1, none⟩ = some (.string f) := cell_at (FXd6.out _ HK8.out) 1 _ rfl
        have d2 : w8.cell? ⟨bd, 2, none⟩ = some (.slice A us.length c) := cell_at (FXd6.out _ HK8.out) 2 _ rfl
        have d3 : w8.cell? ⟨bd, 3, none⟩ = some (.string t) := cell_at (FXd6.out _ HK8.out) 3 _ rfl
        have l0 : w8.cell? ⟨bl, 0, none⟩ = some (.int .i64 so) := cell_at (FXl6.out _ HK8.out) 0 _ rfl
        have l1 : w8.cell? ⟨bl, 1, none⟩ = some (.string fo) := cell_at (FXl6.out _ HK8.out) 1 _ rfl
        have l2 : w8.cell? ⟨bl, 2, none⟩ = some (.slice Al uo.length cl) := cell_at (FXl6.out _ HK8.out) 2 _ rfl
        have l3 : w8.cell? ⟨bl, 3, none⟩ = some (.string to_) := cell_at (FXl6.out _ HK8.out) 3 _ rfl
        have m0 : w8.cell? ⟨bm, 0, none⟩ = some (.int .i64 so) := cell_at (FXm6.out _ HK8.out) 0 _ rfl
        have m1 : w8.cell? ⟨bm, 1, none⟩ = some (.string fo) := cell_at (FXm6.out _ HK8.out) 1 _ rfl
        have m2 : w8.cell? ⟨bm, 2, none⟩ = some (.slice Am uo.length cm) := cell_at (FXm6.out _ HK8.out) 2 _ rfl
        have m3 : w8.cell? ⟨bm, 3, none⟩ = some (.string to_) := cell_at (FXm6.out _ HK8.out) 3 _ rfl
        go_wp2_with fail
        go_ret
        exact ⟨rfl, (FB6.out _ HK8.out)⟩
    · have hno : no = -1 := by have := HR.out; rw [Sm.ans_bad hans] at this; injection this with _ this; exact this.symm
      have hneg : no < 0 := by omega
      clear hans hno
      go_wp2_with fail
      refine Calls.mono (sameSub_any so fo to_ Al Am uo cl cm _ (FAL6.out _ HK7.out) (FAM6.out _ HK7.out) hulo) ?_
      rintro e w8 ⟨rfl, hb⟩
      clear d0 d1 d2 d3 l0 l1 l2 l3 m0 m1 m2 m3
      have HK8 := Lib.hid (HK7.out.trans (hb.mono HK7.out.size))
      clear hb
      have d0 : w8.cell? ⟨bd, 0, none⟩ = some (.int .i64 st) := cell_at (FXd6.out _ HK8.out) 0 _ rfl
      have d1 : w8.cell? ⟨bd, 1, none⟩ = some (.string f) := cell_at (FXd6.out _ HK8.out) 1 _ rfl
      have d2 : w8.cell? ⟨bd, 2, none⟩ = some (.slice A us.length c) := cell_at (FXd6.out _ HK8.out) 2 _ rfl
      have d3 : w8.cell? ⟨bd, 3, none⟩ = some (.string t) := cell_at (FXd6.out _ HK8.out) 3 _ rfl
      have l0 : w8.cell? ⟨bl, 0, none⟩ = some (.int .i64 so) := cell_at (FXl6.out _ HK8.out) 0 _ rfl
      have l1 : w8.cell? ⟨bl, 1, none⟩ = some (.string fo) := cell_at (FXl6.out _ HK8.out) 1 _ rfl
      have l2 : w8.cell? ⟨bl, 2, none⟩ = some (.slice Al uo.length cl) := cell_at (FXl6.out _ HK8.out) 2 _ rfl
      have l3 : w8.cell? ⟨bl, 3, none⟩ = some (.string to_) := cell_at (FXl6.out _ HK8.out) 3 _ rfl
      have m0 : w8.cell? ⟨bm, 0, none⟩ = some (.int .i64 so) := cell_at (FXm6.out _ HK8.out) 0 _ rfl
      have m1 : w8.cell? ⟨bm, 1, none⟩ = some (.string fo) := cell_at (FXm6.out _ HK8.out) 1 _ rfl
      have m2 : w8.cell? ⟨bm, 2, none⟩ = some (.slice Am uo.length cm) := cell_at (FXm6.out _ HK8.out) 2 _ rfl
      have m3 : w8.cell? ⟨bm, 3, none⟩ = some (.string to_) := cell_at (FXm6.out _ HK8.out) 3 _ rfl
      go_wp2_with fail
      go_ret
      exact ⟨rfl, (FB6.out _ HK8.out)⟩
  · have hbi : (1048576 : Int) < (len : Int) := by omega
    go_enter Tryz.func7, Tryz.ntmps7
    go_wp2_with fail
    go_ret
    exact ⟨rfl, Below.refl _ _⟩
end Go.Proofs.YtnbggmmghopphaaGreatDoor
