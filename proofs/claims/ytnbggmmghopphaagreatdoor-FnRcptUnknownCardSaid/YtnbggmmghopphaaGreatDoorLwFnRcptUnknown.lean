/- FnRcptUnknown: the walk. (Printed by mklw.py.) -/
import Derived.Test.YtnbggmmghopphaaGreatDoorSmUu
import Derived.Test.YtnbggmmghopphaaGreatDoorLwPl
import Derived.Test.YtnbggmmghopphaaGreatDoorLwKn
import Derived.Test.YtnbggmmghopphaaGreatDoorLwOw
import Derived.Deep.RegionHeld3
import Derived.Deep.DeepCutAuto
namespace Go.Proofs.YtnbggmmghopphaaGreatDoor
set_option linter.unusedVariables false
open Go.RowKit
open Us (U)

set_option maxRecDepth 100000 in
set_option maxHeartbeats 6400000 in
theorem walkFnRcptUnknown (a : Option Addr) (len cap : Nat) (w : World) (h : Bytes w a len cap) (m : Int) (hm : w.cell? ⟨0, 0, none⟩ = some (.int .i64 m)) :
    Calls Tryz.prog 14 #[.slice a len cap] w fun e w' => e = .returned (.bool true) ∧ Below w.heap.size w w' := by
  by_cases hbig : len ≤ 1048576
  · have hbi : ¬ (1048576 : Int) < (len : Int) := by omega
    have hpos := Po.base_pos hm
    go_enter Tryz.func14, Tryz.ntmps14
    go_wp2_with fail
    refine Calls.mono (drawSubmissionLine_any a len cap _ h) ?_
    rintro e w1 ⟨st, f, A, us, c, t, Au, vs, cu, d, l, hsm, hcap, hcm, hsv, hds, hls, rfl, hat, hau, hb1⟩
    have hfm := (Sm.small_max hsm).1
    have htm := (Sm.small_max hsm).2.1
    have hul := Sm.small_len hsm
    dsimp only at hfm htm hul
    have hvl : vs.length ≤ maxLen := small_len hsv
    have hdz : d.size ≤ 16777216 := by omega
    have hlz : l.size ≤ 16777216 := by omega
    have FU1 : Hid (∀ w', Below w1.heap.size w1 w' → AtUsers w' w'.heap.size Au vs) := Lib.hid (fun w' hb => ((at_users hau (small_sizes hsv)).below hb).mono hb.size)
    have FM1 : Hid (∀ w', Below w1.heap.size w1 w' → w'.cell? ⟨0, 0, none⟩ = some (.int .i64 m)) := Lib.hid (fun w' hb => Po.mem (hb1.trans (hb.mono hb1.size)) hm hpos)
    have FB1 : Hid (∀ w', Below w1.heap.size w1 w' → Below w.heap.size w w') := Lib.hid (fun w' hb => hb1.trans (hb.mono hb1.size))
    have FAA1 : Hid (∀ w', Below w1.heap.size w1 w' → AtStrs w' w'.heap.size A us) := Lib.hid (fun w' hb => (hat.below hb).mono hb.size)
    have HK1 : Hid (Below w1.heap.size w1 w1) := Lib.hid (Below.refl _ _)
    have HSM := Lib.hid hsm
    clear hat hau hb1 hm h hsm
    have hx := heap_alloc_new w1 (.cells #[.int .i64 st, .string f, .slice A us.length c, .string t] 36)
    have hE := Below.alloc (Below.refl w1.heap.size w1) (Nat.le_refl _) (.cells #[.int .i64 st, .string f, .slice A us.length c, .string t] 36)
    have hs : w1.heap.size < (w1.alloc (.cells #[.int .i64 st, .string f, .slice A us.length c, .string t] 36)).heap.size := by simp
    go_upto_region 4 with fail
    generalize w1.alloc (.cells #[.int .i64 st, .string f, .slice A us.length c, .string t] 36) = w2 at hx hE hs ⊢
    obtain ⟨bd, hbb⟩ : ∃ b, b = w1.heap.size := ⟨_, rfl⟩
    rw [← hbb] at hx hs ⊢
    have HK2 := Lib.hid (HK1.out.trans (hE.mono HK1.out.size))
    have FXd2 : Hid (∀ w', Below w2.heap.size w2 w' → w'.heap[bd]? = some (.cells #[.int .i64 st, .string f, .slice A us.length c, .string t] 36 (0, 0))) := Lib.hid (fun w' hb => (hb.block _ hs).trans hx)
    clear hx hE hs hbb
    have FU2 := Lib.hid (fun w' (hb : Below w2.heap.size w2 w') => FU1.out w' (HK2.out.trans (hb.mono HK2.out.size)))
    have FM2 := Lib.hid (fun w' (hb : Below w2.heap.size w2 w') => FM1.out w' (HK2.out.trans (hb.mono HK2.out.size)))
    have FB2 := Lib.hid (fun w' (hb : Below w2.heap.size w2 w') => FB1.out w' (HK2.out.trans (hb.mono HK2.out.size)))
    have FAA2 := Lib.hid (fun w' (hb : Below w2.heap.size w2 w') => FAA1.out w' (HK2.out.trans (hb.mono HK2.out.size)))
    have HKb : Hid (Below w2.heap.size w2 w2) := Lib.hid (Below.refl _ _)
    clear HK2
    have HK2 := HKb
    clear HKb
    have d0 : w2.cell? ⟨bd, 0, none⟩ = some (.int .i64 st) := cell_at (FXd2.out _ HK2.out) 0 _ rfl
    have d1 : w2.cell? ⟨bd, 1, none⟩ = some (.string f) := cell_at (FXd2.out _ HK2.out) 1 _ rfl
    have d2 : w2.cell? ⟨bd, 2, none⟩ = some (.slice A us.length c) := cell_at (FXd2.out _ HK2.out) 2 _ rfl
    have d3 : w2.cell? ⟨bd, 3, none⟩ = some (.string t) := cell_at (FXd2.out _ HK2.out) 3 _ rfl
    obtain ⟨R, hR⟩ : ∃ R, R = Sm.ans vs d ⟨st, f, us, t⟩ l := ⟨_, rfl⟩
    obtain ⟨⟨so, fo, uo, to_⟩, no⟩ := R
    have HR := Lib.hid hR.symm
    have hulo : uo.length ≤ maxLen := by have := (Sm.ans_sizes vs d ⟨st, f, us, t⟩ l).1; rw [← hR] at this; unfold maxLen; dsimp only at this; omega
    have hfo : fo.size ≤ maxLen := by have := (Sm.ans_sizes vs d ⟨st, f, us, t⟩ l).2.2.1; rw [← hR] at this; exact this
    have hto : to_.size ≤ maxLen := by have := (Sm.ans_sizes vs d ⟨st, f, us, t⟩ l).2.2.2; rw [← hR] at this; exact this
    clear hR
    go_wp2_with fail
    refine Calls.mono (iLine_any st f t A us c _ (FAA2.out _ HK2.out) hcap hcm hfm htm Au vs cu (FU2.out _ HK2.out) hvl d l hdz hlz m (FM2.out _ HK2.out) HR.out) ?_
    rintro e w3 ⟨Al, cl, rfl, hatl, hkl, hjl, hb⟩
    clear d0 d1 d2 d3
    have HK3 := Lib.hid (HK2.out.trans (hb.mono HK2.out.size))
    clear hb
    have d0 : w3.cell? ⟨bd, 0, none⟩ = some (.int .i64 st) := cell_at (FXd2.out _ HK3.out) 0 _ rfl
    have d1 : w3.cell? ⟨bd, 1, none⟩ = some (.string f) := cell_at (FXd2.out _ HK3.out) 1 _ rfl
    have d2 : w3.cell? ⟨bd, 2, none⟩ = some (.slice A us.length c) := cell_at (FXd2.out _ HK3.out) 2 _ rfl
    have d3 : w3.cell? ⟨bd, 3, none⟩ = some (.string t) := cell_at (FXd2.out _ HK3.out) 3 _ rfl
    clear d0 d1 d2 d3
    have hx := heap_alloc_new w3 (.cells #[.int .i64 so, .string fo, .slice Al uo.length cl, .string to_] 36)
    have hE := Below.alloc (Below.refl w3.heap.size w3) (Nat.le_refl _) (.cells #[.int .i64 so, .string fo, .slice Al uo.length cl, .string to_] 36)
    have hs : w3.heap.size < (w3.alloc (.cells #[.int .i64 so, .string fo, .slice Al uo.length cl, .string to_] 36)).heap.size := by simp
    go_upto_region 5 with fail
    generalize w3.alloc (.cells #[.int .i64 so, .string fo, .slice Al uo.length cl, .string to_] 36) = w4 at hx hE hs ⊢
    obtain ⟨bl, hbb⟩ : ∃ b, b = w3.heap.size := ⟨_, rfl⟩
    rw [← hbb] at hx hs ⊢
    have hltdl : bd < bl := by have := (Array.getElem?_eq_some_iff.1 (FXd2.out _ HK3.out)).1; omega
    have HK4 := Lib.hid (HK3.out.trans (hE.mono HK3.out.size))
    have FXl4 : Hid (∀ w', Below w4.heap.size w4 w' → w'.heap[bl]? = some (.cells #[.int .i64 so, .string fo, .slice Al uo.length cl, .string to_] 36 (0, 0))) := Lib.hid (fun w' hb => (hb.block _ hs).trans hx)
    have FAL4 : Hid (∀ w', Below w4.heap.size w4 w' → AtStrs w' w'.heap.size Al uo) := Lib.hid (fun w' hb => (((hatl.below hE).mono hE.size).below hb).mono hb.size)
    clear hx hE hs hbb
    have FU4 := Lib.hid (fun w' (hb : Below w4.heap.size w4 w') => FU2.out w' (HK4.out.trans (hb.mono HK4.out.size)))
    have FM4 := Lib.hid (fun w' (hb : Below w4.heap.size w4 w') => FM2.out w' (HK4.out.trans (hb.mono HK4.out.size)))
    have FB4 := Lib.hid (fun w' (hb : Below w4.heap.size w4 w') => FB2.out w' (HK4.out.trans (hb.mono HK4.out.size)))
    have FXd4 := Lib.hid (fun w' (hb : Below w4.heap.size w4 w') => FXd2.out w' (HK4.out.trans (hb.mono HK4.out.size)))
    have FAA4 := Lib.hid (fun w' (hb : Below w4.heap.size w4 w') => FAA2.out w' (HK4.out.trans (hb.mono HK4.out.size)))
    have HKb : Hid (Below w4.heap.size w4 w4) := Lib.hid (Below.refl _ _)
    clear HK4
    have HK4 := HKb
    clear HKb
    have d0 : w4.cell? ⟨bd, 0, none⟩ = some (.int .i64 st) := cell_at (FXd4.out _ HK4.out) 0 _ rfl
    have d1 : w4.cell? ⟨bd, 1, none⟩ = some (.string f) := cell_at (FXd4.out _ HK4.out) 1 _ rfl
    have d2 : w4.cell? ⟨bd, 2, none⟩ = some (.slice A us.length c) := cell_at (FXd4.out _ HK4.out) 2 _ rfl
    have d3 : w4.cell? ⟨bd, 3, none⟩ = some (.string t) := cell_at (FXd4.out _ HK4.out) 3 _ rfl
    have l0 : w4.cell? ⟨bl, 0, none⟩ = some (.int .i64 so) := cell_at (FXl4.out _ HK4.out) 0 _ rfl
    have l1 : w4.cell? ⟨bl, 1, none⟩ = some (.string fo) := cell_at (FXl4.out _ HK4.out) 1 _ rfl
    have l2 : w4.cell? ⟨bl, 2, none⟩ = some (.slice Al uo.length cl) := cell_at (FXl4.out _ HK4.out) 2 _ rfl
    have l3 : w4.cell? ⟨bl, 3, none⟩ = some (.string to_) := cell_at (FXl4.out _ HK4.out) 3 _ rfl
    clear hatl
    go_wp2_with fail
    refine Calls.mono (sLine_any st f t A us c _ (FAA4.out _ HK4.out) hcap hcm hfm htm Au vs cu (FU4.out _ HK4.out) hvl d l hdz hlz HR.out) ?_
    rintro e w5 ⟨Am, cm, rfl, hatm, hkm, hjm, hb⟩
    clear d0 d1 d2 d3 l0 l1 l2 l3
    have HK5 := Lib.hid (HK4.out.trans (hb.mono HK4.out.size))
    clear hb
    have d0 : w5.cell? ⟨bd, 0, none⟩ = some (.int .i64 st) := cell_at (FXd4.out _ HK5.out) 0 _ rfl
    have d1 : w5.cell? ⟨bd, 1, none⟩ = some (.string f) := cell_at (FXd4.out _ HK5.out) 1 _ rfl
    have d2 : w5.cell? ⟨bd, 2, none⟩ = some (.slice A us.length c) := cell_at (FXd4.out _ HK5.out) 2 _ rfl
    have d3 : w5.cell? ⟨bd, 3, none⟩ = some (.string t) := cell_at (FXd4.out _ HK5.out) 3 _ rfl
    have l0 : w5.cell? ⟨bl, 0, none⟩ = some (.int .i64 so) := cell_at (FXl4.out _ HK5.out) 0 _ rfl
    have l1 : w5.cell? ⟨bl, 1, none⟩ = some (.string fo) := cell_at (FXl4.out _ HK5.out) 1 _ rfl
    have l2 : w5.cell? ⟨bl, 2, none⟩ = some (.slice Al uo.length cl) := cell_at (FXl4.out _ HK5.out) 2 _ rfl
    have l3 : w5.cell? ⟨bl, 3, none⟩ = some (.string to_) := cell_at (FXl4.out _ HK5.out) 3 _ rfl
    clear d0 d1 d2 d3 l0 l1 l2 l3
    have hx := heap_alloc_new w5 (.cells #[.int .i64 so, .string fo, .slice Am uo.length cm, .string to_] 36)
    have hE := Below.alloc (Below.refl w5.heap.size w5) (Nat.le_refl _) (.cells #[.int .i64 so, .string fo, .slice Am uo.length cm, .string to_] 36)
    have hs : w5.heap.size < (w5.alloc (.cells #[.int .i64 so, .string fo, .slice Am uo.length cm, .string to_] 36)).heap.size := by simp
    go_upto_region 6 with fail
    generalize w5.alloc (.cells #[.int .i64 so, .string fo, .slice Am uo.length cm, .string to_] 36) = w6 at hx hE hs ⊢
    obtain ⟨bm, hbb⟩ : ∃ b, b = w5.heap.size := ⟨_, rfl⟩
    rw [← hbb] at hx hs ⊢
    have hltdm : bd < bm := by have := (Array.getElem?_eq_some_iff.1 (FXd4.out _ HK5.out)).1; omega
    have hltlm : bl < bm := by have := (Array.getElem?_eq_some_iff.1 (FXl4.out _ HK5.out)).1; omega
    have HK6 := Lib.hid (HK5.out.trans (hE.mono HK5.out.size))
    have FXm6 : Hid (∀ w', Below w6.heap.size w6 w' → w'.heap[bm]? = some (.cells #[.int .i64 so, .string fo, .slice Am uo.length cm, .string to_] 36 (0, 0))) := Lib.hid (fun w' hb => (hb.block _ hs).trans hx)
    have FAM6 : Hid (∀ w', Below w6.heap.size w6 w' → AtStrs w' w'.heap.size Am uo) := Lib.hid (fun w' hb => (((hatm.below hE).mono hE.size).below hb).mono hb.size)
    clear hx hE hs hbb
    have FU6 := Lib.hid (fun w' (hb : Below w6.heap.size w6 w') => FU4.out w' (HK6.out.trans (hb.mono HK6.out.size)))
    have FM6 := Lib.hid (fun w' (hb : Below w6.heap.size w6 w') => FM4.out w' (HK6.out.trans (hb.mono HK6.out.size)))
    have FB6 := Lib.hid (fun w' (hb : Below w6.heap.size w6 w') => FB4.out w' (HK6.out.trans (hb.mono HK6.out.size)))
    have FXd6 := Lib.hid (fun w' (hb : Below w6.heap.size w6 w') => FXd4.out w' (HK6.out.trans (hb.mono HK6.out.size)))
    have FXl6 := Lib.hid (fun w' (hb : Below w6.heap.size w6 w') => FXl4.out w' (HK6.out.trans (hb.mono HK6.out.size)))
    have FAA6 := Lib.hid (fun w' (hb : Below w6.heap.size w6 w') => FAA4.out w' (HK6.out.trans (hb.mono HK6.out.size)))
    have FAL6 := Lib.hid (fun w' (hb : Below w6.heap.size w6 w') => FAL4.out w' (HK6.out.trans (hb.mono HK6.out.size)))
    have HKb : Hid (Below w6.heap.size w6 w6) := Lib.hid (Below.refl _ _)
    clear HK6
    have HK6 := HKb
    clear HKb
    have d0 : w6.cell? ⟨bd, 0, none⟩ = some (.int .i64 st) := cell_at (FXd6.out _ HK6.out) 0 _ rfl
    have d1 : w6.cell? ⟨bd, 1, none⟩ = some (.string f) := cell_at (FXd6.out _ HK6.out) 1 _ rfl
    have d2 : w6.cell? ⟨bd, 2, none⟩ = some (.slice A us.length c) := cell_at (FXd6.out _ HK6.out) 2 _ rfl
    have d3 : w6.cell? ⟨bd, 3, none⟩ = some (.string t) := cell_at (FXd6.out _ HK6.out) 3 _ rfl
    have l0 : w6.cell? ⟨bl, 0, none⟩ = some (.int .i64 so) := cell_at (FXl6.out _ HK6.out) 0 _ rfl
    have l1 : w6.cell? ⟨bl, 1, none⟩ = some (.string fo) := cell_at (FXl6.out _ HK6.out) 1 _ rfl
    have l2 : w6.cell? ⟨bl, 2, none⟩ = some (.slice Al uo.length cl) := cell_at (FXl6.out _ HK6.out) 2 _ rfl
    have l3 : w6.cell? ⟨bl, 3, none⟩ = some (.string to_) := cell_at (FXl6.out _ HK6.out) 3 _ rfl
    have m0 : w6.cell? ⟨bm, 0, none⟩ = some (.int .i64 so) := cell_at (FXm6.out _ HK6.out) 0 _ rfl
    have m1 : w6.cell? ⟨bm, 1, none⟩ = some (.string fo) := cell_at (FXm6.out _ HK6.out) 1 _ rfl
    have m2 : w6.cell? ⟨bm, 2, none⟩ = some (.slice Am uo.length cm) := cell_at (FXm6.out _ HK6.out) 2 _ rfl
    have m3 : w6.cell? ⟨bm, 3, none⟩ = some (.string to_) := cell_at (FXm6.out _ HK6.out) 3 _ rfl
    clear hatm
    go_wp2_with fail
    refine Calls.mono (sameSub_any so fo to_ Al Am uo cl cm _ (FAL6.out _ HK6.out) (FAM6.out _ HK6.out) hulo) ?_
    rintro e w7 ⟨rfl, hb⟩
    clear d0 d1 d2 d3 l0 l1 l2 l3 m0 m1 m2 m3
    have HK7 := Lib.hid (HK6.out.trans (hb.mono HK6.out.size))
    clear hb
    have d0 : w7.cell? ⟨bd, 0, none⟩ = some (.int .i64 st) := cell_at (FXd6.out _ HK7.out) 0 _ rfl
    have d1 : w7.cell? ⟨bd, 1, none⟩ = some (.string f) := cell_at (FXd6.out _ HK7.out) 1 _ rfl
    have d2 : w7.cell? ⟨bd, 2, none⟩ = some (.slice A us.length c) := cell_at (FXd6.out _ HK7.out) 2 _ rfl
    have d3 : w7.cell? ⟨bd, 3, none⟩ = some (.string t) := cell_at (FXd6.out _ HK7.out) 3 _ rfl
    have l0 : w7.cell? ⟨bl, 0, none⟩ = some (.int .i64 so) := cell_at (FXl6.out _ HK7.out) 0 _ rfl
    have l1 : w7.cell? ⟨bl, 1, none⟩ = some (.string fo) := cell_at (FXl6.out _ HK7.out) 1 _ rfl
    have l2 : w7.cell? ⟨bl, 2, none⟩ = some (.slice Al uo.length cl) := cell_at (FXl6.out _ HK7.out) 2 _ rfl
    have l3 : w7.cell? ⟨bl, 3, none⟩ = some (.string to_) := cell_at (FXl6.out _ HK7.out) 3 _ rfl
    have m0 : w7.cell? ⟨bm, 0, none⟩ = some (.int .i64 so) := cell_at (FXm6.out _ HK7.out) 0 _ rfl
    have m1 : w7.cell? ⟨bm, 1, none⟩ = some (.string fo) := cell_at (FXm6.out _ HK7.out) 1 _ rfl
    have m2 : w7.cell? ⟨bm, 2, none⟩ = some (.slice Am uo.length cm) := cell_at (FXm6.out _ HK7.out) 2 _ rfl
    have m3 : w7.cell? ⟨bm, 3, none⟩ = some (.string to_) := cell_at (FXm6.out _ HK7.out) 3 _ rfl
    by_cases hans : Sm.ok ⟨st, f, us, t⟩ = true ∧ Us.usersOk vs = true ∧ Dm.ok d.data.toList = true
    · have HL : Hid (Sm.line vs d ⟨st, f, us, t⟩ l = (⟨so, fo, uo, to_⟩, no)) := Lib.hid (by rw [← Sm.ans_good hans]; exact HR.out)
      have HANS := Lib.hid hans
      have hnn : ¬ no < 0 := by have := Sm.line_reply vs d ⟨st, f, us, t⟩ l; rw [HL.out] at this; exact this
      clear hans
      by_cases h3 : st = 3 ∨ st = 4
      · have H3 := Lib.hid h3
        have hfz8 : f.size ≤ 8 := (Sm.ok_sizes HANS.out.1).1
        have hdz20 : d.size ≤ 20 := Sm.dom_size HANS.out.2.2
        have hv0 : 0 < vs.length := (((Us.usersOk_iff vs).1 HANS.out.2.1).1).1
        rcases h3 with h3 | h3
        · have h3i : (st != 3) = false := by simp [h3]
          clear h3
          cases hkn : Sm.knows vs ⟨#[122, 101, 100]⟩
          · have HKN := Lib.hid hkn
            clear hkn
            go_wp2_with fail
            refine Calls.mono (knows_any Au vs cu ⟨#[122, 101, 100]⟩ _ (FU6.out _ HK7.out) hvl) ?_
            rintro e w8 ⟨rfl, hb⟩
            clear d0 d1 d2 d3 l0 l1 l2 l3 m0 m1 m2 m3
            have HK8 := Lib.hid (HK7.out.trans (hb.mono HK7.out.size))
            clear hb
            have d0 : w8.cell? ⟨bd, 0, none⟩ = some (.int .i64 st) := cell_at (FXd6.out _ HK8.out) 0 _ rfl
            have d1 : w8.cell? ⟨bd, 1, none⟩ = some (.string f) := cell_at (FXd6.out _ HK8.out) 1 _ rfl
            have d2 : w8.cell? ⟨bd, 2, none⟩ = some (.slice A us.length c) := cell_at (FXd6.out _ HK8.out) 2 _ rfl
            have d3 : w8.cell? ⟨bd, 3, none⟩ = some (.string t) := cell_at (FXd6.out _ HK8.out) 3 _ rfl
            have l0 : w8.cell? ⟨bl, 0, none⟩ = some (.int .i64 so) := cell_at (FXl6.out _ HK8.out) 0 _ rfl
            have l1 : w8.cell? ⟨bl, 1, none⟩ = some (.string fo) := cell_at (FXl6.out _ HK8.out) 1 _ rfl
            have l2 : w8.cell? ⟨bl, 2, none⟩ = some (.slice Al uo.length cl) := cell_at (FXl6.out _ HK8.out) 2 _ rfl
            have l3 : w8.cell? ⟨bl, 3, none⟩ = some (.string to_) := cell_at (FXl6.out _ HK8.out) 3 _ rfl
            have m0 : w8.cell? ⟨bm, 0, none⟩ = some (.int .i64 so) := cell_at (FXm6.out _ HK8.out) 0 _ rfl
            have m1 : w8.cell? ⟨bm, 1, none⟩ = some (.string fo) := cell_at (FXm6.out _ HK8.out) 1 _ rfl
            have m2 : w8.cell? ⟨bm, 2, none⟩ = some (.slice Am uo.length cm) := cell_at (FXm6.out _ HK8.out) 2 _ rfl
            have m3 : w8.cell? ⟨bm, 3, none⟩ = some (.string to_) := cell_at (FXm6.out _ HK8.out) 3 _ rfl
            rw [HKN.out]
            by_cases hz : d = ⟨#[122, 101, 100]⟩
            · have q1 : (d.toList == [122, 101, 100]) = true := lit_yes hz
              clear hz
              go_wp2_with fail
              refine Calls.mono (sameSub_any so fo to_ Al Am uo cl cm _ (FAL6.out _ HK8.out) (FAM6.out _ HK8.out) hulo) ?_
              rintro e w9 ⟨rfl, hb⟩
              clear d0 d1 d2 d3 l0 l1 l2 l3 m0 m1 m2 m3
              have HK9 := Lib.hid (HK8.out.trans (hb.mono HK8.out.size))
              clear hb
              have d0 : w9.cell? ⟨bd, 0, none⟩ = some (.int .i64 st) := cell_at (FXd6.out _ HK9.out) 0 _ rfl
              have d1 : w9.cell? ⟨bd, 1, none⟩ = some (.string f) := cell_at (FXd6.out _ HK9.out) 1 _ rfl
              have d2 : w9.cell? ⟨bd, 2, none⟩ = some (.slice A us.length c) := cell_at (FXd6.out _ HK9.out) 2 _ rfl
              have d3 : w9.cell? ⟨bd, 3, none⟩ = some (.string t) := cell_at (FXd6.out _ HK9.out) 3 _ rfl
              have l0 : w9.cell? ⟨bl, 0, none⟩ = some (.int .i64 so) := cell_at (FXl6.out _ HK9.out) 0 _ rfl
              have l1 : w9.cell? ⟨bl, 1, none⟩ = some (.string fo) := cell_at (FXl6.out _ HK9.out) 1 _ rfl
              have l2 : w9.cell? ⟨bl, 2, none⟩ = some (.slice Al uo.length cl) := cell_at (FXl6.out _ HK9.out) 2 _ rfl
              have l3 : w9.cell? ⟨bl, 3, none⟩ = some (.string to_) := cell_at (FXl6.out _ HK9.out) 3 _ rfl
              have m0 : w9.cell? ⟨bm, 0, none⟩ = some (.int .i64 so) := cell_at (FXm6.out _ HK9.out) 0 _ rfl
              have m1 : w9.cell? ⟨bm, 1, none⟩ = some (.string fo) := cell_at (FXm6.out _ HK9.out) 1 _ rfl
              have m2 : w9.cell? ⟨bm, 2, none⟩ = some (.slice Am uo.length cm) := cell_at (FXm6.out _ HK9.out) 2 _ rfl
              have m3 : w9.cell? ⟨bm, 3, none⟩ = some (.string to_) := cell_at (FXm6.out _ HK9.out) 3 _ rfl
              go_wp2_with fail
              go_ret
              exact ⟨rfl, (FB6.out _ HK9.out)⟩
            · have q1 : (d.toList == [122, 101, 100]) = false := lit_no hz
              have HND := Lib.hid hz
              clear hz
              have hex : ∃ u, vs[0]? = some u := ⟨_, List.getElem?_eq_getElem hv0⟩
              obtain ⟨u, hu⟩ := hex
              have HUM : Hid (u ∈ vs) := Lib.hid (List.mem_of_getElem? hu)
              have HUN : Hid (Nm.nameOk u.name.data.toList = true) := Lib.hid (Sm.name_mem HANS.out.2.1 HUM.out)
              obtain ⟨ug, uf, hAu, -, -⟩ := (FU6.out _ HK8.out).1 (Nat.lt_of_le_of_lt (Nat.zero_le _) hv0)
              subst hAu
              have FC6 : Hid (∀ w', Below w6.heap.size w6 w' → w'.cell? ⟨ug, uf + 0 * 3, none⟩ = some (.string u.name) ∧ w'.cell? ⟨ug, uf + 0 * 3 + 1, none⟩ = some (.string u.pass) ∧ w'.cell? ⟨ug, uf + 0 * 3 + 2, none⟩ = some (.int .i64 u.quota)) := Lib.hid (fun w' hb => by
                obtain ⟨g', o', e, _, hc⟩ := (FU6.out _ hb).1 (Nat.lt_of_le_of_lt (Nat.zero_le _) hv0)
                injection e with e
                injection e with e1 e2
                subst e1 e2
                exact hc 0 u hu)
              clear hu
              have hun8 : u.name.size ≤ 8 := Sm.name_size HUN.out
              have FG6 : Hid (∀ w', Below w6.heap.size w6 w' → ug < w'.heap.size) := Lib.hid (fun w' hb => by
                obtain ⟨g', o', e, hg, _⟩ := (FU6.out _ hb).1 (Nat.lt_of_le_of_lt (Nat.zero_le _) hv0)
                injection e with e
                injection e with e1 e2
                subst e1 e2
                exact hg)
              have hzl0 : (ByteArray.mk #[82, 67, 80, 84, 32, 84, 79, 58, 60, 122, 101, 100, 64]).size = 13 := rfl
              have hzl1 : (ByteArray.mk #[62]).size = 1 := rfl
              have hzl2 : (ByteArray.mk #[82, 67, 80, 84, 32, 84, 79, 58, 60]).size = 9 := rfl
              have hzl3 : (ByteArray.mk #[64, 122, 101, 100, 62]).size = 5 := rfl
              have hzl4 : (ByteArray.mk #[82, 67, 80, 84, 32, 84, 79, 58]).size = 8 := rfl
              have hzl5 : (ByteArray.mk #[64]).size = 1 := rfl
              have hlX : (ByteArray.mk #[82, 67, 80, 84, 32, 84, 79, 58, 60, 122, 101, 100, 64] ++ d ++ ByteArray.mk #[62]).size ≤ 16777216 := by simp only [ByteArray.size_append]; omega
              have hlY : (ByteArray.mk #[82, 67, 80, 84, 32, 84, 79, 58, 60] ++ u.name ++ ByteArray.mk #[64, 122, 101, 100, 62]).size ≤ 16777216 := by simp only [ByteArray.size_append]; omega
              have hlD : (ByteArray.mk #[82, 67, 80, 84, 32, 84, 79, 58] ++ u.name ++ ByteArray.mk #[64] ++ d).size ≤ 16777216 := by simp only [ByteArray.size_append]; omega
              have HRX : Hid (Sm.ans vs d ⟨st, f, us, t⟩ (ByteArray.mk #[82, 67, 80, 84, 32, 84, 79, 58, 60, 122, 101, 100, 64] ++ d ++ ByteArray.mk #[62]) = (⟨st, f, us, t⟩, 550)) := Lib.hid (by rw [Sm.ans_good HANS.out]; exact Sm.rcpt_no vs (s := ⟨st, f, us, t⟩) H3.out (Sm.text3a Sm.begT _ d rfl) Sm.zed_ok HANS.out.2.2 (fun e => by have h := e.2; rw [show Ct.mk Sm.zed = (⟨#[122, 101, 100]⟩ : ByteArray) from rfl, HKN.out] at h; cases h))
              have HRY : Hid (Sm.ans vs d ⟨st, f, us, t⟩ (ByteArray.mk #[82, 67, 80, 84, 32, 84, 79, 58, 60] ++ u.name ++ ByteArray.mk #[64, 122, 101, 100, 62]) = (⟨st, f, us, t⟩, 550)) := Lib.hid (by rw [Sm.ans_good HANS.out]; exact Sm.rcpt_no vs (s := ⟨st, f, us, t⟩) H3.out (Sm.text3b Sm.begT _ u.name rfl) HUN.out Sm.zed_dm (fun e => HND.out e.1.symm))
              have HRC : Hid (Sm.ans vs d ⟨st, f, us, t⟩ (ByteArray.mk #[82, 67, 80, 84, 32, 84, 79, 58, 60, 62]) = (⟨st, f, us, t⟩, 501)) := Lib.hid (by rw [Sm.ans_good HANS.out]; exact Sm.rcpt_none vs (s := ⟨st, f, us, t⟩) (r := [60, 62]) H3.out rfl Pa.path_nil)
              have HRD : Hid (Sm.ans vs d ⟨st, f, us, t⟩ (ByteArray.mk #[82, 67, 80, 84, 32, 84, 79, 58] ++ u.name ++ ByteArray.mk #[64] ++ d) = (⟨st, f, us, t⟩, 501)) := Lib.hid (by rw [Sm.ans_good HANS.out]; exact Sm.rcpt_none vs (s := ⟨st, f, us, t⟩) H3.out (Sm.text4 _ u.name d) (Pa.path_name HUN.out _))
              go_wp2_with fail
              refine Calls.mono (iLine_any st f t A us c _ (FAA6.out _ HK8.out) hcap hcm hfm htm (some ⟨ug, uf, none⟩) vs cu (FU6.out _ HK8.out) hvl d (ByteArray.mk #[82, 67, 80, 84, 32, 84, 79, 58, 60, 122, 101, 100, 64] ++ d ++ ByteArray.mk #[62]) hdz hlX m (FM6.out _ HK8.out) HRX.out) ?_
              rintro e w9 ⟨Ax, cx, rfl, hatx, hkx, hjx, hb⟩
              clear d0 d1 d2 d3 l0 l1 l2 l3 m0 m1 m2 m3
              have HK9 := Lib.hid (HK8.out.trans (hb.mono HK8.out.size))
              clear hb
              have d0 : w9.cell? ⟨bd, 0, none⟩ = some (.int .i64 st) := cell_at (FXd6.out _ HK9.out) 0 _ rfl
              have d1 : w9.cell? ⟨bd, 1, none⟩ = some (.string f) := cell_at (FXd6.out _ HK9.out) 1 _ rfl
              have d2 : w9.cell? ⟨bd, 2, none⟩ = some (.slice A us.length c) := cell_at (FXd6.out _ HK9.out) 2 _ rfl
              have d3 : w9.cell? ⟨bd, 3, none⟩ = some (.string t) := cell_at (FXd6.out _ HK9.out) 3 _ rfl
              have l0 : w9.cell? ⟨bl, 0, none⟩ = some (.int .i64 so) := cell_at (FXl6.out _ HK9.out) 0 _ rfl
              have l1 : w9.cell? ⟨bl, 1, none⟩ = some (.string fo) := cell_at (FXl6.out _ HK9.out) 1 _ rfl
              have l2 : w9.cell? ⟨bl, 2, none⟩ = some (.slice Al uo.length cl) := cell_at (FXl6.out _ HK9.out) 2 _ rfl
              have l3 : w9.cell? ⟨bl, 3, none⟩ = some (.string to_) := cell_at (FXl6.out _ HK9.out) 3 _ rfl
              have m0 : w9.cell? ⟨bm, 0, none⟩ = some (.int .i64 so) := cell_at (FXm6.out _ HK9.out) 0 _ rfl
              have m1 : w9.cell? ⟨bm, 1, none⟩ = some (.string fo) := cell_at (FXm6.out _ HK9.out) 1 _ rfl
              have m2 : w9.cell? ⟨bm, 2, none⟩ = some (.slice Am uo.length cm) := cell_at (FXm6.out _ HK9.out) 2 _ rfl
              have m3 : w9.cell? ⟨bm, 3, none⟩ = some (.string to_) := cell_at (FXm6.out _ HK9.out) 3 _ rfl
              clear d0 d1 d2 d3 l0 l1 l2 l3 m0 m1 m2 m3
              have hx := heap_alloc_new w9 (.cells #[.int .i64 st, .string f, .slice Ax us.length cx, .string t] 36)
              have hE := Below.alloc (Below.refl w9.heap.size w9) (Nat.le_refl _) (.cells #[.int .i64 st, .string f, .slice Ax us.length cx, .string t] 36)
              have hs : w9.heap.size < (w9.alloc (.cells #[.int .i64 st, .string f, .slice Ax us.length cx, .string t] 36)).heap.size := by simp
              go_upto_region 9 with fail
              generalize w9.alloc (.cells #[.int .i64 st, .string f, .slice Ax us.length cx, .string t] 36) = w10 at hx hE hs ⊢
              obtain ⟨bx, hbb⟩ : ∃ b, b = w9.heap.size := ⟨_, rfl⟩
              rw [← hbb] at hx hs ⊢
              have hltdx : bd < bx := by have := (Array.getElem?_eq_some_iff.1 (FXd6.out _ HK9.out)).1; omega
              have hltlx : bl < bx := by have := (Array.getElem?_eq_some_iff.1 (FXl6.out _ HK9.out)).1; omega
              have hltmx : bm < bx := by have := (Array.getElem?_eq_some_iff.1 (FXm6.out _ HK9.out)).1; omega
              have HK10 := Lib.hid (HK9.out.trans (hE.mono HK9.out.size))
              have FXx10 : Hid (∀ w', Below w10.heap.size w10 w' → w'.heap[bx]? = some (.cells #[.int .i64 st, .string f, .slice Ax us.length cx, .string t] 36 (0, 0))) := Lib.hid (fun w' hb => (hb.block _ hs).trans hx)
              have FAX10 : Hid (∀ w', Below w10.heap.size w10 w' → AtStrs w' w'.heap.size Ax us) := Lib.hid (fun w' hb => (((hatx.below hE).mono hE.size).below hb).mono hb.size)
              clear hx hE hs hbb
              have FU10 := Lib.hid (fun w' (hb : Below w10.heap.size w10 w') => FU6.out w' (HK10.out.trans (hb.mono HK10.out.size)))
              have FM10 := Lib.hid (fun w' (hb : Below w10.heap.size w10 w') => FM6.out w' (HK10.out.trans (hb.mono HK10.out.size)))
              have FB10 := Lib.hid (fun w' (hb : Below w10.heap.size w10 w') => FB6.out w' (HK10.out.trans (hb.mono HK10.out.size)))
              have FC10 := Lib.hid (fun w' (hb : Below w10.heap.size w10 w') => FC6.out w' (HK10.out.trans (hb.mono HK10.out.size)))
              have FG10 := Lib.hid (fun w' (hb : Below w10.heap.size w10 w') => FG6.out w' (HK10.out.trans (hb.mono HK10.out.size)))
              have FXd10 := Lib.hid (fun w' (hb : Below w10.heap.size w10 w') => FXd6.out w' (HK10.out.trans (hb.mono HK10.out.size)))
              have FXl10 := Lib.hid (fun w' (hb : Below w10.heap.size w10 w') => FXl6.out w' (HK10.out.trans (hb.mono HK10.out.size)))
              have FXm10 := Lib.hid (fun w' (hb : Below w10.heap.size w10 w') => FXm6.out w' (HK10.out.trans (hb.mono HK10.out.size)))
              have FAA10 := Lib.hid (fun w' (hb : Below w10.heap.size w10 w') => FAA6.out w' (HK10.out.trans (hb.mono HK10.out.size)))
              have FAL10 := Lib.hid (fun w' (hb : Below w10.heap.size w10 w') => FAL6.out w' (HK10.out.trans (hb.mono HK10.out.size)))
              have FAM10 := Lib.hid (fun w' (hb : Below w10.heap.size w10 w') => FAM6.out w' (HK10.out.trans (hb.mono HK10.out.size)))
              have HKb : Hid (Below w10.heap.size w10 w10) := Lib.hid (Below.refl _ _)
              clear HK10
              have HK10 := HKb
              clear HKb
              have d0 : w10.cell? ⟨bd, 0, none⟩ = some (.int .i64 st) := cell_at (FXd10.out _ HK10.out) 0 _ rfl
              have d1 : w10.cell? ⟨bd, 1, none⟩ = some (.string f) := cell_at (FXd10.out _ HK10.out) 1 _ rfl
              have d2 : w10.cell? ⟨bd, 2, none⟩ = some (.slice A us.length c) := cell_at (FXd10.out _ HK10.out) 2 _ rfl
              have d3 : w10.cell? ⟨bd, 3, none⟩ = some (.string t) := cell_at (FXd10.out _ HK10.out) 3 _ rfl
              have l0 : w10.cell? ⟨bl, 0, none⟩ = some (.int .i64 so) := cell_at (FXl10.out _ HK10.out) 0 _ rfl
              have l1 : w10.cell? ⟨bl, 1, none⟩ = some (.string fo) := cell_at (FXl10.out _ HK10.out) 1 _ rfl
              have l2 : w10.cell? ⟨bl, 2, none⟩ = some (.slice Al uo.length cl) := cell_at (FXl10.out _ HK10.out) 2 _ rfl
              have l3 : w10.cell? ⟨bl, 3, none⟩ = some (.string to_) := cell_at (FXl10.out _ HK10.out) 3 _ rfl
              have m0 : w10.cell? ⟨bm, 0, none⟩ = some (.int .i64 so) := cell_at (FXm10.out _ HK10.out) 0 _ rfl
              have m1 : w10.cell? ⟨bm, 1, none⟩ = some (.string fo) := cell_at (FXm10.out _ HK10.out) 1 _ rfl
              have m2 : w10.cell? ⟨bm, 2, none⟩ = some (.slice Am uo.length cm) := cell_at (FXm10.out _ HK10.out) 2 _ rfl
              have m3 : w10.cell? ⟨bm, 3, none⟩ = some (.string to_) := cell_at (FXm10.out _ HK10.out) 3 _ rfl
              have x0 : w10.cell? ⟨bx, 0, none⟩ = some (.int .i64 st) := cell_at (FXx10.out _ HK10.out) 0 _ rfl
              have x1 : w10.cell? ⟨bx, 1, none⟩ = some (.string f) := cell_at (FXx10.out _ HK10.out) 1 _ rfl
              have x2 : w10.cell? ⟨bx, 2, none⟩ = some (.slice Ax us.length cx) := cell_at (FXx10.out _ HK10.out) 2 _ rfl
              have x3 : w10.cell? ⟨bx, 3, none⟩ = some (.string t) := cell_at (FXx10.out _ HK10.out) 3 _ rfl
              clear hatx
              obtain ⟨u0, -, -⟩ := (FC10.out _ HK10.out)
              simp only [Nat.zero_mul, Nat.add_zero] at u0
              have HD10 : Hid (Below w10.heap.size w10 w10.drew) := Lib.hid (Sx.below_drew HK10.out)
              have HE10 : Hid (Below w10.heap.size w10 (w10.alloc (.cells #[.int .i64 0, .string ⟨#[]⟩, .slice none 0 0, .string ⟨#[]⟩] 36)).drew) := Lib.hid (Sx.below_drew (HK10.out.alloc HK10.out.size _))
              have HZ10 : Hid ((w10.alloc (.cells #[.int .i64 0, .string ⟨#[]⟩, .slice none 0 0, .string ⟨#[]⟩] 36)).drew.heap[w10.heap.size]? = some (.cells #[.int .i64 0, .string ⟨#[]⟩, .slice none 0 0, .string ⟨#[]⟩] 36)) := Lib.hid (heap_alloc_new w10 _)
              have HF10 : Hid (Below w10.heap.size w10 w10.drew ∧ Below w10.heap.size w10 (w10.alloc (.cells #[.int .i64 0, .string ⟨#[]⟩, .slice none 0 0, .string ⟨#[]⟩] 36)).drew) := Lib.hid ⟨Sx.below_drew (Below.refl _ _), Sx.below_drew ((Below.refl _ _).alloc (Nat.le_refl _) _)⟩
              have HUSZ := Lib.hid (FAA10.out _ HK10.out).2
              have HCL : Hid (∀ W, Below w10.heap.size w10 W → Calls Tryz.prog 27 #[.agg #[.int .i64 st, .string f, .slice A us.length c, .string t], .slice (some ⟨ug, uf, none⟩) vs.length cu, .string d, .string (ByteArray.mk #[82, 67, 80, 84, 32, 84, 79, 58, 60] ++ u.name ++ ByteArray.mk #[64, 122, 101, 100, 62])] W (Sm.OwnW st f us t 550 W)) := Lib.hid fun W hb => iLineW_any st f t A us c _ (FAA10.out _ hb) hcap hcm hfm htm (some ⟨ug, uf, none⟩) vs cu (FU10.out _ hb) hvl d (ByteArray.mk #[82, 67, 80, 84, 32, 84, 79, 58, 60] ++ u.name ++ ByteArray.mk #[64, 122, 101, 100, 62]) hdz hlY m (FM10.out _ hb) HRY.out
              have hbbd : bd < w10.heap.size := (Array.getElem?_eq_some_iff.1 (FXd10.out _ HK10.out)).1
              have hbbl : bl < w10.heap.size := (Array.getElem?_eq_some_iff.1 (FXl10.out _ HK10.out)).1
              have hbbm : bm < w10.heap.size := (Array.getElem?_eq_some_iff.1 (FXm10.out _ HK10.out)).1
              have hbbx : bx < w10.heap.size := (Array.getElem?_eq_some_iff.1 (FXx10.out _ HK10.out)).1
              have hbug : ug < w10.heap.size := FG10.out _ HK10.out
              have hj0 : ∀ W, (Op.stringOp .add (ByteArray.mk #[82, 67, 80, 84, 32, 84, 79, 58, 60]) u.name).run Tryz.prog W = .ok (.string ((ByteArray.mk #[82, 67, 80, 84, 32, 84, 79, 58, 60]) ++ u.name)) W := fun W => run_string_add_sum W _ _ (by (try simp only [ByteArray.size_append]); omega)
              have hj1 : ∀ W, (Op.stringOp .add (ByteArray.mk #[82, 67, 80, 84, 32, 84, 79, 58, 60] ++ u.name) (ByteArray.mk #[64, 122, 101, 100, 62])).run Tryz.prog W = .ok (.string ((ByteArray.mk #[82, 67, 80, 84, 32, 84, 79, 58, 60] ++ u.name) ++ (ByteArray.mk #[64, 122, 101, 100, 62]))) W := fun W => run_string_add_sum W _ _ (by (try simp only [ByteArray.size_append]); omega)
              go_cut [13, 14] (fun v1 v2 wx => ∃ (bq : Nat) (Aq : Option Addr) (cq : Nat), v1 = .pointer (some ⟨bq, 0, none⟩) ∧ v2 = .int .i64 550 ∧ Hid (wx.heap[bq]? = some (.cells #[.int .i64 st, .string f, .slice Aq us.length cq, .string t] 36 (0, 0))) ∧ Hid (AtStrs wx wx.heap.size Aq us) ∧ Hid (bq < wx.heap.size ∧ w10.heap.size ≤ bq) ∧ Hid (Below w10.heap.size w10 wx))
              case first =>
                go_region_law ((first
                  | (go_simp; go_at_call 27; refine Calls.mono (HCL.out _ HD10.out) ?_; rintro e wy ⟨Aq, cq, rfl, hoq, hkq, hjq, hbq⟩; have hbw : Hid (Below w10.heap.size w10 wy) := Lib.hid (HF10.out.1.trans (hbq.mono HF10.out.1.size)))
                  | (go_simp; go_at_call 27; refine Calls.mono (HCL.out _ HE10.out) ?_; rintro e wy ⟨Aq, cq, rfl, hoq, hkq, hjq, hbq⟩; have hbw : Hid (Below w10.heap.size w10 wy) := Lib.hid (HF10.out.2.trans (hbq.mono HF10.out.2.size)); have hlz : w10.heap.size < (w10.alloc (.cells #[.int .i64 0, .string ⟨#[]⟩, .slice none 0 0, .string ⟨#[]⟩] 36)).drew.heap.size := (Array.getElem?_eq_some_iff.1 HZ10.out).1; have HV1 := Lib.hid ((hbq.block w10.heap.size hlz).trans HZ10.out); have vz0 : wy.cell? ⟨w10.heap.size, 0, none⟩ = some (.int .i64 0) := cell_at HV1.out 0 _ rfl; have fz0 := free_at HV1.out 0; have vz1 : wy.cell? ⟨w10.heap.size, 1, none⟩ = some (.string ⟨#[]⟩) := cell_at HV1.out 1 _ rfl; have fz1 := free_at HV1.out 1; have vz2 : wy.cell? ⟨w10.heap.size, 2, none⟩ = some (.slice none 0 0) := cell_at HV1.out 2 _ rfl; have fz2 := free_at HV1.out 2; have vz3 : wy.cell? ⟨w10.heap.size, 3, none⟩ = some (.string ⟨#[]⟩) := cell_at HV1.out 3 _ rfl; have fz3 := free_at HV1.out 3)))
                all_goals
                  go_wp2_with fail
                  go_meet
                  first
                  | (have hh := HV1.out
                     refine ⟨_, Aq, cq, rfl, rfl, ?_, ?_, ?_, ?_⟩
                     · exact Lib.hid (Lw.box4 hh _ _ _ _)
                     · exact Lib.hid (Lw.strs_own (Lw.own4 hoq hlz _ _ _ _) rfl HUSZ.out)
                     · exact Lib.hid ⟨by simp; exact (Array.getElem?_eq_some_iff.1 hh).1, Nat.le_refl _⟩
                     · exact Lib.hid (set4 hbw.out (Nat.le_refl _) _ _ _ _))
                  | (have hea := Below.alloc (Below.refl wy.heap.size wy) (Nat.le_refl _) (.cells #[.int .i64 st, .string f, .slice Aq us.length cq, .string t] 36)
                     refine ⟨_, Aq, cq, rfl, rfl, ?_, ?_, ?_, ?_⟩
                     · exact Lib.hid (heap_alloc_new _ _)
                     · exact Lib.hid (((Lw.strs_own hoq rfl HUSZ.out).below hea).mono hea.size)
                     · exact Lib.hid ⟨by simp, hbw.out.size⟩
                     · exact Lib.hid (hbw.out.trans (hea.mono hbw.out.size)))
              clear d0 d1 d2 d3 l0 l1 l2 l3 m0 m1 m2 m3 x0 x1 x2 x3
              obtain ⟨byy, Ayy, cyy, rfl, rfl, HX, HAX, HLX, HBX⟩ := hcut
              obtain ⟨w11, hwm⟩ : ∃ wm, wm = wc := ⟨_, rfl⟩
              subst hwm
              have hltdyy : bd < byy := by have := (Array.getElem?_eq_some_iff.1 (FXd10.out _ HK10.out)).1; have := HLX.out.2; omega
              have hltlyy : bl < byy := by have := (Array.getElem?_eq_some_iff.1 (FXl10.out _ HK10.out)).1; have := HLX.out.2; omega
              have hltmyy : bm < byy := by have := (Array.getElem?_eq_some_iff.1 (FXm10.out _ HK10.out)).1; have := HLX.out.2; omega
              have hltxyy : bx < byy := by have := (Array.getElem?_eq_some_iff.1 (FXx10.out _ HK10.out)).1; have := HLX.out.2; omega
              have HK11 := Lib.hid (HK10.out.trans (HBX.out.mono HK10.out.size))
              have FXyy11 : Hid (∀ w', Below w11.heap.size w11 w' → w'.heap[byy]? = some (.cells #[.int .i64 st, .string f, .slice Ayy us.length cyy, .string t] 36 (0, 0))) := Lib.hid (fun w' hb => (hb.block _ HLX.out.1).trans HX.out)
              have FAYY11 : Hid (∀ w', Below w11.heap.size w11 w' → AtStrs w' w'.heap.size Ayy us) := Lib.hid (fun w' hb => (HAX.out.below hb).mono hb.size)
              have FU11 := Lib.hid (fun w' (hb : Below w11.heap.size w11 w') => FU10.out w' (HK11.out.trans (hb.mono HK11.out.size)))
              have FM11 := Lib.hid (fun w' (hb : Below w11.heap.size w11 w') => FM10.out w' (HK11.out.trans (hb.mono HK11.out.size)))
              have FB11 := Lib.hid (fun w' (hb : Below w11.heap.size w11 w') => FB10.out w' (HK11.out.trans (hb.mono HK11.out.size)))
              have FC11 := Lib.hid (fun w' (hb : Below w11.heap.size w11 w') => FC10.out w' (HK11.out.trans (hb.mono HK11.out.size)))
              have FG11 := Lib.hid (fun w' (hb : Below w11.heap.size w11 w') => FG10.out w' (HK11.out.trans (hb.mono HK11.out.size)))
              have FXd11 := Lib.hid (fun w' (hb : Below w11.heap.size w11 w') => FXd10.out w' (HK11.out.trans (hb.mono HK11.out.size)))
              have FXl11 := Lib.hid (fun w' (hb : Below w11.heap.size w11 w') => FXl10.out w' (HK11.out.trans (hb.mono HK11.out.size)))
              have FXm11 := Lib.hid (fun w' (hb : Below w11.heap.size w11 w') => FXm10.out w' (HK11.out.trans (hb.mono HK11.out.size)))
              have FXx11 := Lib.hid (fun w' (hb : Below w11.heap.size w11 w') => FXx10.out w' (HK11.out.trans (hb.mono HK11.out.size)))
              have FAA11 := Lib.hid (fun w' (hb : Below w11.heap.size w11 w') => FAA10.out w' (HK11.out.trans (hb.mono HK11.out.size)))
              have FAL11 := Lib.hid (fun w' (hb : Below w11.heap.size w11 w') => FAL10.out w' (HK11.out.trans (hb.mono HK11.out.size)))
              have FAM11 := Lib.hid (fun w' (hb : Below w11.heap.size w11 w') => FAM10.out w' (HK11.out.trans (hb.mono HK11.out.size)))
              have FAX11 := Lib.hid (fun w' (hb : Below w11.heap.size w11 w') => FAX10.out w' (HK11.out.trans (hb.mono HK11.out.size)))
              have HKb : Hid (Below w11.heap.size w11 w11) := Lib.hid (Below.refl _ _)
              clear HK11
              have HK11 := HKb
              clear HKb
              clear hbug hbbd hbbl hbbm hbbx
              clear HX HAX HLX HBX HCL HUSZ HD10 HE10 HZ10 HF10 hj0 hj1
              have d0 : w11.cell? ⟨bd, 0, none⟩ = some (.int .i64 st) := cell_at (FXd11.out _ HK11.out) 0 _ rfl
              have d1 : w11.cell? ⟨bd, 1, none⟩ = some (.string f) := cell_at (FXd11.out _ HK11.out) 1 _ rfl
              have d2 : w11.cell? ⟨bd, 2, none⟩ = some (.slice A us.length c) := cell_at (FXd11.out _ HK11.out) 2 _ rfl
              have d3 : w11.cell? ⟨bd, 3, none⟩ = some (.string t) := cell_at (FXd11.out _ HK11.out) 3 _ rfl
              have l0 : w11.cell? ⟨bl, 0, none⟩ = some (.int .i64 so) := cell_at (FXl11.out _ HK11.out) 0 _ rfl
              have l1 : w11.cell? ⟨bl, 1, none⟩ = some (.string fo) := cell_at (FXl11.out _ HK11.out) 1 _ rfl
              have l2 : w11.cell? ⟨bl, 2, none⟩ = some (.slice Al uo.length cl) := cell_at (FXl11.out _ HK11.out) 2 _ rfl
              have l3 : w11.cell? ⟨bl, 3, none⟩ = some (.string to_) := cell_at (FXl11.out _ HK11.out) 3 _ rfl
              have m0 : w11.cell? ⟨bm, 0, none⟩ = some (.int .i64 so) := cell_at (FXm11.out _ HK11.out) 0 _ rfl
              have m1 : w11.cell? ⟨bm, 1, none⟩ = some (.string fo) := cell_at (FXm11.out _ HK11.out) 1 _ rfl
              have m2 : w11.cell? ⟨bm, 2, none⟩ = some (.slice Am uo.length cm) := cell_at (FXm11.out _ HK11.out) 2 _ rfl
              have m3 : w11.cell? ⟨bm, 3, none⟩ = some (.string to_) := cell_at (FXm11.out _ HK11.out) 3 _ rfl
              have x0 : w11.cell? ⟨bx, 0, none⟩ = some (.int .i64 st) := cell_at (FXx11.out _ HK11.out) 0 _ rfl
              have x1 : w11.cell? ⟨bx, 1, none⟩ = some (.string f) := cell_at (FXx11.out _ HK11.out) 1 _ rfl
              have x2 : w11.cell? ⟨bx, 2, none⟩ = some (.slice Ax us.length cx) := cell_at (FXx11.out _ HK11.out) 2 _ rfl
              have x3 : w11.cell? ⟨bx, 3, none⟩ = some (.string t) := cell_at (FXx11.out _ HK11.out) 3 _ rfl
              have yy0 : w11.cell? ⟨byy, 0, none⟩ = some (.int .i64 st) := cell_at (FXyy11.out _ HK11.out) 0 _ rfl
              have yy1 : w11.cell? ⟨byy, 1, none⟩ = some (.string f) := cell_at (FXyy11.out _ HK11.out) 1 _ rfl
              have yy2 : w11.cell? ⟨byy, 2, none⟩ = some (.slice Ayy us.length cyy) := cell_at (FXyy11.out _ HK11.out) 2 _ rfl
              have yy3 : w11.cell? ⟨byy, 3, none⟩ = some (.string t) := cell_at (FXyy11.out _ HK11.out) 3 _ rfl
              clear u0
              go_wp2_with fail
              refine Calls.mono (iLine_any st f t A us c _ (FAA11.out _ HK11.out) hcap hcm hfm htm (some ⟨ug, uf, none⟩) vs cu (FU11.out _ HK11.out) hvl d (ByteArray.mk #[82, 67, 80, 84, 32, 84, 79, 58, 60, 62]) hdz (by decide) m (FM11.out _ HK11.out) HRC.out) ?_
              rintro e w12 ⟨Ae, ce, rfl, hate, hke, hje, hb⟩
              clear d0 d1 d2 d3 l0 l1 l2 l3 m0 m1 m2 m3 x0 x1 x2 x3 yy0 yy1 yy2 yy3
              have HK12 := Lib.hid (HK11.out.trans (hb.mono HK11.out.size))
              clear hb
              have d0 : w12.cell? ⟨bd, 0, none⟩ = some (.int .i64 st) := cell_at (FXd11.out _ HK12.out) 0 _ rfl
              have d1 : w12.cell? ⟨bd, 1, none⟩ = some (.string f) := cell_at (FXd11.out _ HK12.out) 1 _ rfl
              have d2 : w12.cell? ⟨bd, 2, none⟩ = some (.slice A us.length c) := cell_at (FXd11.out _ HK12.out) 2 _ rfl
              have d3 : w12.cell? ⟨bd, 3, none⟩ = some (.string t) := cell_at (FXd11.out _ HK12.out) 3 _ rfl
              have l0 : w12.cell? ⟨bl, 0, none⟩ = some (.int .i64 so) := cell_at (FXl11.out _ HK12.out) 0 _ rfl
              have l1 : w12.cell? ⟨bl, 1, none⟩ = some (.string fo) := cell_at (FXl11.out _ HK12.out) 1 _ rfl
              have l2 : w12.cell? ⟨bl, 2, none⟩ = some (.slice Al uo.length cl) := cell_at (FXl11.out _ HK12.out) 2 _ rfl
              have l3 : w12.cell? ⟨bl, 3, none⟩ = some (.string to_) := cell_at (FXl11.out _ HK12.out) 3 _ rfl
              have m0 : w12.cell? ⟨bm, 0, none⟩ = some (.int .i64 so) := cell_at (FXm11.out _ HK12.out) 0 _ rfl
              have m1 : w12.cell? ⟨bm, 1, none⟩ = some (.string fo) := cell_at (FXm11.out _ HK12.out) 1 _ rfl
              have m2 : w12.cell? ⟨bm, 2, none⟩ = some (.slice Am uo.length cm) := cell_at (FXm11.out _ HK12.out) 2 _ rfl
              have m3 : w12.cell? ⟨bm, 3, none⟩ = some (.string to_) := cell_at (FXm11.out _ HK12.out) 3 _ rfl
              have x0 : w12.cell? ⟨bx, 0, none⟩ = some (.int .i64 st) := cell_at (FXx11.out _ HK12.out) 0 _ rfl
              have x1 : w12.cell? ⟨bx, 1, none⟩ = some (.string f) := cell_at (FXx11.out _ HK12.out) 1 _ rfl
              have x2 : w12.cell? ⟨bx, 2, none⟩ = some (.slice Ax us.length cx) := cell_at (FXx11.out _ HK12.out) 2 _ rfl
              have x3 : w12.cell? ⟨bx, 3, none⟩ = some (.string t) := cell_at (FXx11.out _ HK12.out) 3 _ rfl
              have yy0 : w12.cell? ⟨byy, 0, none⟩ = some (.int .i64 st) := cell_at (FXyy11.out _ HK12.out) 0 _ rfl
              have yy1 : w12.cell? ⟨byy, 1, none⟩ = some (.string f) := cell_at (FXyy11.out _ HK12.out) 1 _ rfl
              have yy2 : w12.cell? ⟨byy, 2, none⟩ = some (.slice Ayy us.length cyy) := cell_at (FXyy11.out _ HK12.out) 2 _ rfl
              have yy3 : w12.cell? ⟨byy, 3, none⟩ = some (.string t) := cell_at (FXyy11.out _ HK12.out) 3 _ rfl
              clear d0 d1 d2 d3 l0 l1 l2 l3 m0 m1 m2 m3 x0 x1 x2 x3 yy0 yy1 yy2 yy3
              have hx := heap_alloc_new w12 (.cells #[.int .i64 st, .string f, .slice Ae us.length ce, .string t] 36)
              have hE := Below.alloc (Below.refl w12.heap.size w12) (Nat.le_refl _) (.cells #[.int .i64 st, .string f, .slice Ae us.length ce, .string t] 36)
              have hs : w12.heap.size < (w12.alloc (.cells #[.int .i64 st, .string f, .slice Ae us.length ce, .string t] 36)).heap.size := by simp
              go_upto_region 11 with fail
              generalize w12.alloc (.cells #[.int .i64 st, .string f, .slice Ae us.length ce, .string t] 36) = w13 at hx hE hs ⊢
              obtain ⟨be, hbb⟩ : ∃ b, b = w12.heap.size := ⟨_, rfl⟩
              rw [← hbb] at hx hs ⊢
              have hltde : bd < be := by have := (Array.getElem?_eq_some_iff.1 (FXd11.out _ HK12.out)).1; omega
              have hltle : bl < be := by have := (Array.getElem?_eq_some_iff.1 (FXl11.out _ HK12.out)).1; omega
              have hltme : bm < be := by have := (Array.getElem?_eq_some_iff.1 (FXm11.out _ HK12.out)).1; omega
              have hltxe : bx < be := by have := (Array.getElem?_eq_some_iff.1 (FXx11.out _ HK12.out)).1; omega
              have hltyye : byy < be := by have := (Array.getElem?_eq_some_iff.1 (FXyy11.out _ HK12.out)).1; omega
              have HK13 := Lib.hid (HK12.out.trans (hE.mono HK12.out.size))
              have FXe13 : Hid (∀ w', Below w13.heap.size w13 w' → w'.heap[be]? = some (.cells #[.int .i64 st, .string f, .slice Ae us.length ce, .string t] 36 (0, 0))) := Lib.hid (fun w' hb => (hb.block _ hs).trans hx)
              have FAE13 : Hid (∀ w', Below w13.heap.size w13 w' → AtStrs w' w'.heap.size Ae us) := Lib.hid (fun w' hb => (((hate.below hE).mono hE.size).below hb).mono hb.size)
              clear hx hE hs hbb
              have FU13 := Lib.hid (fun w' (hb : Below w13.heap.size w13 w') => FU11.out w' (HK13.out.trans (hb.mono HK13.out.size)))
              have FM13 := Lib.hid (fun w' (hb : Below w13.heap.size w13 w') => FM11.out w' (HK13.out.trans (hb.mono HK13.out.size)))
              have FB13 := Lib.hid (fun w' (hb : Below w13.heap.size w13 w') => FB11.out w' (HK13.out.trans (hb.mono HK13.out.size)))
              have FC13 := Lib.hid (fun w' (hb : Below w13.heap.size w13 w') => FC11.out w' (HK13.out.trans (hb.mono HK13.out.size)))
              have FG13 := Lib.hid (fun w' (hb : Below w13.heap.size w13 w') => FG11.out w' (HK13.out.trans (hb.mono HK13.out.size)))
              have FXd13 := Lib.hid (fun w' (hb : Below w13.heap.size w13 w') => FXd11.out w' (HK13.out.trans (hb.mono HK13.out.size)))
              have FXl13 := Lib.hid (fun w' (hb : Below w13.heap.size w13 w') => FXl11.out w' (HK13.out.trans (hb.mono HK13.out.size)))
              have FXm13 := Lib.hid (fun w' (hb : Below w13.heap.size w13 w') => FXm11.out w' (HK13.out.trans (hb.mono HK13.out.size)))
              have FXx13 := Lib.hid (fun w' (hb : Below w13.heap.size w13 w') => FXx11.out w' (HK13.out.trans (hb.mono HK13.out.size)))
              have FXyy13 := Lib.hid (fun w' (hb : Below w13.heap.size w13 w') => FXyy11.out w' (HK13.out.trans (hb.mono HK13.out.size)))
              have FAA13 := Lib.hid (fun w' (hb : Below w13.heap.size w13 w') => FAA11.out w' (HK13.out.trans (hb.mono HK13.out.size)))
              have FAL13 := Lib.hid (fun w' (hb : Below w13.heap.size w13 w') => FAL11.out w' (HK13.out.trans (hb.mono HK13.out.size)))
              have FAM13 := Lib.hid (fun w' (hb : Below w13.heap.size w13 w') => FAM11.out w' (HK13.out.trans (hb.mono HK13.out.size)))
              have FAX13 := Lib.hid (fun w' (hb : Below w13.heap.size w13 w') => FAX11.out w' (HK13.out.trans (hb.mono HK13.out.size)))
              have FAYY13 := Lib.hid (fun w' (hb : Below w13.heap.size w13 w') => FAYY11.out w' (HK13.out.trans (hb.mono HK13.out.size)))
              have HKb : Hid (Below w13.heap.size w13 w13) := Lib.hid (Below.refl _ _)
              clear HK13
              have HK13 := HKb
              clear HKb
              have d0 : w13.cell? ⟨bd, 0, none⟩ = some (.int .i64 st) := cell_at (FXd13.out _ HK13.out) 0 _ rfl
              have d1 : w13.cell? ⟨bd, 1, none⟩ = some (.string f) := cell_at (FXd13.out _ HK13.out) 1 _ rfl
              have d2 : w13.cell? ⟨bd, 2, none⟩ = some (.slice A us.length c) := cell_at (FXd13.out _ HK13.out) 2 _ rfl
              have d3 : w13.cell? ⟨bd, 3, none⟩ = some (.string t) := cell_at (FXd13.out _ HK13.out) 3 _ rfl
              have l0 : w13.cell? ⟨bl, 0, none⟩ = some (.int .i64 so) := cell_at (FXl13.out _ HK13.out) 0 _ rfl
              have l1 : w13.cell? ⟨bl, 1, none⟩ = some (.string fo) := cell_at (FXl13.out _ HK13.out) 1 _ rfl
              have l2 : w13.cell? ⟨bl, 2, none⟩ = some (.slice Al uo.length cl) := cell_at (FXl13.out _ HK13.out) 2 _ rfl
              have l3 : w13.cell? ⟨bl, 3, none⟩ = some (.string to_) := cell_at (FXl13.out _ HK13.out) 3 _ rfl
              have m0 : w13.cell? ⟨bm, 0, none⟩ = some (.int .i64 so) := cell_at (FXm13.out _ HK13.out) 0 _ rfl
              have m1 : w13.cell? ⟨bm, 1, none⟩ = some (.string fo) := cell_at (FXm13.out _ HK13.out) 1 _ rfl
              have m2 : w13.cell? ⟨bm, 2, none⟩ = some (.slice Am uo.length cm) := cell_at (FXm13.out _ HK13.out) 2 _ rfl
              have m3 : w13.cell? ⟨bm, 3, none⟩ = some (.string to_) := cell_at (FXm13.out _ HK13.out) 3 _ rfl
              have x0 : w13.cell? ⟨bx, 0, none⟩ = some (.int .i64 st) := cell_at (FXx13.out _ HK13.out) 0 _ rfl
              have x1 : w13.cell? ⟨bx, 1, none⟩ = some (.string f) := cell_at (FXx13.out _ HK13.out) 1 _ rfl
              have x2 : w13.cell? ⟨bx, 2, none⟩ = some (.slice Ax us.length cx) := cell_at (FXx13.out _ HK13.out) 2 _ rfl
              have x3 : w13.cell? ⟨bx, 3, none⟩ = some (.string t) := cell_at (FXx13.out _ HK13.out) 3 _ rfl
              have yy0 : w13.cell? ⟨byy, 0, none⟩ = some (.int .i64 st) := cell_at (FXyy13.out _ HK13.out) 0 _ rfl
              have yy1 : w13.cell? ⟨byy, 1, none⟩ = some (.string f) := cell_at (FXyy13.out _ HK13.out) 1 _ rfl
              have yy2 : w13.cell? ⟨byy, 2, none⟩ = some (.slice Ayy us.length cyy) := cell_at (FXyy13.out _ HK13.out) 2 _ rfl
              have yy3 : w13.cell? ⟨byy, 3, none⟩ = some (.string t) := cell_at (FXyy13.out _ HK13.out) 3 _ rfl
              have e0 : w13.cell? ⟨be, 0, none⟩ = some (.int .i64 st) := cell_at (FXe13.out _ HK13.out) 0 _ rfl
              have e1 : w13.cell? ⟨be, 1, none⟩ = some (.string f) := cell_at (FXe13.out _ HK13.out) 1 _ rfl
              have e2 : w13.cell? ⟨be, 2, none⟩ = some (.slice Ae us.length ce) := cell_at (FXe13.out _ HK13.out) 2 _ rfl
              have e3 : w13.cell? ⟨be, 3, none⟩ = some (.string t) := cell_at (FXe13.out _ HK13.out) 3 _ rfl
              clear hate
              obtain ⟨u0, -, -⟩ := (FC13.out _ HK13.out)
              simp only [Nat.zero_mul, Nat.add_zero] at u0
              have HD13 : Hid (Below w13.heap.size w13 w13.drew) := Lib.hid (Sx.below_drew HK13.out)
              have HE13 : Hid (Below w13.heap.size w13 (w13.alloc (.cells #[.int .i64 0, .string ⟨#[]⟩, .slice none 0 0, .string ⟨#[]⟩] 36)).drew) := Lib.hid (Sx.below_drew (HK13.out.alloc HK13.out.size _))
              have HZ13 : Hid ((w13.alloc (.cells #[.int .i64 0, .string ⟨#[]⟩, .slice none 0 0, .string ⟨#[]⟩] 36)).drew.heap[w13.heap.size]? = some (.cells #[.int .i64 0, .string ⟨#[]⟩, .slice none 0 0, .string ⟨#[]⟩] 36)) := Lib.hid (heap_alloc_new w13 _)
              have HF13 : Hid (Below w13.heap.size w13 w13.drew ∧ Below w13.heap.size w13 (w13.alloc (.cells #[.int .i64 0, .string ⟨#[]⟩, .slice none 0 0, .string ⟨#[]⟩] 36)).drew) := Lib.hid ⟨Sx.below_drew (Below.refl _ _), Sx.below_drew ((Below.refl _ _).alloc (Nat.le_refl _) _)⟩
              have HUSZ := Lib.hid (FAA13.out _ HK13.out).2
              have HCL : Hid (∀ W, Below w13.heap.size w13 W → Calls Tryz.prog 27 #[.agg #[.int .i64 st, .string f, .slice A us.length c, .string t], .slice (some ⟨ug, uf, none⟩) vs.length cu, .string d, .string (ByteArray.mk #[82, 67, 80, 84, 32, 84, 79, 58] ++ u.name ++ ByteArray.mk #[64] ++ d)] W (Sm.OwnW st f us t 501 W)) := Lib.hid fun W hb => iLineW_any st f t A us c _ (FAA13.out _ hb) hcap hcm hfm htm (some ⟨ug, uf, none⟩) vs cu (FU13.out _ hb) hvl d (ByteArray.mk #[82, 67, 80, 84, 32, 84, 79, 58] ++ u.name ++ ByteArray.mk #[64] ++ d) hdz hlD m (FM13.out _ hb) HRD.out
              have hbbd : bd < w13.heap.size := (Array.getElem?_eq_some_iff.1 (FXd13.out _ HK13.out)).1
              have hbbl : bl < w13.heap.size := (Array.getElem?_eq_some_iff.1 (FXl13.out _ HK13.out)).1
              have hbbm : bm < w13.heap.size := (Array.getElem?_eq_some_iff.1 (FXm13.out _ HK13.out)).1
              have hbbx : bx < w13.heap.size := (Array.getElem?_eq_some_iff.1 (FXx13.out _ HK13.out)).1
              have hbbyy : byy < w13.heap.size := (Array.getElem?_eq_some_iff.1 (FXyy13.out _ HK13.out)).1
              have hbbe : be < w13.heap.size := (Array.getElem?_eq_some_iff.1 (FXe13.out _ HK13.out)).1
              have hbug : ug < w13.heap.size := FG13.out _ HK13.out
              have hj0 : ∀ W, (Op.stringOp .add (ByteArray.mk #[82, 67, 80, 84, 32, 84, 79, 58]) u.name).run Tryz.prog W = .ok (.string ((ByteArray.mk #[82, 67, 80, 84, 32, 84, 79, 58]) ++ u.name)) W := fun W => run_string_add_sum W _ _ (by (try simp only [ByteArray.size_append]); omega)
              have hj1 : ∀ W, (Op.stringOp .add (ByteArray.mk #[82, 67, 80, 84, 32, 84, 79, 58] ++ u.name) (ByteArray.mk #[64])).run Tryz.prog W = .ok (.string ((ByteArray.mk #[82, 67, 80, 84, 32, 84, 79, 58] ++ u.name) ++ (ByteArray.mk #[64]))) W := fun W => run_string_add_sum W _ _ (by (try simp only [ByteArray.size_append]); omega)
              have hj2 : ∀ W, (Op.stringOp .add (ByteArray.mk #[82, 67, 80, 84, 32, 84, 79, 58] ++ u.name ++ ByteArray.mk #[64]) d).run Tryz.prog W = .ok (.string ((ByteArray.mk #[82, 67, 80, 84, 32, 84, 79, 58] ++ u.name ++ ByteArray.mk #[64]) ++ d)) W := fun W => run_string_add_sum W _ _ (by (try simp only [ByteArray.size_append]); omega)
              go_cut [17, 18] (fun v1 v2 wx => ∃ (bq : Nat) (Aq : Option Addr) (cq : Nat), v1 = .pointer (some ⟨bq, 0, none⟩) ∧ v2 = .int .i64 501 ∧ Hid (wx.heap[bq]? = some (.cells #[.int .i64 st, .string f, .slice Aq us.length cq, .string t] 36 (0, 0))) ∧ Hid (AtStrs wx wx.heap.size Aq us) ∧ Hid (bq < wx.heap.size ∧ w13.heap.size ≤ bq) ∧ Hid (Below w13.heap.size w13 wx))
              case first =>
                go_region_law ((first
                  | (go_simp; go_at_call 27; refine Calls.mono (HCL.out _ HD13.out) ?_; rintro e wy ⟨Aq, cq, rfl, hoq, hkq, hjq, hbq⟩; have hbw : Hid (Below w13.heap.size w13 wy) := Lib.hid (HF13.out.1.trans (hbq.mono HF13.out.1.size)))
                  | (go_simp; go_at_call 27; refine Calls.mono (HCL.out _ HE13.out) ?_; rintro e wy ⟨Aq, cq, rfl, hoq, hkq, hjq, hbq⟩; have hbw : Hid (Below w13.heap.size w13 wy) := Lib.hid (HF13.out.2.trans (hbq.mono HF13.out.2.size)); have hlz : w13.heap.size < (w13.alloc (.cells #[.int .i64 0, .string ⟨#[]⟩, .slice none 0 0, .string ⟨#[]⟩] 36)).drew.heap.size := (Array.getElem?_eq_some_iff.1 HZ13.out).1; have HV1 := Lib.hid ((hbq.block w13.heap.size hlz).trans HZ13.out); have vz0 : wy.cell? ⟨w13.heap.size, 0, none⟩ = some (.int .i64 0) := cell_at HV1.out 0 _ rfl; have fz0 := free_at HV1.out 0; have vz1 : wy.cell? ⟨w13.heap.size, 1, none⟩ = some (.string ⟨#[]⟩) := cell_at HV1.out 1 _ rfl; have fz1 := free_at HV1.out 1; have vz2 : wy.cell? ⟨w13.heap.size, 2, none⟩ = some (.slice none 0 0) := cell_at HV1.out 2 _ rfl; have fz2 := free_at HV1.out 2; have vz3 : wy.cell? ⟨w13.heap.size, 3, none⟩ = some (.string ⟨#[]⟩) := cell_at HV1.out 3 _ rfl; have fz3 := free_at HV1.out 3)))
                all_goals
                  go_wp2_with fail
                  go_meet
                  first
                  | (have hh := HV1.out
                     refine ⟨_, Aq, cq, rfl, rfl, ?_, ?_, ?_, ?_⟩
                     · exact Lib.hid (Lw.box4 hh _ _ _ _)
                     · exact Lib.hid (Lw.strs_own (Lw.own4 hoq hlz _ _ _ _) rfl HUSZ.out)
                     · exact Lib.hid ⟨by simp; exact (Array.getElem?_eq_some_iff.1 hh).1, Nat.le_refl _⟩
                     · exact Lib.hid (set4 hbw.out (Nat.le_refl _) _ _ _ _))
                  | (have hea := Below.alloc (Below.refl wy.heap.size wy) (Nat.le_refl _) (.cells #[.int .i64 st, .string f, .slice Aq us.length cq, .string t] 36)
                     refine ⟨_, Aq, cq, rfl, rfl, ?_, ?_, ?_, ?_⟩
                     · exact Lib.hid (heap_alloc_new _ _)
                     · exact Lib.hid (((Lw.strs_own hoq rfl HUSZ.out).below hea).mono hea.size)
                     · exact Lib.hid ⟨by simp, hbw.out.size⟩
                     · exact Lib.hid (hbw.out.trans (hea.mono hbw.out.size)))
              clear d0 d1 d2 d3 l0 l1 l2 l3 m0 m1 m2 m3 x0 x1 x2 x3 yy0 yy1 yy2 yy3 e0 e1 e2 e3
              obtain ⟨bz, Az, cz, rfl, rfl, HX, HAX, HLX, HBX⟩ := hcut
              obtain ⟨w14, hwm⟩ : ∃ wm, wm = wc := ⟨_, rfl⟩
              subst hwm
              have hltdz : bd < bz := by have := (Array.getElem?_eq_some_iff.1 (FXd13.out _ HK13.out)).1; have := HLX.out.2; omega
              have hltlz : bl < bz := by have := (Array.getElem?_eq_some_iff.1 (FXl13.out _ HK13.out)).1; have := HLX.out.2; omega
              have hltmz : bm < bz := by have := (Array.getElem?_eq_some_iff.1 (FXm13.out _ HK13.out)).1; have := HLX.out.2; omega
              have hltxz : bx < bz := by have := (Array.getElem?_eq_some_iff.1 (FXx13.out _ HK13.out)).1; have := HLX.out.2; omega
              have hltyyz : byy < bz := by have := (Array.getElem?_eq_some_iff.1 (FXyy13.out _ HK13.out)).1; have := HLX.out.2; omega
              have hltez : be < bz := by have := (Array.getElem?_eq_some_iff.1 (FXe13.out _ HK13.out)).1; have := HLX.out.2; omega
              have HK14 := Lib.hid (HK13.out.trans (HBX.out.mono HK13.out.size))
              have FXz14 : Hid (∀ w', Below w14.heap.size w14 w' → w'.heap[bz]? = some (.cells #[.int .i64 st, .string f, .slice Az us.length cz, .string t] 36 (0, 0))) := Lib.hid (fun w' hb => (hb.block _ HLX.out.1).trans HX.out)
              have FAZ14 : Hid (∀ w', Below w14.heap.size w14 w' → AtStrs w' w'.heap.size Az us) := Lib.hid (fun w' hb => (HAX.out.below hb).mono hb.size)
              have FU14 := Lib.hid (fun w' (hb : Below w14.heap.size w14 w') => FU13.out w' (HK14.out.trans (hb.mono HK14.out.size)))
              have FM14 := Lib.hid (fun w' (hb : Below w14.heap.size w14 w') => FM13.out w' (HK14.out.trans (hb.mono HK14.out.size)))
              have FB14 := Lib.hid (fun w' (hb : Below w14.heap.size w14 w') => FB13.out w' (HK14.out.trans (hb.mono HK14.out.size)))
              have FC14 := Lib.hid (fun w' (hb : Below w14.heap.size w14 w') => FC13.out w' (HK14.out.trans (hb.mono HK14.out.size)))
              have FG14 := Lib.hid (fun w' (hb : Below w14.heap.size w14 w') => FG13.out w' (HK14.out.trans (hb.mono HK14.out.size)))
              have FXd14 := Lib.hid (fun w' (hb : Below w14.heap.size w14 w') => FXd13.out w' (HK14.out.trans (hb.mono HK14.out.size)))
              have FXl14 := Lib.hid (fun w' (hb : Below w14.heap.size w14 w') => FXl13.out w' (HK14.out.trans (hb.mono HK14.out.size)))
              have FXm14 := Lib.hid (fun w' (hb : Below w14.heap.size w14 w') => FXm13.out w' (HK14.out.trans (hb.mono HK14.out.size)))
              have FXx14 := Lib.hid (fun w' (hb : Below w14.heap.size w14 w') => FXx13.out w' (HK14.out.trans (hb.mono HK14.out.size)))
              have FXyy14 := Lib.hid (fun w' (hb : Below w14.heap.size w14 w') => FXyy13.out w' (HK14.out.trans (hb.mono HK14.out.size)))
              have FXe14 := Lib.hid (fun w' (hb : Below w14.heap.size w14 w') => FXe13.out w' (HK14.out.trans (hb.mono HK14.out.size)))
              have FAA14 := Lib.hid (fun w' (hb : Below w14.heap.size w14 w') => FAA13.out w' (HK14.out.trans (hb.mono HK14.out.size)))
              have FAL14 := Lib.hid (fun w' (hb : Below w14.heap.size w14 w') => FAL13.out w' (HK14.out.trans (hb.mono HK14.out.size)))
              have FAM14 := Lib.hid (fun w' (hb : Below w14.heap.size w14 w') => FAM13.out w' (HK14.out.trans (hb.mono HK14.out.size)))
              have FAX14 := Lib.hid (fun w' (hb : Below w14.heap.size w14 w') => FAX13.out w' (HK14.out.trans (hb.mono HK14.out.size)))
              have FAYY14 := Lib.hid (fun w' (hb : Below w14.heap.size w14 w') => FAYY13.out w' (HK14.out.trans (hb.mono HK14.out.size)))
              have FAE14 := Lib.hid (fun w' (hb : Below w14.heap.size w14 w') => FAE13.out w' (HK14.out.trans (hb.mono HK14.out.size)))
              have HKb : Hid (Below w14.heap.size w14 w14) := Lib.hid (Below.refl _ _)
              clear HK14
              have HK14 := HKb
              clear HKb
              clear hbug hbbd hbbl hbbm hbbx hbbyy hbbe
              clear HX HAX HLX HBX HCL HUSZ HD13 HE13 HZ13 HF13 hj0 hj1 hj2
              have d0 : w14.cell? ⟨bd, 0, none⟩ = some (.int .i64 st) := cell_at (FXd14.out _ HK14.out) 0 _ rfl
              have d1 : w14.cell? ⟨bd, 1, none⟩ = some (.string f) := cell_at (FXd14.out _ HK14.out) 1 _ rfl
              have d2 : w14.cell? ⟨bd, 2, none⟩ = some (.slice A us.length c) := cell_at (FXd14.out _ HK14.out) 2 _ rfl
              have d3 : w14.cell? ⟨bd, 3, none⟩ = some (.string t) := cell_at (FXd14.out _ HK14.out) 3 _ rfl
              have l0 : w14.cell? ⟨bl, 0, none⟩ = some (.int .i64 so) := cell_at (FXl14.out _ HK14.out) 0 _ rfl
              have l1 : w14.cell? ⟨bl, 1, none⟩ = some (.string fo) := cell_at (FXl14.out _ HK14.out) 1 _ rfl
              have l2 : w14.cell? ⟨bl, 2, none⟩ = some (.slice Al uo.length cl) := cell_at (FXl14.out _ HK14.out) 2 _ rfl
              have l3 : w14.cell? ⟨bl, 3, none⟩ = some (.string to_) := cell_at (FXl14.out _ HK14.out) 3 _ rfl
              have m0 : w14.cell? ⟨bm, 0, none⟩ = some (.int .i64 so) := cell_at (FXm14.out _ HK14.out) 0 _ rfl
              have m1 : w14.cell? ⟨bm, 1, none⟩ = some (.string fo) := cell_at (FXm14.out _ HK14.out) 1 _ rfl
              have m2 : w14.cell? ⟨bm, 2, none⟩ = some (.slice Am uo.length cm) := cell_at (FXm14.out _ HK14.out) 2 _ rfl
              have m3 : w14.cell? ⟨bm, 3, none⟩ = some (.string to_) := cell_at (FXm14.out _ HK14.out) 3 _ rfl
              have x0 : w14.cell? ⟨bx, 0, none⟩ = some (.int .i64 st) := cell_at (FXx14.out _ HK14.out) 0 _ rfl
              have x1 : w14.cell? ⟨bx, 1, none⟩ = some (.string f) := cell_at (FXx14.out _ HK14.out) 1 _ rfl
              have x2 : w14.cell? ⟨bx, 2, none⟩ = some (.slice Ax us.length cx) := cell_at (FXx14.out _ HK14.out) 2 _ rfl
              have x3 : w14.cell? ⟨bx, 3, none⟩ = some (.string t) := cell_at (FXx14.out _ HK14.out) 3 _ rfl
              have yy0 : w14.cell? ⟨byy, 0, none⟩ = some (.int .i64 st) := cell_at (FXyy14.out _ HK14.out) 0 _ rfl
              have yy1 : w14.cell? ⟨byy, 1, none⟩ = some (.string f) := cell_at (FXyy14.out _ HK14.out) 1 _ rfl
              have yy2 : w14.cell? ⟨byy, 2, none⟩ = some (.slice Ayy us.length cyy) := cell_at (FXyy14.out _ HK14.out) 2 _ rfl
              have yy3 : w14.cell? ⟨byy, 3, none⟩ = some (.string t) := cell_at (FXyy14.out _ HK14.out) 3 _ rfl
              have e0 : w14.cell? ⟨be, 0, none⟩ = some (.int .i64 st) := cell_at (FXe14.out _ HK14.out) 0 _ rfl
              have e1 : w14.cell? ⟨be, 1, none⟩ = some (.string f) := cell_at (FXe14.out _ HK14.out) 1 _ rfl
              have e2 : w14.cell? ⟨be, 2, none⟩ = some (.slice Ae us.length ce) := cell_at (FXe14.out _ HK14.out) 2 _ rfl
              have e3 : w14.cell? ⟨be, 3, none⟩ = some (.string t) := cell_at (FXe14.out _ HK14.out) 3 _ rfl
              have z0 : w14.cell? ⟨bz, 0, none⟩ = some (.int .i64 st) := cell_at (FXz14.out _ HK14.out) 0 _ rfl
              have z1 : w14.cell? ⟨bz, 1, none⟩ = some (.string f) := cell_at (FXz14.out _ HK14.out) 1 _ rfl
              have z2 : w14.cell? ⟨bz, 2, none⟩ = some (.slice Az us.length cz) := cell_at (FXz14.out _ HK14.out) 2 _ rfl
              have z3 : w14.cell? ⟨bz, 3, none⟩ = some (.string t) := cell_at (FXz14.out _ HK14.out) 3 _ rfl
              clear u0
              go_wp2_with fail
              refine Calls.mono (sameSub_any st f t Ax A us cx c _ (FAX14.out _ HK14.out) (FAA14.out _ HK14.out) hul) ?_
              rintro e w15 ⟨rfl, hb⟩
              clear d0 d1 d2 d3 l0 l1 l2 l3 m0 m1 m2 m3 x0 x1 x2 x3 yy0 yy1 yy2 yy3 e0 e1 e2 e3 z0 z1 z2 z3
              have HK15 := Lib.hid (HK14.out.trans (hb.mono HK14.out.size))
              clear hb
              have d0 : w15.cell? ⟨bd, 0, none⟩ = some (.int .i64 st) := cell_at (FXd14.out _ HK15.out) 0 _ rfl
              have d1 : w15.cell? ⟨bd, 1, none⟩ = some (.string f) := cell_at (FXd14.out _ HK15.out) 1 _ rfl
              have d2 : w15.cell? ⟨bd, 2, none⟩ = some (.slice A us.length c) := cell_at (FXd14.out _ HK15.out) 2 _ rfl
              have d3 : w15.cell? ⟨bd, 3, none⟩ = some (.string t) := cell_at (FXd14.out _ HK15.out) 3 _ rfl
              have l0 : w15.cell? ⟨bl, 0, none⟩ = some (.int .i64 so) := cell_at (FXl14.out _ HK15.out) 0 _ rfl
              have l1 : w15.cell? ⟨bl, 1, none⟩ = some (.string fo) := cell_at (FXl14.out _ HK15.out) 1 _ rfl
              have l2 : w15.cell? ⟨bl, 2, none⟩ = some (.slice Al uo.length cl) := cell_at (FXl14.out _ HK15.out) 2 _ rfl
              have l3 : w15.cell? ⟨bl, 3, none⟩ = some (.string to_) := cell_at (FXl14.out _ HK15.out) 3 _ rfl
              have m0 : w15.cell? ⟨bm, 0, none⟩ = some (.int .i64 so) := cell_at (FXm14.out _ HK15.out) 0 _ rfl
              have m1 : w15.cell? ⟨bm, 1, none⟩ = some (.string fo) := cell_at (FXm14.out _ HK15.out) 1 _ rfl
              have m2 : w15.cell? ⟨bm, 2, none⟩ = some (.slice Am uo.length cm) := cell_at (FXm14.out _ HK15.out) 2 _ rfl
              have m3 : w15.cell? ⟨bm, 3, none⟩ = some (.string to_) := cell_at (FXm14.out _ HK15.out) 3 _ rfl
              have x0 : w15.cell? ⟨bx, 0, none⟩ = some (.int .i64 st) := cell_at (FXx14.out _ HK15.out) 0 _ rfl
              have x1 : w15.cell? ⟨bx, 1, none⟩ = some (.string f) := cell_at (FXx14.out _ HK15.out) 1 _ rfl
              have x2 : w15.cell? ⟨bx, 2, none⟩ = some (.slice Ax us.length cx) := cell_at (FXx14.out _ HK15.out) 2 _ rfl
              have x3 : w15.cell? ⟨bx, 3, none⟩ = some (.string t) := cell_at (FXx14.out _ HK15.out) 3 _ rfl
              have yy0 : w15.cell? ⟨byy, 0, none⟩ = some (.int .i64 st) := cell_at (FXyy14.out _ HK15.out) 0 _ rfl
              have yy1 : w15.cell? ⟨byy, 1, none⟩ = some (.string f) := cell_at (FXyy14.out _ HK15.out) 1 _ rfl
              have yy2 : w15.cell? ⟨byy, 2, none⟩ = some (.slice Ayy us.length cyy) := cell_at (FXyy14.out _ HK15.out) 2 _ rfl
              have yy3 : w15.cell? ⟨byy, 3, none⟩ = some (.string t) := cell_at (FXyy14.out _ HK15.out) 3 _ rfl
              have e0 : w15.cell? ⟨be, 0, none⟩ = some (.int .i64 st) := cell_at (FXe14.out _ HK15.out) 0 _ rfl
              have e1 : w15.cell? ⟨be, 1, none⟩ = some (.string f) := cell_at (FXe14.out _ HK15.out) 1 _ rfl
              have e2 : w15.cell? ⟨be, 2, none⟩ = some (.slice Ae us.length ce) := cell_at (FXe14.out _ HK15.out) 2 _ rfl
              have e3 : w15.cell? ⟨be, 3, none⟩ = some (.string t) := cell_at (FXe14.out _ HK15.out) 3 _ rfl
              have z0 : w15.cell? ⟨bz, 0, none⟩ = some (.int .i64 st) := cell_at (FXz14.out _ HK15.out) 0 _ rfl
              have z1 : w15.cell? ⟨bz, 1, none⟩ = some (.string f) := cell_at (FXz14.out _ HK15.out) 1 _ rfl
              have z2 : w15.cell? ⟨bz, 2, none⟩ = some (.slice Az us.length cz) := cell_at (FXz14.out _ HK15.out) 2 _ rfl
              have z3 : w15.cell? ⟨bz, 3, none⟩ = some (.string t) := cell_at (FXz14.out _ HK15.out) 3 _ rfl
              go_wp2_with fail
              go_ret
              exact ⟨rfl, (FB14.out _ HK15.out)⟩
          · have HKN := Lib.hid hkn
            clear hkn
            go_wp2_with fail
            refine Calls.mono (knows_any Au vs cu ⟨#[122, 101, 100]⟩ _ (FU6.out _ HK7.out) hvl) ?_
            rintro e w8 ⟨rfl, hb⟩
            clear d0 d1 d2 d3 l0 l1 l2 l3 m0 m1 m2 m3
            have HK8 := Lib.hid (HK7.out.trans (hb.mono HK7.out.size))
            clear hb
            have d0 : w8.cell? ⟨bd, 0, none⟩ = some (.int .i64 st) := cell_at (FXd6.out _ HK8.out) 0 _ rfl
            have d1 : w8.cell? ⟨bd, 1, none⟩ = some (.string f) := cell_at (FXd6.out _ HK8.out) 1 _ rfl
            have d2 : w8.cell? ⟨bd, 2, none⟩ = some (.slice A us.length c) := cell_at (FXd6.out _ HK8.out) 2 _ rfl
            have d3 : w8.cell? ⟨bd, 3, none⟩ = some (.string t) := cell_at (FXd6.out _ HK8.out) 3 _ rfl
            have l0 : w8.cell? ⟨bl, 0, none⟩ = some (.int .i64 so) := cell_at (FXl6.out _ HK8.out) 0 _ rfl
            have l1 : w8.cell? ⟨bl, 1, none⟩ = some (.string fo) := cell_at (FXl6.out _ HK8.out) 1 _ rfl
            have l2 : w8.cell? ⟨bl, 2, none⟩ = some (.slice Al uo.length cl) := cell_at (FXl6.out _ HK8.out) 2 _ rfl
            have l3 : w8.cell? ⟨bl, 3, none⟩ = some (.string to_) := cell_at (FXl6.out _ HK8.out) 3 _ rfl
            have m0 : w8.cell? ⟨bm, 0, none⟩ = some (.int .i64 so) := cell_at (FXm6.out _ HK8.out) 0 _ rfl
            have m1 : w8.cell? ⟨bm, 1, none⟩ = some (.string fo) := cell_at (FXm6.out _ HK8.out) 1 _ rfl
            have m2 : w8.cell? ⟨bm, 2, none⟩ = some (.slice Am uo.length cm) := cell_at (FXm6.out _ HK8.out) 2 _ rfl
            have m3 : w8.cell? ⟨bm, 3, none⟩ = some (.string to_) := cell_at (FXm6.out _ HK8.out) 3 _ rfl
            rw [HKN.out]
            go_wp2_with fail
            refine Calls.mono (sameSub_any so fo to_ Al Am uo cl cm _ (FAL6.out _ HK8.out) (FAM6.out _ HK8.out) hulo) ?_
            rintro e w9 ⟨rfl, hb⟩
            clear d0 d1 d2 d3 l0 l1 l2 l3 m0 m1 m2 m3
            have HK9 := Lib.hid (HK8.out.trans (hb.mono HK8.out.size))
            clear hb
            have d0 : w9.cell? ⟨bd, 0, none⟩ = some (.int .i64 st) := cell_at (FXd6.out _ HK9.out) 0 _ rfl
            have d1 : w9.cell? ⟨bd, 1, none⟩ = some (.string f) := cell_at (FXd6.out _ HK9.out) 1 _ rfl
            have d2 : w9.cell? ⟨bd, 2, none⟩ = some (.slice A us.length c) := cell_at (FXd6.out _ HK9.out) 2 _ rfl
            have d3 : w9.cell? ⟨bd, 3, none⟩ = some (.string t) := cell_at (FXd6.out _ HK9.out) 3 _ rfl
            have l0 : w9.cell? ⟨bl, 0, none⟩ = some (.int .i64 so) := cell_at (FXl6.out _ HK9.out) 0 _ rfl
            have l1 : w9.cell? ⟨bl, 1, none⟩ = some (.string fo) := cell_at (FXl6.out _ HK9.out) 1 _ rfl
            have l2 : w9.cell? ⟨bl, 2, none⟩ = some (.slice Al uo.length cl) := cell_at (FXl6.out _ HK9.out) 2 _ rfl
            have l3 : w9.cell? ⟨bl, 3, none⟩ = some (.string to_) := cell_at (FXl6.out _ HK9.out) 3 _ rfl
            have m0 : w9.cell? ⟨bm, 0, none⟩ = some (.int .i64 so) := cell_at (FXm6.out _ HK9.out) 0 _ rfl
            have m1 : w9.cell? ⟨bm, 1, none⟩ = some (.string fo) := cell_at (FXm6.out _ HK9.out) 1 _ rfl
            have m2 : w9.cell? ⟨bm, 2, none⟩ = some (.slice Am uo.length cm) := cell_at (FXm6.out _ HK9.out) 2 _ rfl
            have m3 : w9.cell? ⟨bm, 3, none⟩ = some (.string to_) := cell_at (FXm6.out _ HK9.out) 3 _ rfl
            go_wp2_with fail
            go_ret
            exact ⟨rfl, (FB6.out _ HK9.out)⟩
        · have h3i : (st != 3) = true := by simp [h3]
          have h4i : (st != 4) = false := by simp [h3]
          clear h3
          cases hkn : Sm.knows vs ⟨#[122, 101, 100]⟩
          · have HKN := Lib.hid hkn
            clear hkn
            go_wp2_with fail
            refine Calls.mono (knows_any Au vs cu ⟨#[122, 101, 100]⟩ _ (FU6.out _ HK7.out) hvl) ?_
            rintro e w8 ⟨rfl, hb⟩
            clear d0 d1 d2 d3 l0 l1 l2 l3 m0 m1 m2 m3
            have HK8 := Lib.hid (HK7.out.trans (hb.mono HK7.out.size))
            clear hb
            have d0 : w8.cell? ⟨bd, 0, none⟩ = some (.int .i64 st) := cell_at (FXd6.out _ HK8.out) 0 _ rfl
            have d1 : w8.cell? ⟨bd, 1, none⟩ = some (.string f) := cell_at (FXd6.out _ HK8.out) 1 _ rfl
            have d2 : w8.cell? ⟨bd, 2, none⟩ = some (.slice A us.length c) := cell_at (FXd6.out _ HK8.out) 2 _ rfl
            have d3 : w8.cell? ⟨bd, 3, none⟩ = some (.string t) := cell_at (FXd6.out _ HK8.out) 3 _ rfl
            have l0 : w8.cell? ⟨bl, 0, none⟩ = some (.int .i64 so) := cell_at (FXl6.out _ HK8.out) 0 _ rfl
            have l1 : w8.cell? ⟨bl, 1, none⟩ = some (.string fo) := cell_at (FXl6.out _ HK8.out) 1 _ rfl
            have l2 : w8.cell? ⟨bl, 2, none⟩ = some (.slice Al uo.length cl) := cell_at (FXl6.out _ HK8.out) 2 _ rfl
            have l3 : w8.cell? ⟨bl, 3, none⟩ = some (.string to_) := cell_at (FXl6.out _ HK8.out) 3 _ rfl
            have m0 : w8.cell? ⟨bm, 0, none⟩ = some (.int .i64 so) := cell_at (FXm6.out _ HK8.out) 0 _ rfl
            have m1 : w8.cell? ⟨bm, 1, none⟩ = some (.string fo) := cell_at (FXm6.out _ HK8.out) 1 _ rfl
            have m2 : w8.cell? ⟨bm, 2, none⟩ = some (.slice Am uo.length cm) := cell_at (FXm6.out _ HK8.out) 2 _ rfl
            have m3 : w8.cell? ⟨bm, 3, none⟩ = some (.string to_) := cell_at (FXm6.out _ HK8.out) 3 _ rfl
            rw [HKN.out]
            by_cases hz : d = ⟨#[122, 101, 100]⟩
            · have q1 : (d.toList == [122, 101, 100]) = true := lit_yes hz
              clear hz
              go_wp2_with fail
              refine Calls.mono (sameSub_any so fo to_ Al Am uo cl cm _ (FAL6.out _ HK8.out) (FAM6.out _ HK8.out) hulo) ?_
              rintro e w9 ⟨rfl, hb⟩
              clear d0 d1 d2 d3 l0 l1 l2 l3 m0 m1 m2 m3
              have HK9 := Lib.hid (HK8.out.trans (hb.mono HK8.out.size))
              clear hb
              have d0 : w9.cell? ⟨bd, 0, none⟩ = some (.int .i64 st) := cell_at (FXd6.out _ HK9.out) 0 _ rfl
              have d1 : w9.cell? ⟨bd, 1, none⟩ = some (.string f) := cell_at (FXd6.out _ HK9.out) 1 _ rfl
              have d2 : w9.cell? ⟨bd, 2, none⟩ = some (.slice A us.length c) := cell_at (FXd6.out _ HK9.out) 2 _ rfl
              have d3 : w9.cell? ⟨bd, 3, none⟩ = some (.string t) := cell_at (FXd6.out _ HK9.out) 3 _ rfl
              have l0 : w9.cell? ⟨bl, 0, none⟩ = some (.int .i64 so) := cell_at (FXl6.out _ HK9.out) 0 _ rfl
              have l1 : w9.cell? ⟨bl, 1, none⟩ = some (.string fo) := cell_at (FXl6.out _ HK9.out) 1 _ rfl
              have l2 : w9.cell? ⟨bl, 2, none⟩ = some (.slice Al uo.length cl) := cell_at (FXl6.out _ HK9.out) 2 _ rfl
              have l3 : w9.cell? ⟨bl, 3, none⟩ = some (.string to_) := cell_at (FXl6.out _ HK9.out) 3 _ rfl
              have m0 : w9.cell? ⟨bm, 0, none⟩ = some (.int .i64 so) := cell_at (FXm6.out _ HK9.out) 0 _ rfl
              have m1 : w9.cell? ⟨bm, 1, none⟩ = some (.string fo) := cell_at (FXm6.out _ HK9.out) 1 _ rfl
              have m2 : w9.cell? ⟨bm, 2, none⟩ = some (.slice Am uo.length cm) := cell_at (FXm6.out _ HK9.out) 2 _ rfl
              have m3 : w9.cell? ⟨bm, 3, none⟩ = some (.string to_) := cell_at (FXm6.out _ HK9.out) 3 _ rfl
              go_wp2_with fail
              go_ret
              exact ⟨rfl, (FB6.out _ HK9.out)⟩
            · have q1 : (d.toList == [122, 101, 100]) = false := lit_no hz
              have HND := Lib.hid hz
              clear hz
              have hex : ∃ u, vs[0]? = some u := ⟨_, List.getElem?_eq_getElem hv0⟩
              obtain ⟨u, hu⟩ := hex
              have HUM : Hid (u ∈ vs) := Lib.hid (List.mem_of_getElem? hu)
              have HUN : Hid (Nm.nameOk u.name.data.toList = true) := Lib.hid (Sm.name_mem HANS.out.2.1 HUM.out)
              obtain ⟨ug, uf, hAu, -, -⟩ := (FU6.out _ HK8.out).1 (Nat.lt_of_le_of_lt (Nat.zero_le _) hv0)
              subst hAu
              have FC6 : Hid (∀ w', Below w6.heap.size w6 w' → w'.cell? ⟨ug, uf + 0 * 3, none⟩ = some (.string u.name) ∧ w'.cell? ⟨ug, uf + 0 * 3 + 1, none⟩ = some (.string u.pass) ∧ w'.cell? ⟨ug, uf + 0 * 3 + 2, none⟩ = some (.int .i64 u.quota)) := Lib.hid (fun w' hb => by
                obtain ⟨g', o', e, _, hc⟩ := (FU6.out _ hb).1 (Nat.lt_of_le_of_lt (Nat.zero_le _) hv0)
                injection e with e
                injection e with e1 e2
                subst e1 e2
                exact hc 0 u hu)
              clear hu
              have hun8 : u.name.size ≤ 8 := Sm.name_size HUN.out
              have FG6 : Hid (∀ w', Below w6.heap.size w6 w' → ug < w'.heap.size) := Lib.hid (fun w' hb => by
                obtain ⟨g', o', e, hg, _⟩ := (FU6.out _ hb).1 (Nat.lt_of_le_of_lt (Nat.zero_le _) hv0)
                injection e with e
                injection e with e1 e2
                subst e1 e2
                exact hg)
              have hzl0 : (ByteArray.mk #[82, 67, 80, 84, 32, 84, 79, 58, 60, 122, 101, 100, 64]).size = 13 := rfl
              have hzl1 : (ByteArray.mk #[62]).size = 1 := rfl
              have hzl2 : (ByteArray.mk #[82, 67, 80, 84, 32, 84, 79, 58, 60]).size = 9 := rfl
              have hzl3 : (ByteArray.mk #[64, 122, 101, 100, 62]).size = 5 := rfl
              have hzl4 : (ByteArray.mk #[82, 67, 80, 84, 32, 84, 79, 58]).size = 8 := rfl
              have hzl5 : (ByteArray.mk #[64]).size = 1 := rfl
              have hlX : (ByteArray.mk #[82, 67, 80, 84, 32, 84, 79, 58, 60, 122, 101, 100, 64] ++ d ++ ByteArray.mk #[62]).size ≤ 16777216 := by simp only [ByteArray.size_append]; omega
              have hlY : (ByteArray.mk #[82, 67, 80, 84, 32, 84, 79, 58, 60] ++ u.name ++ ByteArray.mk #[64, 122, 101, 100, 62]).size ≤ 16777216 := by simp only [ByteArray.size_append]; omega
              have hlD : (ByteArray.mk #[82, 67, 80, 84, 32, 84, 79, 58] ++ u.name ++ ByteArray.mk #[64] ++ d).size ≤ 16777216 := by simp only [ByteArray.size_append]; omega
              have HRX : Hid (Sm.ans vs d ⟨st, f, us, t⟩ (ByteArray.mk #[82, 67, 80, 84, 32, 84, 79, 58, 60, 122, 101, 100, 64] ++ d ++ ByteArray.mk #[62]) = (⟨st, f, us, t⟩, 550)) := Lib.hid (by rw [Sm.ans_good HANS.out]; exact Sm.rcpt_no vs (s := ⟨st, f, us, t⟩) H3.out (Sm.text3a Sm.begT _ d rfl) Sm.zed_ok HANS.out.2.2 (fun e => by have h := e.2; rw [show Ct.mk Sm.zed = (⟨#[122, 101, 100]⟩ : ByteArray) from rfl, HKN.out] at h; cases h))
              have HRY : Hid (Sm.ans vs d ⟨st, f, us, t⟩ (ByteArray.mk #[82, 67, 80, 84, 32, 84, 79, 58, 60] ++ u.name ++ ByteArray.mk #[64, 122, 101, 100, 62]) = (⟨st, f, us, t⟩, 550)) := Lib.hid (by rw [Sm.ans_good HANS.out]; exact Sm.rcpt_no vs (s := ⟨st, f, us, t⟩) H3.out (Sm.text3b Sm.begT _ u.name rfl) HUN.out Sm.zed_dm (fun e => HND.out e.1.symm))
              have HRC : Hid (Sm.ans vs d ⟨st, f, us, t⟩ (ByteArray.mk #[82, 67, 80, 84, 32, 84, 79, 58, 60, 62]) = (⟨st, f, us, t⟩, 501)) := Lib.hid (by rw [Sm.ans_good HANS.out]; exact Sm.rcpt_none vs (s := ⟨st, f, us, t⟩) (r := [60, 62]) H3.out rfl Pa.path_nil)
              have HRD : Hid (Sm.ans vs d ⟨st, f, us, t⟩ (ByteArray.mk #[82, 67, 80, 84, 32, 84, 79, 58] ++ u.name ++ ByteArray.mk #[64] ++ d) = (⟨st, f, us, t⟩, 501)) := Lib.hid (by rw [Sm.ans_good HANS.out]; exact Sm.rcpt_none vs (s := ⟨st, f, us, t⟩) H3.out (Sm.text4 _ u.name d) (Pa.path_name HUN.out _))
              go_wp2_with fail
              refine Calls.mono (iLine_any st f t A us c _ (FAA6.out _ HK8.out) hcap hcm hfm htm (some ⟨ug, uf, none⟩) vs cu (FU6.out _ HK8.out) hvl d (ByteArray.mk #[82, 67, 80, 84, 32, 84, 79, 58, 60, 122, 101, 100, 64] ++ d ++ ByteArray.mk #[62]) hdz hlX m (FM6.out _ HK8.out) HRX.out) ?_
              rintro e w9 ⟨Ax, cx, rfl, hatx, hkx, hjx, hb⟩
              clear d0 d1 d2 d3 l0 l1 l2 l3 m0 m1 m2 m3
              have HK9 := Lib.hid (HK8.out.trans (hb.mono HK8.out.size))
              clear hb
              have d0 : w9.cell? ⟨bd, 0, none⟩ = some (.int .i64 st) := cell_at (FXd6.out _ HK9.out) 0 _ rfl
              have d1 : w9.cell? ⟨bd, 1, none⟩ = some (.string f) := cell_at (FXd6.out _ HK9.out) 1 _ rfl
              have d2 : w9.cell? ⟨bd, 2, none⟩ = some (.slice A us.length c) := cell_at (FXd6.out _ HK9.out) 2 _ rfl
              have d3 : w9.cell? ⟨bd, 3, none⟩ = some (.string t) := cell_at (FXd6.out _ HK9.out) 3 _ rfl
              have l0 : w9.cell? ⟨bl, 0, none⟩ = some (.int .i64 so) := cell_at (FXl6.out _ HK9.out) 0 _ rfl
              have l1 : w9.cell? ⟨bl, 1, none⟩ = some (.string fo) := cell_at (FXl6.out _ HK9.out) 1 _ rfl
              have l2 : w9.cell? ⟨bl, 2, none⟩ = some (.slice Al uo.length cl) := cell_at (FXl6.out _ HK9.out) 2 _ rfl
              have l3 : w9.cell? ⟨bl, 3, none⟩ = some (.string to_) := cell_at (FXl6.out _ HK9.out) 3 _ rfl
              have m0 : w9.cell? ⟨bm, 0, none⟩ = some (.int .i64 so) := cell_at (FXm6.out _ HK9.out) 0 _ rfl
              have m1 : w9.cell? ⟨bm, 1, none⟩ = some (.string fo) := cell_at (FXm6.out _ HK9.out) 1 _ rfl
              have m2 : w9.cell? ⟨bm, 2, none⟩ = some (.slice Am uo.length cm) := cell_at (FXm6.out _ HK9.out) 2 _ rfl
              have m3 : w9.cell? ⟨bm, 3, none⟩ = some (.string to_) := cell_at (FXm6.out _ HK9.out) 3 _ rfl
              clear d0 d1 d2 d3 l0 l1 l2 l3 m0 m1 m2 m3
              have hx := heap_alloc_new w9 (.cells #[.int .i64 st, .string f, .slice Ax us.length cx, .string t] 36)
              have hE := Below.alloc (Below.refl w9.heap.size w9) (Nat.le_refl _) (.cells #[.int .i64 st, .string f, .slice Ax us.length cx, .string t] 36)
              have hs : w9.heap.size < (w9.alloc (.cells #[.int .i64 st, .string f, .slice Ax us.length cx, .string t] 36)).heap.size := by simp
              go_upto_region 9 with fail
              generalize w9.alloc (.cells #[.int .i64 st, .string f, .slice Ax us.length cx, .string t] 36) = w10 at hx hE hs ⊢
              obtain ⟨bx, hbb⟩ : ∃ b, b = w9.heap.size := ⟨_, rfl⟩
              rw [← hbb] at hx hs ⊢
              have hltdx : bd < bx := by have := (Array.getElem?_eq_some_iff.1 (FXd6.out _ HK9.out)).1; omega
              have hltlx : bl < bx := by have := (Array.getElem?_eq_some_iff.1 (FXl6.out _ HK9.out)).1; omega
              have hltmx : bm < bx := by have := (Array.getElem?_eq_some_iff.1 (FXm6.out _ HK9.out)).1; omega
              have HK10 := Lib.hid (HK9.out.trans (hE.mono HK9.out.size))
              have FXx10 : Hid (∀ w', Below w10.heap.size w10 w' → w'.heap[bx]? = some (.cells #[.int .i64 st, .string f, .slice Ax us.length cx, .string t] 36 (0, 0))) := Lib.hid (fun w' hb => (hb.block _ hs).trans hx)
              have FAX10 : Hid (∀ w', Below w10.heap.size w10 w' → AtStrs w' w'.heap.size Ax us) := Lib.hid (fun w' hb => (((hatx.below hE).mono hE.size).below hb).mono hb.size)
              clear hx hE hs hbb
              have FU10 := Lib.hid (fun w' (hb : Below w10.heap.size w10 w') => FU6.out w' (HK10.out.trans (hb.mono HK10.out.size)))
              have FM10 := Lib.hid (fun w' (hb : Below w10.heap.size w10 w') => FM6.out w' (HK10.out.trans (hb.mono HK10.out.size)))
              have FB10 := Lib.hid (fun w' (hb : Below w10.heap.size w10 w') => FB6.out w' (HK10.out.trans (hb.mono HK10.out.size)))
              have FC10 := Lib.hid (fun w' (hb : Below w10.heap.size w10 w') => FC6.out w' (HK10.out.trans (hb.mono HK10.out.size)))
              have FG10 := Lib.hid (fun w' (hb : Below w10.heap.size w10 w') => FG6.out w' (HK10.out.trans (hb.mono HK10.out.size)))
              have FXd10 := Lib.hid (fun w' (hb : Below w10.heap.size w10 w') => FXd6.out w' (HK10.out.trans (hb.mono HK10.out.size)))
              have FXl10 := Lib.hid (fun w' (hb : Below w10.heap.size w10 w') => FXl6.out w' (HK10.out.trans (hb.mono HK10.out.size)))
              have FXm10 := Lib.hid (fun w' (hb : Below w10.heap.size w10 w') => FXm6.out w' (HK10.out.trans (hb.mono HK10.out.size)))
              have FAA10 := Lib.hid (fun w' (hb : Below w10.heap.size w10 w') => FAA6.out w' (HK10.out.trans (hb.mono HK10.out.size)))
              have FAL10 := Lib.hid (fun w' (hb : Below w10.heap.size w10 w') => FAL6.out w' (HK10.out.trans (hb.mono HK10.out.size)))
              have FAM10 := Lib.hid (fun w' (hb : Below w10.heap.size w10 w') => FAM6.out w' (HK10.out.trans (hb.mono HK10.out.size)))
              have HKb : Hid (Below w10.heap.size w10 w10) := Lib.hid (Below.refl _ _)
              clear HK10
              have HK10 := HKb
              clear HKb
              have d0 : w10.cell? ⟨bd, 0, none⟩ = some (.int .i64 st) := cell_at (FXd10.out _ HK10.out) 0 _ rfl
              have d1 : w10.cell? ⟨bd, 1, none⟩ = some (.string f) := cell_at (FXd10.out _ HK10.out) 1 _ rfl
              have d2 : w10.cell? ⟨bd, 2, none⟩ = some (.slice A us.length c) := cell_at (FXd10.out _ HK10.out) 2 _ rfl
              have d3 : w10.cell? ⟨bd, 3, none⟩ = some (.string t) := cell_at (FXd10.out _ HK10.out) 3 _ rfl
              have l0 : w10.cell? ⟨bl, 0, none⟩ = some (.int .i64 so) := cell_at (FXl10.out _ HK10.out) 0 _ rfl
              have l1 : w10.cell? ⟨bl, 1, none⟩ = some (.string fo) := cell_at (FXl10.out _ HK10.out) 1 _ rfl
              have l2 : w10.cell? ⟨bl, 2, none⟩ = some (.slice Al uo.length cl) := cell_at (FXl10.out _ HK10.out) 2 _ rfl
              have l3 : w10.cell? ⟨bl, 3, none⟩ = some (.string to_) := cell_at (FXl10.out _ HK10.out) 3 _ rfl
              have m0 : w10.cell? ⟨bm, 0, none⟩ = some (.int .i64 so) := cell_at (FXm10.out _ HK10.out) 0 _ rfl
              have m1 : w10.cell? ⟨bm, 1, none⟩ = some (.string fo) := cell_at (FXm10.out _ HK10.out) 1 _ rfl
              have m2 : w10.cell? ⟨bm, 2, none⟩ = some (.slice Am uo.length cm) := cell_at (FXm10.out _ HK10.out) 2 _ rfl
              have m3 : w10.cell? ⟨bm, 3, none⟩ = some (.string to_) := cell_at (FXm10.out _ HK10.out) 3 _ rfl
              have x0 : w10.cell? ⟨bx, 0, none⟩ = some (.int .i64 st) := cell_at (FXx10.out _ HK10.out) 0 _ rfl
              have x1 : w10.cell? ⟨bx, 1, none⟩ = some (.string f) := cell_at (FXx10.out _ HK10.out) 1 _ rfl
              have x2 : w10.cell? ⟨bx, 2, none⟩ = some (.slice Ax us.length cx) := cell_at (FXx10.out _ HK10.out) 2 _ rfl
              have x3 : w10.cell? ⟨bx, 3, none⟩ = some (.string t) := cell_at (FXx10.out _ HK10.out) 3 _ rfl
              clear hatx
              obtain ⟨u0, -, -⟩ := (FC10.out _ HK10.out)
              simp only [Nat.zero_mul, Nat.add_zero] at u0
              have HD10 : Hid (Below w10.heap.size w10 w10.drew) := Lib.hid (Sx.below_drew HK10.out)
              have HE10 : Hid (Below w10.heap.size w10 (w10.alloc (.cells #[.int .i64 0, .string ⟨#[]⟩, .slice none 0 0, .string ⟨#[]⟩] 36)).drew) := Lib.hid (Sx.below_drew (HK10.out.alloc HK10.out.size _))
              have HZ10 : Hid ((w10.alloc (.cells #[.int .i64 0, .string ⟨#[]⟩, .slice none 0 0, .string ⟨#[]⟩] 36)).drew.heap[w10.heap.size]? = some (.cells #[.int .i64 0, .string ⟨#[]⟩, .slice none 0 0, .string ⟨#[]⟩] 36)) := Lib.hid (heap_alloc_new w10 _)
              have HF10 : Hid (Below w10.heap.size w10 w10.drew ∧ Below w10.heap.size w10 (w10.alloc (.cells #[.int .i64 0, .string ⟨#[]⟩, .slice none 0 0, .string ⟨#[]⟩] 36)).drew) := Lib.hid ⟨Sx.below_drew (Below.refl _ _), Sx.below_drew ((Below.refl _ _).alloc (Nat.le_refl _) _)⟩
              have HUSZ := Lib.hid (FAA10.out _ HK10.out).2
              have HCL : Hid (∀ W, Below w10.heap.size w10 W → Calls Tryz.prog 27 #[.agg #[.int .i64 st, .string f, .slice A us.length c, .string t], .slice (some ⟨ug, uf, none⟩) vs.length cu, .string d, .string (ByteArray.mk #[82, 67, 80, 84, 32, 84, 79, 58, 60] ++ u.name ++ ByteArray.mk #[64, 122, 101, 100, 62])] W (Sm.OwnW st f us t 550 W)) := Lib.hid fun W hb => iLineW_any st f t A us c _ (FAA10.out _ hb) hcap hcm hfm htm (some ⟨ug, uf, none⟩) vs cu (FU10.out _ hb) hvl d (ByteArray.mk #[82, 67, 80, 84, 32, 84, 79, 58, 60] ++ u.name ++ ByteArray.mk #[64, 122, 101, 100, 62]) hdz hlY m (FM10.out _ hb) HRY.out
              have hbbd : bd < w10.heap.size := (Array.getElem?_eq_some_iff.1 (FXd10.out _ HK10.out)).1
              have hbbl : bl < w10.heap.size := (Array.getElem?_eq_some_iff.1 (FXl10.out _ HK10.out)).1
              have hbbm : bm < w10.heap.size := (Array.getElem?_eq_some_iff.1 (FXm10.out _ HK10.out)).1
              have hbbx : bx < w10.heap.size := (Array.getElem?_eq_some_iff.1 (FXx10.out _ HK10.out)).1
              have hbug : ug < w10.heap.size := FG10.out _ HK10.out
              have hj0 : ∀ W, (Op.stringOp .add (ByteArray.mk #[82, 67, 80, 84, 32, 84, 79, 58, 60]) u.name).run Tryz.prog W = .ok (.string ((ByteArray.mk #[82, 67, 80, 84, 32, 84, 79, 58, 60]) ++ u.name)) W := fun W => run_string_add_sum W _ _ (by (try simp only [ByteArray.size_append]); omega)
              have hj1 : ∀ W, (Op.stringOp .add (ByteArray.mk #[82, 67, 80, 84, 32, 84, 79, 58, 60] ++ u.name) (ByteArray.mk #[64, 122, 101, 100, 62])).run Tryz.prog W = .ok (.string ((ByteArray.mk #[82, 67, 80, 84, 32, 84, 79, 58, 60] ++ u.name) ++ (ByteArray.mk #[64, 122, 101, 100, 62]))) W := fun W => run_string_add_sum W _ _ (by (try simp only [ByteArray.size_append]); omega)
              go_cut [13, 14] (fun v1 v2 wx => ∃ (bq : Nat) (Aq : Option Addr) (cq : Nat), v1 = .pointer (some ⟨bq, 0, none⟩) ∧ v2 = .int .i64 550 ∧ Hid (wx.heap[bq]? = some (.cells #[.int .i64 st, .string f, .slice Aq us.length cq, .string t] 36 (0, 0))) ∧ Hid (AtStrs wx wx.heap.size Aq us) ∧ Hid (bq < wx.heap.size ∧ w10.heap.size ≤ bq) ∧ Hid (Below w10.heap.size w10 wx))
              case first =>
                go_region_law ((first
                  | (go_simp; go_at_call 27; refine Calls.mono (HCL.out _ HD10.out) ?_; rintro e wy ⟨Aq, cq, rfl, hoq, hkq, hjq, hbq⟩; have hbw : Hid (Below w10.heap.size w10 wy) := Lib.hid (HF10.out.1.trans (hbq.mono HF10.out.1.size)))
                  | (go_simp; go_at_call 27; refine Calls.mono (HCL.out _ HE10.out) ?_; rintro e wy ⟨Aq, cq, rfl, hoq, hkq, hjq, hbq⟩; have hbw : Hid (Below w10.heap.size w10 wy) := Lib.hid (HF10.out.2.trans (hbq.mono HF10.out.2.size)); have hlz : w10.heap.size < (w10.alloc (.cells #[.int .i64 0, .string ⟨#[]⟩, .slice none 0 0, .string ⟨#[]⟩] 36)).drew.heap.size := (Array.getElem?_eq_some_iff.1 HZ10.out).1; have HV1 := Lib.hid ((hbq.block w10.heap.size hlz).trans HZ10.out); have vz0 : wy.cell? ⟨w10.heap.size, 0, none⟩ = some (.int .i64 0) := cell_at HV1.out 0 _ rfl; have fz0 := free_at HV1.out 0; have vz1 : wy.cell? ⟨w10.heap.size, 1, none⟩ = some (.string ⟨#[]⟩) := cell_at HV1.out 1 _ rfl; have fz1 := free_at HV1.out 1; have vz2 : wy.cell? ⟨w10.heap.size, 2, none⟩ = some (.slice none 0 0) := cell_at HV1.out 2 _ rfl; have fz2 := free_at HV1.out 2; have vz3 : wy.cell? ⟨w10.heap.size, 3, none⟩ = some (.string ⟨#[]⟩) := cell_at HV1.out 3 _ rfl; have fz3 := free_at HV1.out 3)))
                all_goals
                  go_wp2_with fail
                  go_meet
                  first
                  | (have hh := HV1.out
                     refine ⟨_, Aq, cq, rfl, rfl, ?_, ?_, ?_, ?_⟩
                     · exact Lib.hid (Lw.box4 hh _ _ _ _)
                     · exact Lib.hid (Lw.strs_own (Lw.own4 hoq hlz _ _ _ _) rfl HUSZ.out)
                     · exact Lib.hid ⟨by simp; exact (Array.getElem?_eq_some_iff.1 hh).1, Nat.le_refl _⟩
                     · exact Lib.hid (set4 hbw.out (Nat.le_refl _) _ _ _ _))
                  | (have hea := Below.alloc (Below.refl wy.heap.size wy) (Nat.le_refl _) (.cells #[.int .i64 st, .string f, .slice Aq us.length cq, .string t] 36)
                     refine ⟨_, Aq, cq, rfl, rfl, ?_, ?_, ?_, ?_⟩
                     · exact Lib.hid (heap_alloc_new _ _)
                     · exact Lib.hid (((Lw.strs_own hoq rfl HUSZ.out).below hea).mono hea.size)
                     · exact Lib.hid ⟨by simp, hbw.out.size⟩
                     · exact Lib.hid (hbw.out.trans (hea.mono hbw.out.size)))
              clear d0 d1 d2 d3 l0 l1 l2 l3 m0 m1 m2 m3 x0 x1 x2 x3
              obtain ⟨byy, Ayy, cyy, rfl, rfl, HX, HAX, HLX, HBX⟩ := hcut
              obtain ⟨w11, hwm⟩ : ∃ wm, wm = wc := ⟨_, rfl⟩
              subst hwm
              have hltdyy : bd < byy := by have := (Array.getElem?_eq_some_iff.1 (FXd10.out _ HK10.out)).1; have := HLX.out.2; omega
              have hltlyy : bl < byy := by have := (Array.getElem?_eq_some_iff.1 (FXl10.out _ HK10.out)).1; have := HLX.out.2; omega
              have hltmyy : bm < byy := by have := (Array.getElem?_eq_some_iff.1 (FXm10.out _ HK10.out)).1; have := HLX.out.2; omega
              have hltxyy : bx < byy := by have := (Array.getElem?_eq_some_iff.1 (FXx10.out _ HK10.out)).1; have := HLX.out.2; omega
              have HK11 := Lib.hid (HK10.out.trans (HBX.out.mono HK10.out.size))
              have FXyy11 : Hid (∀ w', Below w11.heap.size w11 w' → w'.heap[byy]? = some (.cells #[.int .i64 st, .string f, .slice Ayy us.length cyy, .string t] 36 (0, 0))) := Lib.hid (fun w' hb => (hb.block _ HLX.out.1).trans HX.out)
              have FAYY11 : Hid (∀ w', Below w11.heap.size w11 w' → AtStrs w' w'.heap.size Ayy us) := Lib.hid (fun w' hb => (HAX.out.below hb).mono hb.size)
              have FU11 := Lib.hid (fun w' (hb : Below w11.heap.size w11 w') => FU10.out w' (HK11.out.trans (hb.mono HK11.out.size)))
              have FM11 := Lib.hid (fun w' (hb : Below w11.heap.size w11 w') => FM10.out w' (HK11.out.trans (hb.mono HK11.out.size)))
              have FB11 := Lib.hid (fun w' (hb : Below w11.heap.size w11 w') => FB10.out w' (HK11.out.trans (hb.mono HK11.out.size)))
              have FC11 := Lib.hid (fun w' (hb : Below w11.heap.size w11 w') => FC10.out w' (HK11.out.trans (hb.mono HK11.out.size)))
              have FG11 := Lib.hid (fun w' (hb : Below w11.heap.size w11 w') => FG10.out w' (HK11.out.trans (hb.mono HK11.out.size)))
              have FXd11 := Lib.hid (fun w' (hb : Below w11.heap.size w11 w') => FXd10.out w' (HK11.out.trans (hb.mono HK11.out.size)))
              have FXl11 := Lib.hid (fun w' (hb : Below w11.heap.size w11 w') => FXl10.out w' (HK11.out.trans (hb.mono HK11.out.size)))
              have FXm11 := Lib.hid (fun w' (hb : Below w11.heap.size w11 w') => FXm10.out w' (HK11.out.trans (hb.mono HK11.out.size)))
              have FXx11 := Lib.hid (fun w' (hb : Below w11.heap.size w11 w') => FXx10.out w' (HK11.out.trans (hb.mono HK11.out.size)))
              have FAA11 := Lib.hid (fun w' (hb : Below w11.heap.size w11 w') => FAA10.out w' (HK11.out.trans (hb.mono HK11.out.size)))
              have FAL11 := Lib.hid (fun w' (hb : Below w11.heap.size w11 w') => FAL10.out w' (HK11.out.trans (hb.mono HK11.out.size)))
              have FAM11 := Lib.hid (fun w' (hb : Below w11.heap.size w11 w') => FAM10.out w' (HK11.out.trans (hb.mono HK11.out.size)))
              have FAX11 := Lib.hid (fun w' (hb : Below w11.heap.size w11 w') => FAX10.out w' (HK11.out.trans (hb.mono HK11.out.size)))
              have HKb : Hid (Below w11.heap.size w11 w11) := Lib.hid (Below.refl _ _)
              clear HK11
              have HK11 := HKb
              clear HKb
              clear hbug hbbd hbbl hbbm hbbx
              clear HX HAX HLX HBX HCL HUSZ HD10 HE10 HZ10 HF10 hj0 hj1
              have d0 : w11.cell? ⟨bd, 0, none⟩ = some (.int .i64 st) := cell_at (FXd11.out _ HK11.out) 0 _ rfl
              have d1 : w11.cell? ⟨bd, 1, none⟩ = some (.string f) := cell_at (FXd11.out _ HK11.out) 1 _ rfl
              have d2 : w11.cell? ⟨bd, 2, none⟩ = some (.slice A us.length c) := cell_at (FXd11.out _ HK11.out) 2 _ rfl
              have d3 : w11.cell? ⟨bd, 3, none⟩ = some (.string t) := cell_at (FXd11.out _ HK11.out) 3 _ rfl
              have l0 : w11.cell? ⟨bl, 0, none⟩ = some (.int .i64 so) := cell_at (FXl11.out _ HK11.out) 0 _ rfl
              have l1 : w11.cell? ⟨bl, 1, none⟩ = some (.string fo) := cell_at (FXl11.out _ HK11.out) 1 _ rfl
              have l2 : w11.cell? ⟨bl, 2, none⟩ = some (.slice Al uo.length cl) := cell_at (FXl11.out _ HK11.out) 2 _ rfl
              have l3 : w11.cell? ⟨bl, 3, none⟩ = some (.string to_) := cell_at (FXl11.out _ HK11.out) 3 _ rfl
              have m0 : w11.cell? ⟨bm, 0, none⟩ = some (.int .i64 so) := cell_at (FXm11.out _ HK11.out) 0 _ rfl
              have m1 : w11.cell? ⟨bm, 1, none⟩ = some (.string fo) := cell_at (FXm11.out _ HK11.out) 1 _ rfl
              have m2 : w11.cell? ⟨bm, 2, none⟩ = some (.slice Am uo.length cm) := cell_at (FXm11.out _ HK11.out) 2 _ rfl
              have m3 : w11.cell? ⟨bm, 3, none⟩ = some (.string to_) := cell_at (FXm11.out _ HK11.out) 3 _ rfl
              have x0 : w11.cell? ⟨bx, 0, none⟩ = some (.int .i64 st) := cell_at (FXx11.out _ HK11.out) 0 _ rfl
              have x1 : w11.cell? ⟨bx, 1, none⟩ = some (.string f) := cell_at (FXx11.out _ HK11.out) 1 _ rfl
              have x2 : w11.cell? ⟨bx, 2, none⟩ = some (.slice Ax us.length cx) := cell_at (FXx11.out _ HK11.out) 2 _ rfl
              have x3 : w11.cell? ⟨bx, 3, none⟩ = some (.string t) := cell_at (FXx11.out _ HK11.out) 3 _ rfl
              have yy0 : w11.cell? ⟨byy, 0, none⟩ = some (.int .i64 st) := cell_at (FXyy11.out _ HK11.out) 0 _ rfl
              have yy1 : w11.cell? ⟨byy, 1, none⟩ = some (.string f) := cell_at (FXyy11.out _ HK11.out) 1 _ rfl
              have yy2 : w11.cell? ⟨byy, 2, none⟩ = some (.slice Ayy us.length cyy) := cell_at (FXyy11.out _ HK11.out) 2 _ rfl
              have yy3 : w11.cell? ⟨byy, 3, none⟩ = some (.string t) := cell_at (FXyy11.out _ HK11.out) 3 _ rfl
              clear u0
              go_wp2_with fail
              refine Calls.mono (iLine_any st f t A us c _ (FAA11.out _ HK11.out) hcap hcm hfm htm (some ⟨ug, uf, none⟩) vs cu (FU11.out _ HK11.out) hvl d (ByteArray.mk #[82, 67, 80, 84, 32, 84, 79, 58, 60, 62]) hdz (by decide) m (FM11.out _ HK11.out) HRC.out) ?_
              rintro e w12 ⟨Ae, ce, rfl, hate, hke, hje, hb⟩
              clear d0 d1 d2 d3 l0 l1 l2 l3 m0 m1 m2 m3 x0 x1 x2 x3 yy0 yy1 yy2 yy3
              have HK12 := Lib.hid (HK11.out.trans (hb.mono HK11.out.size))
              clear hb
              have d0 : w12.cell? ⟨bd, 0, none⟩ = some (.int .i64 st) := cell_at (FXd11.out _ HK12.out) 0 _ rfl
              have d1 : w12.cell? ⟨bd, 1, none⟩ = some (.string f) := cell_at (FXd11.out _ HK12.out) 1 _ rfl
              have d2 : w12.cell? ⟨bd, 2, none⟩ = some (.slice A us.length c) := cell_at (FXd11.out _ HK12.out) 2 _ rfl
              have d3 : w12.cell? ⟨bd, 3, none⟩ = some (.string t) := cell_at (FXd11.out _ HK12.out) 3 _ rfl
              have l0 : w12.cell? ⟨bl, 0, none⟩ = some (.int .i64 so) := cell_at (FXl11.out _ HK12.out) 0 _ rfl
              have l1 : w12.cell? ⟨bl, 1, none⟩ = some (.string fo) := cell_at (FXl11.out _ HK12.out) 1 _ rfl
              have l2 : w12.cell? ⟨bl, 2, none⟩ = some (.slice Al uo.length cl) := cell_at (FXl11.out _ HK12.out) 2 _ rfl
              have l3 : w12.cell? ⟨bl, 3, none⟩ = some (.string to_) := cell_at (FXl11.out _ HK12.out) 3 _ rfl
              have m0 : w12.cell? ⟨bm, 0, none⟩ = some (.int .i64 so) := cell_at (FXm11.out _ HK12.out) 0 _ rfl
              have m1 : w12.cell? ⟨bm, 1, none⟩ = some (.string fo) := cell_at (FXm11.out _ HK12.out) 1 _ rfl
              have m2 : w12.cell? ⟨bm, 2, none⟩ = some (.slice Am uo.length cm) := cell_at (FXm11.out _ HK12.out) 2 _ rfl
              have m3 : w12.cell? ⟨bm, 3, none⟩ = some (.string to_) := cell_at (FXm11.out _ HK12.out) 3 _ rfl
              have x0 : w12.cell? ⟨bx, 0, none⟩ = some (.int .i64 st) := cell_at (FXx11.out _ HK12.out) 0 _ rfl
              have x1 : w12.cell? ⟨bx, 1, none⟩ = some (.string f) := cell_at (FXx11.out _ HK12.out) 1 _ rfl
              have x2 : w12.cell? ⟨bx, 2, none⟩ = some (.slice Ax us.length cx) := cell_at (FXx11.out _ HK12.out) 2 _ rfl
              have x3 : w12.cell? ⟨bx, 3, none⟩ = some (.string t) := cell_at (FXx11.out _ HK12.out) 3 _ rfl
              have yy0 : w12.cell? ⟨byy, 0, none⟩ = some (.int .i64 st) := cell_at (FXyy11.out _ HK12.out) 0 _ rfl
              have yy1 : w12.cell? ⟨byy, 1, none⟩ = some (.string f) := cell_at (FXyy11.out _ HK12.out) 1 _ rfl
              have yy2 : w12.cell? ⟨byy, 2, none⟩ = some (.slice Ayy us.length cyy) := cell_at (FXyy11.out _ HK12.out) 2 _ rfl
              have yy3 : w12.cell? ⟨byy, 3, none⟩ = some (.string t) := cell_at (FXyy11.out _ HK12.out) 3 _ rfl
              clear d0 d1 d2 d3 l0 l1 l2 l3 m0 m1 m2 m3 x0 x1 x2 x3 yy0 yy1 yy2 yy3
              have hx := heap_alloc_new w12 (.cells #[.int .i64 st, .string f, .slice Ae us.length ce, .string t] 36)
              have hE := Below.alloc (Below.refl w12.heap.size w12) (Nat.le_refl _) (.cells #[.int .i64 st, .string f, .slice Ae us.length ce, .string t] 36)
              have hs : w12.heap.size < (w12.alloc (.cells #[.int .i64 st, .string f, .slice Ae us.length ce, .string t] 36)).heap.size := by simp
              go_upto_region 11 with fail
              generalize w12.alloc (.cells #[.int .i64 st, .string f, .slice Ae us.length ce, .string t] 36) = w13 at hx hE hs ⊢
              obtain ⟨be, hbb⟩ : ∃ b, b = w12.heap.size := ⟨_, rfl⟩
              rw [← hbb] at hx hs ⊢
              have hltde : bd < be := by have := (Array.getElem?_eq_some_iff.1 (FXd11.out _ HK12.out)).1; omega
              have hltle : bl < be := by have := (Array.getElem?_eq_some_iff.1 (FXl11.out _ HK12.out)).1; omega
              have hltme : bm < be := by have := (Array.getElem?_eq_some_iff.1 (FXm11.out _ HK12.out)).1; omega
              have hltxe : bx < be := by have := (Array.getElem?_eq_some_iff.1 (FXx11.out _ HK12.out)).1; omega
              have hltyye : byy < be := by have := (Array.getElem?_eq_some_iff.1 (FXyy11.out _ HK12.out)).1; omega
              have HK13 := Lib.hid (HK12.out.trans (hE.mono HK12.out.size))
              have FXe13 : Hid (∀ w', Below w13.heap.size w13 w' → w'.heap[be]? = some (.cells #[.int .i64 st, .string f, .slice Ae us.length ce, .string t] 36 (0, 0))) := Lib.hid (fun w' hb => (hb.block _ hs).trans hx)
              have FAE13 : Hid (∀ w', Below w13.heap.size w13 w' → AtStrs w' w'.heap.size Ae us) := Lib.hid (fun w' hb => (((hate.below hE).mono hE.size).below hb).mono hb.size)
              clear hx hE hs hbb
              have FU13 := Lib.hid (fun w' (hb : Below w13.heap.size w13 w') => FU11.out w' (HK13.out.trans (hb.mono HK13.out.size)))
              have FM13 := Lib.hid (fun w' (hb : Below w13.heap.size w13 w') => FM11.out w' (HK13.out.trans (hb.mono HK13.out.size)))
              have FB13 := Lib.hid (fun w' (hb : Below w13.heap.size w13 w') => FB11.out w' (HK13.out.trans (hb.mono HK13.out.size)))
              have FC13 := Lib.hid (fun w' (hb : Below w13.heap.size w13 w') => FC11.out w' (HK13.out.trans (hb.mono HK13.out.size)))
              have FG13 := Lib.hid (fun w' (hb : Below w13.heap.size w13 w') => FG11.out w' (HK13.out.trans (hb.mono HK13.out.size)))
              have FXd13 := Lib.hid (fun w' (hb : Below w13.heap.size w13 w') => FXd11.out w' (HK13.out.trans (hb.mono HK13.out.size)))
              have FXl13 := Lib.hid (fun w' (hb : Below w13.heap.size w13 w') => FXl11.out w' (HK13.out.trans (hb.mono HK13.out.size)))
              have FXm13 := Lib.hid (fun w' (hb : Below w13.heap.size w13 w') => FXm11.out w' (HK13.out.trans (hb.mono HK13.out.size)))
              have FXx13 := Lib.hid (fun w' (hb : Below w13.heap.size w13 w') => FXx11.out w' (HK13.out.trans (hb.mono HK13.out.size)))
              have FXyy13 := Lib.hid (fun w' (hb : Below w13.heap.size w13 w') => FXyy11.out w' (HK13.out.trans (hb.mono HK13.out.size)))
              have FAA13 := Lib.hid (fun w' (hb : Below w13.heap.size w13 w') => FAA11.out w' (HK13.out.trans (hb.mono HK13.out.size)))
              have FAL13 := Lib.hid (fun w' (hb : Below w13.heap.size w13 w') => FAL11.out w' (HK13.out.trans (hb.mono HK13.out.size)))
              have FAM13 := Lib.hid (fun w' (hb : Below w13.heap.size w13 w') => FAM11.out w' (HK13.out.trans (hb.mono HK13.out.size)))
              have FAX13 := Lib.hid (fun w' (hb : Below w13.heap.size w13 w') => FAX11.out w' (HK13.out.trans (hb.mono HK13.out.size)))
              have FAYY13 := Lib.hid (fun w' (hb : Below w13.heap.size w13 w') => FAYY11.out w' (HK13.out.trans (hb.mono HK13.out.size)))
              have HKb : Hid (Below w13.heap.size w13 w13) := Lib.hid (Below.refl _ _)
              clear HK13
              have HK13 := HKb
              clear HKb
              have d0 : w13.cell? ⟨bd, 0, none⟩ = some (.int .i64 st) := cell_at (FXd13.out _ HK13.out) 0 _ rfl
              have d1 : w13.cell? ⟨bd, 1, none⟩ = some (.string f) := cell_at (FXd13.out _ HK13.out) 1 _ rfl
              have d2 : w13.cell? ⟨bd, 2, none⟩ = some (.slice A us.length c) := cell_at (FXd13.out _ HK13.out) 2 _ rfl
              have d3 : w13.cell? ⟨bd, 3, none⟩ = some (.string t) := cell_at (FXd13.out _ HK13.out) 3 _ rfl
              have l0 : w13.cell? ⟨bl, 0, none⟩ = some (.int .i64 so) := cell_at (FXl13.out _ HK13.out) 0 _ rfl
              have l1 : w13.cell? ⟨bl, 1, none⟩ = some (.string fo) := cell_at (FXl13.out _ HK13.out) 1 _ rfl
              have l2 : w13.cell? ⟨bl, 2, none⟩ = some (.slice Al uo.length cl) := cell_at (FXl13.out _ HK13.out) 2 _ rfl
              have l3 : w13.cell? ⟨bl, 3, none⟩ = some (.string to_) := cell_at (FXl13.out _ HK13.out) 3 _ rfl
              have m0 : w13.cell? ⟨bm, 0, none⟩ = some (.int .i64 so) := cell_at (FXm13.out _ HK13.out) 0 _ rfl
              have m1 : w13.cell? ⟨bm, 1, none⟩ = some (.string fo) := cell_at (FXm13.out _ HK13.out) 1 _ rfl
              have m2 : w13.cell? ⟨bm, 2, none⟩ = some (.slice Am uo.length cm) := cell_at (FXm13.out _ HK13.out) 2 _ rfl
              have m3 : w13.cell? ⟨bm, 3, none⟩ = some (.string to_) := cell_at (FXm13.out _ HK13.out) 3 _ rfl
              have x0 : w13.cell? ⟨bx, 0, none⟩ = some (.int .i64 st) := cell_at (FXx13.out _ HK13.out) 0 _ rfl
              have x1 : w13.cell? ⟨bx, 1, none⟩ = some (.string f) := cell_at (FXx13.out _ HK13.out) 1 _ rfl
              have x2 : w13.cell? ⟨bx, 2, none⟩ = some (.slice Ax us.length cx) := cell_at (FXx13.out _ HK13.out) 2 _ rfl
              have x3 : w13.cell? ⟨bx, 3, none⟩ = some (.string t) := cell_at (FXx13.out _ HK13.out) 3 _ rfl
              have yy0 : w13.cell? ⟨byy, 0, none⟩ = some (.int .i64 st) := cell_at (FXyy13.out _ HK13.out) 0 _ rfl
              have yy1 : w13.cell? ⟨byy, 1, none⟩ = some (.string f) := cell_at (FXyy13.out _ HK13.out) 1 _ rfl
              have yy2 : w13.cell? ⟨byy, 2, none⟩ = some (.slice Ayy us.length cyy) := cell_at (FXyy13.out _ HK13.out) 2 _ rfl
              have yy3 : w13.cell? ⟨byy, 3, none⟩ = some (.string t) := cell_at (FXyy13.out _ HK13.out) 3 _ rfl
              have e0 : w13.cell? ⟨be, 0, none⟩ = some (.int .i64 st) := cell_at (FXe13.out _ HK13.out) 0 _ rfl
              have e1 : w13.cell? ⟨be, 1, none⟩ = some (.string f) := cell_at (FXe13.out _ HK13.out) 1 _ rfl
              have e2 : w13.cell? ⟨be, 2, none⟩ = some (.slice Ae us.length ce) := cell_at (FXe13.out _ HK13.out) 2 _ rfl
              have e3 : w13.cell? ⟨be, 3, none⟩ = some (.string t) := cell_at (FXe13.out _ HK13.out) 3 _ rfl
              clear hate
              obtain ⟨u0, -, -⟩ := (FC13.out _ HK13.out)
              simp only [Nat.zero_mul, Nat.add_zero] at u0
              have HD13 : Hid (Below w13.heap.size w13 w13.drew) := Lib.hid (Sx.below_drew HK13.out)
              have HE13 : Hid (Below w13.heap.size w13 (w13.alloc (.cells #[.int .i64 0, .string ⟨#[]⟩, .slice none 0 0, .string ⟨#[]⟩] 36)).drew) := Lib.hid (Sx.below_drew (HK13.out.alloc HK13.out.size _))
              have HZ13 : Hid ((w13.alloc (.cells #[.int .i64 0, .string ⟨#[]⟩, .slice none 0 0, .string ⟨#[]⟩] 36)).drew.heap[w13.heap.size]? = some (.cells #[.int .i64 0, .string ⟨#[]⟩, .slice none 0 0, .string ⟨#[]⟩] 36)) := Lib.hid (heap_alloc_new w13 _)
              have HF13 : Hid (Below w13.heap.size w13 w13.drew ∧ Below w13.heap.size w13 (w13.alloc (.cells #[.int .i64 0, .string ⟨#[]⟩, .slice none 0 0, .string ⟨#[]⟩] 36)).drew) := Lib.hid ⟨Sx.below_drew (Below.refl _ _), Sx.below_drew ((Below.refl _ _).alloc (Nat.le_refl _) _)⟩
              have HUSZ := Lib.hid (FAA13.out _ HK13.out).2
              have HCL : Hid (∀ W, Below w13.heap.size w13 W → Calls Tryz.prog 27 #[.agg #[.int .i64 st, .string f, .slice A us.length c, .string t], .slice (some ⟨ug, uf, none⟩) vs.length cu, .string d, .string (ByteArray.mk #[82, 67, 80, 84, 32, 84, 79, 58] ++ u.name ++ ByteArray.mk #[64] ++ d)] W (Sm.OwnW st f us t 501 W)) := Lib.hid fun W hb => iLineW_any st f t A us c _ (FAA13.out _ hb) hcap hcm hfm htm (some ⟨ug, uf, none⟩) vs cu (FU13.out _ hb) hvl d (ByteArray.mk #[82, 67, 80, 84, 32, 84, 79, 58] ++ u.name ++ ByteArray.mk #[64] ++ d) hdz hlD m (FM13.out _ hb) HRD.out
              have hbbd : bd < w13.heap.size := (Array.getElem?_eq_some_iff.1 (FXd13.out _ HK13.out)).1
              have hbbl : bl < w13.heap.size := (Array.getElem?_eq_some_iff.1 (FXl13.out _ HK13.out)).1
              have hbbm : bm < w13.heap.size := (Array.getElem?_eq_some_iff.1 (FXm13.out _ HK13.out)).1
              have hbbx : bx < w13.heap.size := (Array.getElem?_eq_some_iff.1 (FXx13.out _ HK13.out)).1
              have hbbyy : byy < w13.heap.size := (Array.getElem?_eq_some_iff.1 (FXyy13.out _ HK13.out)).1
              have hbbe : be < w13.heap.size := (Array.getElem?_eq_some_iff.1 (FXe13.out _ HK13.out)).1
              have hbug : ug < w13.heap.size := FG13.out _ HK13.out
              have hj0 : ∀ W, (Op.stringOp .add (ByteArray.mk #[82, 67, 80, 84, 32, 84, 79, 58]) u.name).run Tryz.prog W = .ok (.string ((ByteArray.mk #[82, 67, 80, 84, 32, 84, 79, 58]) ++ u.name)) W := fun W => run_string_add_sum W _ _ (by (try simp only [ByteArray.size_append]); omega)
              have hj1 : ∀ W, (Op.stringOp .add (ByteArray.mk #[82, 67, 80, 84, 32, 84, 79, 58] ++ u.name) (ByteArray.mk #[64])).run Tryz.prog W = .ok (.string ((ByteArray.mk #[82, 67, 80, 84, 32, 84, 79, 58] ++ u.name) ++ (ByteArray.mk #[64]))) W := fun W => run_string_add_sum W _ _ (by (try simp only [ByteArray.size_append]); omega)
              have hj2 : ∀ W, (Op.stringOp .add (ByteArray.mk #[82, 67, 80, 84, 32, 84, 79, 58] ++ u.name ++ ByteArray.mk #[64]) d).run Tryz.prog W = .ok (.string ((ByteArray.mk #[82, 67, 80, 84, 32, 84, 79, 58] ++ u.name ++ ByteArray.mk #[64]) ++ d)) W := fun W => run_string_add_sum W _ _ (by (try simp only [ByteArray.size_append]); omega)
              go_cut [17, 18] (fun v1 v2 wx => ∃ (bq : Nat) (Aq : Option Addr) (cq : Nat), v1 = .pointer (some ⟨bq, 0, none⟩) ∧ v2 = .int .i64 501 ∧ Hid (wx.heap[bq]? = some (.cells #[.int .i64 st, .string f, .slice Aq us.length cq, .string t] 36 (0, 0))) ∧ Hid (AtStrs wx wx.heap.size Aq us) ∧ Hid (bq < wx.heap.size ∧ w13.heap.size ≤ bq) ∧ Hid (Below w13.heap.size w13 wx))
              case first =>
                go_region_law ((first
                  | (go_simp; go_at_call 27; refine Calls.mono (HCL.out _ HD13.out) ?_; rintro e wy ⟨Aq, cq, rfl, hoq, hkq, hjq, hbq⟩; have hbw : Hid (Below w13.heap.size w13 wy) := Lib.hid (HF13.out.1.trans (hbq.mono HF13.out.1.size)))
                  | (go_simp; go_at_call 27; refine Calls.mono (HCL.out _ HE13.out) ?_; rintro e wy ⟨Aq, cq, rfl, hoq, hkq, hjq, hbq⟩; have hbw : Hid (Below w13.heap.size w13 wy) := Lib.hid (HF13.out.2.trans (hbq.mono HF13.out.2.size)); have hlz : w13.heap.size < (w13.alloc (.cells #[.int .i64 0, .string ⟨#[]⟩, .slice none 0 0, .string ⟨#[]⟩] 36)).drew.heap.size := (Array.getElem?_eq_some_iff.1 HZ13.out).1; have HV1 := Lib.hid ((hbq.block w13.heap.size hlz).trans HZ13.out); have vz0 : wy.cell? ⟨w13.heap.size, 0, none⟩ = some (.int .i64 0) := cell_at HV1.out 0 _ rfl; have fz0 := free_at HV1.out 0; have vz1 : wy.cell? ⟨w13.heap.size, 1, none⟩ = some (.string ⟨#[]⟩) := cell_at HV1.out 1 _ rfl; have fz1 := free_at HV1.out 1; have vz2 : wy.cell? ⟨w13.heap.size, 2, none⟩ = some (.slice none 0 0) := cell_at HV1.out 2 _ rfl; have fz2 := free_at HV1.out 2; have vz3 : wy.cell? ⟨w13.heap.size, 3, none⟩ = some (.string ⟨#[]⟩) := cell_at HV1.out 3 _ rfl; have fz3 := free_at HV1.out 3)))
                all_goals
                  go_wp2_with fail
                  go_meet
                  first
                  | (have hh := HV1.out
                     refine ⟨_, Aq, cq, rfl, rfl, ?_, ?_, ?_, ?_⟩
                     · exact Lib.hid (Lw.box4 hh _ _ _ _)
                     · exact Lib.hid (Lw.strs_own (Lw.own4 hoq hlz _ _ _ _) rfl HUSZ.out)
                     · exact Lib.hid ⟨by simp; exact (Array.getElem?_eq_some_iff.1 hh).1, Nat.le_refl _⟩
                     · exact Lib.hid (set4 hbw.out (Nat.le_refl _) _ _ _ _))
                  | (have hea := Below.alloc (Below.refl wy.heap.size wy) (Nat.le_refl _) (.cells #[.int .i64 st, .string f, .slice Aq us.length cq, .string t] 36)
                     refine ⟨_, Aq, cq, rfl, rfl, ?_, ?_, ?_, ?_⟩
                     · exact Lib.hid (heap_alloc_new _ _)
                     · exact Lib.hid (((Lw.strs_own hoq rfl HUSZ.out).below hea).mono hea.size)
                     · exact Lib.hid ⟨by simp, hbw.out.size⟩
                     · exact Lib.hid (hbw.out.trans (hea.mono hbw.out.size)))
              clear d0 d1 d2 d3 l0 l1 l2 l3 m0 m1 m2 m3 x0 x1 x2 x3 yy0 yy1 yy2 yy3 e0 e1 e2 e3
              obtain ⟨bz, Az, cz, rfl, rfl, HX, HAX, HLX, HBX⟩ := hcut
              obtain ⟨w14, hwm⟩ : ∃ wm, wm = wc := ⟨_, rfl⟩
              subst hwm
              have hltdz : bd < bz := by have := (Array.getElem?_eq_some_iff.1 (FXd13.out _ HK13.out)).1; have := HLX.out.2; omega
              have hltlz : bl < bz := by have := (Array.getElem?_eq_some_iff.1 (FXl13.out _ HK13.out)).1; have := HLX.out.2; omega
              have hltmz : bm < bz := by have := (Array.getElem?_eq_some_iff.1 (FXm13.out _ HK13.out)).1; have := HLX.out.2; omega
              have hltxz : bx < bz := by have := (Array.getElem?_eq_some_iff.1 (FXx13.out _ HK13.out)).1; have := HLX.out.2; omega
              have hltyyz : byy < bz := by have := (Array.getElem?_eq_some_iff.1 (FXyy13.out _ HK13.out)).1; have := HLX.out.2; omega
              have hltez : be < bz := by have := (Array.getElem?_eq_some_iff.1 (FXe13.out _ HK13.out)).1; have := HLX.out.2; omega
              have HK14 := Lib.hid (HK13.out.trans (HBX.out.mono HK13.out.size))
              have FXz14 : Hid (∀ w', Below w14.heap.size w14 w' → w'.heap[bz]? = some (.cells #[.int .i64 st, .string f, .slice Az us.length cz, .string t] 36 (0, 0))) := Lib.hid (fun w' hb => (hb.block _ HLX.out.1).trans HX.out)
              have FAZ14 : Hid (∀ w', Below w14.heap.size w14 w' → AtStrs w' w'.heap.size Az us) := Lib.hid (fun w' hb => (HAX.out.below hb).mono hb.size)
              have FU14 := Lib.hid (fun w' (hb : Below w14.heap.size w14 w') => FU13.out w' (HK14.out.trans (hb.mono HK14.out.size)))
              have FM14 := Lib.hid (fun w' (hb : Below w14.heap.size w14 w') => FM13.out w' (HK14.out.trans (hb.mono HK14.out.size)))
              have FB14 := Lib.hid (fun w' (hb : Below w14.heap.size w14 w') => FB13.out w' (HK14.out.trans (hb.mono HK14.out.size)))
              have FC14 := Lib.hid (fun w' (hb : Below w14.heap.size w14 w') => FC13.out w' (HK14.out.trans (hb.mono HK14.out.size)))
              have FG14 := Lib.hid (fun w' (hb : Below w14.heap.size w14 w') => FG13.out w' (HK14.out.trans (hb.mono HK14.out.size)))
              have FXd14 := Lib.hid (fun w' (hb : Below w14.heap.size w14 w') => FXd13.out w' (HK14.out.trans (hb.mono HK14.out.size)))
              have FXl14 := Lib.hid (fun w' (hb : Below w14.heap.size w14 w') => FXl13.out w' (HK14.out.trans (hb.mono HK14.out.size)))
              have FXm14 := Lib.hid (fun w' (hb : Below w14.heap.size w14 w') => FXm13.out w' (HK14.out.trans (hb.mono HK14.out.size)))
              have FXx14 := Lib.hid (fun w' (hb : Below w14.heap.size w14 w') => FXx13.out w' (HK14.out.trans (hb.mono HK14.out.size)))
              have FXyy14 := Lib.hid (fun w' (hb : Below w14.heap.size w14 w') => FXyy13.out w' (HK14.out.trans (hb.mono HK14.out.size)))
              have FXe14 := Lib.hid (fun w' (hb : Below w14.heap.size w14 w') => FXe13.out w' (HK14.out.trans (hb.mono HK14.out.size)))
              have FAA14 := Lib.hid (fun w' (hb : Below w14.heap.size w14 w') => FAA13.out w' (HK14.out.trans (hb.mono HK14.out.size)))
              have FAL14 := Lib.hid (fun w' (hb : Below w14.heap.size w14 w') => FAL13.out w' (HK14.out.trans (hb.mono HK14.out.size)))
              have FAM14 := Lib.hid (fun w' (hb : Below w14.heap.size w14 w') => FAM13.out w' (HK14.out.trans (hb.mono HK14.out.size)))
              have FAX14 := Lib.hid (fun w' (hb : Below w14.heap.size w14 w') => FAX13.out w' (HK14.out.trans (hb.mono HK14.out.size)))
              have FAYY14 := Lib.hid (fun w' (hb : Below w14.heap.size w14 w') => FAYY13.out w' (HK14.out.trans (hb.mono HK14.out.size)))
              have FAE14 := Lib.hid (fun w' (hb : Below w14.heap.size w14 w') => FAE13.out w' (HK14.out.trans (hb.mono HK14.out.size)))
              have HKb : Hid (Below w14.heap.size w14 w14) := Lib.hid (Below.refl _ _)
              clear HK14
              have HK14 := HKb
              clear HKb
              clear hbug hbbd hbbl hbbm hbbx hbbyy hbbe
              clear HX HAX HLX HBX HCL HUSZ HD13 HE13 HZ13 HF13 hj0 hj1 hj2
              have d0 : w14.cell? ⟨bd, 0, none⟩ = some (.int .i64 st) := cell_at (FXd14.out _ HK14.out) 0 _ rfl
              have d1 : w14.cell? ⟨bd, 1, none⟩ = some (.string f) := cell_at (FXd14.out _ HK14.out) 1 _ rfl
              have d2 : w14.cell? ⟨bd, 2, none⟩ = some (.slice A us.length c) := cell_at (FXd14.out _ HK14.out) 2 _ rfl
              have d3 : w14.cell? ⟨bd, 3, none⟩ = some (.string t) := cell_at (FXd14.out _ HK14.out) 3 _ rfl
              have l0 : w14.cell? ⟨bl, 0, none⟩ = some (.int .i64 so) := cell_at (FXl14.out _ HK14.out) 0 _ rfl
              have l1 : w14.cell? ⟨bl, 1, none⟩ = some (.string fo) := cell_at (FXl14.out _ HK14.out) 1 _ rfl
              have l2 : w14.cell? ⟨bl, 2, none⟩ = some (.slice Al uo.length cl) := cell_at (FXl14.out _ HK14.out) 2 _ rfl
              have l3 : w14.cell? ⟨bl, 3, none⟩ = some (.string to_) := cell_at (FXl14.out _ HK14.out) 3 _ rfl
              have m0 : w14.cell? ⟨bm, 0, none⟩ = some (.int .i64 so) := cell_at (FXm14.out _ HK14.out) 0 _ rfl
              have m1 : w14.cell? ⟨bm, 1, none⟩ = some (.string fo) := cell_at (FXm14.out _ HK14.out) 1 _ rfl
              have m2 : w14.cell? ⟨bm, 2, none⟩ = some (.slice Am uo.length cm) := cell_at (FXm14.out _ HK14.out) 2 _ rfl
              have m3 : w14.cell? ⟨bm, 3, none⟩ = some (.string to_) := cell_at (FXm14.out _ HK14.out) 3 _ rfl
              have x0 : w14.cell? ⟨bx, 0, none⟩ = some (.int .i64 st) := cell_at (FXx14.out _ HK14.out) 0 _ rfl
              have x1 : w14.cell? ⟨bx, 1, none⟩ = some (.string f) := cell_at (FXx14.out _ HK14.out) 1 _ rfl
              have x2 : w14.cell? ⟨bx, 2, none⟩ = some (.slice Ax us.length cx) := cell_at (FXx14.out _ HK14.out) 2 _ rfl
              have x3 : w14.cell? ⟨bx, 3, none⟩ = some (.string t) := cell_at (FXx14.out _ HK14.out) 3 _ rfl
              have yy0 : w14.cell? ⟨byy, 0, none⟩ = some (.int .i64 st) := cell_at (FXyy14.out _ HK14.out) 0 _ rfl
              have yy1 : w14.cell? ⟨byy, 1, none⟩ = some (.string f) := cell_at (FXyy14.out _ HK14.out) 1 _ rfl
              have yy2 : w14.cell? ⟨byy, 2, none⟩ = some (.slice Ayy us.length cyy) := cell_at (FXyy14.out _ HK14.out) 2 _ rfl
              have yy3 : w14.cell? ⟨byy, 3, none⟩ = some (.string t) := cell_at (FXyy14.out _ HK14.out) 3 _ rfl
              have e0 : w14.cell? ⟨be, 0, none⟩ = some (.int .i64 st) := cell_at (FXe14.out _ HK14.out) 0 _ rfl
              have e1 : w14.cell? ⟨be, 1, none⟩ = some (.string f) := cell_at (FXe14.out _ HK14.out) 1 _ rfl
              have e2 : w14.cell? ⟨be, 2, none⟩ = some (.slice Ae us.length ce) := cell_at (FXe14.out _ HK14.out) 2 _ rfl
              have e3 : w14.cell? ⟨be, 3, none⟩ = some (.string t) := cell_at (FXe14.out _ HK14.out) 3 _ rfl
              have z0 : w14.cell? ⟨bz, 0, none⟩ = some (.int .i64 st) := cell_at (FXz14.out _ HK14.out) 0 _ rfl
              have z1 : w14.cell? ⟨bz, 1, none⟩ = some (.string f) := cell_at (FXz14.out _ HK14.out) 1 _ rfl
              have z2 : w14.cell? ⟨bz, 2, none⟩ = some (.slice Az us.length cz) := cell_at (FXz14.out _ HK14.out) 2 _ rfl
              have z3 : w14.cell? ⟨bz, 3, none⟩ = some (.string t) := cell_at (FXz14.out _ HK14.out) 3 _ rfl
              clear u0
              go_wp2_with fail
              refine Calls.mono (sameSub_any st f t Ax A us cx c _ (FAX14.out _ HK14.out) (FAA14.out _ HK14.out) hul) ?_
              rintro e w15 ⟨rfl, hb⟩
              clear d0 d1 d2 d3 l0 l1 l2 l3 m0 m1 m2 m3 x0 x1 x2 x3 yy0 yy1 yy2 yy3 e0 e1 e2 e3 z0 z1 z2 z3
              have HK15 := Lib.hid (HK14.out.trans (hb.mono HK14.out.size))
              clear hb
              have d0 : w15.cell? ⟨bd, 0, none⟩ = some (.int .i64 st) := cell_at (FXd14.out _ HK15.out) 0 _ rfl
              have d1 : w15.cell? ⟨bd, 1, none⟩ = some (.string f) := cell_at (FXd14.out _ HK15.out) 1 _ rfl
              have d2 : w15.cell? ⟨bd, 2, none⟩ = some (.slice A us.length c) := cell_at (FXd14.out _ HK15.out) 2 _ rfl
              have d3 : w15.cell? ⟨bd, 3, none⟩ = some (.string t) := cell_at (FXd14.out _ HK15.out) 3 _ rfl
              have l0 : w15.cell? ⟨bl, 0, none⟩ = some (.int .i64 so) := cell_at (FXl14.out _ HK15.out) 0 _ rfl
              have l1 : w15.cell? ⟨bl, 1, none⟩ = some (.string fo) := cell_at (FXl14.out _ HK15.out) 1 _ rfl
              have l2 : w15.cell? ⟨bl, 2, none⟩ = some (.slice Al uo.length cl) := cell_at (FXl14.out _ HK15.out) 2 _ rfl
              have l3 : w15.cell? ⟨bl, 3, none⟩ = some (.string to_) := cell_at (FXl14.out _ HK15.out) 3 _ rfl
              have m0 : w15.cell? ⟨bm, 0, none⟩ = some (.int .i64 so) := cell_at (FXm14.out _ HK15.out) 0 _ rfl
              have m1 : w15.cell? ⟨bm, 1, none⟩ = some (.string fo) := cell_at (FXm14.out _ HK15.out) 1 _ rfl
              have m2 : w15.cell? ⟨bm, 2, none⟩ = some (.slice Am uo.length cm) := cell_at (FXm14.out _ HK15.out) 2 _ rfl
              have m3 : w15.cell? ⟨bm, 3, none⟩ = some (.string to_) := cell_at (FXm14.out _ HK15.out) 3 _ rfl
              have x0 : w15.cell? ⟨bx, 0, none⟩ = some (.int .i64 st) := cell_at (FXx14.out _ HK15.out) 0 _ rfl
              have x1 : w15.cell? ⟨bx, 1, none⟩ = some (.string f) := cell_at (FXx14.out _ HK15.out) 1 _ rfl
              have x2 : w15.cell? ⟨bx, 2, none⟩ = some (.slice Ax us.length cx) := cell_at (FXx14.out _ HK15.out) 2 _ rfl
              have x3 : w15.cell? ⟨bx, 3, none⟩ = some (.string t) := cell_at (FXx14.out _ HK15.out) 3 _ rfl
              have yy0 : w15.cell? ⟨byy, 0, none⟩ = some (.int .i64 st) := cell_at (FXyy14.out _ HK15.out) 0 _ rfl
              have yy1 : w15.cell? ⟨byy, 1, none⟩ = some (.string f) := cell_at (FXyy14.out _ HK15.out) 1 _ rfl
              have yy2 : w15.cell? ⟨byy, 2, none⟩ = some (.slice Ayy us.length cyy) := cell_at (FXyy14.out _ HK15.out) 2 _ rfl
              have yy3 : w15.cell? ⟨byy, 3, none⟩ = some (.string t) := cell_at (FXyy14.out _ HK15.out) 3 _ rfl
              have e0 : w15.cell? ⟨be, 0, none⟩ = some (.int .i64 st) := cell_at (FXe14.out _ HK15.out) 0 _ rfl
              have e1 : w15.cell? ⟨be, 1, none⟩ = some (.string f) := cell_at (FXe14.out _ HK15.out) 1 _ rfl
              have e2 : w15.cell? ⟨be, 2, none⟩ = some (.slice Ae us.length ce) := cell_at (FXe14.out _ HK15.out) 2 _ rfl
              have e3 : w15.cell? ⟨be, 3, none⟩ = some (.string t) := cell_at (FXe14.out _ HK15.out) 3 _ rfl
              have z0 : w15.cell? ⟨bz, 0, none⟩ = some (.int .i64 st) := cell_at (FXz14.out _ HK15.out) 0 _ rfl
              have z1 : w15.cell? ⟨bz, 1, none⟩ = some (.string f) := cell_at (FXz14.out _ HK15.out) 1 _ rfl
              have z2 : w15.cell? ⟨bz, 2, none⟩ = some (.slice Az us.length cz) := cell_at (FXz14.out _ HK15.out) 2 _ rfl
              have z3 : w15.cell? ⟨bz, 3, none⟩ = some (.string t) := cell_at (FXz14.out _ HK15.out) 3 _ rfl
              go_wp2_with fail
              go_ret
              exact ⟨rfl, (FB14.out _ HK15.out)⟩
          · have HKN := Lib.hid hkn
            clear hkn
            go_wp2_with fail
            refine Calls.mono (knows_any Au vs cu ⟨#[122, 101, 100]⟩ _ (FU6.out _ HK7.out) hvl) ?_
            rintro e w8 ⟨rfl, hb⟩
            clear d0 d1 d2 d3 l0 l1 l2 l3 m0 m1 m2 m3
            have HK8 := Lib.hid (HK7.out.trans (hb.mono HK7.out.size))
            clear hb
            have d0 : w8.cell? ⟨bd, 0, none⟩ = some (.int .i64 st) := cell_at (FXd6.out _ HK8.out) 0 _ rfl
            have d1 : w8.cell? ⟨bd, 1, none⟩ = some (.string f) := cell_at (FXd6.out _ HK8.out) 1 _ rfl
            have d2 : w8.cell? ⟨bd, 2, none⟩ = some (.slice A us.length c) := cell_at (FXd6.out _ HK8.out) 2 _ rfl
            have d3 : w8.cell? ⟨bd, 3, none⟩ = some (.string t) := cell_at (FXd6.out _ HK8.out) 3 _ rfl
            have l0 : w8.cell? ⟨bl, 0, none⟩ = some (.int .i64 so) := cell_at (FXl6.out _ HK8.out) 0 _ rfl
            have l1 : w8.cell? ⟨bl, 1, none⟩ = some (.string fo) := cell_at (FXl6.out _ HK8.out) 1 _ rfl
            have l2 : w8.cell? ⟨bl, 2, none⟩ = some (.slice Al uo.length cl) := cell_at (FXl6.out _ HK8.out) 2 _ rfl
            have l3 : w8.cell? ⟨bl, 3, none⟩ = some (.string to_) := cell_at (FXl6.out _ HK8.out) 3 _ rfl
            have m0 : w8.cell? ⟨bm, 0, none⟩ = some (.int .i64 so) := cell_at (FXm6.out _ HK8.out) 0 _ rfl
            have m1 : w8.cell? ⟨bm, 1, none⟩ = some (.string fo) := cell_at (FXm6.out _ HK8.out) 1 _ rfl
            have m2 : w8.cell? ⟨bm, 2, none⟩ = some (.slice Am uo.length cm) := cell_at (FXm6.out _ HK8.out) 2 _ rfl
            have m3 : w8.cell? ⟨bm, 3, none⟩ = some (.string to_) := cell_at (FXm6.out _ HK8.out) 3 _ rfl
            rw [HKN.out]
            go_wp2_with fail
            refine Calls.mono (sameSub_any so fo to_ Al Am uo cl cm _ (FAL6.out _ HK8.out) (FAM6.out _ HK8.out) hulo) ?_
            rintro e w9 ⟨rfl, hb⟩
            clear d0 d1 d2 d3 l0 l1 l2 l3 m0 m1 m2 m3
            have HK9 := Lib.hid (HK8.out.trans (hb.mono HK8.out.size))
            clear hb
            have d0 : w9.cell? ⟨bd, 0, none⟩ = some (.int .i64 st) := cell_at (FXd6.out _ HK9.out) 0 _ rfl
            have d1 : w9.cell? ⟨bd, 1, none⟩ = some (.string f) := cell_at (FXd6.out _ HK9.out) 1 _ rfl
            have d2 : w9.cell? ⟨bd, 2, none⟩ = some (.slice A us.length c) := cell_at (FXd6.out _ HK9.out) 2 _ rfl
            have d3 : w9.cell? ⟨bd, 3, none⟩ = some (.string t) := cell_at (FXd6.out _ HK9.out) 3 _ rfl
            have l0 : w9.cell? ⟨bl, 0, none⟩ = some (.int .i64 so) := cell_at (FXl6.out _ HK9.out) 0 _ rfl
            have l1 : w9.cell? ⟨bl, 1, none⟩ = some (.string fo) := cell_at (FXl6.out _ HK9.out) 1 _ rfl
            have l2 : w9.cell? ⟨bl, 2, none⟩ = some (.slice Al uo.length cl) := cell_at (FXl6.out _ HK9.out) 2 _ rfl
            have l3 : w9.cell? ⟨bl, 3, none⟩ = some (.string to_) := cell_at (FXl6.out _ HK9.out) 3 _ rfl
            have m0 : w9.cell? ⟨bm, 0, none⟩ = some (.int .i64 so) := cell_at (FXm6.out _ HK9.out) 0 _ rfl
            have m1 : w9.cell? ⟨bm, 1, none⟩ = some (.string fo) := cell_at (FXm6.out _ HK9.out) 1 _ rfl
            have m2 : w9.cell? ⟨bm, 2, none⟩ = some (.slice Am uo.length cm) := cell_at (FXm6.out _ HK9.out) 2 _ rfl
            have m3 : w9.cell? ⟨bm, 3, none⟩ = some (.string to_) := cell_at (FXm6.out _ HK9.out) 3 _ rfl
            go_wp2_with fail
            go_ret
            exact ⟨rfl, (FB6.out _ HK9.out)⟩
      · have h3i : (st != 3) = true := by simp; omega
        have h4i : (st != 4) = true := by simp; omega
        clear h3
        go_wp2_with fail
        refine Calls.mono (sameSub_any so fo to_ Al Am uo cl cm _ (FAL6.out _ HK7.out) (FAM6.out _ HK7.out) hulo) ?_
        rintro e w8 ⟨rfl, hb⟩
        clear d0 d1 d2 d3 l0 l1 l2 l3 m0 m1 m2 m3
        have HK8 := Lib.hid (HK7.out.trans (hb.mono HK7.out.size))
        clear hb
        have d0 : w8.cell? ⟨bd, 0, none⟩ = some (.int .i64 st) := cell_at (FXd6.out _ HK8.out) 0 _ rfl
        have d1 : w8.cell? ⟨bd, 1, none⟩ = some (.string f) := cell_at (FXd6.out _ HK8.out) 1 _ rfl
        have d2 : w8.cell? ⟨bd, 2, none⟩ = some (.slice A us.length c) := cell_at (FXd6.out _ HK8.out) 2 _ rfl
        have d3 : w8.cell? ⟨bd, 3, none⟩ = some (.string t) := cell_at (FXd6.out _ HK8.out) 3 _ rfl
        have l0 : w8.cell? ⟨bl, 0, none⟩ = some (.int .i64 so) := cell_at (FXl6.out _ HK8.out) 0 _ rfl
        have l1 : w8.cell? ⟨bl, 1, none⟩ = some (.string fo) := cell_at (FXl6.out _ HK8.out) 1 _ rfl
        have l2 : w8.cell? ⟨bl, 2, none⟩ = some (.slice Al uo.length cl) := cell_at (FXl6.out _ HK8.out) 2 _ rfl
        have l3 : w8.cell? ⟨bl, 3, none⟩ = some (.string to_) := cell_at (FXl6.out _ HK8.out) 3 _ rfl
        have m0 : w8.cell? ⟨bm, 0, none⟩ = some (.int .i64 so) := cell_at (FXm6.out _ HK8.out) 0 _ rfl
        have m1 : w8.cell? ⟨bm, 1, none⟩ = some (.string fo) := cell_at (FXm6.out _ HK8.out) 1 _ rfl
        have m2 : w8.cell? ⟨bm, 2, none⟩ = some (.slice Am uo.length cm) := cell_at (FXm6.out _ HK8.out) 2 _ rfl
        have m3 : w8.cell? ⟨bm, 3, none⟩ = some (.string to_) := cell_at (FXm6.out _ HK8.out) 3 _ rfl
        go_wp2_with fail
        go_ret
        exact ⟨rfl, (FB6.out _ HK8.out)⟩
    · have hno : no = -1 := by have := HR.out; rw [Sm.ans_bad hans] at this; injection this with _ this; exact this.symm
      have hneg : no < 0 := by omega
      clear hans hno
      go_wp2_with fail
      refine Calls.mono (sameSub_any so fo to_ Al Am uo cl cm _ (FAL6.out _ HK7.out) (FAM6.out _ HK7.out) hulo) ?_
      rintro e w8 ⟨rfl, hb⟩
      clear d0 d1 d2 d3 l0 l1 l2 l3 m0 m1 m2 m3
      have HK8 := Lib.hid (HK7.out.trans (hb.mono HK7.out.size))
      clear hb
      have d0 : w8.cell? ⟨bd, 0, none⟩ = some (.int .i64 st) := cell_at (FXd6.out _ HK8.out) 0 _ rfl
      have d1 : w8.cell? ⟨bd, 1, none⟩ = some (.string f) := cell_at (FXd6.out _ HK8.out) 1 _ rfl
      have d2 : w8.cell? ⟨bd, 2, none⟩ = some (.slice A us.length c) := cell_at (FXd6.out _ HK8.out) 2 _ rfl
      have d3 : w8.cell? ⟨bd, 3, none⟩ = some (.string t) := cell_at (FXd6.out _ HK8.out) 3 _ rfl
      have l0 : w8.cell? ⟨bl, 0, none⟩ = some (.int .i64 so) := cell_at (FXl6.out _ HK8.out) 0 _ rfl
      have l1 : w8.cell? ⟨bl, 1, none⟩ = some (.string fo) := cell_at (FXl6.out _ HK8.out) 1 _ rfl
      have l2 : w8.cell? ⟨bl, 2, none⟩ = some (.slice Al uo.length cl) := cell_at (FXl6.out _ HK8.out) 2 _ rfl
      have l3 : w8.cell? ⟨bl, 3, none⟩ = some (.string to_) := cell_at (FXl6.out _ HK8.out) 3 _ rfl
      have m0 : w8.cell? ⟨bm, 0, none⟩ = some (.int .i64 so) := cell_at (FXm6.out _ HK8.out) 0 _ rfl
      have m1 : w8.cell? ⟨bm, 1, none⟩ = some (.string fo) := cell_at (FXm6.out _ HK8.out) 1 _ rfl
      have m2 : w8.cell? ⟨bm, 2, none⟩ = some (.slice Am uo.length cm) := cell_at (FXm6.out _ HK8.out) 2 _ rfl
      have m3 : w8.cell? ⟨bm, 3, none⟩ = some (.string to_) := cell_at (FXm6.out _ HK8.out) 3 _ rfl
      go_wp2_with fail
      go_ret
      exact ⟨rfl, (FB6.out _ HK8.out)⟩
  · have hbi : (1048576 : Int) < (len : Int) := by omega
    go_enter Tryz.func14, Tryz.ntmps14
    go_wp2_with fail
    go_ret
    exact ⟨rfl, Below.refl _ _⟩
end Go.Proofs.YtnbggmmghopphaaGreatDoor
