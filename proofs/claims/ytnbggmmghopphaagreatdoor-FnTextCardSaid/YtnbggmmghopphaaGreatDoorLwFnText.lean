/- FnText: the walk. (Printed by mklw.py.) -/
import Derived.Test.YtnbggmmghopphaaGreatDoorSmUu
import Derived.Test.YtnbggmmghopphaaGreatDoorLwPl
import Derived.Test.YtnbggmmghopphaaGreatDoorLwKn
import Derived.Test.YtnbggmmghopphaaGreatDoorLwOw
import Derived.Deep.RegionHeld3
import Derived.Deep.DeepCutAuto
namespace Go.Proofs.YtnbggmmghopphaaGreatDoor
set_option linter.unusedVariables false
open Go.RowKit
open Us (U)

set_option maxRecDepth 100000 in
set_option maxHeartbeats 6400000 in
theorem walkFnText (a : Option Addr) (len cap : Nat) (w : World) (h : Bytes w a len cap) (m : Int) (hm : w.cell? ⟨0, 0, none⟩ = some (.int .i64 m)) :
    Calls Tryz.prog 11 #[.slice a len cap] w fun e w' => e = .returned (.bool true) ∧ Below w.heap.size w w' := by
  by_cases hbig : len ≤ 1048576
  · have hbi : ¬ (1048576 : Int) < (len : Int) := by omega
    have hpos := Po.base_pos hm
    go_enter Tryz.func11, Tryz.ntmps11
    go_wp2_with fail
    refine Calls.mono (drawSubmissionLine_any a len cap _ h) ?_
    rintro e w1 ⟨st, f, A, us, c, t, Au, vs, cu, d, l, hsm, hcap, hcm, hsv, hds, hls, rfl, hat, hau, hb1⟩
    have hfm := (Sm.small_max hsm).1
    have htm := (Sm.small_max hsm).2.1
    have hul := Sm.small_len hsm
    dsimp only at hfm htm hul
    have hvl : vs.length ≤ maxLen := small_len hsv
    have hdz : d.size ≤ 16777216 := by omega
    have hlz : l.size ≤ 16777216 := by omega
    have FU1 : Hid (∀ w', Below w1.heap.size w1 w' → AtUsers w' w'.heap.size Au vs) := Lib.hid (fun w' hb => ((at_users hau (small_sizes hsv)).below hb).mono hb.size)
    have FM1 : Hid (∀ w', Below w1.heap.size w1 w' → w'.cell? ⟨0, 0, none⟩ = some (.int .i64 m)) := Lib.hid (fun w' hb => Po.mem (hb1.trans (hb.mono hb1.size)) hm hpos)
    have FB1 : Hid (∀ w', Below w1.heap.size w1 w' → Below w.heap.size w w') := Lib.hid (fun w' hb => hb1.trans (hb.mono hb1.size))
    have FAA1 : Hid (∀ w', Below w1.heap.size w1 w' → AtStrs w' w'.heap.size A us) := Lib.hid (fun w' hb => (hat.below hb).mono hb.size)
    have HK1 : Hid (Below w1.heap.size w1 w1) := Lib.hid (Below.refl _ _)
    have HSM := Lib.hid hsm
    clear hat hau hb1 hm h hsm
    have hx := heap_alloc_new w1 (.cells #[.int .i64 st, .string f, .slice A us.length c, .string t] 36)
    have hE := Below.alloc (Below.refl w1.heap.size w1) (Nat.le_refl _) (.cells #[.int .i64 st, .string f, .slice A us.length c, .string t] 36)
    have hs : w1.heap.size < (w1.alloc (.cells #[.int .i64 st, .string f, .slice A us.length c, .string t] 36)).heap.size := by simp
    go_upto_region 4 with fail
    generalize w1.alloc (.cells #[.int .i64 st, .string f, .slice A us.length c, .string t] 36) = w2 at hx hE hs ⊢
    obtain ⟨bd, hbb⟩ : ∃ b, b = w1.heap.size := ⟨_, rfl⟩
    rw [← hbb] at hx hs ⊢
    have HK2 := Lib.hid (HK1.out.trans (hE.mono HK1.out.size))
    have FXd2 : Hid (∀ w', Below w2.heap.size w2 w' → w'.heap[bd]? = some (.cells #[.int .i64 st, .string f, .slice A us.length c, .string t] 36 (0, 0))) := Lib.hid (fun w' hb => (hb.block _ hs).trans hx)
    clear hx hE hs hbb
    have FU2 := Lib.hid (fun w' (hb : Below w2.heap.size w2 w') => FU1.out w' (HK2.out.trans (hb.mono HK2.out.size)))
    have FM2 := Lib.hid (fun w' (hb : Below w2.heap.size w2 w') => FM1.out w' (HK2.out.trans (hb.mono HK2.out.size)))
    have FB2 := Lib.hid (fun w' (hb : Below w2.heap.size w2 w') => FB1.out w' (HK2.out.trans (hb.mono HK2.out.size)))
    have FAA2 := Lib.hid (fun w' (hb : Below w2.heap.size w2 w') => FAA1.out w' (HK2.out.trans (hb.mono HK2.out.size)))
    have HKb : Hid (Below w2.heap.size w2 w2) := Lib.hid (Below.refl _ _)
    clear HK2
    have HK2 := HKb
    clear HKb
    have d0 : w2.cell? ⟨bd, 0, none⟩ = some (.int .i64 st) := cell_at (FXd2.out _ HK2.out) 0 _ rfl
    have d1 : w2.cell? ⟨bd, 1, none⟩ = some (.string f) := cell_at (FXd2.out _ HK2.out) 1 _ rfl
    have d2 : w2.cell? ⟨bd, 2, none⟩ = some (.slice A us.length c) := cell_at (FXd2.out _ HK2.out) 2 _ rfl
    have d3 : w2.cell? ⟨bd, 3, none⟩ = some (.string t) := cell_at (FXd2.out _ HK2.out) 3 _ rfl
    obtain ⟨R, hR⟩ : ∃ R, R = Sm.ans vs d ⟨st, f, us, t⟩ l := ⟨_, rfl⟩
    obtain ⟨⟨so, fo, uo, to_⟩, no⟩ := R
    have HR := Lib.hid hR.symm
    have hulo : uo.length ≤ maxLen := by have := (Sm.ans_sizes vs d ⟨st, f, us, t⟩ l).1; rw [← hR] at this; unfold maxLen; dsimp only at this; omega
    have hfo : fo.size ≤ maxLen := by have := (Sm.ans_sizes vs d ⟨st, f, us, t⟩ l).2.2.1; rw [← hR] at this; exact this
    have hto : to_.size ≤ maxLen := by have := (Sm.ans_sizes vs d ⟨st, f, us, t⟩ l).2.2.2; rw [← hR] at this; exact this
    clear hR
    go_wp2_with fail
    refine Calls.mono (iLine_any st f t A us c _ (FAA2.out _ HK2.out) hcap hcm hfm htm Au vs cu (FU2.out _ HK2.out) hvl d l hdz hlz m (FM2.out _ HK2.out) HR.out) ?_
    rintro e w3 ⟨Al, cl, rfl, hatl, hkl, hjl, hb⟩
    clear d0 d1 d2 d3
    have HK3 := Lib.hid (HK2.out.trans (hb.mono HK2.out.size))
    clear hb
    have d0 : w3.cell? ⟨bd, 0, none⟩ = some (.int .i64 st) := cell_at (FXd2.out _ HK3.out) 0 _ rfl
    have d1 : w3.cell? ⟨bd, 1, none⟩ = some (.string f) := cell_at (FXd2.out _ HK3.out) 1 _ rfl
    have d2 : w3.cell? ⟨bd, 2, none⟩ = some (.slice A us.length c) := cell_at (FXd2.out _ HK3.out) 2 _ rfl
    have d3 : w3.cell? ⟨bd, 3, none⟩ = some (.string t) := cell_at (FXd2.out _ HK3.out) 3 _ rfl
    clear d0 d1 d2 d3
    have hx := heap_alloc_new w3 (.cells #[.int .i64 so, .string fo, .slice Al uo.length cl, .string to_] 36)
    have hE := Below.alloc (Below.refl w3.heap.size w3) (Nat.le_refl _) (.cells #[.int .i64 so, .string fo, .slice Al uo.length cl, .string to_] 36)
    have hs : w3.heap.size < (w3.alloc (.cells #[.int .i64 so, .string fo, .slice Al uo.length cl, .string to_] 36)).heap.size := by simp
    go_upto_region 5 with fail
    generalize w3.alloc (.cells #[.int .i64 so, .string fo, .slice Al uo.length cl, .string to_] 36) = w4 at hx hE hs ⊢
    obtain ⟨bl, hbb⟩ : ∃ b, b = w3.heap.size := ⟨_, rfl⟩
    rw [← hbb] at hx hs ⊢
    have hltdl : bd < bl := by have := (Array.getElem?_eq_some_iff.1 (FXd2.out _ HK3.out)).1; omega
    have HK4 := Lib.hid (HK3.out.trans (hE.mono HK3.out.size))
    have FXl4 : Hid (∀ w', Below w4.heap.size w4 w' → w'.heap[bl]? = some (.cells #[.int .i64 so, .string fo, .slice Al uo.length cl, .string to_] 36 (0, 0))) := Lib.hid (fun w' hb => (hb.block _ hs).trans hx)
    have FAL4 : Hid (∀ w', Below w4.heap.size w4 w' → AtStrs w' w'.heap.size Al uo) := Lib.hid (fun w' hb => (((hatl.below hE).mono hE.size).below hb).mono hb.size)
    clear hx hE hs hbb
    have FU4 := Lib.hid (fun w' (hb : Below w4.heap.size w4 w') => FU2.out w' (HK4.out.trans (hb.mono HK4.out.size)))
    have FM4 := Lib.hid (fun w' (hb : Below w4.heap.size w4 w') => FM2.out w' (HK4.out.trans (hb.mono HK4.out.size)))
    have FB4 := Lib.hid (fun w' (hb : Below w4.heap.size w4 w') => FB2.out w' (HK4.out.trans (hb.mono HK4.out.size)))
    have FXd4 := Lib.hid (fun w' (hb : Below w4.heap.size w4 w') => FXd2.out w' (HK4.out.trans (hb.mono HK4.out.size)))
    have FAA4 := Lib.hid (fun w' (hb : Below w4.heap.size w4 w') => FAA2.out w' (HK4.out.trans (hb.mono HK4.out.size)))
    have HKb : Hid (Below w4.heap.size w4 w4) := Lib.hid (Below.refl _ _)
    clear HK4
    have HK4 := HKb
    clear HKb
    have d0 : w4.cell? ⟨bd, 0, none⟩ = some (.int .i64 st) := cell_at (FXd4.out _ HK4.out) 0 _ rfl
    have d1 : w4.cell? ⟨bd, 1, none⟩ = some (.string f) := cell_at (FXd4.out _ HK4.out) 1 _ rfl
    have d2 : w4.cell? ⟨bd, 2, none⟩ = some (.slice A us.length c) := cell_at (FXd4.out _ HK4.out) 2 _ rfl
    have d3 : w4.cell? ⟨bd, 3, none⟩ = some (.string t) := cell_at (FXd4.out _ HK4.out) 3 _ rfl
    have l0 : w4.cell? ⟨bl, 0, none⟩ = some (.int .i64 so) := cell_at (FXl4.out _ HK4.out) 0 _ rfl
    have l1 : w4.cell? ⟨bl, 1, none⟩ = some (.string fo) := cell_at (FXl4.out _ HK4.out) 1 _ rfl
    have l2 : w4.cell? ⟨bl, 2, none⟩ = some (.slice Al uo.length cl) := cell_at (FXl4.out _ HK4.out) 2 _ rfl
    have l3 : w4.cell? ⟨bl, 3, none⟩ = some (.string to_) := cell_at (FXl4.out _ HK4.out) 3 _ rfl
    clear hatl
    go_wp2_with fail
    refine Calls.mono (sLine_any st f t A us c _ (FAA4.out _ HK4.out) hcap hcm hfm htm Au vs cu (FU4.out _ HK4.out) hvl d l hdz hlz HR.out) ?_
    rintro e w5 ⟨Am, cm, rfl, hatm, hkm, hjm, hb⟩
    clear d0 d1 d2 d3 l0 l1 l2 l3
    have HK5 := Lib.hid (HK4.out.trans (hb.mono HK4.out.size))
    clear hb
    have d0 : w5.cell? ⟨bd, 0, none⟩ = some (.int .i64 st) := cell_at (FXd4.out _ HK5.out) 0 _ rfl
    have d1 : w5.cell? ⟨bd, 1, none⟩ = some (.string f) := cell_at (FXd4.out _ HK5.out) 1 _ rfl
    have d2 : w5.cell? ⟨bd, 2, none⟩ = some (.slice A us.length c) := cell_at (FXd4.out _ HK5.out) 2 _ rfl
    have d3 : w5.cell? ⟨bd, 3, none⟩ = some (.string t) := cell_at (FXd4.out _ HK5.out) 3 _ rfl
    have l0 : w5.cell? ⟨bl, 0, none⟩ = some (.int .i64 so) := cell_at (FXl4.out _ HK5.out) 0 _ rfl
    have l1 : w5.cell? ⟨bl, 1, none⟩ = some (.string fo) := cell_at (FXl4.out _ HK5.out) 1 _ rfl
    have l2 : w5.cell? ⟨bl, 2, none⟩ = some (.slice Al uo.length cl) := cell_at (FXl4.out _ HK5.out) 2 _ rfl
    have l3 : w5.cell? ⟨bl, 3, none⟩ = some (.string to_) := cell_at (FXl4.out _ HK5.out) 3 _ rfl
    clear d0 d1 d2 d3 l0 l1 l2 l3
    have hx := heap_alloc_new w5 (.cells #[.int .i64 so, .string fo, .slice Am uo.length cm, .string to_] 36)
    have hE := Below.alloc (Below.refl w5.heap.size w5) (Nat.le_refl _) (.cells #[.int .i64 so, .string fo, .slice Am uo.length cm, .string to_] 36)
    have hs : w5.heap.size < (w5.alloc (.cells #[.int .i64 so, .string fo, .slice Am uo.length cm, .string to_] 36)).heap.size := by simp
    go_upto_region 6 with fail
    generalize w5.alloc (.cells #[.int .i64 so, .string fo, .slice Am uo.length cm, .string to_] 36) = w6 at hx hE hs ⊢
    obtain ⟨bm, hbb⟩ : ∃ b, b = w5.heap.size := ⟨_, rfl⟩
    rw [← hbb] at hx hs ⊢
    have hltdm : bd < bm := by have := (Array.getElem?_eq_some_iff.1 (FXd4.out _ HK5.out)).1; omega
    have hltlm : bl < bm := by have := (Array.getElem?_eq_some_iff.1 (FXl4.out _ HK5.out)).1; omega
    have HK6 := Lib.hid (HK5.out.trans (hE.mono HK5.out.size))
    have FXm6 : Hid (∀ w', Below w6.heap.size w6 w' → w'.heap[bm]? = some (.cells #[.int .i64 so, .string fo, .slice Am uo.length cm, .string to_] 36 (0, 0))) := Lib.hid (fun w' hb => (hb.block _ hs).trans hx)
    have FAM6 : Hid (∀ w', Below w6.heap.size w6 w' → AtStrs w' w'.heap.size Am uo) := Lib.hid (fun w' hb => (((hatm.below hE).mono hE.size).below hb).mono hb.size)
    clear hx hE hs hbb
    have FU6 := Lib.hid (fun w' (hb : Below w6.heap.size w6 w') => FU4.out w' (HK6.out.trans (hb.mono HK6.out.size)))
    have FM6 := Lib.hid (fun w' (hb : Below w6.heap.size w6 w') => FM4.out w' (HK6.out.trans (hb.mono HK6.out.size)))
    have FB6 := Lib.hid (fun w' (hb : Below w6.heap.size w6 w') => FB4.out w' (HK6.out.trans (hb.mono HK6.out.size)))
    have FXd6 := Lib.hid (fun w' (hb : Below w6.heap.size w6 w') => FXd4.out w' (HK6.out.trans (hb.mono HK6.out.size)))
    have FXl6 := Lib.hid (fun w' (hb : Below w6.heap.size w6 w') => FXl4.out w' (HK6.out.trans (hb.mono HK6.out.size)))
    have FAA6 := Lib.hid (fun w' (hb : Below w6.heap.size w6 w') => FAA4.out w' (HK6.out.trans (hb.mono HK6.out.size)))
    have FAL6 := Lib.hid (fun w' (hb : Below w6.heap.size w6 w') => FAL4.out w' (HK6.out.trans (hb.mono HK6.out.size)))
    have HKb : Hid (Below w6.heap.size w6 w6) := Lib.hid (Below.refl _ _)
    clear HK6
    have HK6 := HKb
    clear HKb
    have d0 : w6.cell? ⟨bd, 0, none⟩ = some (.int .i64 st) := cell_at (FXd6.out _ HK6.out) 0 _ rfl
    have d1 : w6.cell? ⟨bd, 1, none⟩ = some (.string f) := cell_at (FXd6.out _ HK6.out) 1 _ rfl
    have d2 : w6.cell? ⟨bd, 2, none⟩ = some (.slice A us.length c) := cell_at (FXd6.out _ HK6.out) 2 _ rfl
    have d3 : w6.cell? ⟨bd, 3, none⟩ = some (.string t) := cell_at (FXd6.out _ HK6.out) 3 _ rfl
    have l0 : w6.cell? ⟨bl, 0, none⟩ = some (.int .i64 so) := cell_at (FXl6.out _ HK6.out) 0 _ rfl
    have l1 : w6.cell? ⟨bl, 1, none⟩ = some (.string fo) := cell_at (FXl6.out _ HK6.out) 1 _ rfl
    have l2 : w6.cell? ⟨bl, 2, none⟩ = some (.slice Al uo.length cl) := cell_at (FXl6.out _ HK6.out) 2 _ rfl
    have l3 : w6.cell? ⟨bl, 3, none⟩ = some (.string to_) := cell_at (FXl6.out _ HK6.out) 3 _ rfl
    have m0 : w6.cell? ⟨bm, 0, none⟩ = some (.int .i64 so) := cell_at (FXm6.out _ HK6.out) 0 _ rfl
    have m1 : w6.cell? ⟨bm, 1, none⟩ = some (.string fo) := cell_at (FXm6.out _ HK6.out) 1 _ rfl
    have m2 : w6.cell? ⟨bm, 2, none⟩ = some (.slice Am uo.length cm) := cell_at (FXm6.out _ HK6.out) 2 _ rfl
    have m3 : w6.cell? ⟨bm, 3, none⟩ = some (.string to_) := cell_at (FXm6.out _ HK6.out) 3 _ rfl
    clear hatm
    go_wp2_with fail
    refine Calls.mono (sameSub_any so fo to_ Al Am uo cl cm _ (FAL6.out _ HK6.out) (FAM6.out _ HK6.out) hulo) ?_
    rintro e w7 ⟨rfl, hb⟩
    clear d0 d1 d2 d3 l0 l1 l2 l3 m0 m1 m2 m3
    have HK7 := Lib.hid (HK6.out.trans (hb.mono HK6.out.size))
    clear hb
    have d0 : w7.cell? ⟨bd, 0, none⟩ = some (.int .i64 st) := cell_at (FXd6.out _ HK7.out) 0 _ rfl
    have d1 : w7.cell? ⟨bd, 1, none⟩ = some (.string f) := cell_at (FXd6.out _ HK7.out) 1 _ rfl
    have d2 : w7.cell? ⟨bd, 2, none⟩ = some (.slice A us.length c) := cell_at (FXd6.out _ HK7.out) 2 _ rfl
    have d3 : w7.cell? ⟨bd, 3, none⟩ = some (.string t) := cell_at (FXd6.out _ HK7.out) 3 _ rfl
    have l0 : w7.cell? ⟨bl, 0, none⟩ = some (.int .i64 so) := cell_at (FXl6.out _ HK7.out) 0 _ rfl
    have l1 : w7.cell? ⟨bl, 1, none⟩ = some (.string fo) := cell_at (FXl6.out _ HK7.out) 1 _ rfl
    have l2 : w7.cell? ⟨bl, 2, none⟩ = some (.slice Al uo.length cl) := cell_at (FXl6.out _ HK7.out) 2 _ rfl
    have l3 : w7.cell? ⟨bl, 3, none⟩ = some (.string to_) := cell_at (FXl6.out _ HK7.out) 3 _ rfl
    have m0 : w7.cell? ⟨bm, 0, none⟩ = some (.int .i64 so) := cell_at (FXm6.out _ HK7.out) 0 _ rfl
    have m1 : w7.cell? ⟨bm, 1, none⟩ = some (.string fo) := cell_at (FXm6.out _ HK7.out) 1 _ rfl
    have m2 : w7.cell? ⟨bm, 2, none⟩ = some (.slice Am uo.length cm) := cell_at (FXm6.out _ HK7.out) 2 _ rfl
    have m3 : w7.cell? ⟨bm, 3, none⟩ = some (.string to_) := cell_at (FXm6.out _ HK7.out) 3 _ rfl
    by_cases hans : Sm.ok ⟨st, f, us, t⟩ = true ∧ Us.usersOk vs = true ∧ Dm.ok d.data.toList = true
    · have HL : Hid (Sm.line vs d ⟨st, f, us, t⟩ l = (⟨so, fo, uo, to_⟩, no)) := Lib.hid (by rw [← Sm.ans_good hans]; exact HR.out)
      have HANS := Lib.hid hans
      have hnn : ¬ no < 0 := by have := Sm.line_reply vs d ⟨st, f, us, t⟩ l; rw [HL.out] at this; exact this
      clear hans
      by_cases h5 : st = 5
      · have h5i : (st != 5) = false := by simpa using h5
        by_cases hd : l = ⟨#[46]⟩
        · have q0 : (l.toList == [46]) = true := lit_yes hd
          clear h5 hd
          go_wp2_with fail
          refine Calls.mono (sameSub_any so fo to_ Al Am uo cl cm _ (FAL6.out _ HK7.out) (FAM6.out _ HK7.out) hulo) ?_
          rintro e w8 ⟨rfl, hb⟩
          clear d0 d1 d2 d3 l0 l1 l2 l3 m0 m1 m2 m3
          have HK8 := Lib.hid (HK7.out.trans (hb.mono HK7.out.size))
          clear hb
          have d0 : w8.cell? ⟨bd, 0, none⟩ = some (.int .i64 st) := cell_at (FXd6.out _ HK8.out) 0 _ rfl
          have d1 : w8.cell? ⟨bd, 1, none⟩ = some (.string f) := cell_at (FXd6.out _ HK8.out) 1 _ rfl
          have d2 : w8.cell? ⟨bd, 2, none⟩ = some (.slice A us.length c) := cell_at (FXd6.out _ HK8.out) 2 _ rfl
          have d3 : w8.cell? ⟨bd, 3, none⟩ = some (.string t) := cell_at (FXd6.out _ HK8.out) 3 _ rfl
          have l0 : w8.cell? ⟨bl, 0, none⟩ = some (.int .i64 so) := cell_at (FXl6.out _ HK8.out) 0 _ rfl
          have l1 : w8.cell? ⟨bl, 1, none⟩ = some (.string fo) := cell_at (FXl6.out _ HK8.out) 1 _ rfl
          have l2 : w8.cell? ⟨bl, 2, none⟩ = some (.slice Al uo.length cl) := cell_at (FXl6.out _ HK8.out) 2 _ rfl
          have l3 : w8.cell? ⟨bl, 3, none⟩ = some (.string to_) := cell_at (FXl6.out _ HK8.out) 3 _ rfl
          have m0 : w8.cell? ⟨bm, 0, none⟩ = some (.int .i64 so) := cell_at (FXm6.out _ HK8.out) 0 _ rfl
          have m1 : w8.cell? ⟨bm, 1, none⟩ = some (.string fo) := cell_at (FXm6.out _ HK8.out) 1 _ rfl
          have m2 : w8.cell? ⟨bm, 2, none⟩ = some (.slice Am uo.length cm) := cell_at (FXm6.out _ HK8.out) 2 _ rfl
          have m3 : w8.cell? ⟨bm, 3, none⟩ = some (.string to_) := cell_at (FXm6.out _ HK8.out) 3 _ rfl
          go_wp2_with fail
          go_ret
          exact ⟨rfl, (FB6.out _ HK8.out)⟩
        · have q0 : (l.toList == [46]) = false := lit_no hd
          have HTE : Hid (t.size ≤ 30) := Lib.hid HSM.out.2.2.2
          have ht30 := HTE.out
          have HD : Hid (Sm.data ⟨st, f, us, t⟩ l = (⟨so, fo, uo, to_⟩, no)) := Lib.hid (by rw [← HL.out, Sm.line, if_neg (by dsimp only; omega), if_pos h5])
          have HD2 : Hid ((⟨st, f, us, Sm.cut21 (t ++ Sm.strip l ++ ⟨#[10]⟩)⟩, (0 : Int)) = ((⟨so, fo, uo, to_⟩ : Sm.S), no)) := Lib.hid (by rw [← HD.out, Sm.data, if_neg hd])
          clear hd h5
          by_cases h0 : 0 < l.size
          · have hne : l.toList.isEmpty = false := Sm.ne_of h0
            have hne2 : (!l.toList.isEmpty) = true := by rw [hne]; rfl
            by_cases h46 : l[0]'h0 = 46
            · have b0 : (((l[0]'h0).toNat : Int) == 46) = true := by rw [h46]; rfl
              have b1 : ((l[0]'h0).toNat : Int) = 46 := by rw [h46]; rfl
              have HST := Lib.hid (Sm.strip_yes h0 h46)
              clear h46
              have HXS : Hid ((t ++ l.extract 1 l.size ++ ByteArray.mk #[10]).size = t.size + (l.size - 1) + 1) := Lib.hid (by rw [ByteArray.size_append, ByteArray.size_append, ByteArray.size_extract]; show _ + 1 = _; omega)
              have hzx : (l.extract 1 l.size).size = l.size - 1 := by rw [ByteArray.size_extract]; omega
              have hz10 : (ByteArray.mk #[10]).size = 1 := rfl
              obtain ⟨e1, e2, e3, e4, e5⟩ : st = so ∧ f = fo ∧ us = uo ∧ Sm.cut21 (t ++ l.extract 1 l.size ++ ByteArray.mk #[10]) = to_ ∧ (0 : Int) = no := by have := HD2.out; rw [HST.out] at this; injection this with a1 a2; injection a1 with b1 b2 b3 b4; exact ⟨b1, b2, b3, b4, a2⟩
              subst e1 e2 e3 e5
              clear hnn
              by_cases h21 : (t ++ l.extract 1 l.size ++ ByteArray.mk #[10]).size ≤ 21
              · have hsz := HXS.out
                have h21i : ¬ (21 : Int) < ((t ++ l.extract 1 l.size ++ ByteArray.mk #[10]).size : Int) := by omega
                have HCT : Hid (Sm.cut21 (t ++ l.extract 1 l.size ++ ByteArray.mk #[10]) = (t ++ l.extract 1 l.size ++ ByteArray.mk #[10])) := Lib.hid (Sm.cut21_small h21)
                clear h21 hsz
                rw [HCT.out] at e4
                subst e4
                have hi1 : (1 : Int) ≤ (l.size : Int) := by omega
                have h21j : ¬ (21 : Int) < (t.size : Int) + ((l.size - 1 : Nat) : Int) + 1 := by have := HXS.out; omega
                have h21k : ¬ (21 : Int) < (t.size : Int) + ((l.size : Int) - 1) + 1 := by have := HXS.out; omega
                have hx := heap_alloc_new w7 (.cells #[.int .i64 st, .string f, .slice A us.length c, .string t] 36)
                have hE := Below.alloc (Below.refl w7.heap.size w7) (Nat.le_refl _) (.cells #[.int .i64 st, .string f, .slice A us.length c, .string t] 36)
                go_upto_region 12 with fail
                clear d0 d1 d2 d3 l0 l1 l2 l3 m0 m1 m2 m3
                generalize w7.alloc (.cells #[.int .i64 st, .string f, .slice A us.length c, .string t] 36) = w8 at hx hE ⊢
                obtain ⟨bY, hbb⟩ : ∃ b, b = w7.heap.size := ⟨_, rfl⟩
                rw [← hbb] at hx ⊢
                have hleY : w6.heap.size ≤ bY := by have := HK7.out.size; omega
                have hnedY : bd ≠ bY := by have := (Array.getElem?_eq_some_iff.1 (FXd6.out _ HK7.out)).1; omega
                have hneYd : bY ≠ bd := Ne.symm hnedY
                have hnelY : bl ≠ bY := by have := (Array.getElem?_eq_some_iff.1 (FXl6.out _ HK7.out)).1; omega
                have hneYl : bY ≠ bl := Ne.symm hnelY
                have hnemY : bm ≠ bY := by have := (Array.getElem?_eq_some_iff.1 (FXm6.out _ HK7.out)).1; omega
                have hneYm : bY ≠ bm := Ne.symm hnemY
                have HK8 := Lib.hid (HK7.out.trans (hE.mono HK7.out.size))
                have HZY := Lib.hid hx
                clear hx hE hbb
                have d0 : w8.cell? ⟨bd, 0, none⟩ = some (.int .i64 st) := cell_at (FXd6.out _ HK8.out) 0 _ rfl
                have d1 : w8.cell? ⟨bd, 1, none⟩ = some (.string f) := cell_at (FXd6.out _ HK8.out) 1 _ rfl
                have d2 : w8.cell? ⟨bd, 2, none⟩ = some (.slice A us.length c) := cell_at (FXd6.out _ HK8.out) 2 _ rfl
                have d3 : w8.cell? ⟨bd, 3, none⟩ = some (.string t) := cell_at (FXd6.out _ HK8.out) 3 _ rfl
                have l0 : w8.cell? ⟨bl, 0, none⟩ = some (.int .i64 st) := cell_at (FXl6.out _ HK8.out) 0 _ rfl
                have l1 : w8.cell? ⟨bl, 1, none⟩ = some (.string f) := cell_at (FXl6.out _ HK8.out) 1 _ rfl
                have l2 : w8.cell? ⟨bl, 2, none⟩ = some (.slice Al us.length cl) := cell_at (FXl6.out _ HK8.out) 2 _ rfl
                have l3 : w8.cell? ⟨bl, 3, none⟩ = some (.string (t ++ l.extract 1 l.size ++ ByteArray.mk #[10])) := cell_at (FXl6.out _ HK8.out) 3 _ rfl
                have m0 : w8.cell? ⟨bm, 0, none⟩ = some (.int .i64 st) := cell_at (FXm6.out _ HK8.out) 0 _ rfl
                have m1 : w8.cell? ⟨bm, 1, none⟩ = some (.string f) := cell_at (FXm6.out _ HK8.out) 1 _ rfl
                have m2 : w8.cell? ⟨bm, 2, none⟩ = some (.slice Am us.length cm) := cell_at (FXm6.out _ HK8.out) 2 _ rfl
                have m3 : w8.cell? ⟨bm, 3, none⟩ = some (.string (t ++ l.extract 1 l.size ++ ByteArray.mk #[10])) := cell_at (FXm6.out _ HK8.out) 3 _ rfl
                have Y0 : w8.cell? ⟨bY, 0, none⟩ = some (.int .i64 st) := cell_at (HZY.out) 0 _ rfl
                have Y1 : w8.cell? ⟨bY, 1, none⟩ = some (.string f) := cell_at (HZY.out) 1 _ rfl
                have Y2 : w8.cell? ⟨bY, 2, none⟩ = some (.slice A us.length c) := cell_at (HZY.out) 2 _ rfl
                have Y3 : w8.cell? ⟨bY, 3, none⟩ = some (.string t) := cell_at (HZY.out) 3 _ rfl
                have fY0 := free_at HZY.out 0
                have fY1 := free_at HZY.out 1
                have fY2 := free_at HZY.out 2
                have fY3 := free_at HZY.out 3
                have HS1 : Hid (∀ v, Below w6.heap.size w6 (w8.setCell ⟨bY, 3, none⟩ v)) := Lib.hid (fun v => HK8.out.setCell (p := ⟨bY, 3, none⟩) hleY _)
                have HS2 : Hid (∀ v u, Below w6.heap.size w6 ((w8.setCell ⟨bY, 3, none⟩ v).setCell ⟨bY, 3, none⟩ u)) := Lib.hid (fun v u => (HS1.out v).setCell (p := ⟨bY, 3, none⟩) hleY _)
                go_wp2_with fail
                first | refine Calls.mono (sameSub_any st f (t ++ l.extract 1 l.size ++ ByteArray.mk #[10]) Al A us cl c _ (FAL6.out _ (HS1.out _)) (FAA6.out _ (HS1.out _)) hul) ?_ | refine Calls.mono (sameSub_any st f (t ++ l.extract 1 l.size ++ ByteArray.mk #[10]) Al A us cl c _ (FAL6.out _ (HS2.out _ _)) (FAA6.out _ (HS2.out _ _)) hul) ?_
                rintro e wz ⟨rfl, hb⟩
                go_wp2_with fail
                go_ret
                first | exact ⟨rfl, FB6.out _ ((HS1.out _).trans (hb.mono (HS1.out _).size))⟩ | exact ⟨rfl, FB6.out _ ((HS2.out _ _).trans (hb.mono (HS2.out _ _).size))⟩
              · have hsz := HXS.out
                have h21i : (21 : Int) < ((t ++ l.extract 1 l.size ++ ByteArray.mk #[10]).size : Int) := by omega
                have HCT : Hid ((t ++ l.extract 1 l.size ++ ByteArray.mk #[10]).extract 0 21 = Sm.cut21 (t ++ l.extract 1 l.size ++ ByteArray.mk #[10])) := Lib.hid (Sm.cut21_big (by omega))
                clear h21 hsz
                subst e4
                have hi1 : (1 : Int) ≤ (l.size : Int) := by omega
                have h21j : (21 : Int) < (t.size : Int) + ((l.size - 1 : Nat) : Int) + 1 := by have := HXS.out; omega
                have h21k : (21 : Int) < (t.size : Int) + ((l.size : Int) - 1) + 1 := by have := HXS.out; omega
                have hx := heap_alloc_new w7 (.cells #[.int .i64 st, .string f, .slice A us.length c, .string t] 36)
                have hE := Below.alloc (Below.refl w7.heap.size w7) (Nat.le_refl _) (.cells #[.int .i64 st, .string f, .slice A us.length c, .string t] 36)
                go_upto_region 12 with fail
                clear d0 d1 d2 d3 l0 l1 l2 l3 m0 m1 m2 m3
                generalize w7.alloc (.cells #[.int .i64 st, .string f, .slice A us.length c, .string t] 36) = w8 at hx hE ⊢
                obtain ⟨bY, hbb⟩ : ∃ b, b = w7.heap.size := ⟨_, rfl⟩
                rw [← hbb] at hx ⊢
                have hleY : w6.heap.size ≤ bY := by have := HK7.out.size; omega
                have hnedY : bd ≠ bY := by have := (Array.getElem?_eq_some_iff.1 (FXd6.out _ HK7.out)).1; omega
                have hneYd : bY ≠ bd := Ne.symm hnedY
                have hnelY : bl ≠ bY := by have := (Array.getElem?_eq_some_iff.1 (FXl6.out _ HK7.out)).1; omega
                have hneYl : bY ≠ bl := Ne.symm hnelY
                have hnemY : bm ≠ bY := by have := (Array.getElem?_eq_some_iff.1 (FXm6.out _ HK7.out)).1; omega
                have hneYm : bY ≠ bm := Ne.symm hnemY
                have HK8 := Lib.hid (HK7.out.trans (hE.mono HK7.out.size))
                have HZY := Lib.hid hx
                clear hx hE hbb
                have d0 : w8.cell? ⟨bd, 0, none⟩ = some (.int .i64 st) := cell_at (FXd6.out _ HK8.out) 0 _ rfl
                have d1 : w8.cell? ⟨bd, 1, none⟩ = some (.string f) := cell_at (FXd6.out _ HK8.out) 1 _ rfl
                have d2 : w8.cell? ⟨bd, 2, none⟩ = some (.slice A us.length c) := cell_at (FXd6.out _ HK8.out) 2 _ rfl
                have d3 : w8.cell? ⟨bd, 3, none⟩ = some (.string t) := cell_at (FXd6.out _ HK8.out) 3 _ rfl
                have l0 : w8.cell? ⟨bl, 0, none⟩ = some (.int .i64 st) := cell_at (FXl6.out _ HK8.out) 0 _ rfl
                have l1 : w8.cell? ⟨bl, 1, none⟩ = some (.string f) := cell_at (FXl6.out _ HK8.out) 1 _ rfl
                have l2 : w8.cell? ⟨bl, 2, none⟩ = some (.slice Al us.length cl) := cell_at (FXl6.out _ HK8.out) 2 _ rfl
                have l3 : w8.cell? ⟨bl, 3, none⟩ = some (.string (Sm.cut21 (t ++ l.extract 1 l.size ++ ByteArray.mk #[10]))) := cell_at (FXl6.out _ HK8.out) 3 _ rfl
                have m0 : w8.cell? ⟨bm, 0, none⟩ = some (.int .i64 st) := cell_at (FXm6.out _ HK8.out) 0 _ rfl
                have m1 : w8.cell? ⟨bm, 1, none⟩ = some (.string f) := cell_at (FXm6.out _ HK8.out) 1 _ rfl
                have m2 : w8.cell? ⟨bm, 2, none⟩ = some (.slice Am us.length cm) := cell_at (FXm6.out _ HK8.out) 2 _ rfl
                have m3 : w8.cell? ⟨bm, 3, none⟩ = some (.string (Sm.cut21 (t ++ l.extract 1 l.size ++ ByteArray.mk #[10]))) := cell_at (FXm6.out _ HK8.out) 3 _ rfl
                have Y0 : w8.cell? ⟨bY, 0, none⟩ = some (.int .i64 st) := cell_at (HZY.out) 0 _ rfl
                have Y1 : w8.cell? ⟨bY, 1, none⟩ = some (.string f) := cell_at (HZY.out) 1 _ rfl
                have Y2 : w8.cell? ⟨bY, 2, none⟩ = some (.slice A us.length c) := cell_at (HZY.out) 2 _ rfl
                have Y3 : w8.cell? ⟨bY, 3, none⟩ = some (.string t) := cell_at (HZY.out) 3 _ rfl
                have fY0 := free_at HZY.out 0
                have fY1 := free_at HZY.out 1
                have fY2 := free_at HZY.out 2
                have fY3 := free_at HZY.out 3
                have HS1 : Hid (∀ v, Below w6.heap.size w6 (w8.setCell ⟨bY, 3, none⟩ v)) := Lib.hid (fun v => HK8.out.setCell (p := ⟨bY, 3, none⟩) hleY _)
                have HS2 : Hid (∀ v u, Below w6.heap.size w6 ((w8.setCell ⟨bY, 3, none⟩ v).setCell ⟨bY, 3, none⟩ u)) := Lib.hid (fun v u => (HS1.out v).setCell (p := ⟨bY, 3, none⟩) hleY _)
                go_wp2_with fail
                rw [HCT.out]
                first | refine Calls.mono (sameSub_any st f (Sm.cut21 (t ++ l.extract 1 l.size ++ ByteArray.mk #[10])) Al A us cl c _ (FAL6.out _ (HS1.out _)) (FAA6.out _ (HS1.out _)) hul) ?_ | refine Calls.mono (sameSub_any st f (Sm.cut21 (t ++ l.extract 1 l.size ++ ByteArray.mk #[10])) Al A us cl c _ (FAL6.out _ (HS2.out _ _)) (FAA6.out _ (HS2.out _ _)) hul) ?_
                rintro e wz ⟨rfl, hb⟩
                go_wp2_with fail
                go_ret
                first | exact ⟨rfl, FB6.out _ ((HS1.out _).trans (hb.mono (HS1.out _).size))⟩ | exact ⟨rfl, FB6.out _ ((HS2.out _ _).trans (hb.mono (HS2.out _ _).size))⟩
            · have b1 : ¬ ((l[0]'h0).toNat : Int) = 46 := fun e => h46 (UInt8.toNat_inj.1 (by have : (46 : UInt8).toNat = 46 := rfl; omega))
              have b0 : (((l[0]'h0).toNat : Int) == 46) = false := by simpa using b1
              have HST : Hid (Sm.strip l = l) := Lib.hid (Sm.strip_no (fun k => h46))
              clear h46
              have HXS : Hid ((t ++ l ++ ByteArray.mk #[10]).size = t.size + (l.size) + 1) := Lib.hid (by rw [ByteArray.size_append, ByteArray.size_append]; show _ + 1 = _; omega)
              have hzx : (l).size = l.size := by rfl
              have hz10 : (ByteArray.mk #[10]).size = 1 := rfl
              obtain ⟨e1, e2, e3, e4, e5⟩ : st = so ∧ f = fo ∧ us = uo ∧ Sm.cut21 (t ++ l ++ ByteArray.mk #[10]) = to_ ∧ (0 : Int) = no := by have := HD2.out; rw [HST.out] at this; injection this with a1 a2; injection a1 with b1 b2 b3 b4; exact ⟨b1, b2, b3, b4, a2⟩
              subst e1 e2 e3 e5
              clear hnn
              by_cases h21 : (t ++ l ++ ByteArray.mk #[10]).size ≤ 21
              · have hsz := HXS.out
                have h21i : ¬ (21 : Int) < ((t ++ l ++ ByteArray.mk #[10]).size : Int) := by omega
                have HCT : Hid (Sm.cut21 (t ++ l ++ ByteArray.mk #[10]) = (t ++ l ++ ByteArray.mk #[10])) := Lib.hid (Sm.cut21_small h21)
                clear h21 hsz
                rw [HCT.out] at e4
                subst e4
                have hi1 := trivial
                have h21j : ¬ (21 : Int) < (t.size : Int) + (l.size : Int) + 1 := by have := HXS.out; omega
                have hx := heap_alloc_new w7 (.cells #[.int .i64 st, .string f, .slice A us.length c, .string t] 36)
                have hE := Below.alloc (Below.refl w7.heap.size w7) (Nat.le_refl _) (.cells #[.int .i64 st, .string f, .slice A us.length c, .string t] 36)
                go_upto_region 12 with fail
                clear d0 d1 d2 d3 l0 l1 l2 l3 m0 m1 m2 m3
                generalize w7.alloc (.cells #[.int .i64 st, .string f, .slice A us.length c, .string t] 36) = w8 at hx hE ⊢
                obtain ⟨bY, hbb⟩ : ∃ b, b = w7.heap.size := ⟨_, rfl⟩
                rw [← hbb] at hx ⊢
                have hleY : w6.heap.size ≤ bY := by have := HK7.out.size; omega
                have hnedY : bd ≠ bY := by have := (Array.getElem?_eq_some_iff.1 (FXd6.out _ HK7.out)).1; omega
                have hneYd : bY ≠ bd := Ne.symm hnedY
                have hnelY : bl ≠ bY := by have := (Array.getElem?_eq_some_iff.1 (FXl6.out _ HK7.out)).1; omega
                have hneYl : bY ≠ bl := Ne.symm hnelY
                have hnemY : bm ≠ bY := by have := (Array.getElem?_eq_some_iff.1 (FXm6.out _ HK7.out)).1; omega
                have hneYm : bY ≠ bm := Ne.symm hnemY
                have HK8 := Lib.hid (HK7.out.trans (hE.mono HK7.out.size))
                have HZY := Lib.hid hx
                clear hx hE hbb
                have d0 : w8.cell? ⟨bd, 0, none⟩ = some (.int .i64 st) := cell_at (FXd6.out _ HK8.out) 0 _ rfl
                have d1 : w8.cell? ⟨bd, 1, none⟩ = some (.string f) := cell_at (FXd6.out _ HK8.out) 1 _ rfl
                have d2 : w8.cell? ⟨bd, 2, none⟩ = some (.slice A us.length c) := cell_at (FXd6.out _ HK8.out) 2 _ rfl
                have d3 : w8.cell? ⟨bd, 3, none⟩ = some (.string t) := cell_at (FXd6.out _ HK8.out) 3 _ rfl
                have l0 : w8.cell? ⟨bl, 0, none⟩ = some (.int .i64 st) := cell_at (FXl6.out _ HK8.out) 0 _ rfl
                have l1 : w8.cell? ⟨bl, 1, none⟩ = some (.string f) := cell_at (FXl6.out _ HK8.out) 1 _ rfl
                have l2 : w8.cell? ⟨bl, 2, none⟩ = some (.slice Al us.length cl) := cell_at (FXl6.out _ HK8.out) 2 _ rfl
                have l3 : w8.cell? ⟨bl, 3, none⟩ = some (.string (t ++ l ++ ByteArray.mk #[10])) := cell_at (FXl6.out _ HK8.out) 3 _ rfl
                have m0 : w8.cell? ⟨bm, 0, none⟩ = some (.int .i64 st) := cell_at (FXm6.out _ HK8.out) 0 _ rfl
                have m1 : w8.cell? ⟨bm, 1, none⟩ = some (.string f) := cell_at (FXm6.out _ HK8.out) 1 _ rfl
                have m2 : w8.cell? ⟨bm, 2, none⟩ = some (.slice Am us.length cm) := cell_at (FXm6.out _ HK8.out) 2 _ rfl
                have m3 : w8.cell? ⟨bm, 3, none⟩ = some (.string (t ++ l ++ ByteArray.mk #[10])) := cell_at (FXm6.out _ HK8.out) 3 _ rfl
                have Y0 : w8.cell? ⟨bY, 0, none⟩ = some (.int .i64 st) := cell_at (HZY.out) 0 _ rfl
                have Y1 : w8.cell? ⟨bY, 1, none⟩ = some (.string f) := cell_at (HZY.out) 1 _ rfl
                have Y2 : w8.cell? ⟨bY, 2, none⟩ = some (.slice A us.length c) := cell_at (HZY.out) 2 _ rfl
                have Y3 : w8.cell? ⟨bY, 3, none⟩ = some (.string t) := cell_at (HZY.out) 3 _ rfl
                have fY0 := free_at HZY.out 0
                have fY1 := free_at HZY.out 1
                have fY2 := free_at HZY.out 2
                have fY3 := free_at HZY.out 3
                have HS1 : Hid (∀ v, Below w6.heap.size w6 (w8.setCell ⟨bY, 3, none⟩ v)) := Lib.hid (fun v => HK8.out.setCell (p := ⟨bY, 3, none⟩) hleY _)
                have HS2 : Hid (∀ v u, Below w6.heap.size w6 ((w8.setCell ⟨bY, 3, none⟩ v).setCell ⟨bY, 3, none⟩ u)) := Lib.hid (fun v u => (HS1.out v).setCell (p := ⟨bY, 3, none⟩) hleY _)
                go_wp2_with fail
                first | refine Calls.mono (sameSub_any st f (t ++ l ++ ByteArray.mk #[10]) Al A us cl c _ (FAL6.out _ (HS1.out _)) (FAA6.out _ (HS1.out _)) hul) ?_ | refine Calls.mono (sameSub_any st f (t ++ l ++ ByteArray.mk #[10]) Al A us cl c _ (FAL6.out _ (HS2.out _ _)) (FAA6.out _ (HS2.out _ _)) hul) ?_
                rintro e wz ⟨rfl, hb⟩
                go_wp2_with fail
                go_ret
                first | exact ⟨rfl, FB6.out _ ((HS1.out _).trans (hb.mono (HS1.out _).size))⟩ | exact ⟨rfl, FB6.out _ ((HS2.out _ _).trans (hb.mono (HS2.out _ _).size))⟩
              · have hsz := HXS.out
                have h21i : (21 : Int) < ((t ++ l ++ ByteArray.mk #[10]).size : Int) := by omega
                have HCT : Hid ((t ++ l ++ ByteArray.mk #[10]).extract 0 21 = Sm.cut21 (t ++ l ++ ByteArray.mk #[10])) := Lib.hid (Sm.cut21_big (by omega))
                clear h21 hsz
                subst e4
                have hi1 := trivial
                have h21j : (21 : Int) < (t.size : Int) + (l.size : Int) + 1 := by have := HXS.out; omega
                have hx := heap_alloc_new w7 (.cells #[.int .i64 st, .string f, .slice A us.length c, .string t] 36)
                have hE := Below.alloc (Below.refl w7.heap.size w7) (Nat.le_refl _) (.cells #[.int .i64 st, .string f, .slice A us.length c, .string t] 36)
                go_upto_region 12 with fail
                clear d0 d1 d2 d3 l0 l1 l2 l3 m0 m1 m2 m3
                generalize w7.alloc (.cells #[.int .i64 st, .string f, .slice A us.length c, .string t] 36) = w8 at hx hE ⊢
                obtain ⟨bY, hbb⟩ : ∃ b, b = w7.heap.size := ⟨_, rfl⟩
                rw [← hbb] at hx ⊢
                have hleY : w6.heap.size ≤ bY := by have := HK7.out.size; omega
                have hnedY : bd ≠ bY := by have := (Array.getElem?_eq_some_iff.1 (FXd6.out _ HK7.out)).1; omega
                have hneYd : bY ≠ bd := Ne.symm hnedY
                have hnelY : bl ≠ bY := by have := (Array.getElem?_eq_some_iff.1 (FXl6.out _ HK7.out)).1; omega
                have hneYl : bY ≠ bl := Ne.symm hnelY
                have hnemY : bm ≠ bY := by have := (Array.getElem?_eq_some_iff.1 (FXm6.out _ HK7.out)).1; omega
                have hneYm : bY ≠ bm := Ne.symm hnemY
                have HK8 := Lib.hid (HK7.out.trans (hE.mono HK7.out.size))
                have HZY := Lib.hid hx
                clear hx hE hbb
                have d0 : w8.cell? ⟨bd, 0, none⟩ = some (.int .i64 st) := cell_at (FXd6.out _ HK8.out) 0 _ rfl
                have d1 : w8.cell? ⟨bd, 1, none⟩ = some (.string f) := cell_at (FXd6.out _ HK8.out) 1 _ rfl
                have d2 : w8.cell? ⟨bd, 2, none⟩ = some (.slice A us.length c) := cell_at (FXd6.out _ HK8.out) 2 _ rfl
                have d3 : w8.cell? ⟨bd, 3, none⟩ = some (.string t) := cell_at (FXd6.out _ HK8.out) 3 _ rfl
                have l0 : w8.cell? ⟨bl, 0, none⟩ = some (.int .i64 st) := cell_at (FXl6.out _ HK8.out) 0 _ rfl
                have l1 : w8.cell? ⟨bl, 1, none⟩ = some (.string f) := cell_at (FXl6.out _ HK8.out) 1 _ rfl
                have l2 : w8.cell? ⟨bl, 2, none⟩ = some (.slice Al us.length cl) := cell_at (FXl6.out _ HK8.out) 2 _ rfl
                have l3 : w8.cell? ⟨bl, 3, none⟩ = some (.string (Sm.cut21 (t ++ l ++ ByteArray.mk #[10]))) := cell_at (FXl6.out _ HK8.out) 3 _ rfl
                have m0 : w8.cell? ⟨bm, 0, none⟩ = some (.int .i64 st) := cell_at (FXm6.out _ HK8.out) 0 _ rfl
                have m1 : w8.cell? ⟨bm, 1, none⟩ = some (.string f) := cell_at (FXm6.out _ HK8.out) 1 _ rfl
                have m2 : w8.cell? ⟨bm, 2, none⟩ = some (.slice Am us.length cm) := cell_at (FXm6.out _ HK8.out) 2 _ rfl
                have m3 : w8.cell? ⟨bm, 3, none⟩ = some (.string (Sm.cut21 (t ++ l ++ ByteArray.mk #[10]))) := cell_at (FXm6.out _ HK8.out) 3 _ rfl
                have Y0 : w8.cell? ⟨bY, 0, none⟩ = some (.int .i64 st) := cell_at (HZY.out) 0 _ rfl
                have Y1 : w8.cell? ⟨bY, 1, none⟩ = some (.string f) := cell_at (HZY.out) 1 _ rfl
                have Y2 : w8.cell? ⟨bY, 2, none⟩ = some (.slice A us.length c) := cell_at (HZY.out) 2 _ rfl
                have Y3 : w8.cell? ⟨bY, 3, none⟩ = some (.string t) := cell_at (HZY.out) 3 _ rfl
                have fY0 := free_at HZY.out 0
                have fY1 := free_at HZY.out 1
                have fY2 := free_at HZY.out 2
                have fY3 := free_at HZY.out 3
                have HS1 : Hid (∀ v, Below w6.heap.size w6 (w8.setCell ⟨bY, 3, none⟩ v)) := Lib.hid (fun v => HK8.out.setCell (p := ⟨bY, 3, none⟩) hleY _)
                have HS2 : Hid (∀ v u, Below w6.heap.size w6 ((w8.setCell ⟨bY, 3, none⟩ v).setCell ⟨bY, 3, none⟩ u)) := Lib.hid (fun v u => (HS1.out v).setCell (p := ⟨bY, 3, none⟩) hleY _)
                go_wp2_with fail
                rw [HCT.out]
                first | refine Calls.mono (sameSub_any st f (Sm.cut21 (t ++ l ++ ByteArray.mk #[10])) Al A us cl c _ (FAL6.out _ (HS1.out _)) (FAA6.out _ (HS1.out _)) hul) ?_ | refine Calls.mono (sameSub_any st f (Sm.cut21 (t ++ l ++ ByteArray.mk #[10])) Al A us cl c _ (FAL6.out _ (HS2.out _ _)) (FAA6.out _ (HS2.out _ _)) hul) ?_
                rintro e wz ⟨rfl, hb⟩
                go_wp2_with fail
                go_ret
                first | exact ⟨rfl, FB6.out _ ((HS1.out _).trans (hb.mono (HS1.out _).size))⟩ | exact ⟨rfl, FB6.out _ ((HS2.out _ _).trans (hb.mono (HS2.out _ _).size))⟩
          · have hne : l.toList.isEmpty = true := Sm.em_of h0
            have hne2 : (!l.toList.isEmpty) = false := by rw [hne]; rfl
            have HST : Hid (Sm.strip l = l) := Lib.hid (Sm.strip_no (fun k => absurd k h0))
            have HXS : Hid ((t ++ l ++ ByteArray.mk #[10]).size = t.size + (l.size) + 1) := Lib.hid (by rw [ByteArray.size_append, ByteArray.size_append]; show _ + 1 = _; omega)
            have hzx : (l).size = l.size := by rfl
            have hz10 : (ByteArray.mk #[10]).size = 1 := rfl
            obtain ⟨e1, e2, e3, e4, e5⟩ : st = so ∧ f = fo ∧ us = uo ∧ Sm.cut21 (t ++ l ++ ByteArray.mk #[10]) = to_ ∧ (0 : Int) = no := by have := HD2.out; rw [HST.out] at this; injection this with a1 a2; injection a1 with b1 b2 b3 b4; exact ⟨b1, b2, b3, b4, a2⟩
            subst e1 e2 e3 e5
            clear hnn
            by_cases h21 : (t ++ l ++ ByteArray.mk #[10]).size ≤ 21
            · have hsz := HXS.out
              have h21i : ¬ (21 : Int) < ((t ++ l ++ ByteArray.mk #[10]).size : Int) := by omega
              have HCT : Hid (Sm.cut21 (t ++ l ++ ByteArray.mk #[10]) = (t ++ l ++ ByteArray.mk #[10])) := Lib.hid (Sm.cut21_small h21)
              clear h21 hsz
              rw [HCT.out] at e4
              subst e4
              have hi1 := trivial
              have h21j : ¬ (21 : Int) < (t.size : Int) + (l.size : Int) + 1 := by have := HXS.out; omega
              have hx := heap_alloc_new w7 (.cells #[.int .i64 st, .string f, .slice A us.length c, .string t] 36)
              have hE := Below.alloc (Below.refl w7.heap.size w7) (Nat.le_refl _) (.cells #[.int .i64 st, .string f, .slice A us.length c, .string t] 36)
              go_upto_region 12 with fail
              clear d0 d1 d2 d3 l0 l1 l2 l3 m0 m1 m2 m3
              generalize w7.alloc (.cells #[.int .i64 st, .string f, .slice A us.length c, .string t] 36) = w8 at hx hE ⊢
              obtain ⟨bY, hbb⟩ : ∃ b, b = w7.heap.size := ⟨_, rfl⟩
              rw [← hbb] at hx ⊢
              have hleY : w6.heap.size ≤ bY := by have := HK7.out.size; omega
              have hnedY : bd ≠ bY := by have := (Array.getElem?_eq_some_iff.1 (FXd6.out _ HK7.out)).1; omega
              have hneYd : bY ≠ bd := Ne.symm hnedY
              have hnelY : bl ≠ bY := by have := (Array.getElem?_eq_some_iff.1 (FXl6.out _ HK7.out)).1; omega
              have hneYl : bY ≠ bl := Ne.symm hnelY
              have hnemY : bm ≠ bY := by have := (Array.getElem?_eq_some_iff.1 (FXm6.out _ HK7.out)).1; omega
              have hneYm : bY ≠ bm := Ne.symm hnemY
              have HK8 := Lib.hid (HK7.out.trans (hE.mono HK7.out.size))
              have HZY := Lib.hid hx
              clear hx hE hbb
              have d0 : w8.cell? ⟨bd, 0, none⟩ = some (.int .i64 st) := cell_at (FXd6.out _ HK8.out) 0 _ rfl
              have d1 : w8.cell? ⟨bd, 1, none⟩ = some (.string f) := cell_at (FXd6.out _ HK8.out) 1 _ rfl
              have d2 : w8.cell? ⟨bd, 2, none⟩ = some (.slice A us.length c) := cell_at (FXd6.out _ HK8.out) 2 _ rfl
              have d3 : w8.cell? ⟨bd, 3, none⟩ = some (.string t) := cell_at (FXd6.out _ HK8.out) 3 _ rfl
              have l0 : w8.cell? ⟨bl, 0, none⟩ = some (.int .i64 st) := cell_at (FXl6.out _ HK8.out) 0 _ rfl
              have l1 : w8.cell? ⟨bl, 1, none⟩ = some (.string f) := cell_at (FXl6.out _ HK8.out) 1 _ rfl
              have l2 : w8.cell? ⟨bl, 2, none⟩ = some (.slice Al us.length cl) := cell_at (FXl6.out _ HK8.out) 2 _ rfl
              have l3 : w8.cell? ⟨bl, 3, none⟩ = some (.string (t ++ l ++ ByteArray.mk #[10])) := cell_at (FXl6.out _ HK8.out) 3 _ rfl
              have m0 : w8.cell? ⟨bm, 0, none⟩ = some (.int .i64 st) := cell_at (FXm6.out _ HK8.out) 0 _ rfl
              have m1 : w8.cell? ⟨bm, 1, none⟩ = some (.string f) := cell_at (FXm6.out _ HK8.out) 1 _ rfl
              have m2 : w8.cell? ⟨bm, 2, none⟩ = some (.slice Am us.length cm) := cell_at (FXm6.out _ HK8.out) 2 _ rfl
              have m3 : w8.cell? ⟨bm, 3, none⟩ = some (.string (t ++ l ++ ByteArray.mk #[10])) := cell_at (FXm6.out _ HK8.out) 3 _ rfl
              have Y0 : w8.cell? ⟨bY, 0, none⟩ = some (.int .i64 st) := cell_at (HZY.out) 0 _ rfl
              have Y1 : w8.cell? ⟨bY, 1, none⟩ = some (.string f) := cell_at (HZY.out) 1 _ rfl
              have Y2 : w8.cell? ⟨bY, 2, none⟩ = some (.slice A us.length c) := cell_at (HZY.out) 2 _ rfl
              have Y3 : w8.cell? ⟨bY, 3, none⟩ = some (.string t) := cell_at (HZY.out) 3 _ rfl
              have fY0 := free_at HZY.out 0
              have fY1 := free_at HZY.out 1
              have fY2 := free_at HZY.out 2
              have fY3 := free_at HZY.out 3
              have HS1 : Hid (∀ v, Below w6.heap.size w6 (w8.setCell ⟨bY, 3, none⟩ v)) := Lib.hid (fun v => HK8.out.setCell (p := ⟨bY, 3, none⟩) hleY _)
              have HS2 : Hid (∀ v u, Below w6.heap.size w6 ((w8.setCell ⟨bY, 3, none⟩ v).setCell ⟨bY, 3, none⟩ u)) := Lib.hid (fun v u => (HS1.out v).setCell (p := ⟨bY, 3, none⟩) hleY _)
              go_wp2_with fail
              first | refine Calls.mono (sameSub_any st f (t ++ l ++ ByteArray.mk #[10]) Al A us cl c _ (FAL6.out _ (HS1.out _)) (FAA6.out _ (HS1.out _)) hul) ?_ | refine Calls.mono (sameSub_any st f (t ++ l ++ ByteArray.mk #[10]) Al A us cl c _ (FAL6.out _ (HS2.out _ _)) (FAA6.out _ (HS2.out _ _)) hul) ?_
              rintro e wz ⟨rfl, hb⟩
              go_wp2_with fail
              go_ret
              first | exact ⟨rfl, FB6.out _ ((HS1.out _).trans (hb.mono (HS1.out _).size))⟩ | exact ⟨rfl, FB6.out _ ((HS2.out _ _).trans (hb.mono (HS2.out _ _).size))⟩
            · have hsz := HXS.out
              have h21i : (21 : Int) < ((t ++ l ++ ByteArray.mk #[10]).size : Int) := by omega
              have HCT : Hid ((t ++ l ++ ByteArray.mk #[10]).extract 0 21 = Sm.cut21 (t ++ l ++ ByteArray.mk #[10])) := Lib.hid (Sm.cut21_big (by omega))
              clear h21 hsz
              subst e4
              have hi1 := trivial
              have h21j : (21 : Int) < (t.size : Int) + (l.size : Int) + 1 := by have := HXS.out; omega
              have hx := heap_alloc_new w7 (.cells #[.int .i64 st, .string f, .slice A us.length c, .string t] 36)
              have hE := Below.alloc (Below.refl w7.heap.size w7) (Nat.le_refl _) (.cells #[.int .i64 st, .string f, .slice A us.length c, .string t] 36)
              go_upto_region 12 with fail
              clear d0 d1 d2 d3 l0 l1 l2 l3 m0 m1 m2 m3
              generalize w7.alloc (.cells #[.int .i64 st, .string f, .slice A us.length c, .string t] 36) = w8 at hx hE ⊢
              obtain ⟨bY, hbb⟩ : ∃ b, b = w7.heap.size := ⟨_, rfl⟩
              rw [← hbb] at hx ⊢
              have hleY : w6.heap.size ≤ bY := by have := HK7.out.size; omega
              have hnedY : bd ≠ bY := by have := (Array.getElem?_eq_some_iff.1 (FXd6.out _ HK7.out)).1; omega
              have hneYd : bY ≠ bd := Ne.symm hnedY
              have hnelY : bl ≠ bY := by have := (Array.getElem?_eq_some_iff.1 (FXl6.out _ HK7.out)).1; omega
              have hneYl : bY ≠ bl := Ne.symm hnelY
              have hnemY : bm ≠ bY := by have := (Array.getElem?_eq_some_iff.1 (FXm6.out _ HK7.out)).1; omega
              have hneYm : bY ≠ bm := Ne.symm hnemY
              have HK8 := Lib.hid (HK7.out.trans (hE.mono HK7.out.size))
              have HZY := Lib.hid hx
              clear hx hE hbb
              have d0 : w8.cell? ⟨bd, 0, none⟩ = some (.int .i64 st) := cell_at (FXd6.out _ HK8.out) 0 _ rfl
              have d1 : w8.cell? ⟨bd, 1, none⟩ = some (.string f) := cell_at (FXd6.out _ HK8.out) 1 _ rfl
              have d2 : w8.cell? ⟨bd, 2, none⟩ = some (.slice A us.length c) := cell_at (FXd6.out _ HK8.out) 2 _ rfl
              have d3 : w8.cell? ⟨bd, 3, none⟩ = some (.string t) := cell_at (FXd6.out _ HK8.out) 3 _ rfl
              have l0 : w8.cell? ⟨bl, 0, none⟩ = some (.int .i64 st) := cell_at (FXl6.out _ HK8.out) 0 _ rfl
              have l1 : w8.cell? ⟨bl, 1, none⟩ = some (.string f) := cell_at (FXl6.out _ HK8.out) 1 _ rfl
              have l2 : w8.cell? ⟨bl, 2, none⟩ = some (.slice Al us.length cl) := cell_at (FXl6.out _ HK8.out) 2 _ rfl
              have l3 : w8.cell? ⟨bl, 3, none⟩ = some (.string (Sm.cut21 (t ++ l ++ ByteArray.mk #[10]))) := cell_at (FXl6.out _ HK8.out) 3 _ rfl
              have m0 : w8.cell? ⟨bm, 0, none⟩ = some (.int .i64 st) := cell_at (FXm6.out _ HK8.out) 0 _ rfl
              have m1 : w8.cell? ⟨bm, 1, none⟩ = some (.string f) := cell_at (FXm6.out _ HK8.out) 1 _ rfl
              have m2 : w8.cell? ⟨bm, 2, none⟩ = some (.slice Am us.length cm) := cell_at (FXm6.out _ HK8.out) 2 _ rfl
              have m3 : w8.cell? ⟨bm, 3, none⟩ = some (.string (Sm.cut21 (t ++ l ++ ByteArray.mk #[10]))) := cell_at (FXm6.out _ HK8.out) 3 _ rfl
              have Y0 : w8.cell? ⟨bY, 0, none⟩ = some (.int .i64 st) := cell_at (HZY.out) 0 _ rfl
              have Y1 : w8.cell? ⟨bY, 1, none⟩ = some (.string f) := cell_at (HZY.out) 1 _ rfl
              have Y2 : w8.cell? ⟨bY, 2, none⟩ = some (.slice A us.length c) := cell_at (HZY.out) 2 _ rfl
              have Y3 : w8.cell? ⟨bY, 3, none⟩ = some (.string t) := cell_at (HZY.out) 3 _ rfl
              have fY0 := free_at HZY.out 0
              have fY1 := free_at HZY.out 1
              have fY2 := free_at HZY.out 2
              have fY3 := free_at HZY.out 3
              have HS1 : Hid (∀ v, Below w6.heap.size w6 (w8.setCell ⟨bY, 3, none⟩ v)) := Lib.hid (fun v => HK8.out.setCell (p := ⟨bY, 3, none⟩) hleY _)
              have HS2 : Hid (∀ v u, Below w6.heap.size w6 ((w8.setCell ⟨bY, 3, none⟩ v).setCell ⟨bY, 3, none⟩ u)) := Lib.hid (fun v u => (HS1.out v).setCell (p := ⟨bY, 3, none⟩) hleY _)
              go_wp2_with fail
              rw [HCT.out]
              first | refine Calls.mono (sameSub_any st f (Sm.cut21 (t ++ l ++ ByteArray.mk #[10])) Al A us cl c _ (FAL6.out _ (HS1.out _)) (FAA6.out _ (HS1.out _)) hul) ?_ | refine Calls.mono (sameSub_any st f (Sm.cut21 (t ++ l ++ ByteArray.mk #[10])) Al A us cl c _ (FAL6.out _ (HS2.out _ _)) (FAA6.out _ (HS2.out _ _)) hul) ?_
              rintro e wz ⟨rfl, hb⟩
              go_wp2_with fail
              go_ret
              first | exact ⟨rfl, FB6.out _ ((HS1.out _).trans (hb.mono (HS1.out _).size))⟩ | exact ⟨rfl, FB6.out _ ((HS2.out _ _).trans (hb.mono (HS2.out _ _).size))⟩
      · have h5i : (st != 5) = true := by simpa using h5
        clear h5
        go_wp2_with fail
        refine Calls.mono (sameSub_any so fo to_ Al Am uo cl cm _ (FAL6.out _ HK7.out) (FAM6.out _ HK7.out) hulo) ?_
        rintro e w8 ⟨rfl, hb⟩
        clear d0 d1 d2 d3 l0 l1 l2 l3 m0 m1 m2 m3
        have HK8 := Lib.hid (HK7.out.trans (hb.mono HK7.out.size))
        clear hb
        have d0 : w8.cell? ⟨bd, 0, none⟩ = some (.int .i64 st) := cell_at (FXd6.out _ HK8.out) 0 _ rfl
        have d1 : w8.cell? ⟨bd, 1, none⟩ = some (.string f) := cell_at (FXd6.out _ HK8.out) 1 _ rfl
        have d2 : w8.cell? ⟨bd, 2, none⟩ = some (.slice A us.length c) := cell_at (FXd6.out _ HK8.out) 2 _ rfl
        have d3 : w8.cell? ⟨bd, 3, none⟩ = some (.string t) := cell_at (FXd6.out _ HK8.out) 3 _ rfl
        have l0 : w8.cell? ⟨bl, 0, none⟩ = some (.int .i64 so) := cell_at (FXl6.out _ HK8.out) 0 _ rfl
        have l1 : w8.cell? ⟨bl, 1, none⟩ = some (.string fo) := cell_at (FXl6.out _ HK8.out) 1 _ rfl
        have l2 : w8.cell? ⟨bl, 2, none⟩ = some (.slice Al uo.length cl) := cell_at (FXl6.out _ HK8.out) 2 _ rfl
        have l3 : w8.cell? ⟨bl, 3, none⟩ = some (.string to_) := cell_at (FXl6.out _ HK8.out) 3 _ rfl
        have m0 : w8.cell? ⟨bm, 0, none⟩ = some (.int .i64 so) := cell_at (FXm6.out _ HK8.out) 0 _ rfl
        have m1 : w8.cell? ⟨bm, 1, none⟩ = some (.string fo) := cell_at (FXm6.out _ HK8.out) 1 _ rfl
        have m2 : w8.cell? ⟨bm, 2, none⟩ = some (.slice Am uo.length cm) := cell_at (FXm6.out _ HK8.out) 2 _ rfl
        have m3 : w8.cell? ⟨bm, 3, none⟩ = some (.string to_) := cell_at (FXm6.out _ HK8.out) 3 _ rfl
        go_wp2_with fail
        go_ret
        exact ⟨rfl, (FB6.out _ HK8.out)⟩
    · have hno : no = -1 := by have := HR.out; rw [Sm.ans_bad hans] at this; injection this with _ this; exact this.symm
      have hneg : no < 0 := by omega
      clear hans hno
      go_wp2_with fail
      refine Calls.mono (sameSub_any so fo to_ Al Am uo cl cm _ (FAL6.out _ HK7.out) (FAM6.out _ HK7.out) hulo) ?_
      rintro e w8 ⟨rfl, hb⟩
      clear d0 d1 d2 d3 l0 l1 l2 l3 m0 m1 m2 m3
      have HK8 := Lib.hid (HK7.out.trans (hb.mono HK7.out.size))
      clear hb
      have d0 : w8.cell? ⟨bd, 0, none⟩ = some (.int .i64 st) := cell_at (FXd6.out _ HK8.out) 0 _ rfl
      have d1 : w8.cell? ⟨bd, 1, none⟩ = some (.string f) := cell_at (FXd6.out _ HK8.out) 1 _ rfl
      have d2 : w8.cell? ⟨bd, 2, none⟩ = some (.slice A us.length c) := cell_at (FXd6.out _ HK8.out) 2 _ rfl
      have d3 : w8.cell? ⟨bd, 3, none⟩ = some (.string t) := cell_at (FXd6.out _ HK8.out) 3 _ rfl
      have l0 : w8.cell? ⟨bl, 0, none⟩ = some (.int .i64 so) := cell_at (FXl6.out _ HK8.out) 0 _ rfl
      have l1 : w8.cell? ⟨bl, 1, none⟩ = some (.string fo) := cell_at (FXl6.out _ HK8.out) 1 _ rfl
      have l2 : w8.cell? ⟨bl, 2, none⟩ = some (.slice Al uo.length cl) := cell_at (FXl6.out _ HK8.out) 2 _ rfl
      have l3 : w8.cell? ⟨bl, 3, none⟩ = some (.string to_) := cell_at (FXl6.out _ HK8.out) 3 _ rfl
      have m0 : w8.cell? ⟨bm, 0, none⟩ = some (.int .i64 so) := cell_at (FXm6.out _ HK8.out) 0 _ rfl
      have m1 : w8.cell? ⟨bm, 1, none⟩ = some (.string fo) := cell_at (FXm6.out _ HK8.out) 1 _ rfl
      have m2 : w8.cell? ⟨bm, 2, none⟩ = some (.slice Am uo.length cm) := cell_at (FXm6.out _ HK8.out) 2 _ rfl
      have m3 : w8.cell? ⟨bm, 3, none⟩ = some (.string to_) := cell_at (FXm6.out _ HK8.out) 3 _ rfl
      go_wp2_with fail
      go_ret
      exact ⟨rfl, (FB6.out _ HK8.out)⟩
  · have hbi : (1048576 : Int) < (len : Int) := by omega
    go_enter Tryz.func11, Tryz.ntmps11
    go_wp2_with fail
    go_ret
    exact ⟨rfl, Below.refl _ _⟩
end Go.Proofs.YtnbggmmghopphaaGreatDoor
