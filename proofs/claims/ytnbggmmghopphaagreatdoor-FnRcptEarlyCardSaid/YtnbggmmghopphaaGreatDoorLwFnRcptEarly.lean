/- FnRcptEarly: the walk. (Printed by mklw.py.) -/
import Derived.Test.YtnbggmmghopphaaGreatDoorSmUu
import Derived.Test.YtnbggmmghopphaaGreatDoorLwPl
import Derived.Test.YtnbggmmghopphaaGreatDoorLwKn
import Derived.Test.YtnbggmmghopphaaGreatDoorLwOw
import Derived.Deep.RegionHeld3
import Derived.Deep.DeepCutAuto
namespace Go.Proofs.YtnbggmmghopphaaGreatDoor
set_option linter.unusedVariables false
open Go.RowKit
open Us (U)

set_option maxRecDepth 100000 in
set_option maxHeartbeats 6400000 in
theorem walkFnRcptEarly (a : Option Addr) (len cap : Nat) (w : World) (h : Bytes w a len cap) (m : Int) (hm : w.cell? ⟨0, 0, none⟩ = some (.int .i64 m)) :
    Calls Tryz.prog 10 #[.slice a len cap] w fun e w' => e = .returned (.bool true) ∧ Below w.heap.size w w' := by
  by_cases hbig : len ≤ 1048576
  · have hbi : ¬ (1048576 : Int) < (len : Int) := by omega
    have hpos := Po.base_pos hm
    go_enter Tryz.func10, Tryz.ntmps10
    go_wp2_with fail
    refine Calls.mono (drawSubmissionLine_any a len cap _ h) ?_
    rintro e w1 ⟨st, f, A, us, c, t, Au, vs, cu, d, l, hsm, hcap, hcm, hsv, hds, hls, rfl, hat, hau, hb1⟩
    have hfm := (Sm.small_max hsm).1
    have htm := (Sm.small_max hsm).2.1
    have hul := Sm.small_len hsm
    dsimp only at hfm htm hul
    have hvl : vs.length ≤ maxLen := small_len hsv
    have hdz : d.size ≤ 16777216 := by omega
    have hlz : l.size ≤ 16777216 := by omega
    have FU1 : Hid (∀ w', Below w1.heap.size w1 w' → AtUsers w' w'.heap.size Au vs) := Lib.hid (fun w' hb => ((at_users hau (small_sizes hsv)).below hb).mono hb.size)
    have FM1 : Hid (∀ w', Below w1.heap.size w1 w' → w'.cell? ⟨0, 0, none⟩ = some (.int .i64 m)) := Lib.hid (fun w' hb => Po.mem (hb1.trans (hb.mono hb1.size)) hm hpos)
    have FB1 : Hid (∀ w', Below w1.heap.size w1 w' → Below w.heap.size w w') := Lib.hid (fun w' hb => hb1.trans (hb.mono hb1.size))
    have FAA1 : Hid (∀ w', Below w1.heap.size w1 w' → AtStrs w' w'.heap.size A us) := Lib.hid (fun w' hb => (hat.below hb).mono hb.size)
    have HK1 : Hid (Below w1.heap.size w1 w1) := Lib.hid (Below.refl _ _)
    have HSM := Lib.hid hsm
    clear hat hau hb1 hm h hsm
    have hx := heap_alloc_new w1 (.cells #[.int .i64 st, .string f, .slice A us.length c, .string t] 36)
    have hE := Below.alloc (Below.refl w1.heap.size w1) (Nat.le_refl _) (.cells #[.int .i64 st, .string f, .slice A us.length c, .string t] 36)
    have hs : w1.heap.size < (w1.alloc (.cells #[.int .i64 st, .string f, .slice A us.length c, .string t] 36)).heap.size := by simp
    go_upto_region 4 with fail
    generalize w1.alloc (.cells #[.int .i64 st, .string f, .slice A us.length c, .string t] 36) = w2 at hx hE hs ⊢
    obtain ⟨bd, hbb⟩ : ∃ b, b = w1.heap.size := ⟨_, rfl⟩
    rw [← hbb] at hx hs ⊢
    have HK2 := Lib.hid (HK1.out.trans (hE.mono HK1.out.size))
    have FXd2 : Hid (∀ w', Below w2.heap.size w2 w' → w'.heap[bd]? = some (.cells #[.int .i64 st, .string f, .slice A us.length c, .string t] 36 (0, 0))) := Lib.hid (fun w' hb => (hb.block _ hs).trans hx)
    clear hx hE hs hbb
    have FU2 := Lib.hid (fun w' (hb : Below w2.heap.size w2 w') => FU1.out w' (HK2.out.trans (hb.mono HK2.out.size)))
    have FM2 := Lib.hid (fun w' (hb : Below w2.heap.size w2 w') => FM1.out w' (HK2.out.trans (hb.mono HK2.out.size)))
    have FB2 := Lib.hid (fun w' (hb : Below w2.heap.size w2 w') => FB1.out w' (HK2.out.trans (hb.mono HK2.out.size)))
    have FAA2 := Lib.hid (fun w' (hb : Below w2.heap.size w2 w') => FAA1.out w' (HK2.out.trans (hb.mono HK2.out.size)))
    have HKb : Hid (Below w2.heap.size w2 w2) := Lib.hid (Below.refl _ _)
    clear HK2
    have HK2 := HKb
    clear HKb
    have d0 : w2.cell? ⟨bd, 0, none⟩ = some (.int .i64 st) := cell_at (FXd2.out _ HK2.out) 0 _ rfl
    have d1 : w2.cell? ⟨bd, 1, none⟩ = some (.string f) := cell_at (FXd2.out _ HK2.out) 1 _ rfl
    have d2 : w2.cell? ⟨bd, 2, none⟩ = some (.slice A us.length c) := cell_at (FXd2.out _ HK2.out) 2 _ rfl
    have d3 : w2.cell? ⟨bd, 3, none⟩ = some (.string t) := cell_at (FXd2.out _ HK2.out) 3 _ rfl
    obtain ⟨R, hR⟩ : ∃ R, R = Sm.ans vs d ⟨st, f, us, t⟩ l := ⟨_, rfl⟩
    obtain ⟨⟨so, fo, uo, to_⟩, no⟩ := R
    have HR := Lib.hid hR.symm
    have hulo : uo.length ≤ maxLen := by have := (Sm.ans_sizes vs d ⟨st, f, us, t⟩ l).1; rw [← hR] at this; unfold maxLen; dsimp only at this; omega
    have hfo : fo.size ≤ maxLen := by have := (Sm.ans_sizes vs d ⟨st, f, us, t⟩ l).2.2.1; rw [← hR] at this; exact this
    have hto : to_.size ≤ maxLen := by have := (Sm.ans_sizes vs d ⟨st, f, us, t⟩ l).2.2.2; rw [← hR] at this; exact this
    clear hR
    go_wp2_with fail
    refine Calls.mono (iLine_any st f t A us c _ (FAA2.out _ HK2.out) hcap hcm hfm htm Au vs cu (FU2.out _ HK2.out) hvl d l hdz hlz m (FM2.out _ HK2.out) HR.out) ?_
    rintro e w3 ⟨Al, cl, rfl, hatl, hkl, hjl, hb⟩
    clear d0 d1 d2 d3
    have HK3 := Lib.hid (HK2.out.trans (hb.mono HK2.out.size))
    clear hb
    have d0 : w3.cell? ⟨bd, 0, none⟩ = some (.int .i64 st) := cell_at (FXd2.out _ HK3.out) 0 _ rfl
    have d1 : w3.cell? ⟨bd, 1, none⟩ = some (.string f) := cell_at (FXd2.out _ HK3.out) 1 _ rfl
    have d2 : w3.cell? ⟨bd, 2, none⟩ = some (.slice A us.length c) := cell_at (FXd2.out _ HK3.out) 2 _ rfl
    have d3 : w3.cell? ⟨bd, 3, none⟩ = some (.string t) := cell_at (FXd2.out _ HK3.out) 3 _ rfl
    clear d0 d1 d2 d3
    have hx := heap_alloc_new w3 (.cells #[.int .i64 so, .string fo, .slice Al uo.length cl, .string to_] 36)
    have hE := Below.alloc (Below.refl w3.heap.size w3) (Nat.le_refl _) (.cells #[.int .i64 so, .string fo, .slice Al uo.length cl, .string to_] 36)
    have hs : w3.heap.size < (w3.alloc (.cells #[.int .i64 so, .string fo, .slice Al uo.length cl, .string to_] 36)).heap.size := by simp
    go_upto_region 5 with fail
    generalize w3.alloc (.cells #[.int .i64 so, .string fo, .slice Al uo.length cl, .string to_] 36) = w4 at hx hE hs ⊢
    obtain ⟨bl, hbb⟩ : ∃ b, b = w3.heap.size := ⟨_, rfl⟩
    rw [← hbb] at hx hs ⊢
    have hltdl : bd < bl := by have := (Array.getElem?_eq_some_iff.1 (FXd2.out _ HK3.out)).1; omega
    have HK4 := Lib.hid (HK3.out.trans (hE.mono HK3.out.size))
    have FXl4 : Hid (∀ w', Below w4.heap.size w4 w' → w'.heap[bl]? = some (.cells #[.int .i64 so, .string fo, .slice Al uo.length cl, .string to_] 36 (0, 0))) := Lib.hid (fun w' hb => (hb.block _ hs).trans hx)
    have FAL4 : Hid (∀ w', Below w4.heap.size w4 w' → AtStrs w' w'.heap.size Al uo) := Lib.hid (fun w' hb => (((hatl.below hE).mono hE.size).below hb).mono hb.size)
    clear hx hE hs hbb
    have FU4 := Lib.hid (fun w' (hb : Below w4.heap.size w4 w') => FU2.out w' (HK4.out.trans (hb.mono HK4.out.size)))
    have FM4 := Lib.hid (fun w' (hb : Below w4.heap.size w4 w') => FM2.out w' (HK4.out.trans (hb.mono HK4.out.size)))
    have FB4 := Lib.hid (fun w' (hb : Below w4.heap.size w4 w') => FB2.out w' (HK4.out.trans (hb.mono HK4.out.size)))
    have FXd4 := Lib.hid (fun w' (hb : Below w4.heap.size w4 w') => FXd2.out w' (HK4.out.trans (hb.mono HK4.out.size)))
    have FAA4 := Lib.hid (fun w' (hb : Below w4.heap.size w4 w') => FAA2.out w' (HK4.out.trans (hb.mono HK4.out.size)))
    have HKb : Hid (Below w4.heap.size w4 w4) := Lib.hid (Below.refl _ _)
    clear HK4
    have HK4 := HKb
    clear HKb
    have d0 : w4.cell? ⟨bd, 0, none⟩ = some (.int .i64 st) := cell_at (FXd4.out _ HK4.out) 0 _ rfl
    have d1 : w4.cell? ⟨bd, 1, none⟩ = some (.string f) := cell_at (FXd4.out _ HK4.out) 1 _ rfl
    have d2 : w4.cell? ⟨bd, 2, none⟩ = some (.slice A us.length c) := cell_at (FXd4.out _ HK4.out) 2 _ rfl
    have d3 : w4.cell? ⟨bd, 3, none⟩ = some (.string t) := cell_at (FXd4.out _ HK4.out) 3 _ rfl
    have l0 : w4.cell? ⟨bl, 0, none⟩ = some (.int .i64 so) := cell_at (FXl4.out _ HK4.out) 0 _ rfl
    have l1 : w4.cell? ⟨bl, 1, none⟩ = some (.string fo) := cell_at (FXl4.out _ HK4.out) 1 _ rfl
    have l2 : w4.cell? ⟨bl, 2, none⟩ = some (.slice Al uo.length cl) := cell_at (FXl4.out _ HK4.out) 2 _ rfl
    have l3 : w4.cell? ⟨bl, 3, none⟩ = some (.string to_) := cell_at (FXl4.out _ HK4.out) 3 _ rfl
    clear hatl
    go_wp2_with fail
    refine Calls.mono (sLine_any st f t A us c _ (FAA4.out _ HK4.out) hcap hcm hfm htm Au vs cu (FU4.out _ HK4.out) hvl d l hdz hlz HR.out) ?_
    rintro e w5 ⟨Am, cm, rfl, hatm, hkm, hjm, hb⟩
    clear d0 d1 d2 d3 l0 l1 l2 l3
    have HK5 := Lib.hid (HK4.out.trans (hb.mono HK4.out.size))
    clear hb
    have d0 : w5.cell? ⟨bd, 0, none⟩ = some (.int .i64 st) := cell_at (FXd4.out _ HK5.out) 0 _ rfl
    have d1 : w5.cell? ⟨bd, 1, none⟩ = some (.string f) := cell_at (FXd4.out _ HK5.out) 1 _ rfl
    have d2 : w5.cell? ⟨bd, 2, none⟩ = some (.slice A us.length c) := cell_at (FXd4.out _ HK5.out) 2 _ rfl
    have d3 : w5.cell? ⟨bd, 3, none⟩ = some (.string t) := cell_at (FXd4.out _ HK5.out) 3 _ rfl
    have l0 : w5.cell? ⟨bl, 0, none⟩ = some (.int .i64 so) := cell_at (FXl4.out _ HK5.out) 0 _ rfl
    have l1 : w5.cell? ⟨bl, 1, none⟩ = some (.string fo) := cell_at (FXl4.out _ HK5.out) 1 _ rfl
    have l2 : w5.cell? ⟨bl, 2, none⟩ = some (.slice Al uo.length cl) := cell_at (FXl4.out _ HK5.out) 2 _ rfl
    have l3 : w5.cell? ⟨bl, 3, none⟩ = some (.string to_) := cell_at (FXl4.out _ HK5.out) 3 _ rfl
    clear d0 d1 d2 d3 l0 l1 l2 l3
    have hx := heap_alloc_new w5 (.cells #[.int .i64 so, .string fo, .slice Am uo.length cm, .string to_] 36)
    have hE := Below.alloc (Below.refl w5.heap.size w5) (Nat.le_refl _) (.cells #[.int .i64 so, .string fo, .slice Am uo.length cm, .string to_] 36)
    have hs : w5.heap.size < (w5.alloc (.cells #[.int .i64 so, .string fo, .slice Am uo.length cm, .string to_] 36)).heap.size := by simp
    go_upto_region 6 with fail
    generalize w5.alloc (.cells #[.int .i64 so, .string fo, .slice Am uo.length cm, .string to_] 36) = w6 at hx hE hs ⊢
    obtain ⟨bm, hbb⟩ : ∃ b, b = w5.heap.size := ⟨_, rfl⟩
    rw [← hbb] at hx hs ⊢
    have hltdm : bd < bm := by have := (Array.getElem?_eq_some_iff.1 (FXd4.out _ HK5.out)).1; omega
    have hltlm : bl < bm := by have := (Array.getElem?_eq_some_iff.1 (FXl4.out _ HK5.out)).1; omega
    have HK6 := Lib.hid (HK5.out.trans (hE.mono HK5.out.size))
    have FXm6 : Hid (∀ w', Below w6.heap.size w6 w' → w'.heap[bm]? = some (.cells #[.int .i64 so, .string fo, .slice Am uo.length cm, .string to_] 36 (0, 0))) := Lib.hid (fun w' hb => (hb.block _ hs).trans hx)
    have FAM6 : Hid (∀ w', Below w6.heap.size w6 w' → AtStrs w' w'.heap.size Am uo) := Lib.hid (fun w' hb => (((hatm.below hE).mono hE.size).below hb).mono hb.size)
    clear hx hE hs hbb
    have FU6 := Lib.hid (fun w' (hb : Below w6.heap.size w6 w') => FU4.out w' (HK6.out.trans (hb.mono HK6.out.size)))
    have FM6 := Lib.hid (fun w' (hb : Below w6.heap.size w6 w') => FM4.out w' (HK6.out.trans (hb.mono HK6.out.size)))
    have FB6 := Lib.hid (fun w' (hb : Below w6.heap.size w6 w') => FB4.out w' (HK6.out.trans (hb.mono HK6.out.size)))
    have FXd6 := Lib.hid (fun w' (hb : Below w6.heap.size w6 w') => FXd4.out w' (HK6.out.trans (hb.mono HK6.out.size)))
    have FXl6 := Lib.hid (fun w' (hb : Below w6.heap.size w6 w') => FXl4.out w' (HK6.out.trans (hb.mono HK6.out.size)))
    have FAA6 := Lib.hid (fun w' (hb : Below w6.heap.size w6 w') => FAA4.out w' (HK6.out.trans (hb.mono HK6.out.size)))
    have FAL6 := Lib.hid (fun w' (hb : Below w6.heap.size w6 w') => FAL4.out w' (HK6.out.trans (hb.mono HK6.out.size)))
    have HKb : Hid (Below w6.heap.size w6 w6) := Lib.hid (Below.refl _ _)
    clear HK6
    have HK6 := HKb
    clear HKb
    have d0 : w6.cell? ⟨bd, 0, none⟩ = some (.int .i64 st) := cell_at (FXd6.out _ HK6.out) 0 _ rfl
    have d1 : w6.cell? ⟨bd, 1, none⟩ = some (.string f) := cell_at (FXd6.out _ HK6.out) 1 _ rfl
    have d2 : w6.cell? ⟨bd, 2, none⟩ = some (.slice A us.length c) := cell_at (FXd6.out _ HK6.out) 2 _ rfl
    have d3 : w6.cell? ⟨bd, 3, none⟩ = some (.string t) := cell_at (FXd6.out _ HK6.out) 3 _ rfl
    have l0 : w6.cell? ⟨bl, 0, none⟩ = some (.int .i64 so) := cell_at (FXl6.out _ HK6.out) 0 _ rfl
    have l1 : w6.cell? ⟨bl, 1, none⟩ = some (.string fo) := cell_at (FXl6.out _ HK6.out) 1 _ rfl
    have l2 : w6.cell? ⟨bl, 2, none⟩ = some (.slice Al uo.length cl) := cell_at (FXl6.out _ HK6.out) 2 _ rfl
    have l3 : w6.cell? ⟨bl, 3, none⟩ = some (.string to_) := cell_at (FXl6.out _ HK6.out) 3 _ rfl
    have m0 : w6.cell? ⟨bm, 0, none⟩ = some (.int .i64 so) := cell_at (FXm6.out _ HK6.out) 0 _ rfl
    have m1 : w6.cell? ⟨bm, 1, none⟩ = some (.string fo) := cell_at (FXm6.out _ HK6.out) 1 _ rfl
    have m2 : w6.cell? ⟨bm, 2, none⟩ = some (.slice Am uo.length cm) := cell_at (FXm6.out _ HK6.out) 2 _ rfl
    have m3 : w6.cell? ⟨bm, 3, none⟩ = some (.string to_) := cell_at (FXm6.out _ HK6.out) 3 _ rfl
    clear hatm
    go_wp2_with fail
    refine Calls.mono (sameSub_any so fo to_ Al Am uo cl cm _ (FAL6.out _ HK6.out) (FAM6.out _ HK6.out) hulo) ?_
    rintro e w7 ⟨rfl, hb⟩
    clear d0 d1 d2 d3 l0 l1 l2 l3 m0 m1 m2 m3
    have HK7 := Lib.hid (HK6.out.trans (hb.mono HK6.out.size))
    clear hb
    have d0 : w7.cell? ⟨bd, 0, none⟩ = some (.int .i64 st) := cell_at (FXd6.out _ HK7.out) 0 _ rfl
    have d1 : w7.cell? ⟨bd, 1, none⟩ = some (.string f) := cell_at (FXd6.out _ HK7.out) 1 _ rfl
    have d2 : w7.cell? ⟨bd, 2, none⟩ = some (.slice A us.length c) := cell_at (FXd6.out _ HK7.out) 2 _ rfl
    have d3 : w7.cell? ⟨bd, 3, none⟩ = some (.string t) := cell_at (FXd6.out _ HK7.out) 3 _ rfl
    have l0 : w7.cell? ⟨bl, 0, none⟩ = some (.int .i64 so) := cell_at (FXl6.out _ HK7.out) 0 _ rfl
    have l1 : w7.cell? ⟨bl, 1, none⟩ = some (.string fo) := cell_at (FXl6.out _ HK7.out) 1 _ rfl
    have l2 : w7.cell? ⟨bl, 2, none⟩ = some (.slice Al uo.length cl) := cell_at (FXl6.out _ HK7.out) 2 _ rfl
    have l3 : w7.cell? ⟨bl, 3, none⟩ = some (.string to_) := cell_at (FXl6.out _ HK7.out) 3 _ rfl
    have m0 : w7.cell? ⟨bm, 0, none⟩ = some (.int .i64 so) := cell_at (FXm6.out _ HK7.out) 0 _ rfl
    have m1 : w7.cell? ⟨bm, 1, none⟩ = some (.string fo) := cell_at (FXm6.out _ HK7.out) 1 _ rfl
    have m2 : w7.cell? ⟨bm, 2, none⟩ = some (.slice Am uo.length cm) := cell_at (FXm6.out _ HK7.out) 2 _ rfl
    have m3 : w7.cell? ⟨bm, 3, none⟩ = some (.string to_) := cell_at (FXm6.out _ HK7.out) 3 _ rfl
    by_cases hans : Sm.ok ⟨st, f, us, t⟩ = true ∧ Us.usersOk vs = true ∧ Dm.ok d.data.toList = true
    · have HL : Hid (Sm.line vs d ⟨st, f, us, t⟩ l = (⟨so, fo, uo, to_⟩, no)) := Lib.hid (by rw [← Sm.ans_good hans]; exact HR.out)
      have HANS := Lib.hid hans
      have hnn : ¬ no < 0 := by have := Sm.line_reply vs d ⟨st, f, us, t⟩ l; rw [HL.out] at this; exact this
      clear hans
      by_cases h2 : st ≤ 2
      · have h2i : ¬ (2 : Int) < st := by omega
        have H2 := Lib.hid h2
        clear h2
        have hfz8 : f.size ≤ 8 := (Sm.ok_sizes HANS.out.1).1
        have hdz20 : d.size ≤ 20 := Sm.dom_size HANS.out.2.2
        have hv0 : 0 < vs.length := (((Us.usersOk_iff vs).1 HANS.out.2.1).1).1
        obtain ⟨u, hu⟩ : ∃ u, vs[0]? = some u := ⟨_, List.getElem?_eq_getElem hv0⟩
        have HUM : Hid (u ∈ vs) := Lib.hid (List.mem_of_getElem? hu)
        have HUN : Hid (Nm.nameOk u.name.data.toList = true) := Lib.hid (Sm.name_mem HANS.out.2.1 HUM.out)
        obtain ⟨ug, uf, hAu, _, _⟩ := (FU6.out _ HK7.out).1 (Nat.lt_of_le_of_lt (Nat.zero_le _) hv0)
        subst hAu
        have FC6 : Hid (∀ w', Below w6.heap.size w6 w' → w'.cell? ⟨ug, uf + 0 * 3, none⟩ = some (.string u.name) ∧ w'.cell? ⟨ug, uf + 0 * 3 + 1, none⟩ = some (.string u.pass) ∧ w'.cell? ⟨ug, uf + 0 * 3 + 2, none⟩ = some (.int .i64 u.quota)) := Lib.hid (fun w' hb => by
          obtain ⟨g', o', e, _, hc⟩ := (FU6.out _ hb).1 (Nat.lt_of_le_of_lt (Nat.zero_le _) hv0)
          injection e with e
          injection e with e1 e2
          subst e1 e2
          exact hc 0 u hu)
        clear hu
        have hun8 : u.name.size ≤ 8 := Sm.name_size HUN.out
        have FG6 : Hid (∀ w', Below w6.heap.size w6 w' → ug < w'.heap.size) := Lib.hid (fun w' hb => by
          obtain ⟨g', o', e, hg, _⟩ := (FU6.out _ hb).1 (Nat.lt_of_le_of_lt (Nat.zero_le _) hv0)
          injection e with e
          injection e with e1 e2
          subst e1 e2
          exact hg)
        have hzl0 : (ByteArray.mk #[82, 67, 80, 84, 32, 84, 79, 58, 60]).size = 9 := rfl
        have hzl1 : (ByteArray.mk #[64]).size = 1 := rfl
        have hzl2 : (ByteArray.mk #[62]).size = 1 := rfl
        have HRX : Hid (Sm.ans vs d ⟨st, f, us, t⟩ (ByteArray.mk #[82, 67, 80, 84, 32, 84, 79, 58, 60] ++ u.name ++ ByteArray.mk #[64] ++ d ++ ByteArray.mk #[62]) = (⟨st, f, us, t⟩, 503)) := Lib.hid (by rw [Sm.ans_good HANS.out]; exact Sm.rcpt_early vs (s := ⟨st, f, us, t⟩) H2.out (Sm.text5 Sm.begT _ u.name d rfl))
        have hlX : (ByteArray.mk #[82, 67, 80, 84, 32, 84, 79, 58, 60] ++ u.name ++ ByteArray.mk #[64] ++ d ++ ByteArray.mk #[62]).size ≤ 16777216 := by simp only [ByteArray.size_append]; omega
        obtain ⟨u0, _, _⟩ := (FC6.out _ HK7.out)
        simp only [Nat.zero_mul, Nat.add_zero] at u0
        have HD7 : Hid (Below w6.heap.size w6 w7.drew) := Lib.hid (Sx.below_drew HK7.out)
        have HE7 : Hid (Below w6.heap.size w6 (w7.alloc (.cells #[.int .i64 0, .string ⟨#[]⟩, .slice none 0 0, .string ⟨#[]⟩] 36)).drew) := Lib.hid (Sx.below_drew (HK7.out.alloc HK7.out.size _))
        have HZ7 : Hid ((w7.alloc (.cells #[.int .i64 0, .string ⟨#[]⟩, .slice none 0 0, .string ⟨#[]⟩] 36)).drew.heap[w7.heap.size]? = some (.cells #[.int .i64 0, .string ⟨#[]⟩, .slice none 0 0, .string ⟨#[]⟩] 36)) := Lib.hid (heap_alloc_new w7 _)
        have HF7 : Hid (Below w7.heap.size w7 w7.drew ∧ Below w7.heap.size w7 (w7.alloc (.cells #[.int .i64 0, .string ⟨#[]⟩, .slice none 0 0, .string ⟨#[]⟩] 36)).drew) := Lib.hid ⟨Sx.below_drew (Below.refl _ _), Sx.below_drew ((Below.refl _ _).alloc (Nat.le_refl _) _)⟩
        have HUSZ := Lib.hid (FAA6.out _ HK7.out).2
        have HCL : Hid (∀ W, Below w6.heap.size w6 W → Calls Tryz.prog 27 #[.agg #[.int .i64 st, .string f, .slice A us.length c, .string t], .slice (some ⟨ug, uf, none⟩) vs.length cu, .string d, .string (ByteArray.mk #[82, 67, 80, 84, 32, 84, 79, 58, 60] ++ u.name ++ ByteArray.mk #[64] ++ d ++ ByteArray.mk #[62])] W (Sm.OwnW st f us t 503 W)) := Lib.hid fun W hb => iLineW_any st f t A us c _ (FAA6.out _ hb) hcap hcm hfm htm (some ⟨ug, uf, none⟩) vs cu (FU6.out _ hb) hvl d (ByteArray.mk #[82, 67, 80, 84, 32, 84, 79, 58, 60] ++ u.name ++ ByteArray.mk #[64] ++ d ++ ByteArray.mk #[62]) hdz hlX m (FM6.out _ hb) HRX.out
        have hbbd : bd < w7.heap.size := (Array.getElem?_eq_some_iff.1 (FXd6.out _ HK7.out)).1
        have hbbl : bl < w7.heap.size := (Array.getElem?_eq_some_iff.1 (FXl6.out _ HK7.out)).1
        have hbbm : bm < w7.heap.size := (Array.getElem?_eq_some_iff.1 (FXm6.out _ HK7.out)).1
        have hbug : ug < w7.heap.size := FG6.out _ HK7.out
        have hj0 : ∀ W, (Op.stringOp .add (ByteArray.mk #[82, 67, 80, 84, 32, 84, 79, 58, 60]) u.name).run Tryz.prog W = .ok (.string ((ByteArray.mk #[82, 67, 80, 84, 32, 84, 79, 58, 60]) ++ u.name)) W := fun W => run_string_add_sum W _ _ (by (try simp only [ByteArray.size_append]); omega)
        have hj1 : ∀ W, (Op.stringOp .add (ByteArray.mk #[82, 67, 80, 84, 32, 84, 79, 58, 60] ++ u.name) (ByteArray.mk #[64])).run Tryz.prog W = .ok (.string ((ByteArray.mk #[82, 67, 80, 84, 32, 84, 79, 58, 60] ++ u.name) ++ (ByteArray.mk #[64]))) W := fun W => run_string_add_sum W _ _ (by (try simp only [ByteArray.size_append]); omega)
        have hj2 : ∀ W, (Op.stringOp .add (ByteArray.mk #[82, 67, 80, 84, 32, 84, 79, 58, 60] ++ u.name ++ ByteArray.mk #[64]) d).run Tryz.prog W = .ok (.string ((ByteArray.mk #[82, 67, 80, 84, 32, 84, 79, 58, 60] ++ u.name ++ ByteArray.mk #[64]) ++ d)) W := fun W => run_string_add_sum W _ _ (by (try simp only [ByteArray.size_append]); omega)
        have hj3 : ∀ W, (Op.stringOp .add (ByteArray.mk #[82, 67, 80, 84, 32, 84, 79, 58, 60] ++ u.name ++ ByteArray.mk #[64] ++ d) (ByteArray.mk #[62])).run Tryz.prog W = .ok (.string ((ByteArray.mk #[82, 67, 80, 84, 32, 84, 79, 58, 60] ++ u.name ++ ByteArray.mk #[64] ++ d) ++ (ByteArray.mk #[62]))) W := fun W => run_string_add_sum W _ _ (by (try simp only [ByteArray.size_append]); omega)
        go_upto_region 8 with fail
        go_cut [11, 12] (fun v1 v2 wx => ∃ (bq : Nat) (Aq : Option Addr) (cq : Nat), v1 = .pointer (some ⟨bq, 0, none⟩) ∧ v2 = .int .i64 503 ∧ Hid (wx.heap[bq]? = some (.cells #[.int .i64 st, .string f, .slice Aq us.length cq, .string t] 36 (0, 0))) ∧ Hid (AtStrs wx wx.heap.size Aq us) ∧ Hid (bq < wx.heap.size ∧ w7.heap.size ≤ bq) ∧ Hid (Below w7.heap.size w7 wx))
        case first =>
          go_region_law ((first
            | (go_simp; go_at_call 27; refine Calls.mono (HCL.out _ HD7.out) ?_; rintro e wy ⟨Aq, cq, rfl, hoq, hkq, hjq, hbq⟩; have hbw : Hid (Below w7.heap.size w7 wy) := Lib.hid (HF7.out.1.trans (hbq.mono HF7.out.1.size)))
            | (go_simp; go_at_call 27; refine Calls.mono (HCL.out _ HE7.out) ?_; rintro e wy ⟨Aq, cq, rfl, hoq, hkq, hjq, hbq⟩; have hbw : Hid (Below w7.heap.size w7 wy) := Lib.hid (HF7.out.2.trans (hbq.mono HF7.out.2.size)); have hlz : w7.heap.size < (w7.alloc (.cells #[.int .i64 0, .string ⟨#[]⟩, .slice none 0 0, .string ⟨#[]⟩] 36)).drew.heap.size := (Array.getElem?_eq_some_iff.1 HZ7.out).1; have HV1 := Lib.hid ((hbq.block w7.heap.size hlz).trans HZ7.out); have vz0 : wy.cell? ⟨w7.heap.size, 0, none⟩ = some (.int .i64 0) := cell_at HV1.out 0 _ rfl; have fz0 := free_at HV1.out 0; have vz1 : wy.cell? ⟨w7.heap.size, 1, none⟩ = some (.string ⟨#[]⟩) := cell_at HV1.out 1 _ rfl; have fz1 := free_at HV1.out 1; have vz2 : wy.cell? ⟨w7.heap.size, 2, none⟩ = some (.slice none 0 0) := cell_at HV1.out 2 _ rfl; have fz2 := free_at HV1.out 2; have vz3 : wy.cell? ⟨w7.heap.size, 3, none⟩ = some (.string ⟨#[]⟩) := cell_at HV1.out 3 _ rfl; have fz3 := free_at HV1.out 3)))
          all_goals
            go_wp2_with fail
            go_meet
            first
            | (have hh := HV1.out
               refine ⟨_, Aq, cq, rfl, rfl, ?_, ?_, ?_, ?_⟩
               · exact Lib.hid (Lw.box4 hh _ _ _ _)
               · exact Lib.hid (Lw.strs_own (Lw.own4 hoq hlz _ _ _ _) rfl HUSZ.out)
               · exact Lib.hid ⟨by simp; exact (Array.getElem?_eq_some_iff.1 hh).1, Nat.le_refl _⟩
               · exact Lib.hid (set4 hbw.out (Nat.le_refl _) _ _ _ _))
            | (have hea := Below.alloc (Below.refl wy.heap.size wy) (Nat.le_refl _) (.cells #[.int .i64 st, .string f, .slice Aq us.length cq, .string t] 36)
               refine ⟨_, Aq, cq, rfl, rfl, ?_, ?_, ?_, ?_⟩
               · exact Lib.hid (heap_alloc_new _ _)
               · exact Lib.hid (((Lw.strs_own hoq rfl HUSZ.out).below hea).mono hea.size)
               · exact Lib.hid ⟨by simp, hbw.out.size⟩
               · exact Lib.hid (hbw.out.trans (hea.mono hbw.out.size)))
        clear d0 d1 d2 d3 l0 l1 l2 l3 m0 m1 m2 m3
        obtain ⟨bx, Ax, cx, rfl, rfl, HX, HAX, HLX, HBX⟩ := hcut
        obtain ⟨w8, hwm⟩ : ∃ wm, wm = wc := ⟨_, rfl⟩
        subst hwm
        have hltdx : bd < bx := by have := (Array.getElem?_eq_some_iff.1 (FXd6.out _ HK7.out)).1; have := HLX.out.2; omega
        have hltlx : bl < bx := by have := (Array.getElem?_eq_some_iff.1 (FXl6.out _ HK7.out)).1; have := HLX.out.2; omega
        have hltmx : bm < bx := by have := (Array.getElem?_eq_some_iff.1 (FXm6.out _ HK7.out)).1; have := HLX.out.2; omega
        have HK8 := Lib.hid (HK7.out.trans (HBX.out.mono HK7.out.size))
        have FXx8 : Hid (∀ w', Below w8.heap.size w8 w' → w'.heap[bx]? = some (.cells #[.int .i64 st, .string f, .slice Ax us.length cx, .string t] 36 (0, 0))) := Lib.hid (fun w' hb => (hb.block _ HLX.out.1).trans HX.out)
        have FAX8 : Hid (∀ w', Below w8.heap.size w8 w' → AtStrs w' w'.heap.size Ax us) := Lib.hid (fun w' hb => (HAX.out.below hb).mono hb.size)
        have FU8 := Lib.hid (fun w' (hb : Below w8.heap.size w8 w') => FU6.out w' (HK8.out.trans (hb.mono HK8.out.size)))
        have FM8 := Lib.hid (fun w' (hb : Below w8.heap.size w8 w') => FM6.out w' (HK8.out.trans (hb.mono HK8.out.size)))
        have FB8 := Lib.hid (fun w' (hb : Below w8.heap.size w8 w') => FB6.out w' (HK8.out.trans (hb.mono HK8.out.size)))
        have FC8 := Lib.hid (fun w' (hb : Below w8.heap.size w8 w') => FC6.out w' (HK8.out.trans (hb.mono HK8.out.size)))
        have FG8 := Lib.hid (fun w' (hb : Below w8.heap.size w8 w') => FG6.out w' (HK8.out.trans (hb.mono HK8.out.size)))
        have FXd8 := Lib.hid (fun w' (hb : Below w8.heap.size w8 w') => FXd6.out w' (HK8.out.trans (hb.mono HK8.out.size)))
        have FXl8 := Lib.hid (fun w' (hb : Below w8.heap.size w8 w') => FXl6.out w' (HK8.out.trans (hb.mono HK8.out.size)))
        have FXm8 := Lib.hid (fun w' (hb : Below w8.heap.size w8 w') => FXm6.out w' (HK8.out.trans (hb.mono HK8.out.size)))
        have FAA8 := Lib.hid (fun w' (hb : Below w8.heap.size w8 w') => FAA6.out w' (HK8.out.trans (hb.mono HK8.out.size)))
        have FAL8 := Lib.hid (fun w' (hb : Below w8.heap.size w8 w') => FAL6.out w' (HK8.out.trans (hb.mono HK8.out.size)))
        have FAM8 := Lib.hid (fun w' (hb : Below w8.heap.size w8 w') => FAM6.out w' (HK8.out.trans (hb.mono HK8.out.size)))
        have HKb : Hid (Below w8.heap.size w8 w8) := Lib.hid (Below.refl _ _)
        clear HK8
        have HK8 := HKb
        clear HKb
        clear hbug hbbd hbbl hbbm
        clear HX HAX HLX HBX HCL HUSZ HD7 HE7 HZ7 HF7 hj0 hj1 hj2 hj3
        have d0 : w8.cell? ⟨bd, 0, none⟩ = some (.int .i64 st) := cell_at (FXd8.out _ HK8.out) 0 _ rfl
        have d1 : w8.cell? ⟨bd, 1, none⟩ = some (.string f) := cell_at (FXd8.out _ HK8.out) 1 _ rfl
        have d2 : w8.cell? ⟨bd, 2, none⟩ = some (.slice A us.length c) := cell_at (FXd8.out _ HK8.out) 2 _ rfl
        have d3 : w8.cell? ⟨bd, 3, none⟩ = some (.string t) := cell_at (FXd8.out _ HK8.out) 3 _ rfl
        have l0 : w8.cell? ⟨bl, 0, none⟩ = some (.int .i64 so) := cell_at (FXl8.out _ HK8.out) 0 _ rfl
        have l1 : w8.cell? ⟨bl, 1, none⟩ = some (.string fo) := cell_at (FXl8.out _ HK8.out) 1 _ rfl
        have l2 : w8.cell? ⟨bl, 2, none⟩ = some (.slice Al uo.length cl) := cell_at (FXl8.out _ HK8.out) 2 _ rfl
        have l3 : w8.cell? ⟨bl, 3, none⟩ = some (.string to_) := cell_at (FXl8.out _ HK8.out) 3 _ rfl
        have m0 : w8.cell? ⟨bm, 0, none⟩ = some (.int .i64 so) := cell_at (FXm8.out _ HK8.out) 0 _ rfl
        have m1 : w8.cell? ⟨bm, 1, none⟩ = some (.string fo) := cell_at (FXm8.out _ HK8.out) 1 _ rfl
        have m2 : w8.cell? ⟨bm, 2, none⟩ = some (.slice Am uo.length cm) := cell_at (FXm8.out _ HK8.out) 2 _ rfl
        have m3 : w8.cell? ⟨bm, 3, none⟩ = some (.string to_) := cell_at (FXm8.out _ HK8.out) 3 _ rfl
        have x0 : w8.cell? ⟨bx, 0, none⟩ = some (.int .i64 st) := cell_at (FXx8.out _ HK8.out) 0 _ rfl
        have x1 : w8.cell? ⟨bx, 1, none⟩ = some (.string f) := cell_at (FXx8.out _ HK8.out) 1 _ rfl
        have x2 : w8.cell? ⟨bx, 2, none⟩ = some (.slice Ax us.length cx) := cell_at (FXx8.out _ HK8.out) 2 _ rfl
        have x3 : w8.cell? ⟨bx, 3, none⟩ = some (.string t) := cell_at (FXx8.out _ HK8.out) 3 _ rfl
        go_wp2_with fail
        refine Calls.mono (sameSub_any st f t Ax A us cx c _ (FAX8.out _ HK8.out) (FAA8.out _ HK8.out) hul) ?_
        rintro e w9 ⟨rfl, hb⟩
        clear d0 d1 d2 d3 l0 l1 l2 l3 m0 m1 m2 m3 x0 x1 x2 x3
        have HK9 := Lib.hid (HK8.out.trans (hb.mono HK8.out.size))
        clear hb
        have d0 : w9.cell? ⟨bd, 0, none⟩ = some (.int .i64 st) := cell_at (FXd8.out _ HK9.out) 0 _ rfl
        have d1 : w9.cell? ⟨bd, 1, none⟩ = some (.string f) := cell_at (FXd8.out _ HK9.out) 1 _ rfl
        have d2 : w9.cell? ⟨bd, 2, none⟩ = some (.slice A us.length c) := cell_at (FXd8.out _ HK9.out) 2 _ rfl
        have d3 : w9.cell? ⟨bd, 3, none⟩ = some (.string t) := cell_at (FXd8.out _ HK9.out) 3 _ rfl
        have l0 : w9.cell? ⟨bl, 0, none⟩ = some (.int .i64 so) := cell_at (FXl8.out _ HK9.out) 0 _ rfl
        have l1 : w9.cell? ⟨bl, 1, none⟩ = some (.string fo) := cell_at (FXl8.out _ HK9.out) 1 _ rfl
        have l2 : w9.cell? ⟨bl, 2, none⟩ = some (.slice Al uo.length cl) := cell_at (FXl8.out _ HK9.out) 2 _ rfl
        have l3 : w9.cell? ⟨bl, 3, none⟩ = some (.string to_) := cell_at (FXl8.out _ HK9.out) 3 _ rfl
        have m0 : w9.cell? ⟨bm, 0, none⟩ = some (.int .i64 so) := cell_at (FXm8.out _ HK9.out) 0 _ rfl
        have m1 : w9.cell? ⟨bm, 1, none⟩ = some (.string fo) := cell_at (FXm8.out _ HK9.out) 1 _ rfl
        have m2 : w9.cell? ⟨bm, 2, none⟩ = some (.slice Am uo.length cm) := cell_at (FXm8.out _ HK9.out) 2 _ rfl
        have m3 : w9.cell? ⟨bm, 3, none⟩ = some (.string to_) := cell_at (FXm8.out _ HK9.out) 3 _ rfl
        have x0 : w9.cell? ⟨bx, 0, none⟩ = some (.int .i64 st) := cell_at (FXx8.out _ HK9.out) 0 _ rfl
        have x1 : w9.cell? ⟨bx, 1, none⟩ = some (.string f) := cell_at (FXx8.out _ HK9.out) 1 _ rfl
        have x2 : w9.cell? ⟨bx, 2, none⟩ = some (.slice Ax us.length cx) := cell_at (FXx8.out _ HK9.out) 2 _ rfl
        have x3 : w9.cell? ⟨bx, 3, none⟩ = some (.string t) := cell_at (FXx8.out _ HK9.out) 3 _ rfl
        go_wp2_with fail
        go_ret
        exact ⟨rfl, (FB8.out _ HK9.out)⟩
      · have h2i : (2 : Int) < st := by omega
        clear h2
        go_wp2_with fail
        refine Calls.mono (sameSub_any so fo to_ Al Am uo cl cm _ (FAL6.out _ HK7.out) (FAM6.out _ HK7.out) hulo) ?_
        rintro e w8 ⟨rfl, hb⟩
        clear d0 d1 d2 d3 l0 l1 l2 l3 m0 m1 m2 m3
        have HK8 := Lib.hid (HK7.out.trans (hb.mono HK7.out.size))
        clear hb
        have d0 : w8.cell? ⟨bd, 0, none⟩ = some (.int .i64 st) := cell_at (FXd6.out _ HK8.out) 0 _ rfl
        have d1 : w8.cell? ⟨bd, 1, none⟩ = some (.string f) := cell_at (FXd6.out _ HK8.out) 1 _ rfl
        have d2 : w8.cell? ⟨bd, 2, none⟩ = some (.slice A us.length c) := cell_at (FXd6.out _ HK8.out) 2 _ rfl
        have d3 : w8.cell? ⟨bd, 3, none⟩ = some (.string t) := cell_at (FXd6.out _ HK8.out) 3 _ rfl
        have l0 : w8.cell? ⟨bl, 0, none⟩ = some (.int .i64 so) := cell_at (FXl6.out _ HK8.out) 0 _ rfl
        have l1 : w8.cell? ⟨bl, 1, none⟩ = some (.string fo) := cell_at (FXl6.out _ HK8.out) 1 _ rfl
        have l2 : w8.cell? ⟨bl, 2, none⟩ = some (.slice Al uo.length cl) := cell_at (FXl6.out _ HK8.out) 2 _ rfl
        have l3 : w8.cell? ⟨bl, 3, none⟩ = some (.string to_) := cell_at (FXl6.out _ HK8.out) 3 _ rfl
        have m0 : w8.cell? ⟨bm, 0, none⟩ = some (.int .i64 so) := cell_at (FXm6.out _ HK8.out) 0 _ rfl
        have m1 : w8.cell? ⟨bm, 1, none⟩ = some (.string fo) := cell_at (FXm6.out _ HK8.out) 1 _ rfl
        have m2 : w8.cell? ⟨bm, 2, none⟩ = some (.slice Am uo.length cm) := cell_at (FXm6.out _ HK8.out) 2 _ rfl
        have m3 : w8.cell? ⟨bm, 3, none⟩ = some (.string to_) := cell_at (FXm6.out _ HK8.out) 3 _ rfl
        go_wp2_with fail
        go_ret
        exact ⟨rfl, (FB6.out _ HK8.out)⟩
    · have hno : no = -1 := by have := HR.out; rw [Sm.ans_bad hans] at this; injection this with _ this; exact this.symm
      have hneg : no < 0 := by omega
      clear hans hno
      go_wp2_with fail
      refine Calls.mono (sameSub_any so fo to_ Al Am uo cl cm _ (FAL6.out _ HK7.out) (FAM6.out _ HK7.out) hulo) ?_
      rintro e w8 ⟨rfl, hb⟩
      clear d0 d1 d2 d3 l0 l1 l2 l3 m0 m1 m2 m3
      have HK8 := Lib.hid (HK7.out.trans (hb.mono HK7.out.size))
      clear hb
      have d0 : w8.cell? ⟨bd, 0, none⟩ = some (.int .i64 st) := cell_at (FXd6.out _ HK8.out) 0 _ rfl
      have d1 : w8.cell? ⟨bd, 1, none⟩ = some (.string f) := cell_at (FXd6.out _ HK8.out) 1 _ rfl
      have d2 : w8.cell? ⟨bd, 2, none⟩ = some (.slice A us.length c) := cell_at (FXd6.out _ HK8.out) 2 _ rfl
      have d3 : w8.cell? ⟨bd, 3, none⟩ = some (.string t) := cell_at (FXd6.out _ HK8.out) 3 _ rfl
      have l0 : w8.cell? ⟨bl, 0, none⟩ = some (.int .i64 so) := cell_at (FXl6.out _ HK8.out) 0 _ rfl
      have l1 : w8.cell? ⟨bl, 1, none⟩ = some (.string fo) := cell_at (FXl6.out _ HK8.out) 1 _ rfl
      have l2 : w8.cell? ⟨bl, 2, none⟩ = some (.slice Al uo.length cl) := cell_at (FXl6.out _ HK8.out) 2 _ rfl
      have l3 : w8.cell? ⟨bl, 3, none⟩ = some (.string to_) := cell_at (FXl6.out _ HK8.out) 3 _ rfl
      have m0 : w8.cell? ⟨bm, 0, none⟩ = some (.int .i64 so) := cell_at (FXm6.out _ HK8.out) 0 _ rfl
      have m1 : w8.cell? ⟨bm, 1, none⟩ = some (.string fo) := cell_at (FXm6.out _ HK8.out) 1 _ rfl
      have m2 : w8.cell? ⟨bm, 2, none⟩ = some (.slice Am uo.length cm) := cell_at (FXm6.out _ HK8.out) 2 _ rfl
      have m3 : w8.cell? ⟨bm, 3, none⟩ = some (.string to_) := cell_at (FXm6.out _ HK8.out) 3 _ rfl
      go_wp2_with fail
      go_ret
      exact ⟨rfl, (FB6.out _ HK8.out)⟩
  · have hbi : (1048576 : Int) < (len : Int) := by omega
    go_enter Tryz.func10, Tryz.ntmps10
    go_wp2_with fail
    go_ret
    exact ⟨rfl, Below.refl _ _⟩
end Go.Proofs.YtnbggmmghopphaaGreatDoor
