/- FnRcpt: the walk. (Printed by mklw.py.) -/
import Derived.Test.YtnbggmmghopphaaGreatDoorSmUu
import Derived.Test.YtnbggmmghopphaaGreatDoorLwPl
import Derived.Test.YtnbggmmghopphaaGreatDoorLwKn
import Derived.Test.YtnbggmmghopphaaGreatDoorLwOw
import Derived.Test.YtnbggmmghopphaaGreatDoorLwNw
import Derived.Deep.RegionHeld3
import Derived.Deep.DeepCutAuto
namespace Go.Proofs.YtnbggmmghopphaaGreatDoor
set_option linter.unusedVariables false
open Go.RowKit
open Us (U)

set_option maxRecDepth 100000 in
set_option maxHeartbeats 6400000 in
theorem walkFnRcpt (a : Option Addr) (len cap : Nat) (a2 : Option Addr) (len2 cap2 : Nat) (w : World) (h : Bytes w a len cap) (h2 : Bytes w a2 len2 cap2) (m : Int) (hm : w.cell? ⟨0, 0, none⟩ = some (.int .i64 m)) :
    Calls Tryz.prog 13 #[.slice a len cap, .slice a2 len2 cap2] w fun e w' => e = .returned (.bool true) ∧ Below w.heap.size w w' := by
  by_cases hbig : len ≤ 1048576
  · by_cases hbig2 : len2 ≤ 1048576
    · have hbi2 : ¬ (1048576 : Int) < (len2 : Int) := by omega
      have hbi : ¬ (1048576 : Int) < (len : Int) := by omega
      have hpos := Po.base_pos hm
      go_enter Tryz.func13, Tryz.ntmps13
      go_wp2_with fail
      refine Calls.mono (drawSubmissionLine_any a len cap _ h) ?_
      rintro e w1 ⟨st, f, A, us, c, t, Au, vs, cu, d, l, hsm, hcap, hcm, hsv, hds, hls, rfl, hat, hau, hb1⟩
      have hfm := (Sm.small_max hsm).1
      have htm := (Sm.small_max hsm).2.1
      have hul := Sm.small_len hsm
      dsimp only at hfm htm hul
      have hvl : vs.length ≤ maxLen := small_len hsv
      have hdz : d.size ≤ 16777216 := by omega
      have hlz : l.size ≤ 16777216 := by omega
      have FU1 : Hid (∀ w', Below w1.heap.size w1 w' → AtUsers w' w'.heap.size Au vs) := Lib.hid (fun w' hb => ((at_users hau (small_sizes hsv)).below hb).mono hb.size)
      have FM1 : Hid (∀ w', Below w1.heap.size w1 w' → w'.cell? ⟨0, 0, none⟩ = some (.int .i64 m)) := Lib.hid (fun w' hb => Po.mem (hb1.trans (hb.mono hb1.size)) hm hpos)
      have FB1 : Hid (∀ w', Below w1.heap.size w1 w' → Below w.heap.size w w') := Lib.hid (fun w' hb => hb1.trans (hb.mono hb1.size))
      have FAA1 : Hid (∀ w', Below w1.heap.size w1 w' → AtStrs w' w'.heap.size A us) := Lib.hid (fun w' hb => (hat.below hb).mono hb.size)
      have HK1 : Hid (Below w1.heap.size w1 w1) := Lib.hid (Below.refl _ _)
      have HSM := Lib.hid hsm
      clear hat hau hb1 hm h hsm
      have hx := heap_alloc_new w1 (.cells #[.int .i64 st, .string f, .slice A us.length c, .string t] 36)
      have hE := Below.alloc (Below.refl w1.heap.size w1) (Nat.le_refl _) (.cells #[.int .i64 st, .string f, .slice A us.length c, .string t] 36)
      have hs : w1.heap.size < (w1.alloc (.cells #[.int .i64 st, .string f, .slice A us.length c, .string t] 36)).heap.size := by simp
      go_upto_region 4 with fail
      generalize w1.alloc (.cells #[.int .i64 st, .string f, .slice A us.length c, .string t] 36) = w2 at hx hE hs ⊢
      obtain ⟨bd, hbb⟩ : ∃ b, b = w1.heap.size := ⟨_, rfl⟩
      rw [← hbb] at hx hs ⊢
      have HK2 := Lib.hid (HK1.out.trans (hE.mono HK1.out.size))
      have FXd2 : Hid (∀ w', Below w2.heap.size w2 w' → w'.heap[bd]? = some (.cells #[.int .i64 st, .string f, .slice A us.length c, .string t] 36 (0, 0))) := Lib.hid (fun w' hb => (hb.block _ hs).trans hx)
      clear hx hE hs hbb
      have FU2 := Lib.hid (fun w' (hb : Below w2.heap.size w2 w') => FU1.out w' (HK2.out.trans (hb.mono HK2.out.size)))
      have FM2 := Lib.hid (fun w' (hb : Below w2.heap.size w2 w') => FM1.out w' (HK2.out.trans (hb.mono HK2.out.size)))
      have FB2 := Lib.hid (fun w' (hb : Below w2.heap.size w2 w') => FB1.out w' (HK2.out.trans (hb.mono HK2.out.size)))
      have FAA2 := Lib.hid (fun w' (hb : Below w2.heap.size w2 w') => FAA1.out w' (HK2.out.trans (hb.mono HK2.out.size)))
      have HKb : Hid (Below w2.heap.size w2 w2) := Lib.hid (Below.refl _ _)
      clear HK2
      have HK2 := HKb
      clear HKb
      have d0 : w2.cell? ⟨bd, 0, none⟩ = some (.int .i64 st) := cell_at (FXd2.out _ HK2.out) 0 _ rfl
      have d1 : w2.cell? ⟨bd, 1, none⟩ = some (.string f) := cell_at (FXd2.out _ HK2.out) 1 _ rfl
      have d2 : w2.cell? ⟨bd, 2, none⟩ = some (.slice A us.length c) := cell_at (FXd2.out _ HK2.out) 2 _ rfl
      have d3 : w2.cell? ⟨bd, 3, none⟩ = some (.string t) := cell_at (FXd2.out _ HK2.out) 3 _ rfl
      obtain ⟨R, hR⟩ : ∃ R, R = Sm.ans vs d ⟨st, f, us, t⟩ l := ⟨_, rfl⟩
      obtain ⟨⟨so, fo, uo, to_⟩, no⟩ := R
      have HR := Lib.hid hR.symm
      have hulo : uo.length ≤ maxLen := by have := (Sm.ans_sizes vs d ⟨st, f, us, t⟩ l).1; rw [← hR] at this; unfold maxLen; dsimp only at this; omega
      have hfo : fo.size ≤ maxLen := by have := (Sm.ans_sizes vs d ⟨st, f, us, t⟩ l).2.2.1; rw [← hR] at this; exact this
      have hto : to_.size ≤ maxLen := by have := (Sm.ans_sizes vs d ⟨st, f, us, t⟩ l).2.2.2; rw [← hR] at this; exact this
      clear hR
      go_wp2_with fail
      refine Calls.mono (iLine_any st f t A us c _ (FAA2.out _ HK2.out) hcap hcm hfm htm Au vs cu (FU2.out _ HK2.out) hvl d l hdz hlz m (FM2.out _ HK2.out) HR.out) ?_
      rintro e w3 ⟨Al, cl, rfl, hatl, hkl, hjl, hb⟩
      clear d0 d1 d2 d3
      have HK3 := Lib.hid (HK2.out.trans (hb.mono HK2.out.size))
      clear hb
      have d0 : w3.cell? ⟨bd, 0, none⟩ = some (.int .i64 st) := cell_at (FXd2.out _ HK3.out) 0 _ rfl
      have d1 : w3.cell? ⟨bd, 1, none⟩ = some (.string f) := cell_at (FXd2.out _ HK3.out) 1 _ rfl
      have d2 : w3.cell? ⟨bd, 2, none⟩ = some (.slice A us.length c) := cell_at (FXd2.out _ HK3.out) 2 _ rfl
      have d3 : w3.cell? ⟨bd, 3, none⟩ = some (.string t) := cell_at (FXd2.out _ HK3.out) 3 _ rfl
      clear d0 d1 d2 d3
      have hx := heap_alloc_new w3 (.cells #[.int .i64 so, .string fo, .slice Al uo.length cl, .string to_] 36)
      have hE := Below.alloc (Below.refl w3.heap.size w3) (Nat.le_refl _) (.cells #[.int .i64 so, .string fo, .slice Al uo.length cl, .string to_] 36)
      have hs : w3.heap.size < (w3.alloc (.cells #[.int .i64 so, .string fo, .slice Al uo.length cl, .string to_] 36)).heap.size := by simp
      go_upto_region 5 with fail
      generalize w3.alloc (.cells #[.int .i64 so, .string fo, .slice Al uo.length cl, .string to_] 36) = w4 at hx hE hs ⊢
      obtain ⟨bl, hbb⟩ : ∃ b, b = w3.heap.size := ⟨_, rfl⟩
      rw [← hbb] at hx hs ⊢
      have hltdl : bd < bl := by have := (Array.getElem?_eq_some_iff.1 (FXd2.out _ HK3.out)).1; omega
      have HK4 := Lib.hid (HK3.out.trans (hE.mono HK3.out.size))
      have FXl4 : Hid (∀ w', Below w4.heap.size w4 w' → w'.heap[bl]? = some (.cells #[.int .i64 so, .string fo, .slice Al uo.length cl, .string to_] 36 (0, 0))) := Lib.hid (fun w' hb => (hb.block _ hs).trans hx)
      have FAL4 : Hid (∀ w', Below w4.heap.size w4 w' → AtStrs w' w'.heap.size Al uo) := Lib.hid (fun w' hb => (((hatl.below hE).mono hE.size).below hb).mono hb.size)
      clear hx hE hs hbb
      have FU4 := Lib.hid (fun w' (hb : Below w4.heap.size w4 w') => FU2.out w' (HK4.out.trans (hb.mono HK4.out.size)))
      have FM4 := Lib.hid (fun w' (hb : Below w4.heap.size w4 w') => FM2.out w' (HK4.out.trans (hb.mono HK4.out.size)))
      have FB4 := Lib.hid (fun w' (hb : Below w4.heap.size w4 w') => FB2.out w' (HK4.out.trans (hb.mono HK4.out.size)))
      have FXd4 := Lib.hid (fun w' (hb : Below w4.heap.size w4 w') => FXd2.out w' (HK4.out.trans (hb.mono HK4.out.size)))
      have FAA4 := Lib.hid (fun w' (hb : Below w4.heap.size w4 w') => FAA2.out w' (HK4.out.trans (hb.mono HK4.out.size)))
      have HKb : Hid (Below w4.heap.size w4 w4) := Lib.hid (Below.refl _ _)
      clear HK4
      have HK4 := HKb
      clear HKb
      have d0 : w4.cell? ⟨bd, 0, none⟩ = some (.int .i64 st) := cell_at (FXd4.out _ HK4.out) 0 _ rfl
      have d1 : w4.cell? ⟨bd, 1, none⟩ = some (.string f) := cell_at (FXd4.out _ HK4.out) 1 _ rfl
      have d2 : w4.cell? ⟨bd, 2, none⟩ = some (.slice A us.length c) := cell_at (FXd4.out _ HK4.out) 2 _ rfl
      have d3 : w4.cell? ⟨bd, 3, none⟩ = some (.string t) := cell_at (FXd4.out _ HK4.out) 3 _ rfl
      have l0 : w4.cell? ⟨bl, 0, none⟩ = some (.int .i64 so) := cell_at (FXl4.out _ HK4.out) 0 _ rfl
      have l1 : w4.cell? ⟨bl, 1, none⟩ = some (.string fo) := cell_at (FXl4.out _ HK4.out) 1 _ rfl
      have l2 : w4.cell? ⟨bl, 2, none⟩ = some (.slice Al uo.length cl) := cell_at (FXl4.out _ HK4.out) 2 _ rfl
      have l3 : w4.cell? ⟨bl, 3, none⟩ = some (.string to_) := cell_at (FXl4.out _ HK4.out) 3 _ rfl
      clear hatl
      go_wp2_with fail
      refine Calls.mono (sLine_any st f t A us c _ (FAA4.out _ HK4.out) hcap hcm hfm htm Au vs cu (FU4.out _ HK4.out) hvl d l hdz hlz HR.out) ?_
      rintro e w5 ⟨Am, cm, rfl, hatm, hkm, hjm, hb⟩
      clear d0 d1 d2 d3 l0 l1 l2 l3
      have HK5 := Lib.hid (HK4.out.trans (hb.mono HK4.out.size))
      clear hb
      have d0 : w5.cell? ⟨bd, 0, none⟩ = some (.int .i64 st) := cell_at (FXd4.out _ HK5.out) 0 _ rfl
      have d1 : w5.cell? ⟨bd, 1, none⟩ = some (.string f) := cell_at (FXd4.out _ HK5.out) 1 _ rfl
      have d2 : w5.cell? ⟨bd, 2, none⟩ = some (.slice A us.length c) := cell_at (FXd4.out _ HK5.out) 2 _ rfl
      have d3 : w5.cell? ⟨bd, 3, none⟩ = some (.string t) := cell_at (FXd4.out _ HK5.out) 3 _ rfl
      have l0 : w5.cell? ⟨bl, 0, none⟩ = some (.int .i64 so) := cell_at (FXl4.out _ HK5.out) 0 _ rfl
      have l1 : w5.cell? ⟨bl, 1, none⟩ = some (.string fo) := cell_at (FXl4.out _ HK5.out) 1 _ rfl
      have l2 : w5.cell? ⟨bl, 2, none⟩ = some (.slice Al uo.length cl) := cell_at (FXl4.out _ HK5.out) 2 _ rfl
      have l3 : w5.cell? ⟨bl, 3, none⟩ = some (.string to_) := cell_at (FXl4.out _ HK5.out) 3 _ rfl
      clear d0 d1 d2 d3 l0 l1 l2 l3
      have hx := heap_alloc_new w5 (.cells #[.int .i64 so, .string fo, .slice Am uo.length cm, .string to_] 36)
      have hE := Below.alloc (Below.refl w5.heap.size w5) (Nat.le_refl _) (.cells #[.int .i64 so, .string fo, .slice Am uo.length cm, .string to_] 36)
      have hs : w5.heap.size < (w5.alloc (.cells #[.int .i64 so, .string fo, .slice Am uo.length cm, .string to_] 36)).heap.size := by simp
      go_upto_region 6 with fail
      generalize w5.alloc (.cells #[.int .i64 so, .string fo, .slice Am uo.length cm, .string to_] 36) = w6 at hx hE hs ⊢
      obtain ⟨bm, hbb⟩ : ∃ b, b = w5.heap.size := ⟨_, rfl⟩
      rw [← hbb] at hx hs ⊢
      have hltdm : bd < bm := by have := (Array.getElem?_eq_some_iff.1 (FXd4.out _ HK5.out)).1; omega
      have hltlm : bl < bm := by have := (Array.getElem?_eq_some_iff.1 (FXl4.out _ HK5.out)).1; omega
      have HK6 := Lib.hid (HK5.out.trans (hE.mono HK5.out.size))
      have FXm6 : Hid (∀ w', Below w6.heap.size w6 w' → w'.heap[bm]? = some (.cells #[.int .i64 so, .string fo, .slice Am uo.length cm, .string to_] 36 (0, 0))) := Lib.hid (fun w' hb => (hb.block _ hs).trans hx)
      have FAM6 : Hid (∀ w', Below w6.heap.size w6 w' → AtStrs w' w'.heap.size Am uo) := Lib.hid (fun w' hb => (((hatm.below hE).mono hE.size).below hb).mono hb.size)
      clear hx hE hs hbb
      have FU6 := Lib.hid (fun w' (hb : Below w6.heap.size w6 w') => FU4.out w' (HK6.out.trans (hb.mono HK6.out.size)))
      have FM6 := Lib.hid (fun w' (hb : Below w6.heap.size w6 w') => FM4.out w' (HK6.out.trans (hb.mono HK6.out.size)))
      have FB6 := Lib.hid (fun w' (hb : Below w6.heap.size w6 w') => FB4.out w' (HK6.out.trans (hb.mono HK6.out.size)))
      have FXd6 := Lib.hid (fun w' (hb : Below w6.heap.size w6 w') => FXd4.out w' (HK6.out.trans (hb.mono HK6.out.size)))
      have FXl6 := Lib.hid (fun w' (hb : Below w6.heap.size w6 w') => FXl4.out w' (HK6.out.trans (hb.mono HK6.out.size)))
      have FAA6 := Lib.hid (fun w' (hb : Below w6.heap.size w6 w') => FAA4.out w' (HK6.out.trans (hb.mono HK6.out.size)))
      have FAL6 := Lib.hid (fun w' (hb : Below w6.heap.size w6 w') => FAL4.out w' (HK6.out.trans (hb.mono HK6.out.size)))
      have HKb : Hid (Below w6.heap.size w6 w6) := Lib.hid (Below.refl _ _)
      clear HK6
      have HK6 := HKb
      clear HKb
      have d0 : w6.cell? ⟨bd, 0, none⟩ = some (.int .i64 st) := cell_at (FXd6.out _ HK6.out) 0 _ rfl
      have d1 : w6.cell? ⟨bd, 1, none⟩ = some (.string f) := cell_at (FXd6.out _ HK6.out) 1 _ rfl
      have d2 : w6.cell? ⟨bd, 2, none⟩ = some (.slice A us.length c) := cell_at (FXd6.out _ HK6.out) 2 _ rfl
      have d3 : w6.cell? ⟨bd, 3, none⟩ = some (.string t) := cell_at (FXd6.out _ HK6.out) 3 _ rfl
      have l0 : w6.cell? ⟨bl, 0, none⟩ = some (.int .i64 so) := cell_at (FXl6.out _ HK6.out) 0 _ rfl
      have l1 : w6.cell? ⟨bl, 1, none⟩ = some (.string fo) := cell_at (FXl6.out _ HK6.out) 1 _ rfl
      have l2 : w6.cell? ⟨bl, 2, none⟩ = some (.slice Al uo.length cl) := cell_at (FXl6.out _ HK6.out) 2 _ rfl
      have l3 : w6.cell? ⟨bl, 3, none⟩ = some (.string to_) := cell_at (FXl6.out _ HK6.out) 3 _ rfl
      have m0 : w6.cell? ⟨bm, 0, none⟩ = some (.int .i64 so) := cell_at (FXm6.out _ HK6.out) 0 _ rfl
      have m1 : w6.cell? ⟨bm, 1, none⟩ = some (.string fo) := cell_at (FXm6.out _ HK6.out) 1 _ rfl
      have m2 : w6.cell? ⟨bm, 2, none⟩ = some (.slice Am uo.length cm) := cell_at (FXm6.out _ HK6.out) 2 _ rfl
      have m3 : w6.cell? ⟨bm, 3, none⟩ = some (.string to_) := cell_at (FXm6.out _ HK6.out) 3 _ rfl
      clear hatm
      go_wp2_with fail
      refine Calls.mono (sameSub_any so fo to_ Al Am uo cl cm _ (FAL6.out _ HK6.out) (FAM6.out _ HK6.out) hulo) ?_
      rintro e w7 ⟨rfl, hb⟩
      clear d0 d1 d2 d3 l0 l1 l2 l3 m0 m1 m2 m3
      have HK7 := Lib.hid (HK6.out.trans (hb.mono HK6.out.size))
      clear hb
      have d0 : w7.cell? ⟨bd, 0, none⟩ = some (.int .i64 st) := cell_at (FXd6.out _ HK7.out) 0 _ rfl
      have d1 : w7.cell? ⟨bd, 1, none⟩ = some (.string f) := cell_at (FXd6.out _ HK7.out) 1 _ rfl
      have d2 : w7.cell? ⟨bd, 2, none⟩ = some (.slice A us.length c) := cell_at (FXd6.out _ HK7.out) 2 _ rfl
      have d3 : w7.cell? ⟨bd, 3, none⟩ = some (.string t) := cell_at (FXd6.out _ HK7.out) 3 _ rfl
      have l0 : w7.cell? ⟨bl, 0, none⟩ = some (.int .i64 so) := cell_at (FXl6.out _ HK7.out) 0 _ rfl
      have l1 : w7.cell? ⟨bl, 1, none⟩ = some (.string fo) := cell_at (FXl6.out _ HK7.out) 1 _ rfl
      have l2 : w7.cell? ⟨bl, 2, none⟩ = some (.slice Al uo.length cl) := cell_at (FXl6.out _ HK7.out) 2 _ rfl
      have l3 : w7.cell? ⟨bl, 3, none⟩ = some (.string to_) := cell_at (FXl6.out _ HK7.out) 3 _ rfl
      have m0 : w7.cell? ⟨bm, 0, none⟩ = some (.int .i64 so) := cell_at (FXm6.out _ HK7.out) 0 _ rfl
      have m1 : w7.cell? ⟨bm, 1, none⟩ = some (.string fo) := cell_at (FXm6.out _ HK7.out) 1 _ rfl
      have m2 : w7.cell? ⟨bm, 2, none⟩ = some (.slice Am uo.length cm) := cell_at (FXm6.out _ HK7.out) 2 _ rfl
      have m3 : w7.cell? ⟨bm, 3, none⟩ = some (.string to_) := cell_at (FXm6.out _ HK7.out) 3 _ rfl
      by_cases hans : Sm.ok ⟨st, f, us, t⟩ = true ∧ Us.usersOk vs = true ∧ Dm.ok d.data.toList = true
      · have HL : Hid (Sm.line vs d ⟨st, f, us, t⟩ l = (⟨so, fo, uo, to_⟩, no)) := Lib.hid (by rw [← Sm.ans_good hans]; exact HR.out)
        have HANS := Lib.hid hans
        have hnn : ¬ no < 0 := by have := Sm.line_reply vs d ⟨st, f, us, t⟩ l; rw [HL.out] at this; exact this
        clear hans
        by_cases h3 : st = 3 ∨ st = 4
        · have H3 := Lib.hid h3
          have hfz8 : f.size ≤ 8 := (Sm.ok_sizes HANS.out.1).1
          have hdz20 : d.size ≤ 20 := Sm.dom_size HANS.out.2.2
          have hv0 : 0 < vs.length := (((Us.usersOk_iff vs).1 HANS.out.2.1).1).1
          rcases h3 with h3 | h3
          · have h3i : (st != 3) = false := by simp [h3]
            clear h3
            obtain ⟨k, hk, hke⟩ : ∃ k : Nat, k < vs.length ∧ (len2 : Int) % vs.length = k := ⟨len2 % vs.length, Nat.mod_lt _ hv0, by omega⟩
            have hvz : ¬ (vs.length : Int) = 0 := by omega
            have hki : (k : Int) < (vs.length : Int) := by omega
            have hk0 : (0 : Int) ≤ (k : Int) := by omega
            have hex : ∃ u, vs[k]? = some u := ⟨_, List.getElem?_eq_getElem hk⟩
            obtain ⟨u, hu⟩ := hex
            have HUM : Hid (u ∈ vs) := Lib.hid (List.mem_of_getElem? hu)
            have HUN : Hid (Nm.nameOk u.name.data.toList = true) := Lib.hid (Sm.name_mem HANS.out.2.1 HUM.out)
            obtain ⟨ug, uf, hAu, -, -⟩ := (FU6.out _ HK7.out).1 (Nat.lt_of_le_of_lt (Nat.zero_le _) hk)
            subst hAu
            have FC6 : Hid (∀ w', Below w6.heap.size w6 w' → w'.cell? ⟨ug, uf + k * 3, none⟩ = some (.string u.name) ∧ w'.cell? ⟨ug, uf + k * 3 + 1, none⟩ = some (.string u.pass) ∧ w'.cell? ⟨ug, uf + k * 3 + 2, none⟩ = some (.int .i64 u.quota)) := Lib.hid (fun w' hb => by
              obtain ⟨g', o', e, _, hc⟩ := (FU6.out _ hb).1 (Nat.lt_of_le_of_lt (Nat.zero_le _) hk)
              injection e with e
              injection e with e1 e2
              subst e1 e2
              exact hc k u hu)
            clear hu
            have hun8 : u.name.size ≤ 8 := Sm.name_size HUN.out
            have FG6 : Hid (∀ w', Below w6.heap.size w6 w' → ug < w'.heap.size) := Lib.hid (fun w' hb => by
              obtain ⟨g', o', e, hg, _⟩ := (FU6.out _ hb).1 (Nat.lt_of_le_of_lt (Nat.zero_le _) hk)
              injection e with e
              injection e with e1 e2
              subst e1 e2
              exact hg)
            have hzl0 : (ByteArray.mk #[82, 67, 80, 84, 32, 84, 79, 58, 60]).size = 9 := rfl
            have hzl1 : (ByteArray.mk #[64]).size = 1 := rfl
            have hzl2 : (ByteArray.mk #[62]).size = 1 := rfl
            have hlX : (ByteArray.mk #[82, 67, 80, 84, 32, 84, 79, 58, 60] ++ u.name ++ ByteArray.mk #[64] ++ d ++ ByteArray.mk #[62]).size ≤ 16777216 := by simp only [ByteArray.size_append]; omega
            have HRY := Sm.rcpt_yes vs (s := ⟨st, f, us, t⟩) H3.out (Sm.text5 Sm.begT (ByteArray.mk #[82, 67, 80, 84, 32, 84, 79, 58, 60]) u.name d rfl) HUN.out HANS.out.2.2 (Sm.knows_mem HANS.out.2.1 HUM.out)
            have HRY := Lib.hid HRY
            have HT0 : Hid (t = Sm.e0 ∧ us.length ≤ 3) := Lib.hid (Sm.ok_to3 HANS.out.1 H3.out)
            cases hh : St.has us u.name
            · have HH := Lib.hid hh
              clear hh
              by_cases h33 : 3 ≤ us.length
              · have h33i : (3 : Int) ≤ (us.length : Int) := by omega
                have HRX : Hid (Sm.ans vs d ⟨st, f, us, t⟩ (ByteArray.mk #[82, 67, 80, 84, 32, 84, 79, 58, 60] ++ u.name ++ ByteArray.mk #[64] ++ d ++ ByteArray.mk #[62]) = (⟨st, f, us, t⟩, 452)) := Lib.hid (by rw [Sm.ans_good HANS.out, HRY.out]; dsimp only; rw [if_neg (by rw [HH.out]; decide), if_pos h33])
                clear h33
                obtain ⟨r0, r1, r2⟩ := (FC6.out _ HK7.out)
                go_upto_region 9 with fail
                clear r0 r1 r2
                go_wp2_with fail
                refine Calls.mono (iLine_any st f t A us c _ (FAA6.out _ HK7.out) hcap hcm hfm htm (some ⟨ug, uf, none⟩) vs cu (FU6.out _ HK7.out) hvl d (ByteArray.mk #[82, 67, 80, 84, 32, 84, 79, 58, 60] ++ u.name ++ ByteArray.mk #[64] ++ d ++ ByteArray.mk #[62]) hdz hlX m (FM6.out _ HK7.out) HRX.out) ?_
                rintro e w8 ⟨Ax, cx, rfl, hatx, hkx, hjx, hb⟩
                clear d0 d1 d2 d3 l0 l1 l2 l3 m0 m1 m2 m3
                have HK8 := Lib.hid (HK7.out.trans (hb.mono HK7.out.size))
                clear hb
                have d0 : w8.cell? ⟨bd, 0, none⟩ = some (.int .i64 st) := cell_at (FXd6.out _ HK8.out) 0 _ rfl
                have d1 : w8.cell? ⟨bd, 1, none⟩ = some (.string f) := cell_at (FXd6.out _ HK8.out) 1 _ rfl
                have d2 : w8.cell? ⟨bd, 2, none⟩ = some (.slice A us.length c) := cell_at (FXd6.out _ HK8.out) 2 _ rfl
                have d3 : w8.cell? ⟨bd, 3, none⟩ = some (.string t) := cell_at (FXd6.out _ HK8.out) 3 _ rfl
                have l0 : w8.cell? ⟨bl, 0, none⟩ = some (.int .i64 so) := cell_at (FXl6.out _ HK8.out) 0 _ rfl
                have l1 : w8.cell? ⟨bl, 1, none⟩ = some (.string fo) := cell_at (FXl6.out _ HK8.out) 1 _ rfl
                have l2 : w8.cell? ⟨bl, 2, none⟩ = some (.slice Al uo.length cl) := cell_at (FXl6.out _ HK8.out) 2 _ rfl
                have l3 : w8.cell? ⟨bl, 3, none⟩ = some (.string to_) := cell_at (FXl6.out _ HK8.out) 3 _ rfl
                have m0 : w8.cell? ⟨bm, 0, none⟩ = some (.int .i64 so) := cell_at (FXm6.out _ HK8.out) 0 _ rfl
                have m1 : w8.cell? ⟨bm, 1, none⟩ = some (.string fo) := cell_at (FXm6.out _ HK8.out) 1 _ rfl
                have m2 : w8.cell? ⟨bm, 2, none⟩ = some (.slice Am uo.length cm) := cell_at (FXm6.out _ HK8.out) 2 _ rfl
                have m3 : w8.cell? ⟨bm, 3, none⟩ = some (.string to_) := cell_at (FXm6.out _ HK8.out) 3 _ rfl
                clear d0 d1 d2 d3 l0 l1 l2 l3 m0 m1 m2 m3
                have hx := heap_alloc_new w8 (.cells #[.int .i64 st, .string f, .slice Ax us.length cx, .string t] 36)
                have hE := Below.alloc (Below.refl w8.heap.size w8) (Nat.le_refl _) (.cells #[.int .i64 st, .string f, .slice Ax us.length cx, .string t] 36)
                have hs : w8.heap.size < (w8.alloc (.cells #[.int .i64 st, .string f, .slice Ax us.length cx, .string t] 36)).heap.size := by simp
                go_upto_region 10 with fail
                generalize w8.alloc (.cells #[.int .i64 st, .string f, .slice Ax us.length cx, .string t] 36) = w9 at hx hE hs ⊢
                obtain ⟨bx, hbb⟩ : ∃ b, b = w8.heap.size := ⟨_, rfl⟩
                rw [← hbb] at hx hs ⊢
                have hltdx : bd < bx := by have := (Array.getElem?_eq_some_iff.1 (FXd6.out _ HK8.out)).1; omega
                have hltlx : bl < bx := by have := (Array.getElem?_eq_some_iff.1 (FXl6.out _ HK8.out)).1; omega
                have hltmx : bm < bx := by have := (Array.getElem?_eq_some_iff.1 (FXm6.out _ HK8.out)).1; omega
                have HK9 := Lib.hid (HK8.out.trans (hE.mono HK8.out.size))
                have FXx9 : Hid (∀ w', Below w9.heap.size w9 w' → w'.heap[bx]? = some (.cells #[.int .i64 st, .string f, .slice Ax us.length cx, .string t] 36 (0, 0))) := Lib.hid (fun w' hb => (hb.block _ hs).trans hx)
                have FAX9 : Hid (∀ w', Below w9.heap.size w9 w' → AtStrs w' w'.heap.size Ax us) := Lib.hid (fun w' hb => (((hatx.below hE).mono hE.size).below hb).mono hb.size)
                clear hx hE hs hbb
                have FU9 := Lib.hid (fun w' (hb : Below w9.heap.size w9 w') => FU6.out w' (HK9.out.trans (hb.mono HK9.out.size)))
                have FM9 := Lib.hid (fun w' (hb : Below w9.heap.size w9 w') => FM6.out w' (HK9.out.trans (hb.mono HK9.out.size)))
                have FB9 := Lib.hid (fun w' (hb : Below w9.heap.size w9 w') => FB6.out w' (HK9.out.trans (hb.mono HK9.out.size)))
                have FC9 := Lib.hid (fun w' (hb : Below w9.heap.size w9 w') => FC6.out w' (HK9.out.trans (hb.mono HK9.out.size)))
                have FG9 := Lib.hid (fun w' (hb : Below w9.heap.size w9 w') => FG6.out w' (HK9.out.trans (hb.mono HK9.out.size)))
                have FXd9 := Lib.hid (fun w' (hb : Below w9.heap.size w9 w') => FXd6.out w' (HK9.out.trans (hb.mono HK9.out.size)))
                have FXl9 := Lib.hid (fun w' (hb : Below w9.heap.size w9 w') => FXl6.out w' (HK9.out.trans (hb.mono HK9.out.size)))
                have FXm9 := Lib.hid (fun w' (hb : Below w9.heap.size w9 w') => FXm6.out w' (HK9.out.trans (hb.mono HK9.out.size)))
                have FAA9 := Lib.hid (fun w' (hb : Below w9.heap.size w9 w') => FAA6.out w' (HK9.out.trans (hb.mono HK9.out.size)))
                have FAL9 := Lib.hid (fun w' (hb : Below w9.heap.size w9 w') => FAL6.out w' (HK9.out.trans (hb.mono HK9.out.size)))
                have FAM9 := Lib.hid (fun w' (hb : Below w9.heap.size w9 w') => FAM6.out w' (HK9.out.trans (hb.mono HK9.out.size)))
                have HKb : Hid (Below w9.heap.size w9 w9) := Lib.hid (Below.refl _ _)
                clear HK9
                have HK9 := HKb
                clear HKb
                have d0 : w9.cell? ⟨bd, 0, none⟩ = some (.int .i64 st) := cell_at (FXd9.out _ HK9.out) 0 _ rfl
                have d1 : w9.cell? ⟨bd, 1, none⟩ = some (.string f) := cell_at (FXd9.out _ HK9.out) 1 _ rfl
                have d2 : w9.cell? ⟨bd, 2, none⟩ = some (.slice A us.length c) := cell_at (FXd9.out _ HK9.out) 2 _ rfl
                have d3 : w9.cell? ⟨bd, 3, none⟩ = some (.string t) := cell_at (FXd9.out _ HK9.out) 3 _ rfl
                have l0 : w9.cell? ⟨bl, 0, none⟩ = some (.int .i64 so) := cell_at (FXl9.out _ HK9.out) 0 _ rfl
                have l1 : w9.cell? ⟨bl, 1, none⟩ = some (.string fo) := cell_at (FXl9.out _ HK9.out) 1 _ rfl
                have l2 : w9.cell? ⟨bl, 2, none⟩ = some (.slice Al uo.length cl) := cell_at (FXl9.out _ HK9.out) 2 _ rfl
                have l3 : w9.cell? ⟨bl, 3, none⟩ = some (.string to_) := cell_at (FXl9.out _ HK9.out) 3 _ rfl
                have m0 : w9.cell? ⟨bm, 0, none⟩ = some (.int .i64 so) := cell_at (FXm9.out _ HK9.out) 0 _ rfl
                have m1 : w9.cell? ⟨bm, 1, none⟩ = some (.string fo) := cell_at (FXm9.out _ HK9.out) 1 _ rfl
                have m2 : w9.cell? ⟨bm, 2, none⟩ = some (.slice Am uo.length cm) := cell_at (FXm9.out _ HK9.out) 2 _ rfl
                have m3 : w9.cell? ⟨bm, 3, none⟩ = some (.string to_) := cell_at (FXm9.out _ HK9.out) 3 _ rfl
                have x0 : w9.cell? ⟨bx, 0, none⟩ = some (.int .i64 st) := cell_at (FXx9.out _ HK9.out) 0 _ rfl
                have x1 : w9.cell? ⟨bx, 1, none⟩ = some (.string f) := cell_at (FXx9.out _ HK9.out) 1 _ rfl
                have x2 : w9.cell? ⟨bx, 2, none⟩ = some (.slice Ax us.length cx) := cell_at (FXx9.out _ HK9.out) 2 _ rfl
                have x3 : w9.cell? ⟨bx, 3, none⟩ = some (.string t) := cell_at (FXx9.out _ HK9.out) 3 _ rfl
                clear hatx
                go_wp2_with fail
                refine Calls.mono (hasName_any A us c u.name _ (FAA9.out _ HK9.out) hul) ?_
                rintro e w10 ⟨rfl, hb⟩
                clear d0 d1 d2 d3 l0 l1 l2 l3 m0 m1 m2 m3 x0 x1 x2 x3
                have HK10 := Lib.hid (HK9.out.trans (hb.mono HK9.out.size))
                clear hb
                have d0 : w10.cell? ⟨bd, 0, none⟩ = some (.int .i64 st) := cell_at (FXd9.out _ HK10.out) 0 _ rfl
                have d1 : w10.cell? ⟨bd, 1, none⟩ = some (.string f) := cell_at (FXd9.out _ HK10.out) 1 _ rfl
                have d2 : w10.cell? ⟨bd, 2, none⟩ = some (.slice A us.length c) := cell_at (FXd9.out _ HK10.out) 2 _ rfl
                have d3 : w10.cell? ⟨bd, 3, none⟩ = some (.string t) := cell_at (FXd9.out _ HK10.out) 3 _ rfl
                have l0 : w10.cell? ⟨bl, 0, none⟩ = some (.int .i64 so) := cell_at (FXl9.out _ HK10.out) 0 _ rfl
                have l1 : w10.cell? ⟨bl, 1, none⟩ = some (.string fo) := cell_at (FXl9.out _ HK10.out) 1 _ rfl
                have l2 : w10.cell? ⟨bl, 2, none⟩ = some (.slice Al uo.length cl) := cell_at (FXl9.out _ HK10.out) 2 _ rfl
                have l3 : w10.cell? ⟨bl, 3, none⟩ = some (.string to_) := cell_at (FXl9.out _ HK10.out) 3 _ rfl
                have m0 : w10.cell? ⟨bm, 0, none⟩ = some (.int .i64 so) := cell_at (FXm9.out _ HK10.out) 0 _ rfl
                have m1 : w10.cell? ⟨bm, 1, none⟩ = some (.string fo) := cell_at (FXm9.out _ HK10.out) 1 _ rfl
                have m2 : w10.cell? ⟨bm, 2, none⟩ = some (.slice Am uo.length cm) := cell_at (FXm9.out _ HK10.out) 2 _ rfl
                have m3 : w10.cell? ⟨bm, 3, none⟩ = some (.string to_) := cell_at (FXm9.out _ HK10.out) 3 _ rfl
                have x0 : w10.cell? ⟨bx, 0, none⟩ = some (.int .i64 st) := cell_at (FXx9.out _ HK10.out) 0 _ rfl
                have x1 : w10.cell? ⟨bx, 1, none⟩ = some (.string f) := cell_at (FXx9.out _ HK10.out) 1 _ rfl
                have x2 : w10.cell? ⟨bx, 2, none⟩ = some (.slice Ax us.length cx) := cell_at (FXx9.out _ HK10.out) 2 _ rfl
                have x3 : w10.cell? ⟨bx, 3, none⟩ = some (.string t) := cell_at (FXx9.out _ HK10.out) 3 _ rfl
                rw [HH.out]
                go_wp2_with fail
                refine Calls.mono (sameSub_any st f t Ax A us cx c _ (FAX9.out _ HK10.out) (FAA9.out _ HK10.out) hul) ?_
                rintro e w11 ⟨rfl, hb⟩
                clear d0 d1 d2 d3 l0 l1 l2 l3 m0 m1 m2 m3 x0 x1 x2 x3
                have HK11 := Lib.hid (HK10.out.trans (hb.mono HK10.out.size))
                clear hb
                have d0 : w11.cell? ⟨bd, 0, none⟩ = some (.int .i64 st) := cell_at (FXd9.out _ HK11.out) 0 _ rfl
                have d1 : w11.cell? ⟨bd, 1, none⟩ = some (.string f) := cell_at (FXd9.out _ HK11.out) 1 _ rfl
                have d2 : w11.cell? ⟨bd, 2, none⟩ = some (.slice A us.length c) := cell_at (FXd9.out _ HK11.out) 2 _ rfl
                have d3 : w11.cell? ⟨bd, 3, none⟩ = some (.string t) := cell_at (FXd9.out _ HK11.out) 3 _ rfl
                have l0 : w11.cell? ⟨bl, 0, none⟩ = some (.int .i64 so) := cell_at (FXl9.out _ HK11.out) 0 _ rfl
                have l1 : w11.cell? ⟨bl, 1, none⟩ = some (.string fo) := cell_at (FXl9.out _ HK11.out) 1 _ rfl
                have l2 : w11.cell? ⟨bl, 2, none⟩ = some (.slice Al uo.length cl) := cell_at (FXl9.out _ HK11.out) 2 _ rfl
                have l3 : w11.cell? ⟨bl, 3, none⟩ = some (.string to_) := cell_at (FXl9.out _ HK11.out) 3 _ rfl
                have m0 : w11.cell? ⟨bm, 0, none⟩ = some (.int .i64 so) := cell_at (FXm9.out _ HK11.out) 0 _ rfl
                have m1 : w11.cell? ⟨bm, 1, none⟩ = some (.string fo) := cell_at (FXm9.out _ HK11.out) 1 _ rfl
                have m2 : w11.cell? ⟨bm, 2, none⟩ = some (.slice Am uo.length cm) := cell_at (FXm9.out _ HK11.out) 2 _ rfl
                have m3 : w11.cell? ⟨bm, 3, none⟩ = some (.string to_) := cell_at (FXm9.out _ HK11.out) 3 _ rfl
                have x0 : w11.cell? ⟨bx, 0, none⟩ = some (.int .i64 st) := cell_at (FXx9.out _ HK11.out) 0 _ rfl
                have x1 : w11.cell? ⟨bx, 1, none⟩ = some (.string f) := cell_at (FXx9.out _ HK11.out) 1 _ rfl
                have x2 : w11.cell? ⟨bx, 2, none⟩ = some (.slice Ax us.length cx) := cell_at (FXx9.out _ HK11.out) 2 _ rfl
                have x3 : w11.cell? ⟨bx, 3, none⟩ = some (.string t) := cell_at (FXx9.out _ HK11.out) 3 _ rfl
                go_wp2_with fail
                go_ret
                exact ⟨rfl, (FB9.out _ HK11.out)⟩
              · have h33i : ¬ (3 : Int) ≤ (us.length : Int) := by omega
                obtain ⟨un, hun⟩ : ∃ un, un = us ++ [u.name] := ⟨_, rfl⟩
                have HUNL := Lib.hid hun
                have HRX : Hid (Sm.ans vs d ⟨st, f, us, t⟩ (ByteArray.mk #[82, 67, 80, 84, 32, 84, 79, 58, 60] ++ u.name ++ ByteArray.mk #[64] ++ d ++ ByteArray.mk #[62]) = (⟨4, f, un, Sm.e0⟩, 250)) := Lib.hid (by rw [Sm.ans_good HANS.out, HRY.out, hun]; dsimp only; rw [if_neg (by rw [HH.out]; decide), if_neg h33])
                clear h33 hun
                obtain ⟨r0, r1, r2⟩ := (FC6.out _ HK7.out)
                go_upto_region 9 with fail
                clear r0 r1 r2
                go_wp2_with fail
                refine Calls.mono (iLine_any st f t A us c _ (FAA6.out _ HK7.out) hcap hcm hfm htm (some ⟨ug, uf, none⟩) vs cu (FU6.out _ HK7.out) hvl d (ByteArray.mk #[82, 67, 80, 84, 32, 84, 79, 58, 60] ++ u.name ++ ByteArray.mk #[64] ++ d ++ ByteArray.mk #[62]) hdz hlX m (FM6.out _ HK7.out) HRX.out) ?_
                rintro e w8 ⟨Ax, cx, rfl, hatx, hkx, hjx, hb⟩
                clear d0 d1 d2 d3 l0 l1 l2 l3 m0 m1 m2 m3
                have HK8 := Lib.hid (HK7.out.trans (hb.mono HK7.out.size))
                clear hb
                have d0 : w8.cell? ⟨bd, 0, none⟩ = some (.int .i64 st) := cell_at (FXd6.out _ HK8.out) 0 _ rfl
                have d1 : w8.cell? ⟨bd, 1, none⟩ = some (.string f) := cell_at (FXd6.out _ HK8.out) 1 _ rfl
                have d2 : w8.cell? ⟨bd, 2, none⟩ = some (.slice A us.length c) := cell_at (FXd6.out _ HK8.out) 2 _ rfl
                have d3 : w8.cell? ⟨bd, 3, none⟩ = some (.string t) := cell_at (FXd6.out _ HK8.out) 3 _ rfl
                have l0 : w8.cell? ⟨bl, 0, none⟩ = some (.int .i64 so) := cell_at (FXl6.out _ HK8.out) 0 _ rfl
                have l1 : w8.cell? ⟨bl, 1, none⟩ = some (.string fo) := cell_at (FXl6.out _ HK8.out) 1 _ rfl
                have l2 : w8.cell? ⟨bl, 2, none⟩ = some (.slice Al uo.length cl) := cell_at (FXl6.out _ HK8.out) 2 _ rfl
                have l3 : w8.cell? ⟨bl, 3, none⟩ = some (.string to_) := cell_at (FXl6.out _ HK8.out) 3 _ rfl
                have m0 : w8.cell? ⟨bm, 0, none⟩ = some (.int .i64 so) := cell_at (FXm6.out _ HK8.out) 0 _ rfl
                have m1 : w8.cell? ⟨bm, 1, none⟩ = some (.string fo) := cell_at (FXm6.out _ HK8.out) 1 _ rfl
                have m2 : w8.cell? ⟨bm, 2, none⟩ = some (.slice Am uo.length cm) := cell_at (FXm6.out _ HK8.out) 2 _ rfl
                have m3 : w8.cell? ⟨bm, 3, none⟩ = some (.string to_) := cell_at (FXm6.out _ HK8.out) 3 _ rfl
                clear d0 d1 d2 d3 l0 l1 l2 l3 m0 m1 m2 m3
                have hx := heap_alloc_new w8 (.cells #[.int .i64 4, .string f, .slice Ax un.length cx, .string Sm.e0] 36)
                have hE := Below.alloc (Below.refl w8.heap.size w8) (Nat.le_refl _) (.cells #[.int .i64 4, .string f, .slice Ax un.length cx, .string Sm.e0] 36)
                have hs : w8.heap.size < (w8.alloc (.cells #[.int .i64 4, .string f, .slice Ax un.length cx, .string Sm.e0] 36)).heap.size := by simp
                go_upto_region 10 with fail
                generalize w8.alloc (.cells #[.int .i64 4, .string f, .slice Ax un.length cx, .string Sm.e0] 36) = w9 at hx hE hs ⊢
                obtain ⟨bx, hbb⟩ : ∃ b, b = w8.heap.size := ⟨_, rfl⟩
                rw [← hbb] at hx hs ⊢
                have hltdx : bd < bx := by have := (Array.getElem?_eq_some_iff.1 (FXd6.out _ HK8.out)).1; omega
                have hltlx : bl < bx := by have := (Array.getElem?_eq_some_iff.1 (FXl6.out _ HK8.out)).1; omega
                have hltmx : bm < bx := by have := (Array.getElem?_eq_some_iff.1 (FXm6.out _ HK8.out)).1; omega
                have HK9 := Lib.hid (HK8.out.trans (hE.mono HK8.out.size))
                have FXx9 : Hid (∀ w', Below w9.heap.size w9 w' → w'.heap[bx]? = some (.cells #[.int .i64 4, .string f, .slice Ax un.length cx, .string Sm.e0] 36 (0, 0))) := Lib.hid (fun w' hb => (hb.block _ hs).trans hx)
                have FAX9 : Hid (∀ w', Below w9.heap.size w9 w' → AtStrs w' w'.heap.size Ax un) := Lib.hid (fun w' hb => (((hatx.below hE).mono hE.size).below hb).mono hb.size)
                clear hx hE hs hbb
                have FU9 := Lib.hid (fun w' (hb : Below w9.heap.size w9 w') => FU6.out w' (HK9.out.trans (hb.mono HK9.out.size)))
                have FM9 := Lib.hid (fun w' (hb : Below w9.heap.size w9 w') => FM6.out w' (HK9.out.trans (hb.mono HK9.out.size)))
                have FB9 := Lib.hid (fun w' (hb : Below w9.heap.size w9 w') => FB6.out w' (HK9.out.trans (hb.mono HK9.out.size)))
                have FC9 := Lib.hid (fun w' (hb : Below w9.heap.size w9 w') => FC6.out w' (HK9.out.trans (hb.mono HK9.out.size)))
                have FG9 := Lib.hid (fun w' (hb : Below w9.heap.size w9 w') => FG6.out w' (HK9.out.trans (hb.mono HK9.out.size)))
                have FXd9 := Lib.hid (fun w' (hb : Below w9.heap.size w9 w') => FXd6.out w' (HK9.out.trans (hb.mono HK9.out.size)))
                have FXl9 := Lib.hid (fun w' (hb : Below w9.heap.size w9 w') => FXl6.out w' (HK9.out.trans (hb.mono HK9.out.size)))
                have FXm9 := Lib.hid (fun w' (hb : Below w9.heap.size w9 w') => FXm6.out w' (HK9.out.trans (hb.mono HK9.out.size)))
                have FAA9 := Lib.hid (fun w' (hb : Below w9.heap.size w9 w') => FAA6.out w' (HK9.out.trans (hb.mono HK9.out.size)))
                have FAL9 := Lib.hid (fun w' (hb : Below w9.heap.size w9 w') => FAL6.out w' (HK9.out.trans (hb.mono HK9.out.size)))
                have FAM9 := Lib.hid (fun w' (hb : Below w9.heap.size w9 w') => FAM6.out w' (HK9.out.trans (hb.mono HK9.out.size)))
                have HKb : Hid (Below w9.heap.size w9 w9) := Lib.hid (Below.refl _ _)
                clear HK9
                have HK9 := HKb
                clear HKb
                have d0 : w9.cell? ⟨bd, 0, none⟩ = some (.int .i64 st) := cell_at (FXd9.out _ HK9.out) 0 _ rfl
                have d1 : w9.cell? ⟨bd, 1, none⟩ = some (.string f) := cell_at (FXd9.out _ HK9.out) 1 _ rfl
                have d2 : w9.cell? ⟨bd, 2, none⟩ = some (.slice A us.length c) := cell_at (FXd9.out _ HK9.out) 2 _ rfl
                have d3 : w9.cell? ⟨bd, 3, none⟩ = some (.string t) := cell_at (FXd9.out _ HK9.out) 3 _ rfl
                have l0 : w9.cell? ⟨bl, 0, none⟩ = some (.int .i64 so) := cell_at (FXl9.out _ HK9.out) 0 _ rfl
                have l1 : w9.cell? ⟨bl, 1, none⟩ = some (.string fo) := cell_at (FXl9.out _ HK9.out) 1 _ rfl
                have l2 : w9.cell? ⟨bl, 2, none⟩ = some (.slice Al uo.length cl) := cell_at (FXl9.out _ HK9.out) 2 _ rfl
                have l3 : w9.cell? ⟨bl, 3, none⟩ = some (.string to_) := cell_at (FXl9.out _ HK9.out) 3 _ rfl
                have m0 : w9.cell? ⟨bm, 0, none⟩ = some (.int .i64 so) := cell_at (FXm9.out _ HK9.out) 0 _ rfl
                have m1 : w9.cell? ⟨bm, 1, none⟩ = some (.string fo) := cell_at (FXm9.out _ HK9.out) 1 _ rfl
                have m2 : w9.cell? ⟨bm, 2, none⟩ = some (.slice Am uo.length cm) := cell_at (FXm9.out _ HK9.out) 2 _ rfl
                have m3 : w9.cell? ⟨bm, 3, none⟩ = some (.string to_) := cell_at (FXm9.out _ HK9.out) 3 _ rfl
                have x0 : w9.cell? ⟨bx, 0, none⟩ = some (.int .i64 4) := cell_at (FXx9.out _ HK9.out) 0 _ rfl
                have x1 : w9.cell? ⟨bx, 1, none⟩ = some (.string f) := cell_at (FXx9.out _ HK9.out) 1 _ rfl
                have x2 : w9.cell? ⟨bx, 2, none⟩ = some (.slice Ax un.length cx) := cell_at (FXx9.out _ HK9.out) 2 _ rfl
                have x3 : w9.cell? ⟨bx, 3, none⟩ = some (.string Sm.e0) := cell_at (FXx9.out _ HK9.out) 3 _ rfl
                clear hatx
                go_wp2_with fail
                refine Calls.mono (hasName_any A us c u.name _ (FAA9.out _ HK9.out) hul) ?_
                rintro e w10 ⟨rfl, hb⟩
                clear d0 d1 d2 d3 l0 l1 l2 l3 m0 m1 m2 m3 x0 x1 x2 x3
                have HK10 := Lib.hid (HK9.out.trans (hb.mono HK9.out.size))
                clear hb
                have d0 : w10.cell? ⟨bd, 0, none⟩ = some (.int .i64 st) := cell_at (FXd9.out _ HK10.out) 0 _ rfl
                have d1 : w10.cell? ⟨bd, 1, none⟩ = some (.string f) := cell_at (FXd9.out _ HK10.out) 1 _ rfl
                have d2 : w10.cell? ⟨bd, 2, none⟩ = some (.slice A us.length c) := cell_at (FXd9.out _ HK10.out) 2 _ rfl
                have d3 : w10.cell? ⟨bd, 3, none⟩ = some (.string t) := cell_at (FXd9.out _ HK10.out) 3 _ rfl
                have l0 : w10.cell? ⟨bl, 0, none⟩ = some (.int .i64 so) := cell_at (FXl9.out _ HK10.out) 0 _ rfl
                have l1 : w10.cell? ⟨bl, 1, none⟩ = some (.string fo) := cell_at (FXl9.out _ HK10.out) 1 _ rfl
                have l2 : w10.cell? ⟨bl, 2, none⟩ = some (.slice Al uo.length cl) := cell_at (FXl9.out _ HK10.out) 2 _ rfl
                have l3 : w10.cell? ⟨bl, 3, none⟩ = some (.string to_) := cell_at (FXl9.out _ HK10.out) 3 _ rfl
                have m0 : w10.cell? ⟨bm, 0, none⟩ = some (.int .i64 so) := cell_at (FXm9.out _ HK10.out) 0 _ rfl
                have m1 : w10.cell? ⟨bm, 1, none⟩ = some (.string fo) := cell_at (FXm9.out _ HK10.out) 1 _ rfl
                have m2 : w10.cell? ⟨bm, 2, none⟩ = some (.slice Am uo.length cm) := cell_at (FXm9.out _ HK10.out) 2 _ rfl
                have m3 : w10.cell? ⟨bm, 3, none⟩ = some (.string to_) := cell_at (FXm9.out _ HK10.out) 3 _ rfl
                have x0 : w10.cell? ⟨bx, 0, none⟩ = some (.int .i64 4) := cell_at (FXx9.out _ HK10.out) 0 _ rfl
                have x1 : w10.cell? ⟨bx, 1, none⟩ = some (.string f) := cell_at (FXx9.out _ HK10.out) 1 _ rfl
                have x2 : w10.cell? ⟨bx, 2, none⟩ = some (.slice Ax un.length cx) := cell_at (FXx9.out _ HK10.out) 2 _ rfl
                have x3 : w10.cell? ⟨bx, 3, none⟩ = some (.string Sm.e0) := cell_at (FXx9.out _ HK10.out) 3 _ rfl
                rw [HH.out]
                obtain ⟨i0, hi, hz0, hz1, hz2⟩ := info_parts str_info
                go_upto_region 14 with fail
                have GD : Hid (Below w10.heap.size w10 w10.drew) := Lib.hid (Sx.below_drew (Below.refl _ _))
                have GE : Hid (Below w10.heap.size w10 (w10.alloc (.cells #[] 9)).drew) := Lib.hid (Sx.below_drew ((Below.refl _ _).alloc (Nat.le_refl _) _))
                have GU : Hid (Below w10.heap.size w10 (w10.alloc (.cells #[.string u.name] 9)).drew) := Lib.hid (Sx.below_drew ((Below.refl _ _).alloc (Nat.le_refl _) _))
                have GEU : Hid (Below w10.heap.size w10 ((w10.alloc (.cells #[] 9)).alloc (.cells #[.string u.name] 9)).drew) := Lib.hid (Sx.below_drew (((Below.refl _ _).alloc (Nat.le_refl _) _).alloc (by simp) _))
                have GUE : Hid (Below w10.heap.size w10 ((w10.alloc (.cells #[.string u.name] 9)).alloc (.cells #[] 9)).drew) := Lib.hid (Sx.below_drew (((Below.refl _ _).alloc (Nat.le_refl _) _).alloc (by simp) _))
                have HAW : Hid (AtStrs w10 w10.heap.size A us) := Lib.hid (FAA9.out _ HK10.out)
                have HUSZ := Lib.hid HAW.out.2
                have hu3 : us.length ≤ 3 := HT0.out.2
                have HRE : Hid (Reads (w10.alloc (.cells #[] 9)).drew w10.heap.size 1 A us.length (us.flatMap St.cells)) := Lib.hid (reads_of_at (by omega) St.cells_len ((St.at_of HAW.out).below GE.out))
                have HSE : Hid (w10.heap.size ≤ (w10.alloc (.cells #[] 9)).drew.heap.size) := Lib.hid GE.out.size
                have HREU : Hid (Reads ((w10.alloc (.cells #[] 9)).alloc (.cells #[.string u.name] 9)).drew w10.heap.size 1 A us.length (us.flatMap St.cells)) := Lib.hid (reads_of_at (by omega) St.cells_len ((St.at_of HAW.out).below GEU.out))
                have HSEU : Hid (w10.heap.size ≤ ((w10.alloc (.cells #[] 9)).alloc (.cells #[.string u.name] 9)).drew.heap.size) := Lib.hid GEU.out.size
                have HRUE : Hid (Reads ((w10.alloc (.cells #[.string u.name] 9)).alloc (.cells #[] 9)).drew w10.heap.size 1 A us.length (us.flatMap St.cells)) := Lib.hid (reads_of_at (by omega) St.cells_len ((St.at_of HAW.out).below GUE.out))
                have HSUE : Hid (w10.heap.size ≤ ((w10.alloc (.cells #[.string u.name] 9)).alloc (.cells #[] 9)).drew.heap.size) := Lib.hid GUE.out.size
                have HOE : Hid ((w10.alloc (.cells #[] 9)).drew.ownsRow w10.heap.size 9 1 (.slice (some ⟨w10.heap.size, 0, none⟩) 0 0) 0 []) := Lib.hid (World.ownsRow_lit (base := w10.heap.size) (e := 9) (size := 1) w10 #[] 0 (Nat.le_refl _) (Nat.zero_le _) rfl)
                have HOEU : Hid (((w10.alloc (.cells #[] 9)).alloc (.cells #[.string u.name] 9)).drew.ownsRow w10.heap.size 9 1 (.slice (some ⟨w10.heap.size, 0, none⟩) 0 0) 0 []) := Lib.hid (OwnL.alloc (f := St.cells) (us := ([] : List ByteArray)) (ownL_nil w10 (Nat.le_refl _)) (.cells #[.string u.name] 9))
                have HOUE : Hid (((w10.alloc (.cells #[.string u.name] 9)).alloc (.cells #[] 9)).drew.ownsRow w10.heap.size 9 1 (.slice (some ⟨(w10.alloc (.cells #[.string u.name] 9)).heap.size, 0, none⟩) 0 0) 0 []) := Lib.hid (ownL_nil (f := St.cells) (w10.alloc (.cells #[.string u.name] 9)) (by simp))
                have HUEU : Hid (((w10.alloc (.cells #[] 9)).alloc (.cells #[.string u.name] 9)).drew.heap[w10.heap.size + 1]? = some (.cells #[.string u.name] 9 (0, 0))) := Lib.hid (show ((w10.alloc (.cells #[] 9)).alloc (.cells #[.string u.name] 9)).heap[w10.heap.size + 1]? = some (.cells #[.string u.name] 9 (0, 0)) by have := heap_alloc_new (w10.alloc (.cells #[] 9)) (.cells #[.string u.name] 9); simpa using this)
                have HUUE : Hid (((w10.alloc (.cells #[.string u.name] 9)).alloc (.cells #[] 9)).drew.heap[w10.heap.size]? = some (.cells #[.string u.name] 9 (0, 0))) := Lib.hid ((Below.heap_alloc (w10.alloc (.cells #[.string u.name] 9)) (.cells #[] 9) w10.heap.size (by simp)).trans (heap_alloc_new w10 (.cells #[.string u.name] 9)))
                have K1 := Lib.hid (St.cells_one us)
                have K3 : Hid (0 + us.length ≤ maxLen) := Lib.hid (by unfold maxLen; omega)
                have K4 : Hid ((0 + us.length) * 16 ≤ 140737488355328) := Lib.hid (by omega)
                have K5 : Hid (us.length + 1 ≤ maxLen) := Lib.hid (by unfold maxLen; omega)
                have K6 : Hid ((us.length + 1) * 16 ≤ 140737488355328) := Lib.hid (by omega)
                have HXW : Hid (∀ w', Below w10.heap.size w10 w' → AtStrs w' w'.heap.size Ax un) := Lib.hid fun w' hb => FAX9.out w' (HK10.out.trans (hb.mono HK10.out.size))
                have HXB : Hid (w10.heap[bx]? = some (.cells #[.int .i64 4, .string f, .slice Ax un.length cx, .string Sm.e0] 36 (0, 0))) := Lib.hid (FXx9.out _ HK10.out)
                have HDB : Hid (w10.heap[bd]? = some (.cells #[.int .i64 st, .string f, .slice A us.length c, .string t] 36 (0, 0))) := Lib.hid (FXd9.out _ HK10.out)
                have HS : Hid (∀ w', Below w10.heap.size w10 w' → (w'.cell? ⟨bx, 0, none⟩ = some (.int .i64 4) ∧ w'.cell? ⟨bx, 1, none⟩ = some (.string f) ∧ w'.cell? ⟨bx, 2, none⟩ = some (.slice Ax un.length cx) ∧ w'.cell? ⟨bx, 3, none⟩ = some (.string Sm.e0) ∧ w'.cell? ⟨bd, 1, none⟩ = some (.string f) ∧ w'.cell? ⟨bd, 2, none⟩ = some (.slice A us.length c))) := Lib.hid fun w' hb => by
                  have h1 := (hb.block bx (Array.getElem?_eq_some_iff.1 HXB.out).1).trans HXB.out
                  have h2 := (hb.block bd (Array.getElem?_eq_some_iff.1 HDB.out).1).trans HDB.out
                  exact ⟨cell_at h1 0 _ rfl, cell_at h1 1 _ rfl, cell_at h1 2 _ rfl, cell_at h1 3 _ rfl, cell_at h2 1 _ rfl, cell_at h2 2 _ rfl⟩
                clear d0 d1 d2 d3 l0 l1 l2 l3 m0 m1 m2 m3 x0 x1 x2 x3
                go_region_held3 (fun w' => w'.cell? ⟨bx, 0, none⟩ = some (.int .i64 4) ∧ w'.cell? ⟨bx, 1, none⟩ = some (.string f) ∧ w'.cell? ⟨bx, 2, none⟩ = some (.slice Ax un.length cx) ∧ w'.cell? ⟨bx, 3, none⟩ = some (.string Sm.e0) ∧ w'.cell? ⟨bd, 1, none⟩ = some (.string f) ∧ w'.cell? ⟨bd, 2, none⟩ = some (.slice A us.length c))
                  (first | exact HS.out _ HBQ.out | exact HS.out _ HBB.out | exact HS.out _ HBU.out | exact HS.out _ HBA.out | exact HS.out _ (HBA.out.alloc HBA.out.size _) | exact HS.out _ GD.out | exact HS.out _ GE.out | exact HS.out _ GU.out | exact HS.out _ GEU.out | exact HS.out _ GUE.out)
                  (first
                    | (refine step_append_anyG (by simp [Region.wanted, yielded]) (.tmp 130) (.tmp 132) _ rfl w10.heap.size 9 i0 _ 1 16 Tryz.underlying24 hi hz0 hz1 hz2 rfl (by omega) _ 0 [] (by simp [Act.eval]) HOE.out _ A us.length c _ (by simp [Act.eval]) HRE.out K1.out K3.out K4.out HSE.out ?_; intro v1 wa hown hgr hbk; obtain ⟨A1, c1, rfl⟩ := own_form hown; have HBA : Hid (Below w10.heap.size w10 wa) := Lib.hid (GE.out.grown hgr HSE.out (fun q hq => (HOE.out.lt q hq).1)); have HOA : Hid (St.Own wa w10.heap.size (.slice A1 us.length c1) us) := Lib.hid (by unfold St.Own OwnL; simpa using hown); clear hown hgr hbk)
                    | (refine step_append_anyG (by simp [Region.wanted, yielded]) (.tmp 130) (.tmp 132) _ rfl w10.heap.size 9 i0 _ 1 16 Tryz.underlying24 hi hz0 hz1 hz2 rfl (by omega) _ 0 [] (by simp [Act.eval]) HOEU.out _ A us.length c _ (by simp [Act.eval]) HREU.out K1.out K3.out K4.out HSEU.out ?_; intro v1 wa hown hgr hbk; obtain ⟨A1, c1, rfl⟩ := own_form hown; have HBA : Hid (Below w10.heap.size w10 wa) := Lib.hid (GEU.out.grown hgr HSEU.out (fun q hq => (HOEU.out.lt q hq).1)); have HOA : Hid (St.Own wa w10.heap.size (.slice A1 us.length c1) us) := Lib.hid (by unfold St.Own OwnL; simpa using hown); have HUA := Lib.hid ((hgr.block (w10.heap.size + 1) (Array.getElem?_eq_some_iff.1 HUEU.out).1 (by intro e; injection e with e; simp at e)).trans HUEU.out); clear hown hgr hbk)
                    | (refine step_append_anyG (by simp [Region.wanted, yielded]) (.tmp 130) (.tmp 132) _ rfl w10.heap.size 9 i0 _ 1 16 Tryz.underlying24 hi hz0 hz1 hz2 rfl (by omega) _ 0 [] (by simp [Act.eval]) HOUE.out _ A us.length c _ (by simp [Act.eval]) HRUE.out K1.out K3.out K4.out HSUE.out ?_; intro v1 wa hown hgr hbk; obtain ⟨A1, c1, rfl⟩ := own_form hown; have HBA : Hid (Below w10.heap.size w10 wa) := Lib.hid (GUE.out.grown hgr HSUE.out (fun q hq => (HOUE.out.lt q hq).1)); have HOA : Hid (St.Own wa w10.heap.size (.slice A1 us.length c1) us) := Lib.hid (by unfold St.Own OwnL; simpa using hown); have HUA := Lib.hid ((hgr.block w10.heap.size (Array.getElem?_eq_some_iff.1 HUUE.out).1 (by intro e; injection e with e; simp at e)).trans HUUE.out); clear hown hgr hbk)
                    | (refine step_append_anyG (by simp [Region.wanted, yielded]) (.tmp 133) (.tmp 135) _ rfl w10.heap.size 9 i0 _ 1 16 Tryz.underlying24 hi hz0 hz1 hz2 rfl (by omega) _ us.length _ (by simp [Act.eval]) HOA.out (_ + 1) _ 1 1 [.string u.name] (by simp [Act.eval]) (Sx.reads_blk HUA.out) (Sx.one_one _) K5.out K6.out HBA.out.size ?_; intro v2 wb hown hgr hbk; obtain ⟨A2, c2, rfl⟩ := own_form hown; have HBB : Hid (Below w10.heap.size w10 wb) := Lib.hid (HBA.out.grown hgr HBA.out.size (fun q hq => (HOA.out.lt q hq).1)); have HOB := Lib.hid (Po.snoc hown); clear hown hgr hbk)
                    | (refine step_append_anyG (by simp [Region.wanted, yielded]) (.tmp 133) (.tmp 135) _ rfl w10.heap.size 9 i0 _ 1 16 Tryz.underlying24 hi hz0 hz1 hz2 rfl (by omega) _ us.length _ (by simp [Act.eval]) (OwnL.alloc HOA.out (.cells #[.string u.name] 9)) (wa.heap.size + 1) (some ⟨wa.heap.size, 0, none⟩) 1 1 [.string u.name] (by simp [Act.eval]) (Sx.reads_one wa u.name) (Sx.one_one _) K5.out K6.out (Nat.le_trans HBA.out.size (by simp)) ?_; intro v2 wb hown hgr hbk; obtain ⟨A2, c2, rfl⟩ := own_form hown; have HBB : Hid (Below w10.heap.size w10 wb) := Lib.hid ((HBA.out.alloc HBA.out.size (.cells #[.string u.name] 9)).grown hgr (Nat.le_trans HBA.out.size (by simp)) (fun q hq => (HOA.out.lt q hq).1)); have HOB := Lib.hid (Po.snoc hown); clear hown hgr hbk)
                    | (go_at_call 47; refine Calls.mono (Lw.same_new f Ax A2 us un u.name cx c2 wb (HXW.out _ HBB.out) HOB.out HUNL.out HUSZ.out hun8 hu3) ?_; rintro e wq ⟨rfl, hb⟩; have HBQ : Hid (Below w10.heap.size w10 wq) := Lib.hid (HBB.out.trans (hb.mono HBB.out.size))))
                all_goals
                  go_wp2_with fail
                  go_ret
                  exact ⟨rfl, FB9.out _ (HK10.out.trans (HBQ.out.mono HK10.out.size))⟩
            · have HH := Lib.hid hh
              clear hh
              have HRX : Hid (Sm.ans vs d ⟨st, f, us, t⟩ (ByteArray.mk #[82, 67, 80, 84, 32, 84, 79, 58, 60] ++ u.name ++ ByteArray.mk #[64] ++ d ++ ByteArray.mk #[62]) = (⟨st, f, us, t⟩, 250)) := Lib.hid (by rw [Sm.ans_good HANS.out, HRY.out]; dsimp only; rw [if_pos HH.out])
              obtain ⟨r0, r1, r2⟩ := (FC6.out _ HK7.out)
              go_upto_region 9 with fail
              clear r0 r1 r2
              go_wp2_with fail
              refine Calls.mono (iLine_any st f t A us c _ (FAA6.out _ HK7.out) hcap hcm hfm htm (some ⟨ug, uf, none⟩) vs cu (FU6.out _ HK7.out) hvl d (ByteArray.mk #[82, 67, 80, 84, 32, 84, 79, 58, 60] ++ u.name ++ ByteArray.mk #[64] ++ d ++ ByteArray.mk #[62]) hdz hlX m (FM6.out _ HK7.out) HRX.out) ?_
              rintro e w8 ⟨Ax, cx, rfl, hatx, hkx, hjx, hb⟩
              clear d0 d1 d2 d3 l0 l1 l2 l3 m0 m1 m2 m3
              have HK8 := Lib.hid (HK7.out.trans (hb.mono HK7.out.size))
              clear hb
              have d0 : w8.cell? ⟨bd, 0, none⟩ = some (.int .i64 st) := cell_at (FXd6.out _ HK8.out) 0 _ rfl
              have d1 : w8.cell? ⟨bd, 1, none⟩ = some (.string f) := cell_at (FXd6.out _ HK8.out) 1 _ rfl
              have d2 : w8.cell? ⟨bd, 2, none⟩ = some (.slice A us.length c) := cell_at (FXd6.out _ HK8.out) 2 _ rfl
              have d3 : w8.cell? ⟨bd, 3, none⟩ = some (.string t) := cell_at (FXd6.out _ HK8.out) 3 _ rfl
              have l0 : w8.cell? ⟨bl, 0, none⟩ = some (.int .i64 so) := cell_at (FXl6.out _ HK8.out) 0 _ rfl
              have l1 : w8.cell? ⟨bl, 1, none⟩ = some (.string fo) := cell_at (FXl6.out _ HK8.out) 1 _ rfl
              have l2 : w8.cell? ⟨bl, 2, none⟩ = some (.slice Al uo.length cl) := cell_at (FXl6.out _ HK8.out) 2 _ rfl
              have l3 : w8.cell? ⟨bl, 3, none⟩ = some (.string to_) := cell_at (FXl6.out _ HK8.out) 3 _ rfl
              have m0 : w8.cell? ⟨bm, 0, none⟩ = some (.int .i64 so) := cell_at (FXm6.out _ HK8.out) 0 _ rfl
              have m1 : w8.cell? ⟨bm, 1, none⟩ = some (.string fo) := cell_at (FXm6.out _ HK8.out) 1 _ rfl
              have m2 : w8.cell? ⟨bm, 2, none⟩ = some (.slice Am uo.length cm) := cell_at (FXm6.out _ HK8.out) 2 _ rfl
              have m3 : w8.cell? ⟨bm, 3, none⟩ = some (.string to_) := cell_at (FXm6.out _ HK8.out) 3 _ rfl
              clear d0 d1 d2 d3 l0 l1 l2 l3 m0 m1 m2 m3
              have hx := heap_alloc_new w8 (.cells #[.int .i64 st, .string f, .slice Ax us.length cx, .string t] 36)
              have hE := Below.alloc (Below.refl w8.heap.size w8) (Nat.le_refl _) (.cells #[.int .i64 st, .string f, .slice Ax us.length cx, .string t] 36)
              have hs : w8.heap.size < (w8.alloc (.cells #[.int .i64 st, .string f, .slice Ax us.length cx, .string t] 36)).heap.size := by simp
              go_upto_region 10 with fail
              generalize w8.alloc (.cells #[.int .i64 st, .string f, .slice Ax us.length cx, .string t] 36) = w9 at hx hE hs ⊢
              obtain ⟨bx, hbb⟩ : ∃ b, b = w8.heap.size := ⟨_, rfl⟩
              rw [← hbb] at hx hs ⊢
              have hltdx : bd < bx := by have := (Array.getElem?_eq_some_iff.1 (FXd6.out _ HK8.out)).1; omega
              have hltlx : bl < bx := by have := (Array.getElem?_eq_some_iff.1 (FXl6.out _ HK8.out)).1; omega
              have hltmx : bm < bx := by have := (Array.getElem?_eq_some_iff.1 (FXm6.out _ HK8.out)).1; omega
              have HK9 := Lib.hid (HK8.out.trans (hE.mono HK8.out.size))
              have FXx9 : Hid (∀ w', Below w9.heap.size w9 w' → w'.heap[bx]? = some (.cells #[.int .i64 st, .string f, .slice Ax us.length cx, .string t] 36 (0, 0))) := Lib.hid (fun w' hb => (hb.block _ hs).trans hx)
              have FAX9 : Hid (∀ w', Below w9.heap.size w9 w' → AtStrs w' w'.heap.size Ax us) := Lib.hid (fun w' hb => (((hatx.below hE).mono hE.size).below hb).mono hb.size)
              clear hx hE hs hbb
              have FU9 := Lib.hid (fun w' (hb : Below w9.heap.size w9 w') => FU6.out w' (HK9.out.trans (hb.mono HK9.out.size)))
              have FM9 := Lib.hid (fun w' (hb : Below w9.heap.size w9 w') => FM6.out w' (HK9.out.trans (hb.mono HK9.out.size)))
              have FB9 := Lib.hid (fun w' (hb : Below w9.heap.size w9 w') => FB6.out w' (HK9.out.trans (hb.mono HK9.out.size)))
              have FC9 := Lib.hid (fun w' (hb : Below w9.heap.size w9 w') => FC6.out w' (HK9.out.trans (hb.mono HK9.out.size)))
              have FG9 := Lib.hid (fun w' (hb : Below w9.heap.size w9 w') => FG6.out w' (HK9.out.trans (hb.mono HK9.out.size)))
              have FXd9 := Lib.hid (fun w' (hb : Below w9.heap.size w9 w') => FXd6.out w' (HK9.out.trans (hb.mono HK9.out.size)))
              have FXl9 := Lib.hid (fun w' (hb : Below w9.heap.size w9 w') => FXl6.out w' (HK9.out.trans (hb.mono HK9.out.size)))
              have FXm9 := Lib.hid (fun w' (hb : Below w9.heap.size w9 w') => FXm6.out w' (HK9.out.trans (hb.mono HK9.out.size)))
              have FAA9 := Lib.hid (fun w' (hb : Below w9.heap.size w9 w') => FAA6.out w' (HK9.out.trans (hb.mono HK9.out.size)))
              have FAL9 := Lib.hid (fun w' (hb : Below w9.heap.size w9 w') => FAL6.out w' (HK9.out.trans (hb.mono HK9.out.size)))
              have FAM9 := Lib.hid (fun w' (hb : Below w9.heap.size w9 w') => FAM6.out w' (HK9.out.trans (hb.mono HK9.out.size)))
              have HKb : Hid (Below w9.heap.size w9 w9) := Lib.hid (Below.refl _ _)
              clear HK9
              have HK9 := HKb
              clear HKb
              have d0 : w9.cell? ⟨bd, 0, none⟩ = some (.int .i64 st) := cell_at (FXd9.out _ HK9.out) 0 _ rfl
              have d1 : w9.cell? ⟨bd, 1, none⟩ = some (.string f) := cell_at (FXd9.out _ HK9.out) 1 _ rfl
              have d2 : w9.cell? ⟨bd, 2, none⟩ = some (.slice A us.length c) := cell_at (FXd9.out _ HK9.out) 2 _ rfl
              have d3 : w9.cell? ⟨bd, 3, none⟩ = some (.string t) := cell_at (FXd9.out _ HK9.out) 3 _ rfl
              have l0 : w9.cell? ⟨bl, 0, none⟩ = some (.int .i64 so) := cell_at (FXl9.out _ HK9.out) 0 _ rfl
              have l1 : w9.cell? ⟨bl, 1, none⟩ = some (.string fo) := cell_at (FXl9.out _ HK9.out) 1 _ rfl
              have l2 : w9.cell? ⟨bl, 2, none⟩ = some (.slice Al uo.length cl) := cell_at (FXl9.out _ HK9.out) 2 _ rfl
              have l3 : w9.cell? ⟨bl, 3, none⟩ = some (.string to_) := cell_at (FXl9.out _ HK9.out) 3 _ rfl
              have m0 : w9.cell? ⟨bm, 0, none⟩ = some (.int .i64 so) := cell_at (FXm9.out _ HK9.out) 0 _ rfl
              have m1 : w9.cell? ⟨bm, 1, none⟩ = some (.string fo) := cell_at (FXm9.out _ HK9.out) 1 _ rfl
              have m2 : w9.cell? ⟨bm, 2, none⟩ = some (.slice Am uo.length cm) := cell_at (FXm9.out _ HK9.out) 2 _ rfl
              have m3 : w9.cell? ⟨bm, 3, none⟩ = some (.string to_) := cell_at (FXm9.out _ HK9.out) 3 _ rfl
              have x0 : w9.cell? ⟨bx, 0, none⟩ = some (.int .i64 st) := cell_at (FXx9.out _ HK9.out) 0 _ rfl
              have x1 : w9.cell? ⟨bx, 1, none⟩ = some (.string f) := cell_at (FXx9.out _ HK9.out) 1 _ rfl
              have x2 : w9.cell? ⟨bx, 2, none⟩ = some (.slice Ax us.length cx) := cell_at (FXx9.out _ HK9.out) 2 _ rfl
              have x3 : w9.cell? ⟨bx, 3, none⟩ = some (.string t) := cell_at (FXx9.out _ HK9.out) 3 _ rfl
              clear hatx
              go_wp2_with fail
              refine Calls.mono (hasName_any A us c u.name _ (FAA9.out _ HK9.out) hul) ?_
              rintro e w10 ⟨rfl, hb⟩
              clear d0 d1 d2 d3 l0 l1 l2 l3 m0 m1 m2 m3 x0 x1 x2 x3
              have HK10 := Lib.hid (HK9.out.trans (hb.mono HK9.out.size))
              clear hb
              have d0 : w10.cell? ⟨bd, 0, none⟩ = some (.int .i64 st) := cell_at (FXd9.out _ HK10.out) 0 _ rfl
              have d1 : w10.cell? ⟨bd, 1, none⟩ = some (.string f) := cell_at (FXd9.out _ HK10.out) 1 _ rfl
              have d2 : w10.cell? ⟨bd, 2, none⟩ = some (.slice A us.length c) := cell_at (FXd9.out _ HK10.out) 2 _ rfl
              have d3 : w10.cell? ⟨bd, 3, none⟩ = some (.string t) := cell_at (FXd9.out _ HK10.out) 3 _ rfl
              have l0 : w10.cell? ⟨bl, 0, none⟩ = some (.int .i64 so) := cell_at (FXl9.out _ HK10.out) 0 _ rfl
              have l1 : w10.cell? ⟨bl, 1, none⟩ = some (.string fo) := cell_at (FXl9.out _ HK10.out) 1 _ rfl
              have l2 : w10.cell? ⟨bl, 2, none⟩ = some (.slice Al uo.length cl) := cell_at (FXl9.out _ HK10.out) 2 _ rfl
              have l3 : w10.cell? ⟨bl, 3, none⟩ = some (.string to_) := cell_at (FXl9.out _ HK10.out) 3 _ rfl
              have m0 : w10.cell? ⟨bm, 0, none⟩ = some (.int .i64 so) := cell_at (FXm9.out _ HK10.out) 0 _ rfl
              have m1 : w10.cell? ⟨bm, 1, none⟩ = some (.string fo) := cell_at (FXm9.out _ HK10.out) 1 _ rfl
              have m2 : w10.cell? ⟨bm, 2, none⟩ = some (.slice Am uo.length cm) := cell_at (FXm9.out _ HK10.out) 2 _ rfl
              have m3 : w10.cell? ⟨bm, 3, none⟩ = some (.string to_) := cell_at (FXm9.out _ HK10.out) 3 _ rfl
              have x0 : w10.cell? ⟨bx, 0, none⟩ = some (.int .i64 st) := cell_at (FXx9.out _ HK10.out) 0 _ rfl
              have x1 : w10.cell? ⟨bx, 1, none⟩ = some (.string f) := cell_at (FXx9.out _ HK10.out) 1 _ rfl
              have x2 : w10.cell? ⟨bx, 2, none⟩ = some (.slice Ax us.length cx) := cell_at (FXx9.out _ HK10.out) 2 _ rfl
              have x3 : w10.cell? ⟨bx, 3, none⟩ = some (.string t) := cell_at (FXx9.out _ HK10.out) 3 _ rfl
              rw [HH.out]
              go_wp2_with fail
              refine Calls.mono (sameSub_any st f t Ax A us cx c _ (FAX9.out _ HK10.out) (FAA9.out _ HK10.out) hul) ?_
              rintro e w11 ⟨rfl, hb⟩
              clear d0 d1 d2 d3 l0 l1 l2 l3 m0 m1 m2 m3 x0 x1 x2 x3
              have HK11 := Lib.hid (HK10.out.trans (hb.mono HK10.out.size))
              clear hb
              have d0 : w11.cell? ⟨bd, 0, none⟩ = some (.int .i64 st) := cell_at (FXd9.out _ HK11.out) 0 _ rfl
              have d1 : w11.cell? ⟨bd, 1, none⟩ = some (.string f) := cell_at (FXd9.out _ HK11.out) 1 _ rfl
              have d2 : w11.cell? ⟨bd, 2, none⟩ = some (.slice A us.length c) := cell_at (FXd9.out _ HK11.out) 2 _ rfl
              have d3 : w11.cell? ⟨bd, 3, none⟩ = some (.string t) := cell_at (FXd9.out _ HK11.out) 3 _ rfl
              have l0 : w11.cell? ⟨bl, 0, none⟩ = some (.int .i64 so) := cell_at (FXl9.out _ HK11.out) 0 _ rfl
              have l1 : w11.cell? ⟨bl, 1, none⟩ = some (.string fo) := cell_at (FXl9.out _ HK11.out) 1 _ rfl
              have l2 : w11.cell? ⟨bl, 2, none⟩ = some (.slice Al uo.length cl) := cell_at (FXl9.out _ HK11.out) 2 _ rfl
              have l3 : w11.cell? ⟨bl, 3, none⟩ = some (.string to_) := cell_at (FXl9.out _ HK11.out) 3 _ rfl
              have m0 : w11.cell? ⟨bm, 0, none⟩ = some (.int .i64 so) := cell_at (FXm9.out _ HK11.out) 0 _ rfl
              have m1 : w11.cell? ⟨bm, 1, none⟩ = some (.string fo) := cell_at (FXm9.out _ HK11.out) 1 _ rfl
              have m2 : w11.cell? ⟨bm, 2, none⟩ = some (.slice Am uo.length cm) := cell_at (FXm9.out _ HK11.out) 2 _ rfl
              have m3 : w11.cell? ⟨bm, 3, none⟩ = some (.string to_) := cell_at (FXm9.out _ HK11.out) 3 _ rfl
              have x0 : w11.cell? ⟨bx, 0, none⟩ = some (.int .i64 st) := cell_at (FXx9.out _ HK11.out) 0 _ rfl
              have x1 : w11.cell? ⟨bx, 1, none⟩ = some (.string f) := cell_at (FXx9.out _ HK11.out) 1 _ rfl
              have x2 : w11.cell? ⟨bx, 2, none⟩ = some (.slice Ax us.length cx) := cell_at (FXx9.out _ HK11.out) 2 _ rfl
              have x3 : w11.cell? ⟨bx, 3, none⟩ = some (.string t) := cell_at (FXx9.out _ HK11.out) 3 _ rfl
              go_wp2_with fail
              go_ret
              exact ⟨rfl, (FB9.out _ HK11.out)⟩
          · have h3i : (st != 3) = true := by simp [h3]
            have h4i : (st != 4) = false := by simp [h3]
            clear h3
            obtain ⟨k, hk, hke⟩ : ∃ k : Nat, k < vs.length ∧ (len2 : Int) % vs.length = k := ⟨len2 % vs.length, Nat.mod_lt _ hv0, by omega⟩
            have hvz : ¬ (vs.length : Int) = 0 := by omega
            have hki : (k : Int) < (vs.length : Int) := by omega
            have hk0 : (0 : Int) ≤ (k : Int) := by omega
            have hex : ∃ u, vs[k]? = some u := ⟨_, List.getElem?_eq_getElem hk⟩
            obtain ⟨u, hu⟩ := hex
            have HUM : Hid (u ∈ vs) := Lib.hid (List.mem_of_getElem? hu)
            have HUN : Hid (Nm.nameOk u.name.data.toList = true) := Lib.hid (Sm.name_mem HANS.out.2.1 HUM.out)
            obtain ⟨ug, uf, hAu, -, -⟩ := (FU6.out _ HK7.out).1 (Nat.lt_of_le_of_lt (Nat.zero_le _) hk)
            subst hAu
            have FC6 : Hid (∀ w', Below w6.heap.size w6 w' → w'.cell? ⟨ug, uf + k * 3, none⟩ = some (.string u.name) ∧ w'.cell? ⟨ug, uf + k * 3 + 1, none⟩ = some (.string u.pass) ∧ w'.cell? ⟨ug, uf + k * 3 + 2, none⟩ = some (.int .i64 u.quota)) := Lib.hid (fun w' hb => by
              obtain ⟨g', o', e, _, hc⟩ := (FU6.out _ hb).1 (Nat.lt_of_le_of_lt (Nat.zero_le _) hk)
              injection e with e
              injection e with e1 e2
              subst e1 e2
              exact hc k u hu)
            clear hu
            have hun8 : u.name.size ≤ 8 := Sm.name_size HUN.out
            have FG6 : Hid (∀ w', Below w6.heap.size w6 w' → ug < w'.heap.size) := Lib.hid (fun w' hb => by
              obtain ⟨g', o', e, hg, _⟩ := (FU6.out _ hb).1 (Nat.lt_of_le_of_lt (Nat.zero_le _) hk)
              injection e with e
              injection e with e1 e2
              subst e1 e2
              exact hg)
            have hzl0 : (ByteArray.mk #[82, 67, 80, 84, 32, 84, 79, 58, 60]).size = 9 := rfl
            have hzl1 : (ByteArray.mk #[64]).size = 1 := rfl
            have hzl2 : (ByteArray.mk #[62]).size = 1 := rfl
            have hlX : (ByteArray.mk #[82, 67, 80, 84, 32, 84, 79, 58, 60] ++ u.name ++ ByteArray.mk #[64] ++ d ++ ByteArray.mk #[62]).size ≤ 16777216 := by simp only [ByteArray.size_append]; omega
            have HRY := Sm.rcpt_yes vs (s := ⟨st, f, us, t⟩) H3.out (Sm.text5 Sm.begT (ByteArray.mk #[82, 67, 80, 84, 32, 84, 79, 58, 60]) u.name d rfl) HUN.out HANS.out.2.2 (Sm.knows_mem HANS.out.2.1 HUM.out)
            have HRY := Lib.hid HRY
            have HT0 : Hid (t = Sm.e0 ∧ us.length ≤ 3) := Lib.hid (Sm.ok_to3 HANS.out.1 H3.out)
            cases hh : St.has us u.name
            · have HH := Lib.hid hh
              clear hh
              by_cases h33 : 3 ≤ us.length
              · have h33i : (3 : Int) ≤ (us.length : Int) := by omega
                have HRX : Hid (Sm.ans vs d ⟨st, f, us, t⟩ (ByteArray.mk #[82, 67, 80, 84, 32, 84, 79, 58, 60] ++ u.name ++ ByteArray.mk #[64] ++ d ++ ByteArray.mk #[62]) = (⟨st, f, us, t⟩, 452)) := Lib.hid (by rw [Sm.ans_good HANS.out, HRY.out]; dsimp only; rw [if_neg (by rw [HH.out]; decide), if_pos h33])
                clear h33
                obtain ⟨r0, r1, r2⟩ := (FC6.out _ HK7.out)
                go_upto_region 9 with fail
                clear r0 r1 r2
                go_wp2_with fail
                refine Calls.mono (iLine_any st f t A us c _ (FAA6.out _ HK7.out) hcap hcm hfm htm (some ⟨ug, uf, none⟩) vs cu (FU6.out _ HK7.out) hvl d (ByteArray.mk #[82, 67, 80, 84, 32, 84, 79, 58, 60] ++ u.name ++ ByteArray.mk #[64] ++ d ++ ByteArray.mk #[62]) hdz hlX m (FM6.out _ HK7.out) HRX.out) ?_
                rintro e w8 ⟨Ax, cx, rfl, hatx, hkx, hjx, hb⟩
                clear d0 d1 d2 d3 l0 l1 l2 l3 m0 m1 m2 m3
                have HK8 := Lib.hid (HK7.out.trans (hb.mono HK7.out.size))
                clear hb
                have d0 : w8.cell? ⟨bd, 0, none⟩ = some (.int .i64 st) := cell_at (FXd6.out _ HK8.out) 0 _ rfl
                have d1 : w8.cell? ⟨bd, 1, none⟩ = some (.string f) := cell_at (FXd6.out _ HK8.out) 1 _ rfl
                have d2 : w8.cell? ⟨bd, 2, none⟩ = some (.slice A us.length c) := cell_at (FXd6.out _ HK8.out) 2 _ rfl
                have d3 : w8.cell? ⟨bd, 3, none⟩ = some (.string t) := cell_at (FXd6.out _ HK8.out) 3 _ rfl
                have l0 : w8.cell? ⟨bl, 0, none⟩ = some (.int .i64 so) := cell_at (FXl6.out _ HK8.out) 0 _ rfl
                have l1 : w8.cell? ⟨bl, 1, none⟩ = some (.string fo) := cell_at (FXl6.out _ HK8.out) 1 _ rfl
                have l2 : w8.cell? ⟨bl, 2, none⟩ = some (.slice Al uo.length cl) := cell_at (FXl6.out _ HK8.out) 2 _ rfl
                have l3 : w8.cell? ⟨bl, 3, none⟩ = some (.string to_) := cell_at (FXl6.out _ HK8.out) 3 _ rfl
                have m0 : w8.cell? ⟨bm, 0, none⟩ = some (.int .i64 so) := cell_at (FXm6.out _ HK8.out) 0 _ rfl
                have m1 : w8.cell? ⟨bm, 1, none⟩ = some (.string fo) := cell_at (FXm6.out _ HK8.out) 1 _ rfl
                have m2 : w8.cell? ⟨bm, 2, none⟩ = some (.slice Am uo.length cm) := cell_at (FXm6.out _ HK8.out) 2 _ rfl
                have m3 : w8.cell? ⟨bm, 3, none⟩ = some (.string to_) := cell_at (FXm6.out _ HK8.out) 3 _ rfl
                clear d0 d1 d2 d3 l0 l1 l2 l3 m0 m1 m2 m3
                have hx := heap_alloc_new w8 (.cells #[.int .i64 st, .string f, .slice Ax us.length cx, .string t] 36)
                have hE := Below.alloc (Below.refl w8.heap.size w8) (Nat.le_refl _) (.cells #[.int .i64 st, .string f, .slice Ax us.length cx, .string t] 36)
                have hs : w8.heap.size < (w8.alloc (.cells #[.int .i64 st, .string f, .slice Ax us.length cx, .string t] 36)).heap.size := by simp
                go_upto_region 10 with fail
                generalize w8.alloc (.cells #[.int .i64 st, .string f, .slice Ax us.length cx, .string t] 36) = w9 at hx hE hs ⊢
                obtain ⟨bx, hbb⟩ : ∃ b, b = w8.heap.size := ⟨_, rfl⟩
                rw [← hbb] at hx hs ⊢
                have hltdx : bd < bx := by have := (Array.getElem?_eq_some_iff.1 (FXd6.out _ HK8.out)).1; omega
                have hltlx : bl < bx := by have := (Array.getElem?_eq_some_iff.1 (FXl6.out _ HK8.out)).1; omega
                have hltmx : bm < bx := by have := (Array.getElem?_eq_some_iff.1 (FXm6.out _ HK8.out)).1; omega
                have HK9 := Lib.hid (HK8.out.trans (hE.mono HK8.out.size))
                have FXx9 : Hid (∀ w', Below w9.heap.size w9 w' → w'.heap[bx]? = some (.cells #[.int .i64 st, .string f, .slice Ax us.length cx, .string t] 36 (0, 0))) := Lib.hid (fun w' hb => (hb.block _ hs).trans hx)
                have FAX9 : Hid (∀ w', Below w9.heap.size w9 w' → AtStrs w' w'.heap.size Ax us) := Lib.hid (fun w' hb => (((hatx.below hE).mono hE.size).below hb).mono hb.size)
                clear hx hE hs hbb
                have FU9 := Lib.hid (fun w' (hb : Below w9.heap.size w9 w') => FU6.out w' (HK9.out.trans (hb.mono HK9.out.size)))
                have FM9 := Lib.hid (fun w' (hb : Below w9.heap.size w9 w') => FM6.out w' (HK9.out.trans (hb.mono HK9.out.size)))
                have FB9 := Lib.hid (fun w' (hb : Below w9.heap.size w9 w') => FB6.out w' (HK9.out.trans (hb.mono HK9.out.size)))
                have FC9 := Lib.hid (fun w' (hb : Below w9.heap.size w9 w') => FC6.out w' (HK9.out.trans (hb.mono HK9.out.size)))
                have FG9 := Lib.hid (fun w' (hb : Below w9.heap.size w9 w') => FG6.out w' (HK9.out.trans (hb.mono HK9.out.size)))
                have FXd9 := Lib.hid (fun w' (hb : Below w9.heap.size w9 w') => FXd6.out w' (HK9.out.trans (hb.mono HK9.out.size)))
                have FXl9 := Lib.hid (fun w' (hb : Below w9.heap.size w9 w') => FXl6.out w' (HK9.out.trans (hb.mono HK9.out.size)))
                have FXm9 := Lib.hid (fun w' (hb : Below w9.heap.size w9 w') => FXm6.out w' (HK9.out.trans (hb.mono HK9.out.size)))
                have FAA9 := Lib.hid (fun w' (hb : Below w9.heap.size w9 w') => FAA6.out w' (HK9.out.trans (hb.mono HK9.out.size)))
                have FAL9 := Lib.hid (fun w' (hb : Below w9.heap.size w9 w') => FAL6.out w' (HK9.out.trans (hb.mono HK9.out.size)))
                have FAM9 := Lib.hid (fun w' (hb : Below w9.heap.size w9 w') => FAM6.out w' (HK9.out.trans (hb.mono HK9.out.size)))
                have HKb : Hid (Below w9.heap.size w9 w9) := Lib.hid (Below.refl _ _)
                clear HK9
                have HK9 := HKb
                clear HKb
                have d0 : w9.cell? ⟨bd, 0, none⟩ = some (.int .i64 st) := cell_at (FXd9.out _ HK9.out) 0 _ rfl
                have d1 : w9.cell? ⟨bd, 1, none⟩ = some (.string f) := cell_at (FXd9.out _ HK9.out) 1 _ rfl
                have d2 : w9.cell? ⟨bd, 2, none⟩ = some (.slice A us.length c) := cell_at (FXd9.out _ HK9.out) 2 _ rfl
                have d3 : w9.cell? ⟨bd, 3, none⟩ = some (.string t) := cell_at (FXd9.out _ HK9.out) 3 _ rfl
                have l0 : w9.cell? ⟨bl, 0, none⟩ = some (.int .i64 so) := cell_at (FXl9.out _ HK9.out) 0 _ rfl
                have l1 : w9.cell? ⟨bl, 1, none⟩ = some (.string fo) := cell_at (FXl9.out _ HK9.out) 1 _ rfl
                have l2 : w9.cell? ⟨bl, 2, none⟩ = some (.slice Al uo.length cl) := cell_at (FXl9.out _ HK9.out) 2 _ rfl
                have l3 : w9.cell? ⟨bl, 3, none⟩ = some (.string to_) := cell_at (FXl9.out _ HK9.out) 3 _ rfl
                have m0 : w9.cell? ⟨bm, 0, none⟩ = some (.int .i64 so) := cell_at (FXm9.out _ HK9.out) 0 _ rfl
                have m1 : w9.cell? ⟨bm, 1, none⟩ = some (.string fo) := cell_at (FXm9.out _ HK9.out) 1 _ rfl
                have m2 : w9.cell? ⟨bm, 2, none⟩ = some (.slice Am uo.length cm) := cell_at (FXm9.out _ HK9.out) 2 _ rfl
                have m3 : w9.cell? ⟨bm, 3, none⟩ = some (.string to_) := cell_at (FXm9.out _ HK9.out) 3 _ rfl
                have x0 : w9.cell? ⟨bx, 0, none⟩ = some (.int .i64 st) := cell_at (FXx9.out _ HK9.out) 0 _ rfl
                have x1 : w9.cell? ⟨bx, 1, none⟩ = some (.string f) := cell_at (FXx9.out _ HK9.out) 1 _ rfl
                have x2 : w9.cell? ⟨bx, 2, none⟩ = some (.slice Ax us.length cx) := cell_at (FXx9.out _ HK9.out) 2 _ rfl
                have x3 : w9.cell? ⟨bx, 3, none⟩ = some (.string t) := cell_at (FXx9.out _ HK9.out) 3 _ rfl
                clear hatx
                go_wp2_with fail
                refine Calls.mono (hasName_any A us c u.name _ (FAA9.out _ HK9.out) hul) ?_
                rintro e w10 ⟨rfl, hb⟩
                clear d0 d1 d2 d3 l0 l1 l2 l3 m0 m1 m2 m3 x0 x1 x2 x3
                have HK10 := Lib.hid (HK9.out.trans (hb.mono HK9.out.size))
                clear hb
                have d0 : w10.cell? ⟨bd, 0, none⟩ = some (.int .i64 st) := cell_at (FXd9.out _ HK10.out) 0 _ rfl
                have d1 : w10.cell? ⟨bd, 1, none⟩ = some (.string f) := cell_at (FXd9.out _ HK10.out) 1 _ rfl
                have d2 : w10.cell? ⟨bd, 2, none⟩ = some (.slice A us.length c) := cell_at (FXd9.out _ HK10.out) 2 _ rfl
                have d3 : w10.cell? ⟨bd, 3, none⟩ = some (.string t) := cell_at (FXd9.out _ HK10.out) 3 _ rfl
                have l0 : w10.cell? ⟨bl, 0, none⟩ = some (.int .i64 so) := cell_at (FXl9.out _ HK10.out) 0 _ rfl
                have l1 : w10.cell? ⟨bl, 1, none⟩ = some (.string fo) := cell_at (FXl9.out _ HK10.out) 1 _ rfl
                have l2 : w10.cell? ⟨bl, 2, none⟩ = some (.slice Al uo.length cl) := cell_at (FXl9.out _ HK10.out) 2 _ rfl
                have l3 : w10.cell? ⟨bl, 3, none⟩ = some (.string to_) := cell_at (FXl9.out _ HK10.out) 3 _ rfl
                have m0 : w10.cell? ⟨bm, 0, none⟩ = some (.int .i64 so) := cell_at (FXm9.out _ HK10.out) 0 _ rfl
                have m1 : w10.cell? ⟨bm, 1, none⟩ = some (.string fo) := cell_at (FXm9.out _ HK10.out) 1 _ rfl
                have m2 : w10.cell? ⟨bm, 2, none⟩ = some (.slice Am uo.length cm) := cell_at (FXm9.out _ HK10.out) 2 _ rfl
                have m3 : w10.cell? ⟨bm, 3, none⟩ = some (.string to_) := cell_at (FXm9.out _ HK10.out) 3 _ rfl
                have x0 : w10.cell? ⟨bx, 0, none⟩ = some (.int .i64 st) := cell_at (FXx9.out _ HK10.out) 0 _ rfl
                have x1 : w10.cell? ⟨bx, 1, none⟩ = some (.string f) := cell_at (FXx9.out _ HK10.out) 1 _ rfl
                have x2 : w10.cell? ⟨bx, 2, none⟩ = some (.slice Ax us.length cx) := cell_at (FXx9.out _ HK10.out) 2 _ rfl
                have x3 : w10.cell? ⟨bx, 3, none⟩ = some (.string t) := cell_at (FXx9.out _ HK10.out) 3 _ rfl
                rw [HH.out]
                go_wp2_with fail
                refine Calls.mono (sameSub_any st f t Ax A us cx c _ (FAX9.out _ HK10.out) (FAA9.out _ HK10.out) hul) ?_
                rintro e w11 ⟨rfl, hb⟩
                clear d0 d1 d2 d3 l0 l1 l2 l3 m0 m1 m2 m3 x0 x1 x2 x3
                have HK11 := Lib.hid (HK10.out.trans (hb.mono HK10.out.size))
                clear hb
                have d0 : w11.cell? ⟨bd, 0, none⟩ = some (.int .i64 st) := cell_at (FXd9.out _ HK11.out) 0 _ rfl
                have d1 : w11.cell? ⟨bd, 1, none⟩ = some (.string f) := cell_at (FXd9.out _ HK11.out) 1 _ rfl
                have d2 : w11.cell? ⟨bd, 2, none⟩ = some (.slice A us.length c) := cell_at (FXd9.out _ HK11.out) 2 _ rfl
                have d3 : w11.cell? ⟨bd, 3, none⟩ = some (.string t) := cell_at (FXd9.out _ HK11.out) 3 _ rfl
                have l0 : w11.cell? ⟨bl, 0, none⟩ = some (.int .i64 so) := cell_at (FXl9.out _ HK11.out) 0 _ rfl
                have l1 : w11.cell? ⟨bl, 1, none⟩ = some (.string fo) := cell_at (FXl9.out _ HK11.out) 1 _ rfl
                have l2 : w11.cell? ⟨bl, 2, none⟩ = some (.slice Al uo.length cl) := cell_at (FXl9.out _ HK11.out) 2 _ rfl
                have l3 : w11.cell? ⟨bl, 3, none⟩ = some (.string to_) := cell_at (FXl9.out _ HK11.out) 3 _ rfl
                have m0 : w11.cell? ⟨bm, 0, none⟩ = some (.int .i64 so) := cell_at (FXm9.out _ HK11.out) 0 _ rfl
                have m1 : w11.cell? ⟨bm, 1, none⟩ = some (.string fo) := cell_at (FXm9.out _ HK11.out) 1 _ rfl
                have m2 : w11.cell? ⟨bm, 2, none⟩ = some (.slice Am uo.length cm) := cell_at (FXm9.out _ HK11.out) 2 _ rfl
                have m3 : w11.cell? ⟨bm, 3, none⟩ = some (.string to_) := cell_at (FXm9.out _ HK11.out) 3 _ rfl
                have x0 : w11.cell? ⟨bx, 0, none⟩ = some (.int .i64 st) := cell_at (FXx9.out _ HK11.out) 0 _ rfl
                have x1 : w11.cell? ⟨bx, 1, none⟩ = some (.string f) := cell_at (FXx9.out _ HK11.out) 1 _ rfl
                have x2 : w11.cell? ⟨bx, 2, none⟩ = some (.slice Ax us.length cx) := cell_at (FXx9.out _ HK11.out) 2 _ rfl
                have x3 : w11.cell? ⟨bx, 3, none⟩ = some (.string t) := cell_at (FXx9.out _ HK11.out) 3 _ rfl
                go_wp2_with fail
                go_ret
                exact ⟨rfl, (FB9.out _ HK11.out)⟩
              · have h33i : ¬ (3 : Int) ≤ (us.length : Int) := by omega
                obtain ⟨un, hun⟩ : ∃ un, un = us ++ [u.name] := ⟨_, rfl⟩
                have HUNL := Lib.hid hun
                have HRX : Hid (Sm.ans vs d ⟨st, f, us, t⟩ (ByteArray.mk #[82, 67, 80, 84, 32, 84, 79, 58, 60] ++ u.name ++ ByteArray.mk #[64] ++ d ++ ByteArray.mk #[62]) = (⟨4, f, un, Sm.e0⟩, 250)) := Lib.hid (by rw [Sm.ans_good HANS.out, HRY.out, hun]; dsimp only; rw [if_neg (by rw [HH.out]; decide), if_neg h33])
                clear h33 hun
                obtain ⟨r0, r1, r2⟩ := (FC6.out _ HK7.out)
                go_upto_region 9 with fail
                clear r0 r1 r2
                go_wp2_with fail
                refine Calls.mono (iLine_any st f t A us c _ (FAA6.out _ HK7.out) hcap hcm hfm htm (some ⟨ug, uf, none⟩) vs cu (FU6.out _ HK7.out) hvl d (ByteArray.mk #[82, 67, 80, 84, 32, 84, 79, 58, 60] ++ u.name ++ ByteArray.mk #[64] ++ d ++ ByteArray.mk #[62]) hdz hlX m (FM6.out _ HK7.out) HRX.out) ?_
                rintro e w8 ⟨Ax, cx, rfl, hatx, hkx, hjx, hb⟩
                clear d0 d1 d2 d3 l0 l1 l2 l3 m0 m1 m2 m3
                have HK8 := Lib.hid (HK7.out.trans (hb.mono HK7.out.size))
                clear hb
                have d0 : w8.cell? ⟨bd, 0, none⟩ = some (.int .i64 st) := cell_at (FXd6.out _ HK8.out) 0 _ rfl
                have d1 : w8.cell? ⟨bd, 1, none⟩ = some (.string f) := cell_at (FXd6.out _ HK8.out) 1 _ rfl
                have d2 : w8.cell? ⟨bd, 2, none⟩ = some (.slice A us.length c) := cell_at (FXd6.out _ HK8.out) 2 _ rfl
                have d3 : w8.cell? ⟨bd, 3, none⟩ = some (.string t) := cell_at (FXd6.out _ HK8.out) 3 _ rfl
                have l0 : w8.cell? ⟨bl, 0, none⟩ = some (.int .i64 so) := cell_at (FXl6.out _ HK8.out) 0 _ rfl
                have l1 : w8.cell? ⟨bl, 1, none⟩ = some (.string fo) := cell_at (FXl6.out _ HK8.out) 1 _ rfl
                have l2 : w8.cell? ⟨bl, 2, none⟩ = some (.slice Al uo.length cl) := cell_at (FXl6.out _ HK8.out) 2 _ rfl
                have l3 : w8.cell? ⟨bl, 3, none⟩ = some (.string to_) := cell_at (FXl6.out _ HK8.out) 3 _ rfl
                have m0 : w8.cell? ⟨bm, 0, none⟩ = some (.int .i64 so) := cell_at (FXm6.out _ HK8.out) 0 _ rfl
                have m1 : w8.cell? ⟨bm, 1, none⟩ = some (.string fo) := cell_at (FXm6.out _ HK8.out) 1 _ rfl
                have m2 : w8.cell? ⟨bm, 2, none⟩ = some (.slice Am uo.length cm) := cell_at (FXm6.out _ HK8.out) 2 _ rfl
                have m3 : w8.cell? ⟨bm, 3, none⟩ = some (.string to_) := cell_at (FXm6.out _ HK8.out) 3 _ rfl
                clear d0 d1 d2 d3 l0 l1 l2 l3 m0 m1 m2 m3
                have hx := heap_alloc_new w8 (.cells #[.int .i64 4, .string f, .slice Ax un.length cx, .string Sm.e0] 36)
                have hE := Below.alloc (Below.refl w8.heap.size w8) (Nat.le_refl _) (.cells #[.int .i64 4, .string f, .slice Ax un.length cx, .string Sm.e0] 36)
                have hs : w8.heap.size < (w8.alloc (.cells #[.int .i64 4, .string f, .slice Ax un.length cx, .string Sm.e0] 36)).heap.size := by simp
                go_upto_region 10 with fail
                generalize w8.alloc (.cells #[.int .i64 4, .string f, .slice Ax un.length cx, .string Sm.e0] 36) = w9 at hx hE hs ⊢
                obtain ⟨bx, hbb⟩ : ∃ b, b = w8.heap.size := ⟨_, rfl⟩
                rw [← hbb] at hx hs ⊢
                have hltdx : bd < bx := by have := (Array.getElem?_eq_some_iff.1 (FXd6.out _ HK8.out)).1; omega
                have hltlx : bl < bx := by have := (Array.getElem?_eq_some_iff.1 (FXl6.out _ HK8.out)).1; omega
                have hltmx : bm < bx := by have := (Array.getElem?_eq_some_iff.1 (FXm6.out _ HK8.out)).1; omega
                have HK9 := Lib.hid (HK8.out.trans (hE.mono HK8.out.size))
                have FXx9 : Hid (∀ w', Below w9.heap.size w9 w' → w'.heap[bx]? = some (.cells #[.int .i64 4, .string f, .slice Ax un.length cx, .string Sm.e0] 36 (0, 0))) := Lib.hid (fun w' hb => (hb.block _ hs).trans hx)
                have FAX9 : Hid (∀ w', Below w9.heap.size w9 w' → AtStrs w' w'.heap.size Ax un) := Lib.hid (fun w' hb => (((hatx.below hE).mono hE.size).below hb).mono hb.size)
                clear hx hE hs hbb
                have FU9 := Lib.hid (fun w' (hb : Below w9.heap.size w9 w') => FU6.out w' (HK9.out.trans (hb.mono HK9.out.size)))
                have FM9 := Lib.hid (fun w' (hb : Below w9.heap.size w9 w') => FM6.out w' (HK9.out.trans (hb.mono HK9.out.size)))
                have FB9 := Lib.hid (fun w' (hb : Below w9.heap.size w9 w') => FB6.out w' (HK9.out.trans (hb.mono HK9.out.size)))
                have FC9 := Lib.hid (fun w' (hb : Below w9.heap.size w9 w') => FC6.out w' (HK9.out.trans (hb.mono HK9.out.size)))
                have FG9 := Lib.hid (fun w' (hb : Below w9.heap.size w9 w') => FG6.out w' (HK9.out.trans (hb.mono HK9.out.size)))
                have FXd9 := Lib.hid (fun w' (hb : Below w9.heap.size w9 w') => FXd6.out w' (HK9.out.trans (hb.mono HK9.out.size)))
                have FXl9 := Lib.hid (fun w' (hb : Below w9.heap.size w9 w') => FXl6.out w' (HK9.out.trans (hb.mono HK9.out.size)))
                have FXm9 := Lib.hid (fun w' (hb : Below w9.heap.size w9 w') => FXm6.out w' (HK9.out.trans (hb.mono HK9.out.size)))
                have FAA9 := Lib.hid (fun w' (hb : Below w9.heap.size w9 w') => FAA6.out w' (HK9.out.trans (hb.mono HK9.out.size)))
                have FAL9 := Lib.hid (fun w' (hb : Below w9.heap.size w9 w') => FAL6.out w' (HK9.out.trans (hb.mono HK9.out.size)))
                have FAM9 := Lib.hid (fun w' (hb : Below w9.heap.size w9 w') => FAM6.out w' (HK9.out.trans (hb.mono HK9.out.size)))
                have HKb : Hid (Below w9.heap.size w9 w9) := Lib.hid (Below.refl _ _)
                clear HK9
                have HK9 := HKb
                clear HKb
                have d0 : w9.cell? ⟨bd, 0, none⟩ = some (.int .i64 st) := cell_at (FXd9.out _ HK9.out) 0 _ rfl
                have d1 : w9.cell? ⟨bd, 1, none⟩ = some (.string f) := cell_at (FXd9.out _ HK9.out) 1 _ rfl
                have d2 : w9.cell? ⟨bd, 2, none⟩ = some (.slice A us.length c) := cell_at (FXd9.out _ HK9.out) 2 _ rfl
                have d3 : w9.cell? ⟨bd, 3, none⟩ = some (.string t) := cell_at (FXd9.out _ HK9.out) 3 _ rfl
                have l0 : w9.cell? ⟨bl, 0, none⟩ = some (.int .i64 so) := cell_at (FXl9.out _ HK9.out) 0 _ rfl
                have l1 : w9.cell? ⟨bl, 1, none⟩ = some (.string fo) := cell_at (FXl9.out _ HK9.out) 1 _ rfl
                have l2 : w9.cell? ⟨bl, 2, none⟩ = some (.slice Al uo.length cl) := cell_at (FXl9.out _ HK9.out) 2 _ rfl
                have l3 : w9.cell? ⟨bl, 3, none⟩ = some (.string to_) := cell_at (FXl9.out _ HK9.out) 3 _ rfl
                have m0 : w9.cell? ⟨bm, 0, none⟩ = some (.int .i64 so) := cell_at (FXm9.out _ HK9.out) 0 _ rfl
                have m1 : w9.cell? ⟨bm, 1, none⟩ = some (.string fo) := cell_at (FXm9.out _ HK9.out) 1 _ rfl
                have m2 : w9.cell? ⟨bm, 2, none⟩ = some (.slice Am uo.length cm) := cell_at (FXm9.out _ HK9.out) 2 _ rfl
                have m3 : w9.cell? ⟨bm, 3, none⟩ = some (.string to_) := cell_at (FXm9.out _ HK9.out) 3 _ rfl
                have x0 : w9.cell? ⟨bx, 0, none⟩ = some (.int .i64 4) := cell_at (FXx9.out _ HK9.out) 0 _ rfl
                have x1 : w9.cell? ⟨bx, 1, none⟩ = some (.string f) := cell_at (FXx9.out _ HK9.out) 1 _ rfl
                have x2 : w9.cell? ⟨bx, 2, none⟩ = some (.slice Ax un.length cx) := cell_at (FXx9.out _ HK9.out) 2 _ rfl
                have x3 : w9.cell? ⟨bx, 3, none⟩ = some (.string Sm.e0) := cell_at (FXx9.out _ HK9.out) 3 _ rfl
                clear hatx
                go_wp2_with fail
                refine Calls.mono (hasName_any A us c u.name _ (FAA9.out _ HK9.out) hul) ?_
                rintro e w10 ⟨rfl, hb⟩
                clear d0 d1 d2 d3 l0 l1 l2 l3 m0 m1 m2 m3 x0 x1 x2 x3
                have HK10 := Lib.hid (HK9.out.trans (hb.mono HK9.out.size))
                clear hb
                have d0 : w10.cell? ⟨bd, 0, none⟩ = some (.int .i64 st) := cell_at (FXd9.out _ HK10.out) 0 _ rfl
                have d1 : w10.cell? ⟨bd, 1, none⟩ = some (.string f) := cell_at (FXd9.out _ HK10.out) 1 _ rfl
                have d2 : w10.cell? ⟨bd, 2, none⟩ = some (.slice A us.length c) := cell_at (FXd9.out _ HK10.out) 2 _ rfl
                have d3 : w10.cell? ⟨bd, 3, none⟩ = some (.string t) := cell_at (FXd9.out _ HK10.out) 3 _ rfl
                have l0 : w10.cell? ⟨bl, 0, none⟩ = some (.int .i64 so) := cell_at (FXl9.out _ HK10.out) 0 _ rfl
                have l1 : w10.cell? ⟨bl, 1, none⟩ = some (.string fo) := cell_at (FXl9.out _ HK10.out) 1 _ rfl
                have l2 : w10.cell? ⟨bl, 2, none⟩ = some (.slice Al uo.length cl) := cell_at (FXl9.out _ HK10.out) 2 _ rfl
                have l3 : w10.cell? ⟨bl, 3, none⟩ = some (.string to_) := cell_at (FXl9.out _ HK10.out) 3 _ rfl
                have m0 : w10.cell? ⟨bm, 0, none⟩ = some (.int .i64 so) := cell_at (FXm9.out _ HK10.out) 0 _ rfl
                have m1 : w10.cell? ⟨bm, 1, none⟩ = some (.string fo) := cell_at (FXm9.out _ HK10.out) 1 _ rfl
                have m2 : w10.cell? ⟨bm, 2, none⟩ = some (.slice Am uo.length cm) := cell_at (FXm9.out _ HK10.out) 2 _ rfl
                have m3 : w10.cell? ⟨bm, 3, none⟩ = some (.string to_) := cell_at (FXm9.out _ HK10.out) 3 _ rfl
                have x0 : w10.cell? ⟨bx, 0, none⟩ = some (.int .i64 4) := cell_at (FXx9.out _ HK10.out) 0 _ rfl
                have x1 : w10.cell? ⟨bx, 1, none⟩ = some (.string f) := cell_at (FXx9.out _ HK10.out) 1 _ rfl
                have x2 : w10.cell? ⟨bx, 2, none⟩ = some (.slice Ax un.length cx) := cell_at (FXx9.out _ HK10.out) 2 _ rfl
                have x3 : w10.cell? ⟨bx, 3, none⟩ = some (.string Sm.e0) := cell_at (FXx9.out _ HK10.out) 3 _ rfl
                rw [HH.out]
                obtain ⟨i0, hi, hz0, hz1, hz2⟩ := info_parts str_info
                go_upto_region 14 with fail
                have GD : Hid (Below w10.heap.size w10 w10.drew) := Lib.hid (Sx.below_drew (Below.refl _ _))
                have GE : Hid (Below w10.heap.size w10 (w10.alloc (.cells #[] 9)).drew) := Lib.hid (Sx.below_drew ((Below.refl _ _).alloc (Nat.le_refl _) _))
                have GU : Hid (Below w10.heap.size w10 (w10.alloc (.cells #[.string u.name] 9)).drew) := Lib.hid (Sx.below_drew ((Below.refl _ _).alloc (Nat.le_refl _) _))
                have GEU : Hid (Below w10.heap.size w10 ((w10.alloc (.cells #[] 9)).alloc (.cells #[.string u.name] 9)).drew) := Lib.hid (Sx.below_drew (((Below.refl _ _).alloc (Nat.le_refl _) _).alloc (by simp) _))
                have GUE : Hid (Below w10.heap.size w10 ((w10.alloc (.cells #[.string u.name] 9)).alloc (.cells #[] 9)).drew) := Lib.hid (Sx.below_drew (((Below.refl _ _).alloc (Nat.le_refl _) _).alloc (by simp) _))
                have HAW : Hid (AtStrs w10 w10.heap.size A us) := Lib.hid (FAA9.out _ HK10.out)
                have HUSZ := Lib.hid HAW.out.2
                have hu3 : us.length ≤ 3 := HT0.out.2
                have HRE : Hid (Reads (w10.alloc (.cells #[] 9)).drew w10.heap.size 1 A us.length (us.flatMap St.cells)) := Lib.hid (reads_of_at (by omega) St.cells_len ((St.at_of HAW.out).below GE.out))
                have HSE : Hid (w10.heap.size ≤ (w10.alloc (.cells #[] 9)).drew.heap.size) := Lib.hid GE.out.size
                have HREU : Hid (Reads ((w10.alloc (.cells #[] 9)).alloc (.cells #[.string u.name] 9)).drew w10.heap.size 1 A us.length (us.flatMap St.cells)) := Lib.hid (reads_of_at (by omega) St.cells_len ((St.at_of HAW.out).below GEU.out))
                have HSEU : Hid (w10.heap.size ≤ ((w10.alloc (.cells #[] 9)).alloc (.cells #[.string u.name] 9)).drew.heap.size) := Lib.hid GEU.out.size
                have HRUE : Hid (Reads ((w10.alloc (.cells #[.string u.name] 9)).alloc (.cells #[] 9)).drew w10.heap.size 1 A us.length (us.flatMap St.cells)) := Lib.hid (reads_of_at (by omega) St.cells_len ((St.at_of HAW.out).below GUE.out))
                have HSUE : Hid (w10.heap.size ≤ ((w10.alloc (.cells #[.string u.name] 9)).alloc (.cells #[] 9)).drew.heap.size) := Lib.hid GUE.out.size
                have HOE : Hid ((w10.alloc (.cells #[] 9)).drew.ownsRow w10.heap.size 9 1 (.slice (some ⟨w10.heap.size, 0, none⟩) 0 0) 0 []) := Lib.hid (World.ownsRow_lit (base := w10.heap.size) (e := 9) (size := 1) w10 #[] 0 (Nat.le_refl _) (Nat.zero_le _) rfl)
                have HOEU : Hid (((w10.alloc (.cells #[] 9)).alloc (.cells #[.string u.name] 9)).drew.ownsRow w10.heap.size 9 1 (.slice (some ⟨w10.heap.size, 0, none⟩) 0 0) 0 []) := Lib.hid (OwnL.alloc (f := St.cells) (us := ([] : List ByteArray)) (ownL_nil w10 (Nat.le_refl _)) (.cells #[.string u.name] 9))
                have HOUE : Hid (((w10.alloc (.cells #[.string u.name] 9)).alloc (.cells #[] 9)).drew.ownsRow w10.heap.size 9 1 (.slice (some ⟨(w10.alloc (.cells #[.string u.name] 9)).heap.size, 0, none⟩) 0 0) 0 []) := Lib.hid (ownL_nil (f := St.cells) (w10.alloc (.cells #[.string u.name] 9)) (by simp))
                have HUEU : Hid (((w10.alloc (.cells #[] 9)).alloc (.cells #[.string u.name] 9)).drew.heap[w10.heap.size + 1]? = some (.cells #[.string u.name] 9 (0, 0))) := Lib.hid (show ((w10.alloc (.cells #[] 9)).alloc (.cells #[.string u.name] 9)).heap[w10.heap.size + 1]? = some (.cells #[.string u.name] 9 (0, 0)) by have := heap_alloc_new (w10.alloc (.cells #[] 9)) (.cells #[.string u.name] 9); simpa using this)
                have HUUE : Hid (((w10.alloc (.cells #[.string u.name] 9)).alloc (.cells #[] 9)).drew.heap[w10.heap.size]? = some (.cells #[.string u.name] 9 (0, 0))) := Lib.hid ((Below.heap_alloc (w10.alloc (.cells #[.string u.name] 9)) (.cells #[] 9) w10.heap.size (by simp)).trans (heap_alloc_new w10 (.cells #[.string u.name] 9)))
                have K1 := Lib.hid (St.cells_one us)
                have K3 : Hid (0 + us.length ≤ maxLen) := Lib.hid (by unfold maxLen; omega)
                have K4 : Hid ((0 + us.length) * 16 ≤ 140737488355328) := Lib.hid (by omega)
                have K5 : Hid (us.length + 1 ≤ maxLen) := Lib.hid (by unfold maxLen; omega)
                have K6 : Hid ((us.length + 1) * 16 ≤ 140737488355328) := Lib.hid (by omega)
                have HXW : Hid (∀ w', Below w10.heap.size w10 w' → AtStrs w' w'.heap.size Ax un) := Lib.hid fun w' hb => FAX9.out w' (HK10.out.trans (hb.mono HK10.out.size))
                have HXB : Hid (w10.heap[bx]? = some (.cells #[.int .i64 4, .string f, .slice Ax un.length cx, .string Sm.e0] 36 (0, 0))) := Lib.hid (FXx9.out _ HK10.out)
                have HDB : Hid (w10.heap[bd]? = some (.cells #[.int .i64 st, .string f, .slice A us.length c, .string t] 36 (0, 0))) := Lib.hid (FXd9.out _ HK10.out)
                have HS : Hid (∀ w', Below w10.heap.size w10 w' → (w'.cell? ⟨bx, 0, none⟩ = some (.int .i64 4) ∧ w'.cell? ⟨bx, 1, none⟩ = some (.string f) ∧ w'.cell? ⟨bx, 2, none⟩ = some (.slice Ax un.length cx) ∧ w'.cell? ⟨bx, 3, none⟩ = some (.string Sm.e0) ∧ w'.cell? ⟨bd, 1, none⟩ = some (.string f) ∧ w'.cell? ⟨bd, 2, none⟩ = some (.slice A us.length c))) := Lib.hid fun w' hb => by
                  have h1 := (hb.block bx (Array.getElem?_eq_some_iff.1 HXB.out).1).trans HXB.out
                  have h2 := (hb.block bd (Array.getElem?_eq_some_iff.1 HDB.out).1).trans HDB.out
                  exact ⟨cell_at h1 0 _ rfl, cell_at h1 1 _ rfl, cell_at h1 2 _ rfl, cell_at h1 3 _ rfl, cell_at h2 1 _ rfl, cell_at h2 2 _ rfl⟩
                clear d0 d1 d2 d3 l0 l1 l2 l3 m0 m1 m2 m3 x0 x1 x2 x3
                go_region_held3 (fun w' => w'.cell? ⟨bx, 0, none⟩ = some (.int .i64 4) ∧ w'.cell? ⟨bx, 1, none⟩ = some (.string f) ∧ w'.cell? ⟨bx, 2, none⟩ = some (.slice Ax un.length cx) ∧ w'.cell? ⟨bx, 3, none⟩ = some (.string Sm.e0) ∧ w'.cell? ⟨bd, 1, none⟩ = some (.string f) ∧ w'.cell? ⟨bd, 2, none⟩ = some (.slice A us.length c))
                  (first | exact HS.out _ HBQ.out | exact HS.out _ HBB.out | exact HS.out _ HBU.out | exact HS.out _ HBA.out | exact HS.out _ (HBA.out.alloc HBA.out.size _) | exact HS.out _ GD.out | exact HS.out _ GE.out | exact HS.out _ GU.out | exact HS.out _ GEU.out | exact HS.out _ GUE.out)
                  (first
                    | (refine step_append_anyG (by simp [Region.wanted, yielded]) (.tmp 130) (.tmp 132) _ rfl w10.heap.size 9 i0 _ 1 16 Tryz.underlying24 hi hz0 hz1 hz2 rfl (by omega) _ 0 [] (by simp [Act.eval]) HOE.out _ A us.length c _ (by simp [Act.eval]) HRE.out K1.out K3.out K4.out HSE.out ?_; intro v1 wa hown hgr hbk; obtain ⟨A1, c1, rfl⟩ := own_form hown; have HBA : Hid (Below w10.heap.size w10 wa) := Lib.hid (GE.out.grown hgr HSE.out (fun q hq => (HOE.out.lt q hq).1)); have HOA : Hid (St.Own wa w10.heap.size (.slice A1 us.length c1) us) := Lib.hid (by unfold St.Own OwnL; simpa using hown); clear hown hgr hbk)
                    | (refine step_append_anyG (by simp [Region.wanted, yielded]) (.tmp 130) (.tmp 132) _ rfl w10.heap.size 9 i0 _ 1 16 Tryz.underlying24 hi hz0 hz1 hz2 rfl (by omega) _ 0 [] (by simp [Act.eval]) HOEU.out _ A us.length c _ (by simp [Act.eval]) HREU.out K1.out K3.out K4.out HSEU.out ?_; intro v1 wa hown hgr hbk; obtain ⟨A1, c1, rfl⟩ := own_form hown; have HBA : Hid (Below w10.heap.size w10 wa) := Lib.hid (GEU.out.grown hgr HSEU.out (fun q hq => (HOEU.out.lt q hq).1)); have HOA : Hid (St.Own wa w10.heap.size (.slice A1 us.length c1) us) := Lib.hid (by unfold St.Own OwnL; simpa using hown); have HUA := Lib.hid ((hgr.block (w10.heap.size + 1) (Array.getElem?_eq_some_iff.1 HUEU.out).1 (by intro e; injection e with e; simp at e)).trans HUEU.out); clear hown hgr hbk)
                    | (refine step_append_anyG (by simp [Region.wanted, yielded]) (.tmp 130) (.tmp 132) _ rfl w10.heap.size 9 i0 _ 1 16 Tryz.underlying24 hi hz0 hz1 hz2 rfl (by omega) _ 0 [] (by simp [Act.eval]) HOUE.out _ A us.length c _ (by simp [Act.eval]) HRUE.out K1.out K3.out K4.out HSUE.out ?_; intro v1 wa hown hgr hbk; obtain ⟨A1, c1, rfl⟩ := own_form hown; have HBA : Hid (Below w10.heap.size w10 wa) := Lib.hid (GUE.out.grown hgr HSUE.out (fun q hq => (HOUE.out.lt q hq).1)); have HOA : Hid (St.Own wa w10.heap.size (.slice A1 us.length c1) us) := Lib.hid (by unfold St.Own OwnL; simpa using hown); have HUA := Lib.hid ((hgr.block w10.heap.size (Array.getElem?_eq_some_iff.1 HUUE.out).1 (by intro e; injection e with e; simp at e)).trans HUUE.out); clear hown hgr hbk)
                    | (refine step_append_anyG (by simp [Region.wanted, yielded]) (.tmp 133) (.tmp 135) _ rfl w10.heap.size 9 i0 _ 1 16 Tryz.underlying24 hi hz0 hz1 hz2 rfl (by omega) _ us.length _ (by simp [Act.eval]) HOA.out (_ + 1) _ 1 1 [.string u.name] (by simp [Act.eval]) (Sx.reads_blk HUA.out) (Sx.one_one _) K5.out K6.out HBA.out.size ?_; intro v2 wb hown hgr hbk; obtain ⟨A2, c2, rfl⟩ := own_form hown; have HBB : Hid (Below w10.heap.size w10 wb) := Lib.hid (HBA.out.grown hgr HBA.out.size (fun q hq => (HOA.out.lt q hq).1)); have HOB := Lib.hid (Po.snoc hown); clear hown hgr hbk)
                    | (refine step_append_anyG (by simp [Region.wanted, yielded]) (.tmp 133) (.tmp 135) _ rfl w10.heap.size 9 i0 _ 1 16 Tryz.underlying24 hi hz0 hz1 hz2 rfl (by omega) _ us.length _ (by simp [Act.eval]) (OwnL.alloc HOA.out (.cells #[.string u.name] 9)) (wa.heap.size + 1) (some ⟨wa.heap.size, 0, none⟩) 1 1 [.string u.name] (by simp [Act.eval]) (Sx.reads_one wa u.name) (Sx.one_one _) K5.out K6.out (Nat.le_trans HBA.out.size (by simp)) ?_; intro v2 wb hown hgr hbk; obtain ⟨A2, c2, rfl⟩ := own_form hown; have HBB : Hid (Below w10.heap.size w10 wb) := Lib.hid ((HBA.out.alloc HBA.out.size (.cells #[.string u.name] 9)).grown hgr (Nat.le_trans HBA.out.size (by simp)) (fun q hq => (HOA.out.lt q hq).1)); have HOB := Lib.hid (Po.snoc hown); clear hown hgr hbk)
                    | (go_at_call 47; refine Calls.mono (Lw.same_new f Ax A2 us un u.name cx c2 wb (HXW.out _ HBB.out) HOB.out HUNL.out HUSZ.out hun8 hu3) ?_; rintro e wq ⟨rfl, hb⟩; have HBQ : Hid (Below w10.heap.size w10 wq) := Lib.hid (HBB.out.trans (hb.mono HBB.out.size))))
                all_goals
                  go_wp2_with fail
                  go_ret
                  exact ⟨rfl, FB9.out _ (HK10.out.trans (HBQ.out.mono HK10.out.size))⟩
            · have HH := Lib.hid hh
              clear hh
              have HRX : Hid (Sm.ans vs d ⟨st, f, us, t⟩ (ByteArray.mk #[82, 67, 80, 84, 32, 84, 79, 58, 60] ++ u.name ++ ByteArray.mk #[64] ++ d ++ ByteArray.mk #[62]) = (⟨st, f, us, t⟩, 250)) := Lib.hid (by rw [Sm.ans_good HANS.out, HRY.out]; dsimp only; rw [if_pos HH.out])
              obtain ⟨r0, r1, r2⟩ := (FC6.out _ HK7.out)
              go_upto_region 9 with fail
              clear r0 r1 r2
              go_wp2_with fail
              refine Calls.mono (iLine_any st f t A us c _ (FAA6.out _ HK7.out) hcap hcm hfm htm (some ⟨ug, uf, none⟩) vs cu (FU6.out _ HK7.out) hvl d (ByteArray.mk #[82, 67, 80, 84, 32, 84, 79, 58, 60] ++ u.name ++ ByteArray.mk #[64] ++ d ++ ByteArray.mk #[62]) hdz hlX m (FM6.out _ HK7.out) HRX.out) ?_
              rintro e w8 ⟨Ax, cx, rfl, hatx, hkx, hjx, hb⟩
              clear d0 d1 d2 d3 l0 l1 l2 l3 m0 m1 m2 m3
              have HK8 := Lib.hid (HK7.out.trans (hb.mono HK7.out.size))
              clear hb
              have d0 : w8.cell? ⟨bd, 0, none⟩ = some (.int .i64 st) := cell_at (FXd6.out _ HK8.out) 0 _ rfl
              have d1 : w8.cell? ⟨bd, 1, none⟩ = some (.string f) := cell_at (FXd6.out _ HK8.out) 1 _ rfl
              have d2 : w8.cell? ⟨bd, 2, none⟩ = some (.slice A us.length c) := cell_at (FXd6.out _ HK8.out) 2 _ rfl
              have d3 : w8.cell? ⟨bd, 3, none⟩ = some (.string t) := cell_at (FXd6.out _ HK8.out) 3 _ rfl
              have l0 : w8.cell? ⟨bl, 0, none⟩ = some (.int .i64 so) := cell_at (FXl6.out _ HK8.out) 0 _ rfl
              have l1 : w8.cell? ⟨bl, 1, none⟩ = some (.string fo) := cell_at (FXl6.out _ HK8.out) 1 _ rfl
              have l2 : w8.cell? ⟨bl, 2, none⟩ = some (.slice Al uo.length cl) := cell_at (FXl6.out _ HK8.out) 2 _ rfl
              have l3 : w8.cell? ⟨bl, 3, none⟩ = some (.string to_) := cell_at (FXl6.out _ HK8.out) 3 _ rfl
              have m0 : w8.cell? ⟨bm, 0, none⟩ = some (.int .i64 so) := cell_at (FXm6.out _ HK8.out) 0 _ rfl
              have m1 : w8.cell? ⟨bm, 1, none⟩ = some (.string fo) := cell_at (FXm6.out _ HK8.out) 1 _ rfl
              have m2 : w8.cell? ⟨bm, 2, none⟩ = some (.slice Am uo.length cm) := cell_at (FXm6.out _ HK8.out) 2 _ rfl
              have m3 : w8.cell? ⟨bm, 3, none⟩ = some (.string to_) := cell_at (FXm6.out _ HK8.out) 3 _ rfl
              clear d0 d1 d2 d3 l0 l1 l2 l3 m0 m1 m2 m3
              have hx := heap_alloc_new w8 (.cells #[.int .i64 st, .string f, .slice Ax us.length cx, .string t] 36)
              have hE := Below.alloc (Below.refl w8.heap.size w8) (Nat.le_refl _) (.cells #[.int .i64 st, .string f, .slice Ax us.length cx, .string t] 36)
              have hs : w8.heap.size < (w8.alloc (.cells #[.int .i64 st, .string f, .slice Ax us.length cx, .string t] 36)).heap.size := by simp
              go_upto_region 10 with fail
              generalize w8.alloc (.cells #[.int .i64 st, .string f, .slice Ax us.length cx, .string t] 36) = w9 at hx hE hs ⊢
              obtain ⟨bx, hbb⟩ : ∃ b, b = w8.heap.size := ⟨_, rfl⟩
              rw [← hbb] at hx hs ⊢
              have hltdx : bd < bx := by have := (Array.getElem?_eq_some_iff.1 (FXd6.out _ HK8.out)).1; omega
              have hltlx : bl < bx := by have := (Array.getElem?_eq_some_iff.1 (FXl6.out _ HK8.out)).1; omega
              have hltmx : bm < bx := by have := (Array.getElem?_eq_some_iff.1 (FXm6.out _ HK8.out)).1; omega
              have HK9 := Lib.hid (HK8.out.trans (hE.mono HK8.out.size))
              have FXx9 : Hid (∀ w', Below w9.heap.size w9 w' → w'.heap[bx]? = some (.cells #[.int .i64 st, .string f, .slice Ax us.length cx, .string t] 36 (0, 0))) := Lib.hid (fun w' hb => (hb.block _ hs).trans hx)
              have FAX9 : Hid (∀ w', Below w9.heap.size w9 w' → AtStrs w' w'.heap.size Ax us) := Lib.hid (fun w' hb => (((hatx.below hE).mono hE.size).below hb).mono hb.size)
              clear hx hE hs hbb
              have FU9 := Lib.hid (fun w' (hb : Below w9.heap.size w9 w') => FU6.out w' (HK9.out.trans (hb.mono HK9.out.size)))
              have FM9 := Lib.hid (fun w' (hb : Below w9.heap.size w9 w') => FM6.out w' (HK9.out.trans (hb.mono HK9.out.size)))
              have FB9 := Lib.hid (fun w' (hb : Below w9.heap.size w9 w') => FB6.out w' (HK9.out.trans (hb.mono HK9.out.size)))
              have FC9 := Lib.hid (fun w' (hb : Below w9.heap.size w9 w') => FC6.out w' (HK9.out.trans (hb.mono HK9.out.size)))
              have FG9 := Lib.hid (fun w' (hb : Below w9.heap.size w9 w') => FG6.out w' (HK9.out.trans (hb.mono HK9.out.size)))
              have FXd9 := Lib.hid (fun w' (hb : Below w9.heap.size w9 w') => FXd6.out w' (HK9.out.trans (hb.mono HK9.out.size)))
              have FXl9 := Lib.hid (fun w' (hb : Below w9.heap.size w9 w') => FXl6.out w' (HK9.out.trans (hb.mono HK9.out.size)))
              have FXm9 := Lib.hid (fun w' (hb : Below w9.heap.size w9 w') => FXm6.out w' (HK9.out.trans (hb.mono HK9.out.size)))
              have FAA9 := Lib.hid (fun w' (hb : Below w9.heap.size w9 w') => FAA6.out w' (HK9.out.trans (hb.mono HK9.out.size)))
              have FAL9 := Lib.hid (fun w' (hb : Below w9.heap.size w9 w') => FAL6.out w' (HK9.out.trans (hb.mono HK9.out.size)))
              have FAM9 := Lib.hid (fun w' (hb : Below w9.heap.size w9 w') => FAM6.out w' (HK9.out.trans (hb.mono HK9.out.size)))
              have HKb : Hid (Below w9.heap.size w9 w9) := Lib.hid (Below.refl _ _)
              clear HK9
              have HK9 := HKb
              clear HKb
              have d0 : w9.cell? ⟨bd, 0, none⟩ = some (.int .i64 st) := cell_at (FXd9.out _ HK9.out) 0 _ rfl
              have d1 : w9.cell? ⟨bd, 1, none⟩ = some (.string f) := cell_at (FXd9.out _ HK9.out) 1 _ rfl
              have d2 : w9.cell? ⟨bd, 2, none⟩ = some (.slice A us.length c) := cell_at (FXd9.out _ HK9.out) 2 _ rfl
              have d3 : w9.cell? ⟨bd, 3, none⟩ = some (.string t) := cell_at (FXd9.out _ HK9.out) 3 _ rfl
              have l0 : w9.cell? ⟨bl, 0, none⟩ = some (.int .i64 so) := cell_at (FXl9.out _ HK9.out) 0 _ rfl
              have l1 : w9.cell? ⟨bl, 1, none⟩ = some (.string fo) := cell_at (FXl9.out _ HK9.out) 1 _ rfl
              have l2 : w9.cell? ⟨bl, 2, none⟩ = some (.slice Al uo.length cl) := cell_at (FXl9.out _ HK9.out) 2 _ rfl
              have l3 : w9.cell? ⟨bl, 3, none⟩ = some (.string to_) := cell_at (FXl9.out _ HK9.out) 3 _ rfl
              have m0 : w9.cell? ⟨bm, 0, none⟩ = some (.int .i64 so) := cell_at (FXm9.out _ HK9.out) 0 _ rfl
              have m1 : w9.cell? ⟨bm, 1, none⟩ = some (.string fo) := cell_at (FXm9.out _ HK9.out) 1 _ rfl
              have m2 : w9.cell? ⟨bm, 2, none⟩ = some (.slice Am uo.length cm) := cell_at (FXm9.out _ HK9.out) 2 _ rfl
              have m3 : w9.cell? ⟨bm, 3, none⟩ = some (.string to_) := cell_at (FXm9.out _ HK9.out) 3 _ rfl
              have x0 : w9.cell? ⟨bx, 0, none⟩ = some (.int .i64 st) := cell_at (FXx9.out _ HK9.out) 0 _ rfl
              have x1 : w9.cell? ⟨bx, 1, none⟩ = some (.string f) := cell_at (FXx9.out _ HK9.out) 1 _ rfl
              have x2 : w9.cell? ⟨bx, 2, none⟩ = some (.slice Ax us.length cx) := cell_at (FXx9.out _ HK9.out) 2 _ rfl
              have x3 : w9.cell? ⟨bx, 3, none⟩ = some (.string t) := cell_at (FXx9.out _ HK9.out) 3 _ rfl
              clear hatx
              go_wp2_with fail
              refine Calls.mono (hasName_any A us c u.name _ (FAA9.out _ HK9.out) hul) ?_
              rintro e w10 ⟨rfl, hb⟩
              clear d0 d1 d2 d3 l0 l1 l2 l3 m0 m1 m2 m3 x0 x1 x2 x3
              have HK10 := Lib.hid (HK9.out.trans (hb.mono HK9.out.size))
              clear hb
              have d0 : w10.cell? ⟨bd, 0, none⟩ = some (.int .i64 st) := cell_at (FXd9.out _ HK10.out) 0 _ rfl
              have d1 : w10.cell? ⟨bd, 1, none⟩ = some (.string f) := cell_at (FXd9.out _ HK10.out) 1 _ rfl
              have d2 : w10.cell? ⟨bd, 2, none⟩ = some (.slice A us.length c) := cell_at (FXd9.out _ HK10.out) 2 _ rfl
              have d3 : w10.cell? ⟨bd, 3, none⟩ = some (.string t) := cell_at (FXd9.out _ HK10.out) 3 _ rfl
              have l0 : w10.cell? ⟨bl, 0, none⟩ = some (.int .i64 so) := cell_at (FXl9.out _ HK10.out) 0 _ rfl
              have l1 : w10.cell? ⟨bl, 1, none⟩ = some (.string fo) := cell_at (FXl9.out _ HK10.out) 1 _ rfl
              have l2 : w10.cell? ⟨bl, 2, none⟩ = some (.slice Al uo.length cl) := cell_at (FXl9.out _ HK10.out) 2 _ rfl
              have l3 : w10.cell? ⟨bl, 3, none⟩ = some (.string to_) := cell_at (FXl9.out _ HK10.out) 3 _ rfl
              have m0 : w10.cell? ⟨bm, 0, none⟩ = some (.int .i64 so) := cell_at (FXm9.out _ HK10.out) 0 _ rfl
              have m1 : w10.cell? ⟨bm, 1, none⟩ = some (.string fo) := cell_at (FXm9.out _ HK10.out) 1 _ rfl
              have m2 : w10.cell? ⟨bm, 2, none⟩ = some (.slice Am uo.length cm) := cell_at (FXm9.out _ HK10.out) 2 _ rfl
              have m3 : w10.cell? ⟨bm, 3, none⟩ = some (.string to_) := cell_at (FXm9.out _ HK10.out) 3 _ rfl
              have x0 : w10.cell? ⟨bx, 0, none⟩ = some (.int .i64 st) := cell_at (FXx9.out _ HK10.out) 0 _ rfl
              have x1 : w10.cell? ⟨bx, 1, none⟩ = some (.string f) := cell_at (FXx9.out _ HK10.out) 1 _ rfl
              have x2 : w10.cell? ⟨bx, 2, none⟩ = some (.slice Ax us.length cx) := cell_at (FXx9.out _ HK10.out) 2 _ rfl
              have x3 : w10.cell? ⟨bx, 3, none⟩ = some (.string t) := cell_at (FXx9.out _ HK10.out) 3 _ rfl
              rw [HH.out]
              go_wp2_with fail
              refine Calls.mono (sameSub_any st f t Ax A us cx c _ (FAX9.out _ HK10.out) (FAA9.out _ HK10.out) hul) ?_
              rintro e w11 ⟨rfl, hb⟩
              clear d0 d1 d2 d3 l0 l1 l2 l3 m0 m1 m2 m3 x0 x1 x2 x3
              have HK11 := Lib.hid (HK10.out.trans (hb.mono HK10.out.size))
              clear hb
              have d0 : w11.cell? ⟨bd, 0, none⟩ = some (.int .i64 st) := cell_at (FXd9.out _ HK11.out) 0 _ rfl
              have d1 : w11.cell? ⟨bd, 1, none⟩ = some (.string f) := cell_at (FXd9.out _ HK11.out) 1 _ rfl
              have d2 : w11.cell? ⟨bd, 2, none⟩ = some (.slice A us.length c) := cell_at (FXd9.out _ HK11.out) 2 _ rfl
              have d3 : w11.cell? ⟨bd, 3, none⟩ = some (.string t) := cell_at (FXd9.out _ HK11.out) 3 _ rfl
              have l0 : w11.cell? ⟨bl, 0, none⟩ = some (.int .i64 so) := cell_at (FXl9.out _ HK11.out) 0 _ rfl
              have l1 : w11.cell? ⟨bl, 1, none⟩ = some (.string fo) := cell_at (FXl9.out _ HK11.out) 1 _ rfl
              have l2 : w11.cell? ⟨bl, 2, none⟩ = some (.slice Al uo.length cl) := cell_at (FXl9.out _ HK11.out) 2 _ rfl
              have l3 : w11.cell? ⟨bl, 3, none⟩ = some (.string to_) := cell_at (FXl9.out _ HK11.out) 3 _ rfl
              have m0 : w11.cell? ⟨bm, 0, none⟩ = some (.int .i64 so) := cell_at (FXm9.out _ HK11.out) 0 _ rfl
              have m1 : w11.cell? ⟨bm, 1, none⟩ = some (.string fo) := cell_at (FXm9.out _ HK11.out) 1 _ rfl
              have m2 : w11.cell? ⟨bm, 2, none⟩ = some (.slice Am uo.length cm) := cell_at (FXm9.out _ HK11.out) 2 _ rfl
              have m3 : w11.cell? ⟨bm, 3, none⟩ = some (.string to_) := cell_at (FXm9.out _ HK11.out) 3 _ rfl
              have x0 : w11.cell? ⟨bx, 0, none⟩ = some (.int .i64 st) := cell_at (FXx9.out _ HK11.out) 0 _ rfl
              have x1 : w11.cell? ⟨bx, 1, none⟩ = some (.string f) := cell_at (FXx9.out _ HK11.out) 1 _ rfl
              have x2 : w11.cell? ⟨bx, 2, none⟩ = some (.slice Ax us.length cx) := cell_at (FXx9.out _ HK11.out) 2 _ rfl
              have x3 : w11.cell? ⟨bx, 3, none⟩ = some (.string t) := cell_at (FXx9.out _ HK11.out) 3 _ rfl
              go_wp2_with fail
              go_ret
              exact ⟨rfl, (FB9.out _ HK11.out)⟩
        · have h3i : (st != 3) = true := by simp; omega
          have h4i : (st != 4) = true := by simp; omega
          clear h3
          go_wp2_with fail
          refine Calls.mono (sameSub_any so fo to_ Al Am uo cl cm _ (FAL6.out _ HK7.out) (FAM6.out _ HK7.out) hulo) ?_
          rintro e w8 ⟨rfl, hb⟩
          clear d0 d1 d2 d3 l0 l1 l2 l3 m0 m1 m2 m3
          have HK8 := Lib.hid (HK7.out.trans (hb.mono HK7.out.size))
          clear hb
          have d0 : w8.cell? ⟨bd, 0, none⟩ = some (.int .i64 st) := cell_at (FXd6.out _ HK8.out) 0 _ rfl
          have d1 : w8.cell? ⟨bd, 1, none⟩ = some (.string f) := cell_at (FXd6.out _ HK8.out) 1 _ rfl
          have d2 : w8.cell? ⟨bd, 2, none⟩ = some (.slice A us.length c) := cell_at (FXd6.out _ HK8.out) 2 _ rfl
          have d3 : w8.cell? ⟨bd, 3, none⟩ = some (.string t) := cell_at (FXd6.out _ HK8.out) 3 _ rfl
          have l0 : w8.cell? ⟨bl, 0, none⟩ = some (.int .i64 so) := cell_at (FXl6.out _ HK8.out) 0 _ rfl
          have l1 : w8.cell? ⟨bl, 1, none⟩ = some (.string fo) := cell_at (FXl6.out _ HK8.out) 1 _ rfl
          have l2 : w8.cell? ⟨bl, 2, none⟩ = some (.slice Al uo.length cl) := cell_at (FXl6.out _ HK8.out) 2 _ rfl
          have l3 : w8.cell? ⟨bl, 3, none⟩ = some (.string to_) := cell_at (FXl6.out _ HK8.out) 3 _ rfl
          have m0 : w8.cell? ⟨bm, 0, none⟩ = some (.int .i64 so) := cell_at (FXm6.out _ HK8.out) 0 _ rfl
          have m1 : w8.cell? ⟨bm, 1, none⟩ = some (.string fo) := cell_at (FXm6.out _ HK8.out) 1 _ rfl
          have m2 : w8.cell? ⟨bm, 2, none⟩ = some (.slice Am uo.length cm) := cell_at (FXm6.out _ HK8.out) 2 _ rfl
          have m3 : w8.cell? ⟨bm, 3, none⟩ = some (.string to_) := cell_at (FXm6.out _ HK8.out) 3 _ rfl
          go_wp2_with fail
          go_ret
          exact ⟨rfl, (FB6.out _ HK8.out)⟩
      · have hno : no = -1 := by have := HR.out; rw [Sm.ans_bad hans] at this; injection this with _ this; exact this.symm
        have hneg : no < 0 := by omega
        clear hans hno
        go_wp2_with fail
        refine Calls.mono (sameSub_any so fo to_ Al Am uo cl cm _ (FAL6.out _ HK7.out) (FAM6.out _ HK7.out) hulo) ?_
        rintro e w8 ⟨rfl, hb⟩
        clear d0 d1 d2 d3 l0 l1 l2 l3 m0 m1 m2 m3
        have HK8 := Lib.hid (HK7.out.trans (hb.mono HK7.out.size))
        clear hb
        have d0 : w8.cell? ⟨bd, 0, none⟩ = some (.int .i64 st) := cell_at (FXd6.out _ HK8.out) 0 _ rfl
        have d1 : w8.cell? ⟨bd, 1, none⟩ = some (.string f) := cell_at (FXd6.out _ HK8.out) 1 _ rfl
        have d2 : w8.cell? ⟨bd, 2, none⟩ = some (.slice A us.length c) := cell_at (FXd6.out _ HK8.out) 2 _ rfl
        have d3 : w8.cell? ⟨bd, 3, none⟩ = some (.string t) := cell_at (FXd6.out _ HK8.out) 3 _ rfl
        have l0 : w8.cell? ⟨bl, 0, none⟩ = some (.int .i64 so) := cell_at (FXl6.out _ HK8.out) 0 _ rfl
        have l1 : w8.cell? ⟨bl, 1, none⟩ = some (.string fo) := cell_at (FXl6.out _ HK8.out) 1 _ rfl
        have l2 : w8.cell? ⟨bl, 2, none⟩ = some (.slice Al uo.length cl) := cell_at (FXl6.out _ HK8.out) 2 _ rfl
        have l3 : w8.cell? ⟨bl, 3, none⟩ = some (.string to_) := cell_at (FXl6.out _ HK8.out) 3 _ rfl
        have m0 : w8.cell? ⟨bm, 0, none⟩ = some (.int .i64 so) := cell_at (FXm6.out _ HK8.out) 0 _ rfl
        have m1 : w8.cell? ⟨bm, 1, none⟩ = some (.string fo) := cell_at (FXm6.out _ HK8.out) 1 _ rfl
        have m2 : w8.cell? ⟨bm, 2, none⟩ = some (.slice Am uo.length cm) := cell_at (FXm6.out _ HK8.out) 2 _ rfl
        have m3 : w8.cell? ⟨bm, 3, none⟩ = some (.string to_) := cell_at (FXm6.out _ HK8.out) 3 _ rfl
        go_wp2_with fail
        go_ret
        exact ⟨rfl, (FB6.out _ HK8.out)⟩
    · have hbi : ¬ (1048576 : Int) < (len : Int) := by omega
      have hbi2 : (1048576 : Int) < (len2 : Int) := by omega
      go_enter Tryz.func13, Tryz.ntmps13
      go_wp2_with fail
      go_ret
      exact ⟨rfl, Below.refl _ _⟩
  · have hbi : (1048576 : Int) < (len : Int) := by omega
    go_enter Tryz.func13, Tryz.ntmps13
    go_wp2_with fail
    go_ret
    exact ⟨rfl, Below.refl _ _⟩
end Go.Proofs.YtnbggmmghopphaaGreatDoor
