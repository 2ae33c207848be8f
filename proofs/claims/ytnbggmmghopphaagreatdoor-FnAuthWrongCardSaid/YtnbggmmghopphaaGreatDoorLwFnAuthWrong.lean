/- FnAuthWrong: the walk. (Printed by mklw.py.) -/
import Derived.Test.YtnbggmmghopphaaGreatDoorSmUu
import Derived.Test.YtnbggmmghopphaaGreatDoorLwPl
import Derived.Test.YtnbggmmghopphaaGreatDoorLwKn
import Derived.Test.YtnbggmmghopphaaGreatDoorLwOw
import Derived.Deep.RegionHeld3
import Derived.Deep.DeepCutAuto
namespace Go.Proofs.YtnbggmmghopphaaGreatDoor
set_option linter.unusedVariables false
open Go.RowKit
open Us (U)

set_option maxRecDepth 100000 in
set_option maxHeartbeats 6400000 in
theorem walkFnAuthWrong (a : Option Addr) (len cap : Nat) (a2 : Option Addr) (len2 cap2 : Nat) (w : World) (h : Bytes w a len cap) (h2 : Bytes w a2 len2 cap2) (m : Int) (hm : w.cell? ⟨0, 0, none⟩ = some (.int .i64 m)) :
    Calls Tryz.prog 12 #[.slice a len cap, .slice a2 len2 cap2] w fun e w' => e = .returned (.bool true) ∧ Below w.heap.size w w' := by
  by_cases hbig : len ≤ 1048576
  · by_cases hbig2 : len2 ≤ 1048576
    · have hbi2 : ¬ (1048576 : Int) < (len2 : Int) := by omega
      have hbi : ¬ (1048576 : Int) < (len : Int) := by omega
      have hpos := Po.base_pos hm
      go_enter Tryz.func12, Tryz.ntmps12
      go_wp2_with fail
      refine Calls.mono (drawSubmissionLine_any a len cap _ h) ?_
      rintro e w1 ⟨st, f, A, us, c, t, Au, vs, cu, d, l, hsm, hcap, hcm, hsv, hds, hls, rfl, hat, hau, hb1⟩
      have hfm := (Sm.small_max hsm).1
      have htm := (Sm.small_max hsm).2.1
      have hul := Sm.small_len hsm
      dsimp only at hfm htm hul
      have hvl : vs.length ≤ maxLen := small_len hsv
      have hdz : d.size ≤ 16777216 := by omega
      have hlz : l.size ≤ 16777216 := by omega
      have FU1 : Hid (∀ w', Below w1.heap.size w1 w' → AtUsers w' w'.heap.size Au vs) := Lib.hid (fun w' hb => ((at_users hau (small_sizes hsv)).below hb).mono hb.size)
      have FM1 : Hid (∀ w', Below w1.heap.size w1 w' → w'.cell? ⟨0, 0, none⟩ = some (.int .i64 m)) := Lib.hid (fun w' hb => Po.mem (hb1.trans (hb.mono hb1.size)) hm hpos)
      have FB1 : Hid (∀ w', Below w1.heap.size w1 w' → Below w.heap.size w w') := Lib.hid (fun w' hb => hb1.trans (hb.mono hb1.size))
      have FAA1 : Hid (∀ w', Below w1.heap.size w1 w' → AtStrs w' w'.heap.size A us) := Lib.hid (fun w' hb => (hat.below hb).mono hb.size)
      have HK1 : Hid (Below w1.heap.size w1 w1) := Lib.hid (Below.refl _ _)
      have HSM := Lib.hid hsm
      clear hat hau hb1 hm h hsm
      have hx := heap_alloc_new w1 (.cells #[.int .i64 st, .string f, .slice A us.length c, .string t] 36)
      have hE := Below.alloc (Below.refl w1.heap.size w1) (Nat.le_refl _) (.cells #[.int .i64 st, .string f, .slice A us.length c, .string t] 36)
      have hs : w1.heap.size < (w1.alloc (.cells #[.int .i64 st, .string f, .slice A us.length c, .string t] 36)).heap.size := by simp
      go_upto_region 4 with fail
      generalize w1.alloc (.cells #[.int .i64 st, .string f, .slice A us.length c, .string t] 36) = w2 at hx hE hs ⊢
      obtain ⟨bd, hbb⟩ : ∃ b, b = w1.heap.size := ⟨_, rfl⟩
      rw [← hbb] at hx hs ⊢
      have HK2 := Lib.hid (HK1.out.trans (hE.mono HK1.out.size))
      have FXd2 : Hid (∀ w', Below w2.heap.size w2 w' → w'.heap[bd]? = some (.cells #[.int .i64 st, .string f, .slice A us.length c, .string t] 36 (0, 0))) := Lib.hid (fun w' hb => (hb.block _ hs).trans hx)
      clear hx hE hs hbb
      have FU2 := Lib.hid (fun w' (hb : Below w2.heap.size w2 w') => FU1.out w' (HK2.out.trans (hb.mono HK2.out.size)))
      have FM2 := Lib.hid (fun w' (hb : Below w2.heap.size w2 w') => FM1.out w' (HK2.out.trans (hb.mono HK2.out.size)))
      have FB2 := Lib.hid (fun w' (hb : Below w2.heap.size w2 w') => FB1.out w' (HK2.out.trans (hb.mono HK2.out.size)))
      have FAA2 := Lib.hid (fun w' (hb : Below w2.heap.size w2 w') => FAA1.out w' (HK2.out.trans (hb.mono HK2.out.size)))
      have HKb : Hid (Below w2.heap.size w2 w2) := Lib.hid (Below.refl _ _)
      clear HK2
      have HK2 := HKb
      clear HKb
      have d0 : w2.cell? ⟨bd, 0, none⟩ = some (.int .i64 st) := cell_at (FXd2.out _ HK2.out) 0 _ rfl
      have d1 : w2.cell? ⟨bd, 1, none⟩ = some (.string f) := cell_at (FXd2.out _ HK2.out) 1 _ rfl
      have d2 : w2.cell? ⟨bd, 2, none⟩ = some (.slice A us.length c) := cell_at (FXd2.out _ HK2.out) 2 _ rfl
      have d3 : w2.cell? ⟨bd, 3, none⟩ = some (.string t) := cell_at (FXd2.out _ HK2.out) 3 _ rfl
      obtain ⟨R, hR⟩ : ∃ R, R = Sm.ans vs d ⟨st, f, us, t⟩ l := ⟨_, rfl⟩
      obtain ⟨⟨so, fo, uo, to_⟩, no⟩ := R
      have HR := Lib.hid hR.symm
      have hulo : uo.length ≤ maxLen := by have := (Sm.ans_sizes vs d ⟨st, f, us, t⟩ l).1; rw [← hR] at this; unfold maxLen; dsimp only at this; omega
      have hfo : fo.size ≤ maxLen := by have := (Sm.ans_sizes vs d ⟨st, f, us, t⟩ l).2.2.1; rw [← hR] at this; exact this
      have hto : to_.size ≤ maxLen := by have := (Sm.ans_sizes vs d ⟨st, f, us, t⟩ l).2.2.2; rw [← hR] at this; exact this
      clear hR
      go_wp2_with fail
      refine Calls.mono (iLine_any st f t A us c _ (FAA2.out _ HK2.out) hcap hcm hfm htm Au vs cu (FU2.out _ HK2.out) hvl d l hdz hlz m (FM2.out _ HK2.out) HR.out) ?_
      rintro e w3 ⟨Al, cl, rfl, hatl, hkl, hjl, hb⟩
      clear d0 d1 d2 d3
      have HK3 := Lib.hid (HK2.out.trans (hb.mono HK2.out.size))
      clear hb
      have d0 : w3.cell? ⟨bd, 0, none⟩ = some (.int .i64 st) := cell_at (FXd2.out _ HK3.out) 0 _ rfl
      have d1 : w3.cell? ⟨bd, 1, none⟩ = some (.string f) := cell_at (FXd2.out _ HK3.out) 1 _ rfl
      have d2 : w3.cell? ⟨bd, 2, none⟩ = some (.slice A us.length c) := cell_at (FXd2.out _ HK3.out) 2 _ rfl
      have d3 : w3.cell? ⟨bd, 3, none⟩ = some (.string t) := cell_at (FXd2.out _ HK3.out) 3 _ rfl
      clear d0 d1 d2 d3
      have hx := heap_alloc_new w3 (.cells #[.int .i64 so, .string fo, .slice Al uo.length cl, .string to_] 36)
      have hE := Below.alloc (Below.refl w3.heap.size w3) (Nat.le_refl _) (.cells #[.int .i64 so, .string fo, .slice Al uo.length cl, .string to_] 36)
      have hs : w3.heap.size < (w3.alloc (.cells #[.int .i64 so, .string fo, .slice Al uo.length cl, .string to_] 36)).heap.size := by simp
      go_upto_region 5 with fail
      generalize w3.alloc (.cells #[.int .i64 so, .string fo, .slice Al uo.length cl, .string to_] 36) = w4 at hx hE hs ⊢
      obtain ⟨bl, hbb⟩ : ∃ b, b = w3.heap.size := ⟨_, rfl⟩
      rw [← hbb] at hx hs ⊢
      have hltdl : bd < bl := by have := (Array.getElem?_eq_some_iff.1 (FXd2.out _ HK3.out)).1; omega
      have HK4 := Lib.hid (HK3.out.trans (hE.mono HK3.out.size))
      have FXl4 : Hid (∀ w', Below w4.heap.size w4 w' → w'.heap[bl]? = some (.cells #[.int .i64 so, .string fo, .slice Al uo.length cl, .string to_] 36 (0, 0))) := Lib.hid (fun w' hb => (hb.block _ hs).trans hx)
      have FAL4 : Hid (∀ w', Below w4.heap.size w4 w' → AtStrs w' w'.heap.size Al uo) := Lib.hid (fun w' hb => (((hatl.below hE).mono hE.size).below hb).mono hb.size)
      clear hx hE hs hbb
      have FU4 := Lib.hid (fun w' (hb : Below w4.heap.size w4 w') => FU2.out w' (HK4.out.trans (hb.mono HK4.out.size)))
      have FM4 := Lib.hid (fun w' (hb : Below w4.heap.size w4 w') => FM2.out w' (HK4.out.trans (hb.mono HK4.out.size)))
      have FB4 := Lib.hid (fun w' (hb : Below w4.heap.size w4 w') => FB2.out w' (HK4.out.trans (hb.mono HK4.out.size)))
      have FXd4 := Lib.hid (fun w' (hb : Below w4.heap.size w4 w') => FXd2.out w' (HK4.out.trans (hb.mono HK4.out.size)))
      have FAA4 := Lib.hid (fun w' (hb : Below w4.heap.size w4 w') => FAA2.out w' (HK4.out.trans (hb.mono HK4.out.size)))
      have HKb : Hid (Below w4.heap.size w4 w4) := Lib.hid (Below.refl _ _)
      clear HK4
      have HK4 := HKb
      clear HKb
      have d0 : w4.cell? ⟨bd, 0, none⟩ = some (.int .i64 st) := cell_at (FXd4.out _ HK4.out) 0 _ rfl
      have d1 : w4.cell? ⟨bd, 1, none⟩ = some (.string f) := cell_at (FXd4.out _ HK4.out) 1 _ rfl
      have d2 : w4.cell? ⟨bd, 2, none⟩ = some (.slice A us.length c) := cell_at (FXd4.out _ HK4.out) 2 _ rfl
      have d3 : w4.cell? ⟨bd, 3, none⟩ = some (.string t) := cell_at (FXd4.out _ HK4.out) 3 _ rfl
      have l0 : w4.cell? ⟨bl, 0, none⟩ = some (.int .i64 so) := cell_at (FXl4.out _ HK4.out) 0 _ rfl
      have l1 : w4.cell? ⟨bl, 1, none⟩ = some (.string fo) := cell_at (FXl4.out _ HK4.out) 1 _ rfl
      have l2 : w4.cell? ⟨bl, 2, none⟩ = some (.slice Al uo.length cl) := cell_at (FXl4.out _ HK4.out) 2 _ rfl
      have l3 : w4.cell? ⟨bl, 3, none⟩ = some (.string to_) := cell_at (FXl4.out _ HK4.out) 3 _ rfl
      clear hatl
      go_wp2_with fail
      refine Calls.mono (sLine_any st f t A us c _ (FAA4.out _ HK4.out) hcap hcm hfm htm Au vs cu (FU4.out _ HK4.out) hvl d l hdz hlz HR.out) ?_
      rintro e w5 ⟨Am, cm, rfl, hatm, hkm, hjm, hb⟩
      clear d0 d1 d2 d3 l0 l1 l2 l3
      have HK5 := Lib.hid (HK4.out.trans (hb.mono HK4.out.size))
      clear hb
      have d0 : w5.cell? ⟨bd, 0, none⟩ = some (.int .i64 st) := cell_at (FXd4.out _ HK5.out) 0 _ rfl
      have d1 : w5.cell? ⟨bd, 1, none⟩ = some (.string f) := cell_at (FXd4.out _ HK5.out) 1 _ rfl
      have d2 : w5.cell? ⟨bd, 2, none⟩ = some (.slice A us.length c) := cell_at (FXd4.out _ HK5.out) 2 _ rfl
      have d3 : w5.cell? ⟨bd, 3, none⟩ = some (.string t) := cell_at (FXd4.out _ HK5.out) 3 _ rfl
      have l0 : w5.cell? ⟨bl, 0, none⟩ = some (.int .i64 so) := cell_at (FXl4.out _ HK5.out) 0 _ rfl
      have l1 : w5.cell? ⟨bl, 1, none⟩ = some (.string fo) := cell_at (FXl4.out _ HK5.out) 1 _ rfl
      have l2 : w5.cell? ⟨bl, 2, none⟩ = some (.slice Al uo.length cl) := cell_at (FXl4.out _ HK5.out) 2 _ rfl
      have l3 : w5.cell? ⟨bl, 3, none⟩ = some (.string to_) := cell_at (FXl4.out _ HK5.out) 3 _ rfl
      clear d0 d1 d2 d3 l0 l1 l2 l3
      have hx := heap_alloc_new w5 (.cells #[.int .i64 so, .string fo, .slice Am uo.length cm, .string to_] 36)
      have hE := Below.alloc (Below.refl w5.heap.size w5) (Nat.le_refl _) (.cells #[.int .i64 so, .string fo, .slice Am uo.length cm, .string to_] 36)
      have hs : w5.heap.size < (w5.alloc (.cells #[.int .i64 so, .string fo, .slice Am uo.length cm, .string to_] 36)).heap.size := by simp
      go_upto_region 6 with fail
      generalize w5.alloc (.cells #[.int .i64 so, .string fo, .slice Am uo.length cm, .string to_] 36) = w6 at hx hE hs ⊢
      obtain ⟨bm, hbb⟩ : ∃ b, b = w5.heap.size := ⟨_, rfl⟩
      rw [← hbb] at hx hs ⊢
      have hltdm : bd < bm := by have := (Array.getElem?_eq_some_iff.1 (FXd4.out _ HK5.out)).1; omega
      have hltlm : bl < bm := by have := (Array.getElem?_eq_some_iff.1 (FXl4.out _ HK5.out)).1; omega
      have HK6 := Lib.hid (HK5.out.trans (hE.mono HK5.out.size))
      have FXm6 : Hid (∀ w', Below w6.heap.size w6 w' → w'.heap[bm]? = some (.cells #[.int .i64 so, .string fo, .slice Am uo.length cm, .string to_] 36 (0, 0))) := Lib.hid (fun w' hb => (hb.block _ hs).trans hx)
      have FAM6 : Hid (∀ w', Below w6.heap.size w6 w' → AtStrs w' w'.heap.size Am uo) := Lib.hid (fun w' hb => (((hatm.below hE).mono hE.size).below hb).mono hb.size)
      clear hx hE hs hbb
      have FU6 := Lib.hid (fun w' (hb : Below w6.heap.size w6 w') => FU4.out w' (HK6.out.trans (hb.mono HK6.out.size)))
      have FM6 := Lib.hid (fun w' (hb : Below w6.heap.size w6 w') => FM4.out w' (HK6.out.trans (hb.mono HK6.out.size)))
      have FB6 := Lib.hid (fun w' (hb : Below w6.heap.size w6 w') => FB4.out w' (HK6.out.trans (hb.mono HK6.out.size)))
      have FXd6 := Lib.hid (fun w' (hb : Below w6.heap.size w6 w') => FXd4.out w' (HK6.out.trans (hb.mono HK6.out.size)))
      have FXl6 := Lib.hid (fun w' (hb : Below w6.heap.size w6 w') => FXl4.out w' (HK6.out.trans (hb.mono HK6.out.size)))
      have FAA6 := Lib.hid (fun w' (hb : Below w6.heap.size w6 w') => FAA4.out w' (HK6.out.trans (hb.mono HK6.out.size)))
      have FAL6 := Lib.hid (fun w' (hb : Below w6.heap.size w6 w') => FAL4.out w' (HK6.out.trans (hb.mono HK6.out.size)))
      have HKb : Hid (Below w6.heap.size w6 w6) := Lib.hid (Below.refl _ _)
      clear HK6
      have HK6 := HKb
      clear HKb
      have d0 : w6.cell? ⟨bd, 0, none⟩ = some (.int .i64 st) := cell_at (FXd6.out _ HK6.out) 0 _ rfl
      have d1 : w6.cell? ⟨bd, 1, none⟩ = some (.string f) := cell_at (FXd6.out _ HK6.out) 1 _ rfl
      have d2 : w6.cell? ⟨bd, 2, none⟩ = some (.slice A us.length c) := cell_at (FXd6.out _ HK6.out) 2 _ rfl
      have d3 : w6.cell? ⟨bd, 3, none⟩ = some (.string t) := cell_at (FXd6.out _ HK6.out) 3 _ rfl
      have l0 : w6.cell? ⟨bl, 0, none⟩ = some (.int .i64 so) := cell_at (FXl6.out _ HK6.out) 0 _ rfl
      have l1 : w6.cell? ⟨bl, 1, none⟩ = some (.string fo) := cell_at (FXl6.out _ HK6.out) 1 _ rfl
      have l2 : w6.cell? ⟨bl, 2, none⟩ = some (.slice Al uo.length cl) := cell_at (FXl6.out _ HK6.out) 2 _ rfl
      have l3 : w6.cell? ⟨bl, 3, none⟩ = some (.string to_) := cell_at (FXl6.out _ HK6.out) 3 _ rfl
      have m0 : w6.cell? ⟨bm, 0, none⟩ = some (.int .i64 so) := cell_at (FXm6.out _ HK6.out) 0 _ rfl
      have m1 : w6.cell? ⟨bm, 1, none⟩ = some (.string fo) := cell_at (FXm6.out _ HK6.out) 1 _ rfl
      have m2 : w6.cell? ⟨bm, 2, none⟩ = some (.slice Am uo.length cm) := cell_at (FXm6.out _ HK6.out) 2 _ rfl
      have m3 : w6.cell? ⟨bm, 3, none⟩ = some (.string to_) := cell_at (FXm6.out _ HK6.out) 3 _ rfl
      clear hatm
      go_wp2_with fail
      refine Calls.mono (sameSub_any so fo to_ Al Am uo cl cm _ (FAL6.out _ HK6.out) (FAM6.out _ HK6.out) hulo) ?_
      rintro e w7 ⟨rfl, hb⟩
      clear d0 d1 d2 d3 l0 l1 l2 l3 m0 m1 m2 m3
      have HK7 := Lib.hid (HK6.out.trans (hb.mono HK6.out.size))
      clear hb
      have d0 : w7.cell? ⟨bd, 0, none⟩ = some (.int .i64 st) := cell_at (FXd6.out _ HK7.out) 0 _ rfl
      have d1 : w7.cell? ⟨bd, 1, none⟩ = some (.string f) := cell_at (FXd6.out _ HK7.out) 1 _ rfl
      have d2 : w7.cell? ⟨bd, 2, none⟩ = some (.slice A us.length c) := cell_at (FXd6.out _ HK7.out) 2 _ rfl
      have d3 : w7.cell? ⟨bd, 3, none⟩ = some (.string t) := cell_at (FXd6.out _ HK7.out) 3 _ rfl
      have l0 : w7.cell? ⟨bl, 0, none⟩ = some (.int .i64 so) := cell_at (FXl6.out _ HK7.out) 0 _ rfl
      have l1 : w7.cell? ⟨bl, 1, none⟩ = some (.string fo) := cell_at (FXl6.out _ HK7.out) 1 _ rfl
      have l2 : w7.cell? ⟨bl, 2, none⟩ = some (.slice Al uo.length cl) := cell_at (FXl6.out _ HK7.out) 2 _ rfl
      have l3 : w7.cell? ⟨bl, 3, none⟩ = some (.string to_) := cell_at (FXl6.out _ HK7.out) 3 _ rfl
      have m0 : w7.cell? ⟨bm, 0, none⟩ = some (.int .i64 so) := cell_at (FXm6.out _ HK7.out) 0 _ rfl
      have m1 : w7.cell? ⟨bm, 1, none⟩ = some (.string fo) := cell_at (FXm6.out _ HK7.out) 1 _ rfl
      have m2 : w7.cell? ⟨bm, 2, none⟩ = some (.slice Am uo.length cm) := cell_at (FXm6.out _ HK7.out) 2 _ rfl
      have m3 : w7.cell? ⟨bm, 3, none⟩ = some (.string to_) := cell_at (FXm6.out _ HK7.out) 3 _ rfl
      by_cases hans : Sm.ok ⟨st, f, us, t⟩ = true ∧ Us.usersOk vs = true ∧ Dm.ok d.data.toList = true
      · have HL : Hid (Sm.line vs d ⟨st, f, us, t⟩ l = (⟨so, fo, uo, to_⟩, no)) := Lib.hid (by rw [← Sm.ans_good hans]; exact HR.out)
        have HANS := Lib.hid hans
        have hnn : ¬ no < 0 := by have := Sm.line_reply vs d ⟨st, f, us, t⟩ l; rw [HL.out] at this; exact this
        clear hans
        by_cases h1 : st = 1
        · have h1i : (st != 1) = false := by simpa using h1
          have H1 := Lib.hid h1
          clear h1
          have hfz8 : f.size ≤ 8 := (Sm.ok_sizes HANS.out.1).1
          have hdz20 : d.size ≤ 20 := Sm.dom_size HANS.out.2.2
          have hv0 : 0 < vs.length := (((Us.usersOk_iff vs).1 HANS.out.2.1).1).1
          obtain ⟨k, hk, hke⟩ : ∃ k : Nat, k < vs.length ∧ (len2 : Int) % vs.length = k := ⟨len2 % vs.length, Nat.mod_lt _ hv0, by omega⟩
          have hvz : ¬ (vs.length : Int) = 0 := by omega
          have hki : (k : Int) < (vs.length : Int) := by omega
          have hk0 : (0 : Int) ≤ (k : Int) := by omega
          have hex : ∃ u, vs[k]? = some u := ⟨_, List.getElem?_eq_getElem hk⟩
          obtain ⟨u, hu⟩ := hex
          have HUM : Hid (u ∈ vs) := Lib.hid (List.mem_of_getElem? hu)
          have HUN : Hid (Nm.nameOk u.name.data.toList = true) := Lib.hid (Sm.name_mem HANS.out.2.1 HUM.out)
          obtain ⟨ug, uf, hAu, -, -⟩ := (FU6.out _ HK7.out).1 (Nat.lt_of_le_of_lt (Nat.zero_le _) hk)
          subst hAu
          have FC6 : Hid (∀ w', Below w6.heap.size w6 w' → w'.cell? ⟨ug, uf + k * 3, none⟩ = some (.string u.name) ∧ w'.cell? ⟨ug, uf + k * 3 + 1, none⟩ = some (.string u.pass) ∧ w'.cell? ⟨ug, uf + k * 3 + 2, none⟩ = some (.int .i64 u.quota)) := Lib.hid (fun w' hb => by
            obtain ⟨g', o', e, _, hc⟩ := (FU6.out _ hb).1 (Nat.lt_of_le_of_lt (Nat.zero_le _) hk)
            injection e with e
            injection e with e1 e2
            subst e1 e2
            exact hc k u hu)
          clear hu
          have hun8 : u.name.size ≤ 8 := Sm.name_size HUN.out
          have FG6 : Hid (∀ w', Below w6.heap.size w6 w' → ug < w'.heap.size) := Lib.hid (fun w' hb => by
            obtain ⟨g', o', e, hg, _⟩ := (FU6.out _ hb).1 (Nat.lt_of_le_of_lt (Nat.zero_le _) hk)
            injection e with e
            injection e with e1 e2
            subst e1 e2
            exact hg)
          have hup8 : u.pass.size ≤ 8 := Sm.name_size (Sm.pass_mem HANS.out.2.1 HUM.out)
          have hunm : u.name.size ≤ maxLen := by unfold maxLen; omega
          have hza : (ByteArray.mk #[97]).size = 1 := rfl
          have hupm : (u.pass ++ ByteArray.mk #[97]).size ≤ maxLen := by unfold maxLen; rw [ByteArray.size_append]; omega
          have hmk : (Pp.make u.name (u.pass ++ ByteArray.mk #[97])).size ≤ 200 := Sm.make_sz30 (by omega) (by rw [ByteArray.size_append]; omega)
          have hzl0 : (ByteArray.mk #[65, 85, 84, 72, 32, 80, 76, 65, 73, 78, 32]).size = 11 := rfl
          have hlX : (ByteArray.mk #[65, 85, 84, 72, 32, 80, 76, 65, 73, 78, 32] ++ (Pp.make u.name (u.pass ++ ByteArray.mk #[97]))).size ≤ 16777216 := by simp only [ByteArray.size_append]; omega
          have HRX : Hid (Sm.ans vs d ⟨st, f, us, t⟩ (ByteArray.mk #[65, 85, 84, 72, 32, 80, 76, 65, 73, 78, 32] ++ (Pp.make u.name (u.pass ++ ByteArray.mk #[97]))) = (⟨st, f, us, t⟩, 535)) := Lib.hid (by rw [Sm.ans_good HANS.out]; exact Sm.auth_wrong vs (s := ⟨st, f, us, t⟩) (t := (Pp.make u.name (u.pass ++ ByteArray.mk #[97]))) H1.out (Sm.app_list _ _) (Pp.make_ne _ _) (Sm.pass_wrong HANS.out.2.1 HUM.out))
          have HRB : Hid (Sm.ans vs d ⟨st, f, us, t⟩ (ByteArray.mk #[65, 85, 84, 72, 32, 76, 79, 71, 73, 78, 32, 120]) = (⟨st, f, us, t⟩, 501)) := Lib.hid (by rw [Sm.ans_good HANS.out]; exact Sm.auth_login vs (s := ⟨st, f, us, t⟩) H1.out)
          have HRC : Hid (Sm.ans vs d ⟨st, f, us, t⟩ (ByteArray.mk #[65, 85, 84, 72, 32, 80, 76, 65, 73, 78]) = (⟨st, f, us, t⟩, 501)) := Lib.hid (by rw [Sm.ans_good HANS.out]; exact Sm.auth_short vs (s := ⟨st, f, us, t⟩) H1.out)
          obtain ⟨r0, r1, r2⟩ := (FC6.out _ HK7.out)
          go_upto_region 8 with fail
          clear d0 d1 d2 d3 l0 l1 l2 l3 m0 m1 m2 m3
          have hx := heap_alloc_new w7 (.cells #[.string u.name, .string u.pass, .int .i64 u.quota] 64)
          have hE := Below.alloc (Below.refl w7.heap.size w7) (Nat.le_refl _) (.cells #[.string u.name, .string u.pass, .int .i64 u.quota] 64)
          have hs : w7.heap.size < (w7.alloc (.cells #[.string u.name, .string u.pass, .int .i64 u.quota] 64)).heap.size := by simp
          go_upto_region 9 with fail
          generalize w7.alloc (.cells #[.string u.name, .string u.pass, .int .i64 u.quota] 64) = w8 at hx hE hs ⊢
          obtain ⟨bu, hbb⟩ : ∃ b, b = w7.heap.size := ⟨_, rfl⟩
          rw [← hbb] at hx hs ⊢
          have hltdu : bd < bu := by have := (Array.getElem?_eq_some_iff.1 (FXd6.out _ HK7.out)).1; omega
          have hltlu : bl < bu := by have := (Array.getElem?_eq_some_iff.1 (FXl6.out _ HK7.out)).1; omega
          have hltmu : bm < bu := by have := (Array.getElem?_eq_some_iff.1 (FXm6.out _ HK7.out)).1; omega
          have HK8 := Lib.hid (HK7.out.trans (hE.mono HK7.out.size))
          have FXu8 : Hid (∀ w', Below w8.heap.size w8 w' → w'.heap[bu]? = some (.cells #[.string u.name, .string u.pass, .int .i64 u.quota] 64 (0, 0))) := Lib.hid (fun w' hb => (hb.block _ hs).trans hx)
          clear hx hE hs hbb
          have FU8 := Lib.hid (fun w' (hb : Below w8.heap.size w8 w') => FU6.out w' (HK8.out.trans (hb.mono HK8.out.size)))
          have FM8 := Lib.hid (fun w' (hb : Below w8.heap.size w8 w') => FM6.out w' (HK8.out.trans (hb.mono HK8.out.size)))
          have FB8 := Lib.hid (fun w' (hb : Below w8.heap.size w8 w') => FB6.out w' (HK8.out.trans (hb.mono HK8.out.size)))
          have FC8 := Lib.hid (fun w' (hb : Below w8.heap.size w8 w') => FC6.out w' (HK8.out.trans (hb.mono HK8.out.size)))
          have FG8 := Lib.hid (fun w' (hb : Below w8.heap.size w8 w') => FG6.out w' (HK8.out.trans (hb.mono HK8.out.size)))
          have FXd8 := Lib.hid (fun w' (hb : Below w8.heap.size w8 w') => FXd6.out w' (HK8.out.trans (hb.mono HK8.out.size)))
          have FXl8 := Lib.hid (fun w' (hb : Below w8.heap.size w8 w') => FXl6.out w' (HK8.out.trans (hb.mono HK8.out.size)))
          have FXm8 := Lib.hid (fun w' (hb : Below w8.heap.size w8 w') => FXm6.out w' (HK8.out.trans (hb.mono HK8.out.size)))
          have FAA8 := Lib.hid (fun w' (hb : Below w8.heap.size w8 w') => FAA6.out w' (HK8.out.trans (hb.mono HK8.out.size)))
          have FAL8 := Lib.hid (fun w' (hb : Below w8.heap.size w8 w') => FAL6.out w' (HK8.out.trans (hb.mono HK8.out.size)))
          have FAM8 := Lib.hid (fun w' (hb : Below w8.heap.size w8 w') => FAM6.out w' (HK8.out.trans (hb.mono HK8.out.size)))
          have HKb : Hid (Below w8.heap.size w8 w8) := Lib.hid (Below.refl _ _)
          clear HK8
          have HK8 := HKb
          clear HKb
          have d0 : w8.cell? ⟨bd, 0, none⟩ = some (.int .i64 st) := cell_at (FXd8.out _ HK8.out) 0 _ rfl
          have d1 : w8.cell? ⟨bd, 1, none⟩ = some (.string f) := cell_at (FXd8.out _ HK8.out) 1 _ rfl
          have d2 : w8.cell? ⟨bd, 2, none⟩ = some (.slice A us.length c) := cell_at (FXd8.out _ HK8.out) 2 _ rfl
          have d3 : w8.cell? ⟨bd, 3, none⟩ = some (.string t) := cell_at (FXd8.out _ HK8.out) 3 _ rfl
          have l0 : w8.cell? ⟨bl, 0, none⟩ = some (.int .i64 so) := cell_at (FXl8.out _ HK8.out) 0 _ rfl
          have l1 : w8.cell? ⟨bl, 1, none⟩ = some (.string fo) := cell_at (FXl8.out _ HK8.out) 1 _ rfl
          have l2 : w8.cell? ⟨bl, 2, none⟩ = some (.slice Al uo.length cl) := cell_at (FXl8.out _ HK8.out) 2 _ rfl
          have l3 : w8.cell? ⟨bl, 3, none⟩ = some (.string to_) := cell_at (FXl8.out _ HK8.out) 3 _ rfl
          have m0 : w8.cell? ⟨bm, 0, none⟩ = some (.int .i64 so) := cell_at (FXm8.out _ HK8.out) 0 _ rfl
          have m1 : w8.cell? ⟨bm, 1, none⟩ = some (.string fo) := cell_at (FXm8.out _ HK8.out) 1 _ rfl
          have m2 : w8.cell? ⟨bm, 2, none⟩ = some (.slice Am uo.length cm) := cell_at (FXm8.out _ HK8.out) 2 _ rfl
          have m3 : w8.cell? ⟨bm, 3, none⟩ = some (.string to_) := cell_at (FXm8.out _ HK8.out) 3 _ rfl
          have u0 : w8.cell? ⟨bu, 0, none⟩ = some (.string u.name) := cell_at (FXu8.out _ HK8.out) 0 _ rfl
          have u1 : w8.cell? ⟨bu, 1, none⟩ = some (.string u.pass) := cell_at (FXu8.out _ HK8.out) 1 _ rfl
          have u2 : w8.cell? ⟨bu, 2, none⟩ = some (.int .i64 u.quota) := cell_at (FXu8.out _ HK8.out) 2 _ rfl
          clear r0 r1 r2
          have HD8 : Hid (Below w8.heap.size w8 w8.drew) := Lib.hid (Sx.below_drew HK8.out)
          have HE8 : Hid (Below w8.heap.size w8 (w8.alloc (.cells #[.int .i64 0, .string ⟨#[]⟩, .slice none 0 0, .string ⟨#[]⟩] 36)).drew) := Lib.hid (Sx.below_drew (HK8.out.alloc HK8.out.size _))
          have HZ8 : Hid ((w8.alloc (.cells #[.int .i64 0, .string ⟨#[]⟩, .slice none 0 0, .string ⟨#[]⟩] 36)).drew.heap[w8.heap.size]? = some (.cells #[.int .i64 0, .string ⟨#[]⟩, .slice none 0 0, .string ⟨#[]⟩] 36)) := Lib.hid (heap_alloc_new w8 _)
          have HF8 : Hid (Below w8.heap.size w8 w8.drew ∧ Below w8.heap.size w8 (w8.alloc (.cells #[.int .i64 0, .string ⟨#[]⟩, .slice none 0 0, .string ⟨#[]⟩] 36)).drew) := Lib.hid ⟨Sx.below_drew (Below.refl _ _), Sx.below_drew ((Below.refl _ _).alloc (Nat.le_refl _) _)⟩
          have HUSZ := Lib.hid (FAA8.out _ HK8.out).2
          have HCL : Hid (∀ W, Below w8.heap.size w8 W → Calls Tryz.prog 27 #[.agg #[.int .i64 st, .string f, .slice A us.length c, .string t], .slice (some ⟨ug, uf, none⟩) vs.length cu, .string d, .string (ByteArray.mk #[65, 85, 84, 72, 32, 80, 76, 65, 73, 78, 32] ++ (Pp.make u.name (u.pass ++ ByteArray.mk #[97])))] W (Sm.OwnW st f us t 535 W)) := Lib.hid fun W hb => iLineW_any st f t A us c _ (FAA8.out _ hb) hcap hcm hfm htm (some ⟨ug, uf, none⟩) vs cu (FU8.out _ hb) hvl d (ByteArray.mk #[65, 85, 84, 72, 32, 80, 76, 65, 73, 78, 32] ++ (Pp.make u.name (u.pass ++ ByteArray.mk #[97]))) hdz hlX m (FM8.out _ hb) HRX.out
          have hbbd : bd < w8.heap.size := (Array.getElem?_eq_some_iff.1 (FXd8.out _ HK8.out)).1
          have hbbl : bl < w8.heap.size := (Array.getElem?_eq_some_iff.1 (FXl8.out _ HK8.out)).1
          have hbbm : bm < w8.heap.size := (Array.getElem?_eq_some_iff.1 (FXm8.out _ HK8.out)).1
          have hbbu : bu < w8.heap.size := (Array.getElem?_eq_some_iff.1 (FXu8.out _ HK8.out)).1
          have hbug : ug < w8.heap.size := FG8.out _ HK8.out
          have hj0 : ∀ W, (Op.stringOp .add u.pass (ByteArray.mk #[97])).run Tryz.prog W = .ok (.string (u.pass ++ (ByteArray.mk #[97]))) W := fun W => run_string_add_sum W _ _ (by (try simp only [ByteArray.size_append]); omega)
          have hj1 : ∀ W, (Op.stringOp .add (ByteArray.mk #[65, 85, 84, 72, 32, 80, 76, 65, 73, 78, 32]) (Pp.make u.name (u.pass ++ ByteArray.mk #[97]))).run Tryz.prog W = .ok (.string ((ByteArray.mk #[65, 85, 84, 72, 32, 80, 76, 65, 73, 78, 32]) ++ (Pp.make u.name (u.pass ++ ByteArray.mk #[97])))) W := fun W => run_string_add_sum W _ _ (by (try simp only [ByteArray.size_append]); omega)
          go_cut [14, 15] (fun v1 v2 wx => ∃ (bq : Nat) (Aq : Option Addr) (cq : Nat), v1 = .pointer (some ⟨bq, 0, none⟩) ∧ v2 = .int .i64 535 ∧ Hid (wx.heap[bq]? = some (.cells #[.int .i64 st, .string f, .slice Aq us.length cq, .string t] 36 (0, 0))) ∧ Hid (AtStrs wx wx.heap.size Aq us) ∧ Hid (bq < wx.heap.size ∧ w8.heap.size ≤ bq) ∧ Hid (Below w8.heap.size w8 wx))
          case first =>
            go_region_law ((first
              | (go_simp; go_at_call 49; refine Calls.mono (iPlainMake_any u.name (u.pass ++ ByteArray.mk #[97]) hunm hupm _) ?_; rintro e wp ⟨rfl, hbp⟩; have HP : Hid (Below w8.heap.size w8 wp) := Lib.hid (HD8.out.trans (hbp.mono HD8.out.size)); have HQ : Hid (Below w8.heap.size w8 wp) := Lib.hid (HF8.out.1.trans (hbp.mono HF8.out.1.size)); have hbdp : bd < wp.heap.size := Nat.lt_of_lt_of_le hbbd HQ.out.size; have d0 : wp.cell? ⟨bd, 0, none⟩ = some (.int .i64 st) := cell_at (FXd8.out _ HP.out) 0 _ rfl; have d1 : wp.cell? ⟨bd, 1, none⟩ = some (.string f) := cell_at (FXd8.out _ HP.out) 1 _ rfl; have d2 : wp.cell? ⟨bd, 2, none⟩ = some (.slice A us.length c) := cell_at (FXd8.out _ HP.out) 2 _ rfl; have d3 : wp.cell? ⟨bd, 3, none⟩ = some (.string t) := cell_at (FXd8.out _ HP.out) 3 _ rfl)
              | (go_simp; go_at_call 49; refine Calls.mono (iPlainMake_any u.name (u.pass ++ ByteArray.mk #[97]) hunm hupm _) ?_; rintro e wp ⟨rfl, hbp⟩; have HP : Hid (Below w8.heap.size w8 wp) := Lib.hid (HE8.out.trans (hbp.mono HE8.out.size)); have HQ : Hid (Below w8.heap.size w8 wp) := Lib.hid (HF8.out.2.trans (hbp.mono HF8.out.2.size)); have HZP := Lib.hid ((hbp.block w8.heap.size (by simp)).trans HZ8.out); have hbdp : bd < wp.heap.size := Nat.lt_of_lt_of_le hbbd HQ.out.size; have d0 : wp.cell? ⟨bd, 0, none⟩ = some (.int .i64 st) := cell_at (FXd8.out _ HP.out) 0 _ rfl; have d1 : wp.cell? ⟨bd, 1, none⟩ = some (.string f) := cell_at (FXd8.out _ HP.out) 1 _ rfl; have d2 : wp.cell? ⟨bd, 2, none⟩ = some (.slice A us.length c) := cell_at (FXd8.out _ HP.out) 2 _ rfl; have d3 : wp.cell? ⟨bd, 3, none⟩ = some (.string t) := cell_at (FXd8.out _ HP.out) 3 _ rfl)
              | (go_simp; go_at_call 27; refine Calls.mono (HCL.out _ HP.out) ?_; rintro e wy ⟨Aq, cq, rfl, hoq, hkq, hjq, hbq⟩; have hbw : Hid (Below w8.heap.size w8 wy) := Lib.hid (HQ.out.trans (hbq.mono HQ.out.size)); have hlz := (Array.getElem?_eq_some_iff.1 HZP.out).1; have HV1 := Lib.hid ((hbq.block w8.heap.size hlz).trans HZP.out); have vz0 : wy.cell? ⟨w8.heap.size, 0, none⟩ = some (.int .i64 0) := cell_at HV1.out 0 _ rfl; have fz0 := free_at HV1.out 0; have vz1 : wy.cell? ⟨w8.heap.size, 1, none⟩ = some (.string ⟨#[]⟩) := cell_at HV1.out 1 _ rfl; have fz1 := free_at HV1.out 1; have vz2 : wy.cell? ⟨w8.heap.size, 2, none⟩ = some (.slice none 0 0) := cell_at HV1.out 2 _ rfl; have fz2 := free_at HV1.out 2; have vz3 : wy.cell? ⟨w8.heap.size, 3, none⟩ = some (.string ⟨#[]⟩) := cell_at HV1.out 3 _ rfl; have fz3 := free_at HV1.out 3)
              | (go_simp; go_at_call 27; refine Calls.mono (HCL.out _ HP.out) ?_; rintro e wy ⟨Aq, cq, rfl, hoq, hkq, hjq, hbq⟩; have hbw : Hid (Below w8.heap.size w8 wy) := Lib.hid (HQ.out.trans (hbq.mono HQ.out.size)))
              | (go_simp; go_at_call 27; have hpz := Below.alloc (Below.refl wp.heap.size wp) (Nat.le_refl _) (.cells #[.int .i64 0, .string ⟨#[]⟩, .slice none 0 0, .string ⟨#[]⟩] 36); have hP2 := HP.out.trans (hpz.mono HP.out.size); have hQ2 := HQ.out.trans (hpz.mono HQ.out.size); refine Calls.mono (HCL.out _ hP2) ?_; rintro e wy ⟨Aq, cq, rfl, hoq, hkq, hjq, hbq⟩; have hbw : Hid (Below w8.heap.size w8 wy) := Lib.hid (hQ2.trans (hbq.mono hQ2.size)); have hx2 := heap_alloc_new wp (.cells #[.int .i64 0, .string ⟨#[]⟩, .slice none 0 0, .string ⟨#[]⟩] 36); have hlz : wp.heap.size < (wp.alloc (.cells #[.int .i64 0, .string ⟨#[]⟩, .slice none 0 0, .string ⟨#[]⟩] 36)).heap.size := (Array.getElem?_eq_some_iff.1 hx2).1; have HV2 := Lib.hid ((hbq.block wp.heap.size hlz).trans hx2); clear hpz hP2 hQ2 hx2; have vz0 : wy.cell? ⟨wp.heap.size, 0, none⟩ = some (.int .i64 0) := cell_at HV2.out 0 _ rfl; have fz0 := free_at HV2.out 0; have vz1 : wy.cell? ⟨wp.heap.size, 1, none⟩ = some (.string ⟨#[]⟩) := cell_at HV2.out 1 _ rfl; have fz1 := free_at HV2.out 1; have vz2 : wy.cell? ⟨wp.heap.size, 2, none⟩ = some (.slice none 0 0) := cell_at HV2.out 2 _ rfl; have fz2 := free_at HV2.out 2; have vz3 : wy.cell? ⟨wp.heap.size, 3, none⟩ = some (.string ⟨#[]⟩) := cell_at HV2.out 3 _ rfl; have fz3 := free_at HV2.out 3)))
            all_goals
              go_wp2_with fail
              go_meet
              first
              | (have hh := HV1.out
                 refine ⟨_, Aq, cq, rfl, rfl, ?_, ?_, ?_, ?_⟩
                 · exact Lib.hid (Lw.box4 hh _ _ _ _)
                 · exact Lib.hid (Lw.strs_own (Lw.own4 hoq hlz _ _ _ _) rfl HUSZ.out)
                 · exact Lib.hid ⟨by simp; exact (Array.getElem?_eq_some_iff.1 hh).1, Nat.le_refl _⟩
                 · exact Lib.hid (set4 hbw.out (Nat.le_refl _) _ _ _ _))
              | (have hh := HV2.out
                 refine ⟨_, Aq, cq, rfl, rfl, ?_, ?_, ?_, ?_⟩
                 · exact Lib.hid (Lw.box4 hh _ _ _ _)
                 · exact Lib.hid (Lw.strs_own (Lw.own4 hoq hlz _ _ _ _) rfl HUSZ.out)
                 · exact Lib.hid ⟨by simp; exact (Array.getElem?_eq_some_iff.1 hh).1, HQ.out.size⟩
                 · exact Lib.hid (set4 hbw.out (HQ.out.size) _ _ _ _))
              | (have hea := Below.alloc (Below.refl wy.heap.size wy) (Nat.le_refl _) (.cells #[.int .i64 st, .string f, .slice Aq us.length cq, .string t] 36)
                 refine ⟨_, Aq, cq, rfl, rfl, ?_, ?_, ?_, ?_⟩
                 · exact Lib.hid (heap_alloc_new _ _)
                 · exact Lib.hid (((Lw.strs_own hoq rfl HUSZ.out).below hea).mono hea.size)
                 · exact Lib.hid ⟨by simp, hbw.out.size⟩
                 · exact Lib.hid (hbw.out.trans (hea.mono hbw.out.size)))
          clear d0 d1 d2 d3 l0 l1 l2 l3 m0 m1 m2 m3 u0 u1 u2
          obtain ⟨bx, Ax, cx, rfl, rfl, HX, HAX, HLX, HBX⟩ := hcut
          obtain ⟨w9, hwm⟩ : ∃ wm, wm = wc := ⟨_, rfl⟩
          subst hwm
          have hltdx : bd < bx := by have := (Array.getElem?_eq_some_iff.1 (FXd8.out _ HK8.out)).1; have := HLX.out.2; omega
          have hltlx : bl < bx := by have := (Array.getElem?_eq_some_iff.1 (FXl8.out _ HK8.out)).1; have := HLX.out.2; omega
          have hltmx : bm < bx := by have := (Array.getElem?_eq_some_iff.1 (FXm8.out _ HK8.out)).1; have := HLX.out.2; omega
          have hltux : bu < bx := by have := (Array.getElem?_eq_some_iff.1 (FXu8.out _ HK8.out)).1; have := HLX.out.2; omega
          have HK9 := Lib.hid (HK8.out.trans (HBX.out.mono HK8.out.size))
          have FXx9 : Hid (∀ w', Below w9.heap.size w9 w' → w'.heap[bx]? = some (.cells #[.int .i64 st, .string f, .slice Ax us.length cx, .string t] 36 (0, 0))) := Lib.hid (fun w' hb => (hb.block _ HLX.out.1).trans HX.out)
          have FAX9 : Hid (∀ w', Below w9.heap.size w9 w' → AtStrs w' w'.heap.size Ax us) := Lib.hid (fun w' hb => (HAX.out.below hb).mono hb.size)
          have FU9 := Lib.hid (fun w' (hb : Below w9.heap.size w9 w') => FU8.out w' (HK9.out.trans (hb.mono HK9.out.size)))
          have FM9 := Lib.hid (fun w' (hb : Below w9.heap.size w9 w') => FM8.out w' (HK9.out.trans (hb.mono HK9.out.size)))
          have FB9 := Lib.hid (fun w' (hb : Below w9.heap.size w9 w') => FB8.out w' (HK9.out.trans (hb.mono HK9.out.size)))
          have FC9 := Lib.hid (fun w' (hb : Below w9.heap.size w9 w') => FC8.out w' (HK9.out.trans (hb.mono HK9.out.size)))
          have FG9 := Lib.hid (fun w' (hb : Below w9.heap.size w9 w') => FG8.out w' (HK9.out.trans (hb.mono HK9.out.size)))
          have FXd9 := Lib.hid (fun w' (hb : Below w9.heap.size w9 w') => FXd8.out w' (HK9.out.trans (hb.mono HK9.out.size)))
          have FXl9 := Lib.hid (fun w' (hb : Below w9.heap.size w9 w') => FXl8.out w' (HK9.out.trans (hb.mono HK9.out.size)))
          have FXm9 := Lib.hid (fun w' (hb : Below w9.heap.size w9 w') => FXm8.out w' (HK9.out.trans (hb.mono HK9.out.size)))
          have FXu9 := Lib.hid (fun w' (hb : Below w9.heap.size w9 w') => FXu8.out w' (HK9.out.trans (hb.mono HK9.out.size)))
          have FAA9 := Lib.hid (fun w' (hb : Below w9.heap.size w9 w') => FAA8.out w' (HK9.out.trans (hb.mono HK9.out.size)))
          have FAL9 := Lib.hid (fun w' (hb : Below w9.heap.size w9 w') => FAL8.out w' (HK9.out.trans (hb.mono HK9.out.size)))
          have FAM9 := Lib.hid (fun w' (hb : Below w9.heap.size w9 w') => FAM8.out w' (HK9.out.trans (hb.mono HK9.out.size)))
          have HKb : Hid (Below w9.heap.size w9 w9) := Lib.hid (Below.refl _ _)
          clear HK9
          have HK9 := HKb
          clear HKb
          clear hbug hbbd hbbl hbbm hbbu
          clear HX HAX HLX HBX HCL HUSZ HD8 HE8 HZ8 HF8 hj0 hj1
          have d0 : w9.cell? ⟨bd, 0, none⟩ = some (.int .i64 st) := cell_at (FXd9.out _ HK9.out) 0 _ rfl
          have d1 : w9.cell? ⟨bd, 1, none⟩ = some (.string f) := cell_at (FXd9.out _ HK9.out) 1 _ rfl
          have d2 : w9.cell? ⟨bd, 2, none⟩ = some (.slice A us.length c) := cell_at (FXd9.out _ HK9.out) 2 _ rfl
          have d3 : w9.cell? ⟨bd, 3, none⟩ = some (.string t) := cell_at (FXd9.out _ HK9.out) 3 _ rfl
          have l0 : w9.cell? ⟨bl, 0, none⟩ = some (.int .i64 so) := cell_at (FXl9.out _ HK9.out) 0 _ rfl
          have l1 : w9.cell? ⟨bl, 1, none⟩ = some (.string fo) := cell_at (FXl9.out _ HK9.out) 1 _ rfl
          have l2 : w9.cell? ⟨bl, 2, none⟩ = some (.slice Al uo.length cl) := cell_at (FXl9.out _ HK9.out) 2 _ rfl
          have l3 : w9.cell? ⟨bl, 3, none⟩ = some (.string to_) := cell_at (FXl9.out _ HK9.out) 3 _ rfl
          have m0 : w9.cell? ⟨bm, 0, none⟩ = some (.int .i64 so) := cell_at (FXm9.out _ HK9.out) 0 _ rfl
          have m1 : w9.cell? ⟨bm, 1, none⟩ = some (.string fo) := cell_at (FXm9.out _ HK9.out) 1 _ rfl
          have m2 : w9.cell? ⟨bm, 2, none⟩ = some (.slice Am uo.length cm) := cell_at (FXm9.out _ HK9.out) 2 _ rfl
          have m3 : w9.cell? ⟨bm, 3, none⟩ = some (.string to_) := cell_at (FXm9.out _ HK9.out) 3 _ rfl
          have u0 : w9.cell? ⟨bu, 0, none⟩ = some (.string u.name) := cell_at (FXu9.out _ HK9.out) 0 _ rfl
          have u1 : w9.cell? ⟨bu, 1, none⟩ = some (.string u.pass) := cell_at (FXu9.out _ HK9.out) 1 _ rfl
          have u2 : w9.cell? ⟨bu, 2, none⟩ = some (.int .i64 u.quota) := cell_at (FXu9.out _ HK9.out) 2 _ rfl
          have x0 : w9.cell? ⟨bx, 0, none⟩ = some (.int .i64 st) := cell_at (FXx9.out _ HK9.out) 0 _ rfl
          have x1 : w9.cell? ⟨bx, 1, none⟩ = some (.string f) := cell_at (FXx9.out _ HK9.out) 1 _ rfl
          have x2 : w9.cell? ⟨bx, 2, none⟩ = some (.slice Ax us.length cx) := cell_at (FXx9.out _ HK9.out) 2 _ rfl
          have x3 : w9.cell? ⟨bx, 3, none⟩ = some (.string t) := cell_at (FXx9.out _ HK9.out) 3 _ rfl
          go_wp2_with fail
          refine Calls.mono (iLine_any st f t A us c _ (FAA9.out _ HK9.out) hcap hcm hfm htm (some ⟨ug, uf, none⟩) vs cu (FU9.out _ HK9.out) hvl d (ByteArray.mk #[65, 85, 84, 72, 32, 76, 79, 71, 73, 78, 32, 120]) hdz (by decide) m (FM9.out _ HK9.out) HRB.out) ?_
          rintro e w10 ⟨Ab, cb, rfl, hatb, hkb, hjb, hb⟩
          clear d0 d1 d2 d3 l0 l1 l2 l3 m0 m1 m2 m3 u0 u1 u2 x0 x1 x2 x3
          have HK10 := Lib.hid (HK9.out.trans (hb.mono HK9.out.size))
          clear hb
          have d0 : w10.cell? ⟨bd, 0, none⟩ = some (.int .i64 st) := cell_at (FXd9.out _ HK10.out) 0 _ rfl
          have d1 : w10.cell? ⟨bd, 1, none⟩ = some (.string f) := cell_at (FXd9.out _ HK10.out) 1 _ rfl
          have d2 : w10.cell? ⟨bd, 2, none⟩ = some (.slice A us.length c) := cell_at (FXd9.out _ HK10.out) 2 _ rfl
          have d3 : w10.cell? ⟨bd, 3, none⟩ = some (.string t) := cell_at (FXd9.out _ HK10.out) 3 _ rfl
          have l0 : w10.cell? ⟨bl, 0, none⟩ = some (.int .i64 so) := cell_at (FXl9.out _ HK10.out) 0 _ rfl
          have l1 : w10.cell? ⟨bl, 1, none⟩ = some (.string fo) := cell_at (FXl9.out _ HK10.out) 1 _ rfl
          have l2 : w10.cell? ⟨bl, 2, none⟩ = some (.slice Al uo.length cl) := cell_at (FXl9.out _ HK10.out) 2 _ rfl
          have l3 : w10.cell? ⟨bl, 3, none⟩ = some (.string to_) := cell_at (FXl9.out _ HK10.out) 3 _ rfl
          have m0 : w10.cell? ⟨bm, 0, none⟩ = some (.int .i64 so) := cell_at (FXm9.out _ HK10.out) 0 _ rfl
          have m1 : w10.cell? ⟨bm, 1, none⟩ = some (.string fo) := cell_at (FXm9.out _ HK10.out) 1 _ rfl
          have m2 : w10.cell? ⟨bm, 2, none⟩ = some (.slice Am uo.length cm) := cell_at (FXm9.out _ HK10.out) 2 _ rfl
          have m3 : w10.cell? ⟨bm, 3, none⟩ = some (.string to_) := cell_at (FXm9.out _ HK10.out) 3 _ rfl
          have u0 : w10.cell? ⟨bu, 0, none⟩ = some (.string u.name) := cell_at (FXu9.out _ HK10.out) 0 _ rfl
          have u1 : w10.cell? ⟨bu, 1, none⟩ = some (.string u.pass) := cell_at (FXu9.out _ HK10.out) 1 _ rfl
          have u2 : w10.cell? ⟨bu, 2, none⟩ = some (.int .i64 u.quota) := cell_at (FXu9.out _ HK10.out) 2 _ rfl
          have x0 : w10.cell? ⟨bx, 0, none⟩ = some (.int .i64 st) := cell_at (FXx9.out _ HK10.out) 0 _ rfl
          have x1 : w10.cell? ⟨bx, 1, none⟩ = some (.string f) := cell_at (FXx9.out _ HK10.out) 1 _ rfl
          have x2 : w10.cell? ⟨bx, 2, none⟩ = some (.slice Ax us.length cx) := cell_at (FXx9.out _ HK10.out) 2 _ rfl
          have x3 : w10.cell? ⟨bx, 3, none⟩ = some (.string t) := cell_at (FXx9.out _ HK10.out) 3 _ rfl
          clear d0 d1 d2 d3 l0 l1 l2 l3 m0 m1 m2 m3 u0 u1 u2 x0 x1 x2 x3
          have hx := heap_alloc_new w10 (.cells #[.int .i64 st, .string f, .slice Ab us.length cb, .string t] 36)
          have hE := Below.alloc (Below.refl w10.heap.size w10) (Nat.le_refl _) (.cells #[.int .i64 st, .string f, .slice Ab us.length cb, .string t] 36)
          have hs : w10.heap.size < (w10.alloc (.cells #[.int .i64 st, .string f, .slice Ab us.length cb, .string t] 36)).heap.size := by simp
          go_upto_region 11 with fail
          generalize w10.alloc (.cells #[.int .i64 st, .string f, .slice Ab us.length cb, .string t] 36) = w11 at hx hE hs ⊢
          obtain ⟨bb, hbb⟩ : ∃ b, b = w10.heap.size := ⟨_, rfl⟩
          rw [← hbb] at hx hs ⊢
          have hltdb : bd < bb := by have := (Array.getElem?_eq_some_iff.1 (FXd9.out _ HK10.out)).1; omega
          have hltlb : bl < bb := by have := (Array.getElem?_eq_some_iff.1 (FXl9.out _ HK10.out)).1; omega
          have hltmb : bm < bb := by have := (Array.getElem?_eq_some_iff.1 (FXm9.out _ HK10.out)).1; omega
          have hltub : bu < bb := by have := (Array.getElem?_eq_some_iff.1 (FXu9.out _ HK10.out)).1; omega
          have hltxb : bx < bb := by have := (Array.getElem?_eq_some_iff.1 (FXx9.out _ HK10.out)).1; omega
          have HK11 := Lib.hid (HK10.out.trans (hE.mono HK10.out.size))
          have FXb11 : Hid (∀ w', Below w11.heap.size w11 w' → w'.heap[bb]? = some (.cells #[.int .i64 st, .string f, .slice Ab us.length cb, .string t] 36 (0, 0))) := Lib.hid (fun w' hb => (hb.block _ hs).trans hx)
          have FAB11 : Hid (∀ w', Below w11.heap.size w11 w' → AtStrs w' w'.heap.size Ab us) := Lib.hid (fun w' hb => (((hatb.below hE).mono hE.size).below hb).mono hb.size)
          clear hx hE hs hbb
          have FU11 := Lib.hid (fun w' (hb : Below w11.heap.size w11 w') => FU9.out w' (HK11.out.trans (hb.mono HK11.out.size)))
          have FM11 := Lib.hid (fun w' (hb : Below w11.heap.size w11 w') => FM9.out w' (HK11.out.trans (hb.mono HK11.out.size)))
          have FB11 := Lib.hid (fun w' (hb : Below w11.heap.size w11 w') => FB9.out w' (HK11.out.trans (hb.mono HK11.out.size)))
          have FC11 := Lib.hid (fun w' (hb : Below w11.heap.size w11 w') => FC9.out w' (HK11.out.trans (hb.mono HK11.out.size)))
          have FG11 := Lib.hid (fun w' (hb : Below w11.heap.size w11 w') => FG9.out w' (HK11.out.trans (hb.mono HK11.out.size)))
          have FXd11 := Lib.hid (fun w' (hb : Below w11.heap.size w11 w') => FXd9.out w' (HK11.out.trans (hb.mono HK11.out.size)))
          have FXl11 := Lib.hid (fun w' (hb : Below w11.heap.size w11 w') => FXl9.out w' (HK11.out.trans (hb.mono HK11.out.size)))
          have FXm11 := Lib.hid (fun w' (hb : Below w11.heap.size w11 w') => FXm9.out w' (HK11.out.trans (hb.mono HK11.out.size)))
          have FXu11 := Lib.hid (fun w' (hb : Below w11.heap.size w11 w') => FXu9.out w' (HK11.out.trans (hb.mono HK11.out.size)))
          have FXx11 := Lib.hid (fun w' (hb : Below w11.heap.size w11 w') => FXx9.out w' (HK11.out.trans (hb.mono HK11.out.size)))
          have FAA11 := Lib.hid (fun w' (hb : Below w11.heap.size w11 w') => FAA9.out w' (HK11.out.trans (hb.mono HK11.out.size)))
          have FAL11 := Lib.hid (fun w' (hb : Below w11.heap.size w11 w') => FAL9.out w' (HK11.out.trans (hb.mono HK11.out.size)))
          have FAM11 := Lib.hid (fun w' (hb : Below w11.heap.size w11 w') => FAM9.out w' (HK11.out.trans (hb.mono HK11.out.size)))
          have FAX11 := Lib.hid (fun w' (hb : Below w11.heap.size w11 w') => FAX9.out w' (HK11.out.trans (hb.mono HK11.out.size)))
          have HKb : Hid (Below w11.heap.size w11 w11) := Lib.hid (Below.refl _ _)
          clear HK11
          have HK11 := HKb
          clear HKb
          have d0 : w11.cell? ⟨bd, 0, none⟩ = some (.int .i64 st) := cell_at (FXd11.out _ HK11.out) 0 _ rfl
          have d1 : w11.cell? ⟨bd, 1, none⟩ = some (.string f) := cell_at (FXd11.out _ HK11.out) 1 _ rfl
          have d2 : w11.cell? ⟨bd, 2, none⟩ = some (.slice A us.length c) := cell_at (FXd11.out _ HK11.out) 2 _ rfl
          have d3 : w11.cell? ⟨bd, 3, none⟩ = some (.string t) := cell_at (FXd11.out _ HK11.out) 3 _ rfl
          have l0 : w11.cell? ⟨bl, 0, none⟩ = some (.int .i64 so) := cell_at (FXl11.out _ HK11.out) 0 _ rfl
          have l1 : w11.cell? ⟨bl, 1, none⟩ = some (.string fo) := cell_at (FXl11.out _ HK11.out) 1 _ rfl
          have l2 : w11.cell? ⟨bl, 2, none⟩ = some (.slice Al uo.length cl) := cell_at (FXl11.out _ HK11.out) 2 _ rfl
          have l3 : w11.cell? ⟨bl, 3, none⟩ = some (.string to_) := cell_at (FXl11.out _ HK11.out) 3 _ rfl
          have m0 : w11.cell? ⟨bm, 0, none⟩ = some (.int .i64 so) := cell_at (FXm11.out _ HK11.out) 0 _ rfl
          have m1 : w11.cell? ⟨bm, 1, none⟩ = some (.string fo) := cell_at (FXm11.out _ HK11.out) 1 _ rfl
          have m2 : w11.cell? ⟨bm, 2, none⟩ = some (.slice Am uo.length cm) := cell_at (FXm11.out _ HK11.out) 2 _ rfl
          have m3 : w11.cell? ⟨bm, 3, none⟩ = some (.string to_) := cell_at (FXm11.out _ HK11.out) 3 _ rfl
          have u0 : w11.cell? ⟨bu, 0, none⟩ = some (.string u.name) := cell_at (FXu11.out _ HK11.out) 0 _ rfl
          have u1 : w11.cell? ⟨bu, 1, none⟩ = some (.string u.pass) := cell_at (FXu11.out _ HK11.out) 1 _ rfl
          have u2 : w11.cell? ⟨bu, 2, none⟩ = some (.int .i64 u.quota) := cell_at (FXu11.out _ HK11.out) 2 _ rfl
          have x0 : w11.cell? ⟨bx, 0, none⟩ = some (.int .i64 st) := cell_at (FXx11.out _ HK11.out) 0 _ rfl
          have x1 : w11.cell? ⟨bx, 1, none⟩ = some (.string f) := cell_at (FXx11.out _ HK11.out) 1 _ rfl
          have x2 : w11.cell? ⟨bx, 2, none⟩ = some (.slice Ax us.length cx) := cell_at (FXx11.out _ HK11.out) 2 _ rfl
          have x3 : w11.cell? ⟨bx, 3, none⟩ = some (.string t) := cell_at (FXx11.out _ HK11.out) 3 _ rfl
          have b0 : w11.cell? ⟨bb, 0, none⟩ = some (.int .i64 st) := cell_at (FXb11.out _ HK11.out) 0 _ rfl
          have b1 : w11.cell? ⟨bb, 1, none⟩ = some (.string f) := cell_at (FXb11.out _ HK11.out) 1 _ rfl
          have b2 : w11.cell? ⟨bb, 2, none⟩ = some (.slice Ab us.length cb) := cell_at (FXb11.out _ HK11.out) 2 _ rfl
          have b3 : w11.cell? ⟨bb, 3, none⟩ = some (.string t) := cell_at (FXb11.out _ HK11.out) 3 _ rfl
          clear hatb
          go_wp2_with fail
          refine Calls.mono (iLine_any st f t A us c _ (FAA11.out _ HK11.out) hcap hcm hfm htm (some ⟨ug, uf, none⟩) vs cu (FU11.out _ HK11.out) hvl d (ByteArray.mk #[65, 85, 84, 72, 32, 80, 76, 65, 73, 78]) hdz (by decide) m (FM11.out _ HK11.out) HRC.out) ?_
          rintro e w12 ⟨Ac2, cc2, rfl, hatc2, hkc2, hjc2, hb⟩
          clear d0 d1 d2 d3 l0 l1 l2 l3 m0 m1 m2 m3 u0 u1 u2 x0 x1 x2 x3 b0 b1 b2 b3
          have HK12 := Lib.hid (HK11.out.trans (hb.mono HK11.out.size))
          clear hb
          have d0 : w12.cell? ⟨bd, 0, none⟩ = some (.int .i64 st) := cell_at (FXd11.out _ HK12.out) 0 _ rfl
          have d1 : w12.cell? ⟨bd, 1, none⟩ = some (.string f) := cell_at (FXd11.out _ HK12.out) 1 _ rfl
          have d2 : w12.cell? ⟨bd, 2, none⟩ = some (.slice A us.length c) := cell_at (FXd11.out _ HK12.out) 2 _ rfl
          have d3 : w12.cell? ⟨bd, 3, none⟩ = some (.string t) := cell_at (FXd11.out _ HK12.out) 3 _ rfl
          have l0 : w12.cell? ⟨bl, 0, none⟩ = some (.int .i64 so) := cell_at (FXl11.out _ HK12.out) 0 _ rfl
          have l1 : w12.cell? ⟨bl, 1, none⟩ = some (.string fo) := cell_at (FXl11.out _ HK12.out) 1 _ rfl
          have l2 : w12.cell? ⟨bl, 2, none⟩ = some (.slice Al uo.length cl) := cell_at (FXl11.out _ HK12.out) 2 _ rfl
          have l3 : w12.cell? ⟨bl, 3, none⟩ = some (.string to_) := cell_at (FXl11.out _ HK12.out) 3 _ rfl
          have m0 : w12.cell? ⟨bm, 0, none⟩ = some (.int .i64 so) := cell_at (FXm11.out _ HK12.out) 0 _ rfl
          have m1 : w12.cell? ⟨bm, 1, none⟩ = some (.string fo) := cell_at (FXm11.out _ HK12.out) 1 _ rfl
          have m2 : w12.cell? ⟨bm, 2, none⟩ = some (.slice Am uo.length cm) := cell_at (FXm11.out _ HK12.out) 2 _ rfl
          have m3 : w12.cell? ⟨bm, 3, none⟩ = some (.string to_) := cell_at (FXm11.out _ HK12.out) 3 _ rfl
          have u0 : w12.cell? ⟨bu, 0, none⟩ = some (.string u.name) := cell_at (FXu11.out _ HK12.out) 0 _ rfl
          have u1 : w12.cell? ⟨bu, 1, none⟩ = some (.string u.pass) := cell_at (FXu11.out _ HK12.out) 1 _ rfl
          have u2 : w12.cell? ⟨bu, 2, none⟩ = some (.int .i64 u.quota) := cell_at (FXu11.out _ HK12.out) 2 _ rfl
          have x0 : w12.cell? ⟨bx, 0, none⟩ = some (.int .i64 st) := cell_at (FXx11.out _ HK12.out) 0 _ rfl
          have x1 : w12.cell? ⟨bx, 1, none⟩ = some (.string f) := cell_at (FXx11.out _ HK12.out) 1 _ rfl
          have x2 : w12.cell? ⟨bx, 2, none⟩ = some (.slice Ax us.length cx) := cell_at (FXx11.out _ HK12.out) 2 _ rfl
          have x3 : w12.cell? ⟨bx, 3, none⟩ = some (.string t) := cell_at (FXx11.out _ HK12.out) 3 _ rfl
          have b0 : w12.cell? ⟨bb, 0, none⟩ = some (.int .i64 st) := cell_at (FXb11.out _ HK12.out) 0 _ rfl
          have b1 : w12.cell? ⟨bb, 1, none⟩ = some (.string f) := cell_at (FXb11.out _ HK12.out) 1 _ rfl
          have b2 : w12.cell? ⟨bb, 2, none⟩ = some (.slice Ab us.length cb) := cell_at (FXb11.out _ HK12.out) 2 _ rfl
          have b3 : w12.cell? ⟨bb, 3, none⟩ = some (.string t) := cell_at (FXb11.out _ HK12.out) 3 _ rfl
          clear d0 d1 d2 d3 l0 l1 l2 l3 m0 m1 m2 m3 u0 u1 u2 x0 x1 x2 x3 b0 b1 b2 b3
          have hx := heap_alloc_new w12 (.cells #[.int .i64 st, .string f, .slice Ac2 us.length cc2, .string t] 36)
          have hE := Below.alloc (Below.refl w12.heap.size w12) (Nat.le_refl _) (.cells #[.int .i64 st, .string f, .slice Ac2 us.length cc2, .string t] 36)
          have hs : w12.heap.size < (w12.alloc (.cells #[.int .i64 st, .string f, .slice Ac2 us.length cc2, .string t] 36)).heap.size := by simp
          go_upto_region 12 with fail
          generalize w12.alloc (.cells #[.int .i64 st, .string f, .slice Ac2 us.length cc2, .string t] 36) = w13 at hx hE hs ⊢
          obtain ⟨bc2, hbb⟩ : ∃ b, b = w12.heap.size := ⟨_, rfl⟩
          rw [← hbb] at hx hs ⊢
          have hltdc2 : bd < bc2 := by have := (Array.getElem?_eq_some_iff.1 (FXd11.out _ HK12.out)).1; omega
          have hltlc2 : bl < bc2 := by have := (Array.getElem?_eq_some_iff.1 (FXl11.out _ HK12.out)).1; omega
          have hltmc2 : bm < bc2 := by have := (Array.getElem?_eq_some_iff.1 (FXm11.out _ HK12.out)).1; omega
          have hltuc2 : bu < bc2 := by have := (Array.getElem?_eq_some_iff.1 (FXu11.out _ HK12.out)).1; omega
          have hltxc2 : bx < bc2 := by have := (Array.getElem?_eq_some_iff.1 (FXx11.out _ HK12.out)).1; omega
          have hltbc2 : bb < bc2 := by have := (Array.getElem?_eq_some_iff.1 (FXb11.out _ HK12.out)).1; omega
          have HK13 := Lib.hid (HK12.out.trans (hE.mono HK12.out.size))
          have FXc213 : Hid (∀ w', Below w13.heap.size w13 w' → w'.heap[bc2]? = some (.cells #[.int .i64 st, .string f, .slice Ac2 us.length cc2, .string t] 36 (0, 0))) := Lib.hid (fun w' hb => (hb.block _ hs).trans hx)
          have FAC213 : Hid (∀ w', Below w13.heap.size w13 w' → AtStrs w' w'.heap.size Ac2 us) := Lib.hid (fun w' hb => (((hatc2.below hE).mono hE.size).below hb).mono hb.size)
          clear hx hE hs hbb
          have FU13 := Lib.hid (fun w' (hb : Below w13.heap.size w13 w') => FU11.out w' (HK13.out.trans (hb.mono HK13.out.size)))
          have FM13 := Lib.hid (fun w' (hb : Below w13.heap.size w13 w') => FM11.out w' (HK13.out.trans (hb.mono HK13.out.size)))
          have FB13 := Lib.hid (fun w' (hb : Below w13.heap.size w13 w') => FB11.out w' (HK13.out.trans (hb.mono HK13.out.size)))
          have FC13 := Lib.hid (fun w' (hb : Below w13.heap.size w13 w') => FC11.out w' (HK13.out.trans (hb.mono HK13.out.size)))
          have FG13 := Lib.hid (fun w' (hb : Below w13.heap.size w13 w') => FG11.out w' (HK13.out.trans (hb.mono HK13.out.size)))
          have FXd13 := Lib.hid (fun w' (hb : Below w13.heap.size w13 w') => FXd11.out w' (HK13.out.trans (hb.mono HK13.out.size)))
          have FXl13 := Lib.hid (fun w' (hb : Below w13.heap.size w13 w') => FXl11.out w' (HK13.out.trans (hb.mono HK13.out.size)))
          have FXm13 := Lib.hid (fun w' (hb : Below w13.heap.size w13 w') => FXm11.out w' (HK13.out.trans (hb.mono HK13.out.size)))
          have FXu13 := Lib.hid (fun w' (hb : Below w13.heap.size w13 w') => FXu11.out w' (HK13.out.trans (hb.mono HK13.out.size)))
          have FXx13 := Lib.hid (fun w' (hb : Below w13.heap.size w13 w') => FXx11.out w' (HK13.out.trans (hb.mono HK13.out.size)))
          have FXb13 := Lib.hid (fun w' (hb : Below w13.heap.size w13 w') => FXb11.out w' (HK13.out.trans (hb.mono HK13.out.size)))
          have FAA13 := Lib.hid (fun w' (hb : Below w13.heap.size w13 w') => FAA11.out w' (HK13.out.trans (hb.mono HK13.out.size)))
          have FAL13 := Lib.hid (fun w' (hb : Below w13.heap.size w13 w') => FAL11.out w' (HK13.out.trans (hb.mono HK13.out.size)))
          have FAM13 := Lib.hid (fun w' (hb : Below w13.heap.size w13 w') => FAM11.out w' (HK13.out.trans (hb.mono HK13.out.size)))
          have FAX13 := Lib.hid (fun w' (hb : Below w13.heap.size w13 w') => FAX11.out w' (HK13.out.trans (hb.mono HK13.out.size)))
          have FAB13 := Lib.hid (fun w' (hb : Below w13.heap.size w13 w') => FAB11.out w' (HK13.out.trans (hb.mono HK13.out.size)))
          have HKb : Hid (Below w13.heap.size w13 w13) := Lib.hid (Below.refl _ _)
          clear HK13
          have HK13 := HKb
          clear HKb
          have d0 : w13.cell? ⟨bd, 0, none⟩ = some (.int .i64 st) := cell_at (FXd13.out _ HK13.out) 0 _ rfl
          have d1 : w13.cell? ⟨bd, 1, none⟩ = some (.string f) := cell_at (FXd13.out _ HK13.out) 1 _ rfl
          have d2 : w13.cell? ⟨bd, 2, none⟩ = some (.slice A us.length c) := cell_at (FXd13.out _ HK13.out) 2 _ rfl
          have d3 : w13.cell? ⟨bd, 3, none⟩ = some (.string t) := cell_at (FXd13.out _ HK13.out) 3 _ rfl
          have l0 : w13.cell? ⟨bl, 0, none⟩ = some (.int .i64 so) := cell_at (FXl13.out _ HK13.out) 0 _ rfl
          have l1 : w13.cell? ⟨bl, 1, none⟩ = some (.string fo) := cell_at (FXl13.out _ HK13.out) 1 _ rfl
          have l2 : w13.cell? ⟨bl, 2, none⟩ = some (.slice Al uo.length cl) := cell_at (FXl13.out _ HK13.out) 2 _ rfl
          have l3 : w13.cell? ⟨bl, 3, none⟩ = some (.string to_) := cell_at (FXl13.out _ HK13.out) 3 _ rfl
          have m0 : w13.cell? ⟨bm, 0, none⟩ = some (.int .i64 so) := cell_at (FXm13.out _ HK13.out) 0 _ rfl
          have m1 : w13.cell? ⟨bm, 1, none⟩ = some (.string fo) := cell_at (FXm13.out _ HK13.out) 1 _ rfl
          have m2 : w13.cell? ⟨bm, 2, none⟩ = some (.slice Am uo.length cm) := cell_at (FXm13.out _ HK13.out) 2 _ rfl
          have m3 : w13.cell? ⟨bm, 3, none⟩ = some (.string to_) := cell_at (FXm13.out _ HK13.out) 3 _ rfl
          have u0 : w13.cell? ⟨bu, 0, none⟩ = some (.string u.name) := cell_at (FXu13.out _ HK13.out) 0 _ rfl
          have u1 : w13.cell? ⟨bu, 1, none⟩ = some (.string u.pass) := cell_at (FXu13.out _ HK13.out) 1 _ rfl
          have u2 : w13.cell? ⟨bu, 2, none⟩ = some (.int .i64 u.quota) := cell_at (FXu13.out _ HK13.out) 2 _ rfl
          have x0 : w13.cell? ⟨bx, 0, none⟩ = some (.int .i64 st) := cell_at (FXx13.out _ HK13.out) 0 _ rfl
          have x1 : w13.cell? ⟨bx, 1, none⟩ = some (.string f) := cell_at (FXx13.out _ HK13.out) 1 _ rfl
          have x2 : w13.cell? ⟨bx, 2, none⟩ = some (.slice Ax us.length cx) := cell_at (FXx13.out _ HK13.out) 2 _ rfl
          have x3 : w13.cell? ⟨bx, 3, none⟩ = some (.string t) := cell_at (FXx13.out _ HK13.out) 3 _ rfl
          have b0 : w13.cell? ⟨bb, 0, none⟩ = some (.int .i64 st) := cell_at (FXb13.out _ HK13.out) 0 _ rfl
          have b1 : w13.cell? ⟨bb, 1, none⟩ = some (.string f) := cell_at (FXb13.out _ HK13.out) 1 _ rfl
          have b2 : w13.cell? ⟨bb, 2, none⟩ = some (.slice Ab us.length cb) := cell_at (FXb13.out _ HK13.out) 2 _ rfl
          have b3 : w13.cell? ⟨bb, 3, none⟩ = some (.string t) := cell_at (FXb13.out _ HK13.out) 3 _ rfl
          have c20 : w13.cell? ⟨bc2, 0, none⟩ = some (.int .i64 st) := cell_at (FXc213.out _ HK13.out) 0 _ rfl
          have c21 : w13.cell? ⟨bc2, 1, none⟩ = some (.string f) := cell_at (FXc213.out _ HK13.out) 1 _ rfl
          have c22 : w13.cell? ⟨bc2, 2, none⟩ = some (.slice Ac2 us.length cc2) := cell_at (FXc213.out _ HK13.out) 2 _ rfl
          have c23 : w13.cell? ⟨bc2, 3, none⟩ = some (.string t) := cell_at (FXc213.out _ HK13.out) 3 _ rfl
          clear hatc2
          go_wp2_with fail
          refine Calls.mono (sameSub_any st f t Ax A us cx c _ (FAX13.out _ HK13.out) (FAA13.out _ HK13.out) hul) ?_
          rintro e w14 ⟨rfl, hb⟩
          clear d0 d1 d2 d3 l0 l1 l2 l3 m0 m1 m2 m3 u0 u1 u2 x0 x1 x2 x3 b0 b1 b2 b3 c20 c21 c22 c23
          have HK14 := Lib.hid (HK13.out.trans (hb.mono HK13.out.size))
          clear hb
          have d0 : w14.cell? ⟨bd, 0, none⟩ = some (.int .i64 st) := cell_at (FXd13.out _ HK14.out) 0 _ rfl
          have d1 : w14.cell? ⟨bd, 1, none⟩ = some (.string f) := cell_at (FXd13.out _ HK14.out) 1 _ rfl
          have d2 : w14.cell? ⟨bd, 2, none⟩ = some (.slice A us.length c) := cell_at (FXd13.out _ HK14.out) 2 _ rfl
          have d3 : w14.cell? ⟨bd, 3, none⟩ = some (.string t) := cell_at (FXd13.out _ HK14.out) 3 _ rfl
          have l0 : w14.cell? ⟨bl, 0, none⟩ = some (.int .i64 so) := cell_at (FXl13.out _ HK14.out) 0 _ rfl
          have l1 : w14.cell? ⟨bl, 1, none⟩ = some (.string fo) := cell_at (FXl13.out _ HK14.out) 1 _ rfl
          have l2 : w14.cell? ⟨bl, 2, none⟩ = some (.slice Al uo.length cl) := cell_at (FXl13.out _ HK14.out) 2 _ rfl
          have l3 : w14.cell? ⟨bl, 3, none⟩ = some (.string to_) := cell_at (FXl13.out _ HK14.out) 3 _ rfl
          have m0 : w14.cell? ⟨bm, 0, none⟩ = some (.int .i64 so) := cell_at (FXm13.out _ HK14.out) 0 _ rfl
          have m1 : w14.cell? ⟨bm, 1, none⟩ = some (.string fo) := cell_at (FXm13.out _ HK14.out) 1 _ rfl
          have m2 : w14.cell? ⟨bm, 2, none⟩ = some (.slice Am uo.length cm) := cell_at (FXm13.out _ HK14.out) 2 _ rfl
          have m3 : w14.cell? ⟨bm, 3, none⟩ = some (.string to_) := cell_at (FXm13.out _ HK14.out) 3 _ rfl
          have u0 : w14.cell? ⟨bu, 0, none⟩ = some (.string u.name) := cell_at (FXu13.out _ HK14.out) 0 _ rfl
          have u1 : w14.cell? ⟨bu, 1, none⟩ = some (.string u.pass) := cell_at (FXu13.out _ HK14.out) 1 _ rfl
          have u2 : w14.cell? ⟨bu, 2, none⟩ = some (.int .i64 u.quota) := cell_at (FXu13.out _ HK14.out) 2 _ rfl
          have x0 : w14.cell? ⟨bx, 0, none⟩ = some (.int .i64 st) := cell_at (FXx13.out _ HK14.out) 0 _ rfl
          have x1 : w14.cell? ⟨bx, 1, none⟩ = some (.string f) := cell_at (FXx13.out _ HK14.out) 1 _ rfl
          have x2 : w14.cell? ⟨bx, 2, none⟩ = some (.slice Ax us.length cx) := cell_at (FXx13.out _ HK14.out) 2 _ rfl
          have x3 : w14.cell? ⟨bx, 3, none⟩ = some (.string t) := cell_at (FXx13.out _ HK14.out) 3 _ rfl
          have b0 : w14.cell? ⟨bb, 0, none⟩ = some (.int .i64 st) := cell_at (FXb13.out _ HK14.out) 0 _ rfl
          have b1 : w14.cell? ⟨bb, 1, none⟩ = some (.string f) := cell_at (FXb13.out _ HK14.out) 1 _ rfl
          have b2 : w14.cell? ⟨bb, 2, none⟩ = some (.slice Ab us.length cb) := cell_at (FXb13.out _ HK14.out) 2 _ rfl
          have b3 : w14.cell? ⟨bb, 3, none⟩ = some (.string t) := cell_at (FXb13.out _ HK14.out) 3 _ rfl
          have c20 : w14.cell? ⟨bc2, 0, none⟩ = some (.int .i64 st) := cell_at (FXc213.out _ HK14.out) 0 _ rfl
          have c21 : w14.cell? ⟨bc2, 1, none⟩ = some (.string f) := cell_at (FXc213.out _ HK14.out) 1 _ rfl
          have c22 : w14.cell? ⟨bc2, 2, none⟩ = some (.slice Ac2 us.length cc2) := cell_at (FXc213.out _ HK14.out) 2 _ rfl
          have c23 : w14.cell? ⟨bc2, 3, none⟩ = some (.string t) := cell_at (FXc213.out _ HK14.out) 3 _ rfl
          go_wp2_with fail
          go_ret
          exact ⟨rfl, (FB13.out _ HK14.out)⟩
        · have h1i : (st != 1) = true := by simpa using h1
          clear h1
          go_wp2_with fail
          refine Calls.mono (sameSub_any so fo to_ Al Am uo cl cm _ (FAL6.out _ HK7.out) (FAM6.out _ HK7.out) hulo) ?_
          rintro e w8 ⟨rfl, hb⟩
          clear d0 d1 d2 d3 l0 l1 l2 l3 m0 m1 m2 m3
          have HK8 := Lib.hid (HK7.out.trans (hb.mono HK7.out.size))
          clear hb
          have d0 : w8.cell? ⟨bd, 0, none⟩ = some (.int .i64 st) := cell_at (FXd6.out _ HK8.out) 0 _ rfl
          have d1 : w8.cell? ⟨bd, 1, none⟩ = some (.string f) := cell_at (FXd6.out _ HK8.out) 1 _ rfl
          have d2 : w8.cell? ⟨bd, 2, none⟩ = some (.slice A us.length c) := cell_at (FXd6.out _ HK8.out) 2 _ rfl
          have d3 : w8.cell? ⟨bd, 3, none⟩ = some (.string t) := cell_at (FXd6.out _ HK8.out) 3 _ rfl
          have l0 : w8.cell? ⟨bl, 0, none⟩ = some (.int .i64 so) := cell_at (FXl6.out _ HK8.out) 0 _ rfl
          have l1 : w8.cell? ⟨bl, 1, none⟩ = some (.string fo) := cell_at (FXl6.out _ HK8.out) 1 _ rfl
          have l2 : w8.cell? ⟨bl, 2, none⟩ = some (.slice Al uo.length cl) := cell_at (FXl6.out _ HK8.out) 2 _ rfl
          have l3 : w8.cell? ⟨bl, 3, none⟩ = some (.string to_) := cell_at (FXl6.out _ HK8.out) 3 _ rfl
          have m0 : w8.cell? ⟨bm, 0, none⟩ = some (.int .i64 so) := cell_at (FXm6.out _ HK8.out) 0 _ rfl
          have m1 : w8.cell? ⟨bm, 1, none⟩ = some (.string fo) := cell_at (FXm6.out _ HK8.out) 1 _ rfl
          have m2 : w8.cell? ⟨bm, 2, none⟩ = some (.slice Am uo.length cm) := cell_at (FXm6.out _ HK8.out) 2 _ rfl
          have m3 : w8.cell? ⟨bm, 3, none⟩ = some (.string to_) := cell_at (FXm6.out _ HK8.out) 3 _ rfl
          go_wp2_with fail
          go_ret
          exact ⟨rfl, (FB6.out _ HK8.out)⟩
      · have hno : no = -1 := by have := HR.out; rw [Sm.ans_bad hans] at this; injection this with _ this; exact this.symm
        have hneg : no < 0 := by omega
        clear hans hno
        go_wp2_with fail
        refine Calls.mono (sameSub_any so fo to_ Al Am uo cl cm _ (FAL6.out _ HK7.out) (FAM6.out _ HK7.out) hulo) ?_
        rintro e w8 ⟨rfl, hb⟩
        clear d0 d1 d2 d3 l0 l1 l2 l3 m0 m1 m2 m3
        have HK8 := Lib.hid (HK7.out.trans (hb.mono HK7.out.size))
        clear hb
        have d0 : w8.cell? ⟨bd, 0, none⟩ = some (.int .i64 st) := cell_at (FXd6.out _ HK8.out) 0 _ rfl
        have d1 : w8.cell? ⟨bd, 1, none⟩ = some (.string f) := cell_at (FXd6.out _ HK8.out) 1 _ rfl
        have d2 : w8.cell? ⟨bd, 2, none⟩ = some (.slice A us.length c) := cell_at (FXd6.out _ HK8.out) 2 _ rfl
        have d3 : w8.cell? ⟨bd, 3, none⟩ = some (.string t) := cell_at (FXd6.out _ HK8.out) 3 _ rfl
        have l0 : w8.cell? ⟨bl, 0, none⟩ = some (.int .i64 so) := cell_at (FXl6.out _ HK8.out) 0 _ rfl
        have l1 : w8.cell? ⟨bl, 1, none⟩ = some (.string fo) := cell_at (FXl6.out _ HK8.out) 1 _ rfl
        have l2 : w8.cell? ⟨bl, 2, none⟩ = some (.slice Al uo.length cl) := cell_at (FXl6.out _ HK8.out) 2 _ rfl
        have l3 : w8.cell? ⟨bl, 3, none⟩ = some (.string to_) := cell_at (FXl6.out _ HK8.out) 3 _ rfl
        have m0 : w8.cell? ⟨bm, 0, none⟩ = some (.int .i64 so) := cell_at (FXm6.out _ HK8.out) 0 _ rfl
        have m1 : w8.cell? ⟨bm, 1, none⟩ = some (.string fo) := cell_at (FXm6.out _ HK8.out) 1 _ rfl
        have m2 : w8.cell? ⟨bm, 2, none⟩ = some (.slice Am uo.length cm) := cell_at (FXm6.out _ HK8.out) 2 _ rfl
        have m3 : w8.cell? ⟨bm, 3, none⟩ = some (.string to_) := cell_at (FXm6.out _ HK8.out) 3 _ rfl
        go_wp2_with fail
        go_ret
        exact ⟨rfl, (FB6.out _ HK8.out)⟩
    · have hbi : ¬ (1048576 : Int) < (len : Int) := by omega
      have hbi2 : (1048576 : Int) < (len2 : Int) := by omega
      go_enter Tryz.func12, Tryz.ntmps12
      go_wp2_with fail
      go_ret
      exact ⟨rfl, Below.refl _ _⟩
  · have hbi : (1048576 : Int) < (len : Int) := by omega
    go_enter Tryz.func12, Tryz.ntmps12
    go_wp2_with fail
    go_ret
    exact ⟨rfl, Below.refl _ _⟩
end Go.Proofs.YtnbggmmghopphaaGreatDoor
