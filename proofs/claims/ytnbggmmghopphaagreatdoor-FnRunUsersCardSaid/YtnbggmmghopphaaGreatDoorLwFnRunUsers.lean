/- FnRunUsers: the walk. (Printed by mkrl.py.) -/
import Derived.Test.YtnbggmmghopphaaGreatDoorRnV
import Derived.Test.YtnbggmmghopphaaGreatDoorLwKn
import Derived.Test.YtnbggmmghopphaaGreatDoorSmUu
namespace Go.Proofs.YtnbggmmghopphaaGreatDoor
set_option linter.unusedVariables false
open Go.RowKit
open Us (U)

set_option maxRecDepth 100000 in
set_option maxHeartbeats 6400000 in
theorem walkFnRunUsers (a : Option Addr) (len cap : Nat) (w : World) (h : Bytes w a len cap) (m : Int) (hm : w.cell? ⟨0, 0, none⟩ = some (.int .i64 m)) :
    Calls Tryz.prog 4 #[.slice a len cap] w fun e w' => e = .returned (.bool true) ∧ Below w.heap.size w w' := by
  by_cases hbig : len ≤ 1048576
  · have hbi : ¬ (1048576 : Int) < (len : Int) := by omega
    have hpos := Po.base_pos hm
    go_enter Tryz.func4, Tryz.ntmps4
    go_wp2_with fail
    refine Calls.mono (drawSubmissionRun_any a len cap _ h) ?_
    rintro e w1 ⟨vs, Au, cu, d, A, lines, c, hsv, hds, hl30, hls, hlc, hcm, rfl, hau, hat, hb1⟩
    have hvl : vs.length ≤ maxLen := small_len hsv
    have hdz : d.size ≤ 16777216 := by omega
    have hdm : d.size ≤ maxLen := by unfold maxLen; omega
    have hl30z : lines.length ≤ 1048576 := by omega
    have HLS : Hid (∀ l ∈ lines, l.size ≤ 16777216) := Lib.hid (fun l hl => by have := hls l hl; omega)
    have FU : Hid (∀ w', Below w1.heap.size w1 w' → AtUsers w' w'.heap.size Au vs) := Lib.hid (fun w' hb => ((at_users hau (small_sizes hsv)).below hb).mono hb.size)
    have FL : Hid (∀ w', Below w1.heap.size w1 w' → AtStrs w' w'.heap.size A lines) := Lib.hid (fun w' hb => (hat.below hb).mono hb.size)
    have FM : Hid (∀ w', Below w1.heap.size w1 w' → w'.cell? ⟨0, 0, none⟩ = some (.int .i64 m)) := Lib.hid (fun w' hb => Po.mem (hb1.trans (hb.mono hb1.size)) hm hpos)
    have FB : Hid (∀ w', Below w1.heap.size w1 w' → Below w.heap.size w w') := Lib.hid (fun w' hb => hb1.trans (hb.mono hb1.size))
    have HK1 : Hid (Below w1.heap.size w1 w1) := Lib.hid (Below.refl _ _)
    clear hau hat hb1 hm h hls
    obtain ⟨rs, hrs⟩ : ∃ rs, rs = Rn.ansR vs d lines := ⟨_, rfl⟩
    have HRS := Lib.hid hrs
    obtain ⟨vl, hvv⟩ : ∃ vl, vl = Rn.ansL vs d lines := ⟨_, rfl⟩
    have HVL := Lib.hid hvv
    have hrl : rs.length ≤ 30 := by have := Rn.ansR_len vs d lines; rw [hrs]; omega
    have hvll : vl.length ≤ 30 := by have := Rn.ansL_len vs d lines; rw [hvv]; omega
    have hrm : rs.length ≤ maxLen := by unfold maxLen; omega
    clear hrs hvv
    go_wp2_with fail
    refine Calls.mono (iRun_any Au vs cu d A lines c _ (FU.out _ HK1.out) hvl hdz (FL.out _ HK1.out) hl30z HLS.out m (FM.out _ HK1.out) HRS.out HVL.out) ?_
    rintro e w2 ⟨Ax1, cx1, Ax2, cx2, lsx, rfl, hix, htx, hcx1, hdx1, hcx2, hdx2, hvx, hb⟩
    have HK2 := Lib.hid (HK1.out.trans (hb.mono HK1.out.size))
    clear hb
    have FIx : Hid (∀ w', Below w2.heap.size w2 w' → At w' w'.heap.size 1 It.cells Ax1 rs) := Lib.hid fun w' hb => (hix.below hb).mono hb.size
    have FTx : Hid (∀ w', Below w2.heap.size w2 w' → AtLets w' w'.heap.size Ax2 lsx) := Lib.hid fun w' hb => (htx.below hb).mono hb.size
    have HVx := Lib.hid hvx
    clear hix htx hvx
    have HPx2 : Hid (Below w2.heap.size w2 w2) := Lib.hid (Below.refl _ _)
    go_wp2_with fail
    refine Calls.mono (sRun_any Au vs cu d A lines c _ (FU.out _ HK2.out) hvl hdz (FL.out _ HK2.out) hl30z HLS.out HRS.out HVL.out) ?_
    rintro e w3 ⟨Ay1, cy1, Ay2, cy2, lsy, rfl, hiy, hty, hcy1, hdy1, hcy2, hdy2, hvy, hb⟩
    have HK3 := Lib.hid (HK2.out.trans (hb.mono HK2.out.size))
    have HPx3 := Lib.hid (HPx2.out.trans (hb.mono HPx2.out.size))
    clear hb
    have FIy : Hid (∀ w', Below w3.heap.size w3 w' → At w' w'.heap.size 1 It.cells Ay1 rs) := Lib.hid fun w' hb => (hiy.below hb).mono hb.size
    have FTy : Hid (∀ w', Below w3.heap.size w3 w' → AtLets w' w'.heap.size Ay2 lsy) := Lib.hid fun w' hb => (hty.below hb).mono hb.size
    have HVy := Lib.hid hvy
    clear hiy hty hvy
    have HPy3 : Hid (Below w3.heap.size w3 w3) := Lib.hid (Below.refl _ _)
    have hlx : lsx.length ≤ 30 := by have e := congrArg List.length HVx.out; rw [List.length_map] at e; omega
    have hlxm : lsx.length ≤ maxLen := by unfold maxLen; omega
    have HXY : Hid (lsx.map Rl.v = lsy.map Rl.v) := Lib.hid (HVx.out.trans HVy.out.symm)
    go_wp2_with fail
    refine Calls.mono (sameInts_any Ax1 Ay1 rs cx1 cy1 _ (FIx.out _ HPx3.out) (FIy.out _ HPy3.out) hrm) ?_
    rintro e w4 ⟨rfl, hb⟩
    have HK4 := Lib.hid (HK3.out.trans (hb.mono HK3.out.size))
    have HPx4 := Lib.hid (HPx3.out.trans (hb.mono HPx3.out.size))
    have HPy4 := Lib.hid (HPy3.out.trans (hb.mono HPy3.out.size))
    clear hb
    go_wp2_with fail
    refine Calls.mono (sameLetters_any Ax2 Ay2 lsx lsy cx2 cy2 _ (FTx.out _ HPx4.out) (FTy.out _ HPy4.out) HXY.out hlxm) ?_
    rintro e w5 ⟨rfl, hb⟩
    have HK5 := Lib.hid (HK4.out.trans (hb.mono HK4.out.size))
    have HPx5 := Lib.hid (HPx4.out.trans (hb.mono HPx4.out.size))
    have HPy5 := Lib.hid (HPy4.out.trans (hb.mono HPy4.out.size))
    clear hb
    have hll0 : lsx.length = vl.length := by have e := congrArg List.length HVx.out; rwa [List.length_map] at e
    have HFI : Hid (∀ x ∈ lsx, Rn.fine vs (Rl.v x)) := Lib.hid (fun x hx => by have := Rn.ansL_fine vs d lines (Rl.v x); rw [← HVL.out, ← HVx.out] at this; exact this (List.mem_map_of_mem hx))
    have H235 : Hid (0 < lsx.length → 235 ∈ rs) := Lib.hid (fun h => by rw [HRS.out]; exact Rn.ans_235 vs d lines (by rw [← HVL.out, ← hll0]; exact h))
    clear hll0
    go_upto_region 8 with fail
    obtain ⟨wb, hwb⟩ : ∃ wb, wb = w5 := ⟨_, rfl⟩
    have HKb : Hid (Below w1.heap.size w1 wb) := Lib.hid (by rw [hwb]; exact HK5.out)
    have HPb : Hid (Below w2.heap.size w2 wb) := Lib.hid (by rw [hwb]; exact HPx5.out)
    rw [← hwb]
    clear hwb
    go_wp2_with fail
    go_loopg [10] lsx.length (fun g i wr => ∃ k : Nat, k ≤ lsx.length ∧ Hid (g = lsx.length - k) ∧ i = .int .i64 k ∧ Hid (Below wb.heap.size wb wr))
    case atStart => exact ⟨0, Nat.zero_le _, Lib.hid rfl, rfl, Lib.hid (Below.refl _ _)⟩
    case round =>
      obtain ⟨k, hk, HG, rfl, HB⟩ := hrel
      have HKr := Lib.hid (HKb.out.trans (HB.out.mono HKb.out.size))
      have HPr := Lib.hid (HPb.out.trans (HB.out.mono HPb.out.size))
      by_cases hlt : k < lsx.length
      · have hki : (k : Int) < (lsx.length : Int) := by omega
        have hex : ∃ x, lsx[k]? = some x := ⟨_, List.getElem?_eq_getElem hlt⟩
        obtain ⟨x, hx⟩ := hex
        have HF := Lib.hid (HFI.out x (List.mem_of_getElem? hx))
        obtain ⟨g, off, hA, hg, hc⟩ := (FTx.out _ HPr.out).1 (by omega)
        have HT := Lib.hid (((FTx.out _ HPr.out).2 x (List.mem_of_getElem? hx)))
        obtain ⟨f, A1, us, c1, t⟩ := x
        have e0 : wr.cell? ⟨g, off + k * 3, none⟩ = some (.string f) := hc k _ hx 0 _ rfl
        have e1 : wr.cell? ⟨g, off + k * 3 + 1, none⟩ = some (.slice A1 us.length c1) := hc k _ hx 1 _ rfl
        have e2 : wr.cell? ⟨g, off + k * 3 + 2, none⟩ = some (.string t) := hc k _ hx 2 _ rfl
        clear hc hx
        subst hA
        dsimp only at HT
        have HFN : Hid (Nm.nameOk f.data.toList = true ∧ Sb.recv us = true ∧ t.size ≤ 20 ∧ Sm.knows vs f = true ∧ ∀ n ∈ us, Sm.knows vs n = true) := Lib.hid HF.out
        have hfz : f.size ≤ 8 := by have := (Nm.nameOk_len HFN.out.1).2; rwa [Array.length_toList] at this
        have hul3 : us.length ≤ 3 := HT.out.2.1
        have htz : t.size ≤ 20 := HFN.out.2.2.1
        have hfm : f.size ≤ maxLen := by unfold maxLen; omega
        have htm : t.size ≤ maxLen := by unfold maxLen; omega
        have hum : us.length ≤ maxLen := by unfold maxLen; omega
        have HOK : Hid (Lt.ok f us t = true) := Lib.hid (by unfold Lt.ok; have h2 := HFN.out.2.1; unfold Sb.recv at h2; rw [HFN.out.1, h2]; simpa using HFN.out.2.2.1)
        have hxx := heap_alloc_new wr (.cells #[.string f, .slice A1 us.length c1, .string t] 38)
        have hE := Below.alloc (Below.refl wr.heap.size wr) (Nat.le_refl _) (.cells #[.string f, .slice A1 us.length c1, .string t] 38)
        go_upto_region 12 with fail
        clear e0 e1 e2
        generalize wr.alloc (.cells #[.string f, .slice A1 us.length c1, .string t] 38) = wa at hxx hE ⊢
        obtain ⟨bx, hbx⟩ : ∃ q, q = wr.heap.size := ⟨_, rfl⟩
        rw [← hbx] at hxx ⊢
        clear hbx
        have FX : Hid (∀ w', Below wa.heap.size wa w' → w'.heap[bx]? = some (.cells #[.string f, .slice A1 us.length c1, .string t] 38 (0, 0))) := Lib.hid (fun w' hb => (hb.block _ (Array.getElem?_eq_some_iff.1 hxx).1).trans hxx)
        have HBa := Lib.hid (HB.out.trans (hE.mono HB.out.size))
        have HKa := Lib.hid (HKr.out.trans (hE.mono HKr.out.size))
        have FTa : Hid (∀ w', Below wa.heap.size wa w' → AtStrs w' w'.heap.size A1 us) := Lib.hid (fun w' hb => (((HT.out.1.below hE).mono hE.size).below hb).mono hb.size)
        clear hxx hE HKr HPr HB
        have HQa : Hid (Below wa.heap.size wa wa) := Lib.hid (Below.refl _ _)
        have x0 : wa.cell? ⟨bx, 0, none⟩ = some (.string f) := cell_at (FX.out _ HQa.out) 0 _ rfl
        have x1 : wa.cell? ⟨bx, 1, none⟩ = some (.slice A1 us.length c1) := cell_at (FX.out _ HQa.out) 1 _ rfl
        have x2 : wa.cell? ⟨bx, 2, none⟩ = some (.string t) := cell_at (FX.out _ HQa.out) 2 _ rfl
        go_wp2_with fail
        refine Calls.mono (iLetterValid_any f t A1 us c1 _ (FTa.out _ HQa.out) HT.out.2.2.1 HT.out.2.2.2 hfm htm) ?_
        rintro e wc ⟨rfl, hb⟩
        rw [HOK.out]
        have HBc := Lib.hid (HBa.out.trans (hb.mono HBa.out.size))
        have HKc := Lib.hid (HKa.out.trans (hb.mono HKa.out.size))
        have HQc := Lib.hid (HQa.out.trans (hb.mono HQa.out.size))
        clear hb x0 x1 x2 HBa HKa HQa
        have x0 : wc.cell? ⟨bx, 0, none⟩ = some (.string f) := cell_at (FX.out _ HQc.out) 0 _ rfl
        have x1 : wc.cell? ⟨bx, 1, none⟩ = some (.slice A1 us.length c1) := cell_at (FX.out _ HQc.out) 1 _ rfl
        have x2 : wc.cell? ⟨bx, 2, none⟩ = some (.string t) := cell_at (FX.out _ HQc.out) 2 _ rfl
        go_wp2_with fail
        refine Calls.mono (knows_any Au vs cu f _ (FU.out _ HKc.out) hvl) ?_
        rintro e wd ⟨rfl, hb⟩
        rw [HFN.out.2.2.2.1]
        have HBd := Lib.hid (HBc.out.trans (hb.mono HBc.out.size))
        have HKd := Lib.hid (HKc.out.trans (hb.mono HKc.out.size))
        have HQd := Lib.hid (HQc.out.trans (hb.mono HQc.out.size))
        clear hb x0 x1 x2 HBc HKc HQc
        go_wp2_with fail
        go_loopg [12] us.length (fun g2 i2 wr2 => ∃ k2 : Nat, k2 ≤ us.length ∧ Hid (g2 = us.length - k2) ∧ i2 = .int .i64 k2 ∧ Hid (Below wd.heap.size wd wr2))
        case atStart => exact ⟨0, Nat.zero_le _, Lib.hid rfl, rfl, Lib.hid (Below.refl _ _)⟩
        case round =>
          rename World => wr2
          obtain ⟨k2, hk2, HG2, rfl, HB2⟩ := hrel
          have HQr := Lib.hid (HQd.out.trans (HB2.out.mono HQd.out.size))
          have HKr2 := Lib.hid (HKd.out.trans (HB2.out.mono HKd.out.size))
          have x0 : wr2.cell? ⟨bx, 0, none⟩ = some (.string f) := cell_at (FX.out _ HQr.out) 0 _ rfl
          have x1 : wr2.cell? ⟨bx, 1, none⟩ = some (.slice A1 us.length c1) := cell_at (FX.out _ HQr.out) 1 _ rfl
          have x2 : wr2.cell? ⟨bx, 2, none⟩ = some (.string t) := cell_at (FX.out _ HQr.out) 2 _ rfl
          by_cases hlt2 : k2 < us.length
          · have hki2 : (k2 : Int) < (us.length : Int) := by omega
            have hex2 : ∃ y, us[k2]? = some y := ⟨_, List.getElem?_eq_getElem hlt2⟩
            obtain ⟨y, hy⟩ := hex2
            obtain ⟨g3, off3, rfl, hg3, hc3⟩ := (FTa.out _ HQr.out).1 (by omega)
            have yl := hc3 k2 y hy
            have HKY : Hid (Sm.knows vs y = true) := Lib.hid (HFN.out.2.2.2.2 y (List.mem_of_getElem? hy))
            clear hc3 hy
            go_wp2_with fail
            refine Calls.mono (knows_any Au vs cu y _ (FU.out _ HKr2.out) hvl) ?_
            rintro e we ⟨rfl, hb⟩
            rw [HKY.out]
            have HBe := Lib.hid (HB2.out.trans (hb.mono HB2.out.size))
            clear hb x0 x1 x2 yl
            go_wp2_with fail
            go_roundg (us.length - (k2 + 1))
            case measure => have := HG2.out; omega
            case rel => exact ⟨k2 + 1, by omega, Lib.hid rfl, by go_num, HBe⟩
          · have hki2 : ¬ (k2 : Int) < (us.length : Int) := by omega
            have HBz := Lib.hid (HBd.out.trans (HB2.out.mono HBd.out.size))
            go_wp2_with fail
            go_roundg (lsx.length - (k + 1))
            case measure => have := HG.out; omega
            case rel => exact ⟨k + 1, by omega, Lib.hid rfl, by go_num, HBz⟩
      · have hki : ¬ (k : Int) < (lsx.length : Int) := by omega
        by_cases h0 : 0 < lsx.length
        · have hm := H235.out h0
          have hz : ((lsx.length : Int) == 0) = false := beq_eq_false_iff_ne.2 (by omega)
          have HM := Lib.hid hm
          clear hm
          go_wp2_with fail
          refine Calls.mono (hasInt_any Ax1 rs cx1 235 _ (FIx.out _ HPr.out) hrm HM.out) ?_
          rintro e wz ⟨rfl, hb⟩
          go_wp2_with fail
          go_ret
          exact ⟨rfl, FB.out _ (HKr.out.trans (hb.mono HKr.out.size))⟩
        · have hz : ((lsx.length : Int) == 0) = true := beq_iff_eq.2 (by omega)
          go_wp2_with fail
          go_ret
          exact ⟨rfl, FB.out _ HKr.out⟩
  · have hbi : (1048576 : Int) < (len : Int) := by omega
    go_enter Tryz.func4, Tryz.ntmps4
    go_wp2_with fail
    go_ret
    exact ⟨rfl, Below.refl _ _⟩
end Go.Proofs.YtnbggmmghopphaaGreatDoor
