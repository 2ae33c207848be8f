/- FnRunPart: the walk. (Printed by mkrl.py.) -/
import Derived.Test.YtnbggmmghopphaaGreatDoorRnV
import Derived.Test.YtnbggmmghopphaaGreatDoorLwKn
import Derived.Test.YtnbggmmghopphaaGreatDoorSmUu
namespace Go.Proofs.YtnbggmmghopphaaGreatDoor
set_option linter.unusedVariables false
open Go.RowKit
open Us (U)

set_option maxRecDepth 100000 in
set_option maxHeartbeats 6400000 in
theorem walkFnRunPart (a : Option Addr) (len cap : Nat) (a2 : Option Addr) (len2 cap2 : Nat) (w : World) (h : Bytes w a len cap) (h2 : Bytes w a2 len2 cap2) (m : Int) (hm : w.cell? ⟨0, 0, none⟩ = some (.int .i64 m)) :
    Calls Tryz.prog 17 #[.slice a len cap, .slice a2 len2 cap2] w fun e w' => e = .returned (.bool true) ∧ Below w.heap.size w w' := by
  by_cases hbig : len ≤ 1048576
  · by_cases hbig2 : len2 ≤ 1048576
    · have hbi2 : ¬ (1048576 : Int) < (len2 : Int) := by omega
      have hbi : ¬ (1048576 : Int) < (len : Int) := by omega
      have hpos := Po.base_pos hm
      go_enter Tryz.func17, Tryz.ntmps17
      go_wp2_with fail
      refine Calls.mono (drawSubmissionRun_any a len cap _ h) ?_
      rintro e w1 ⟨vs, Au, cu, d, A, lines, c, hsv, hds, hl30, hls, hlc, hcm, rfl, hau, hat, hb1⟩
      have hvl : vs.length ≤ maxLen := small_len hsv
      have hdz : d.size ≤ 16777216 := by omega
      have hdm : d.size ≤ maxLen := by unfold maxLen; omega
      have hl30z : lines.length ≤ 1048576 := by omega
      have HLS : Hid (∀ l ∈ lines, l.size ≤ 16777216) := Lib.hid (fun l hl => by have := hls l hl; omega)
      have FU : Hid (∀ w', Below w1.heap.size w1 w' → AtUsers w' w'.heap.size Au vs) := Lib.hid (fun w' hb => ((at_users hau (small_sizes hsv)).below hb).mono hb.size)
      have FL : Hid (∀ w', Below w1.heap.size w1 w' → AtStrs w' w'.heap.size A lines) := Lib.hid (fun w' hb => (hat.below hb).mono hb.size)
      have FM : Hid (∀ w', Below w1.heap.size w1 w' → w'.cell? ⟨0, 0, none⟩ = some (.int .i64 m)) := Lib.hid (fun w' hb => Po.mem (hb1.trans (hb.mono hb1.size)) hm hpos)
      have FB : Hid (∀ w', Below w1.heap.size w1 w' → Below w.heap.size w w') := Lib.hid (fun w' hb => hb1.trans (hb.mono hb1.size))
      have HK1 : Hid (Below w1.heap.size w1 w1) := Lib.hid (Below.refl _ _)
      clear hau hat hb1 hm h hls
      obtain ⟨rs, hrs⟩ : ∃ rs, rs = Rn.ansR vs d lines := ⟨_, rfl⟩
      have HRS := Lib.hid hrs
      obtain ⟨vl, hvv⟩ : ∃ vl, vl = Rn.ansL vs d lines := ⟨_, rfl⟩
      have HVL := Lib.hid hvv
      have hrl : rs.length ≤ 30 := by have := Rn.ansR_len vs d lines; rw [hrs]; omega
      have hvll : vl.length ≤ 30 := by have := Rn.ansL_len vs d lines; rw [hvv]; omega
      have hrm : rs.length ≤ maxLen := by unfold maxLen; omega
      clear hrs hvv
      go_wp2_with fail
      refine Calls.mono (iRun_any Au vs cu d A lines c _ (FU.out _ HK1.out) hvl hdz (FL.out _ HK1.out) hl30z HLS.out m (FM.out _ HK1.out) HRS.out HVL.out) ?_
      rintro e w2 ⟨Ax1, cx1, Ax2, cx2, lsx, rfl, hix, htx, hcx1, hdx1, hcx2, hdx2, hvx, hb⟩
      have HK2 := Lib.hid (HK1.out.trans (hb.mono HK1.out.size))
      clear hb
      have FIx : Hid (∀ w', Below w2.heap.size w2 w' → At w' w'.heap.size 1 It.cells Ax1 rs) := Lib.hid fun w' hb => (hix.below hb).mono hb.size
      have FTx : Hid (∀ w', Below w2.heap.size w2 w' → AtLets w' w'.heap.size Ax2 lsx) := Lib.hid fun w' hb => (htx.below hb).mono hb.size
      have HVx := Lib.hid hvx
      clear hix htx hvx
      have HPx2 : Hid (Below w2.heap.size w2 w2) := Lib.hid (Below.refl _ _)
      go_wp2_with fail
      refine Calls.mono (sRun_any Au vs cu d A lines c _ (FU.out _ HK2.out) hvl hdz (FL.out _ HK2.out) hl30z HLS.out HRS.out HVL.out) ?_
      rintro e w3 ⟨Ay1, cy1, Ay2, cy2, lsy, rfl, hiy, hty, hcy1, hdy1, hcy2, hdy2, hvy, hb⟩
      have HK3 := Lib.hid (HK2.out.trans (hb.mono HK2.out.size))
      have HPx3 := Lib.hid (HPx2.out.trans (hb.mono HPx2.out.size))
      clear hb
      have FIy : Hid (∀ w', Below w3.heap.size w3 w' → At w' w'.heap.size 1 It.cells Ay1 rs) := Lib.hid fun w' hb => (hiy.below hb).mono hb.size
      have FTy : Hid (∀ w', Below w3.heap.size w3 w' → AtLets w' w'.heap.size Ay2 lsy) := Lib.hid fun w' hb => (hty.below hb).mono hb.size
      have HVy := Lib.hid hvy
      clear hiy hty hvy
      have HPy3 : Hid (Below w3.heap.size w3 w3) := Lib.hid (Below.refl _ _)
      have hlx : lsx.length ≤ 30 := by have e := congrArg List.length HVx.out; rw [List.length_map] at e; omega
      have hlxm : lsx.length ≤ maxLen := by unfold maxLen; omega
      have HXY : Hid (lsx.map Rl.v = lsy.map Rl.v) := Lib.hid (HVx.out.trans HVy.out.symm)
      go_wp2_with fail
      refine Calls.mono (sameInts_any Ax1 Ay1 rs cx1 cy1 _ (FIx.out _ HPx3.out) (FIy.out _ HPy3.out) hrm) ?_
      rintro e w4 ⟨rfl, hb⟩
      have HK4 := Lib.hid (HK3.out.trans (hb.mono HK3.out.size))
      have HPx4 := Lib.hid (HPx3.out.trans (hb.mono HPx3.out.size))
      have HPy4 := Lib.hid (HPy3.out.trans (hb.mono HPy3.out.size))
      clear hb
      go_wp2_with fail
      refine Calls.mono (sameLetters_any Ax2 Ay2 lsx lsy cx2 cy2 _ (FTx.out _ HPx4.out) (FTy.out _ HPy4.out) HXY.out hlxm) ?_
      rintro e w5 ⟨rfl, hb⟩
      have HK5 := Lib.hid (HK4.out.trans (hb.mono HK4.out.size))
      have HPx5 := Lib.hid (HPx4.out.trans (hb.mono HPx4.out.size))
      have HPy5 := Lib.hid (HPy4.out.trans (hb.mono HPy4.out.size))
      clear hb
      have hpz : ¬ ((lines.length : Int) + 1) = 0 := by omega
      obtain ⟨k, hk, hke⟩ : ∃ k : Nat, k ≤ lines.length ∧ (len2 : Int) % ((lines.length : Int) + 1) = k := ⟨len2 % (lines.length + 1), Nat.le_of_lt_succ (Nat.mod_lt _ (Nat.succ_pos _)), by rw [show (lines.length : Int) + 1 = ((lines.length + 1 : Nat) : Int) by omega]; exact (Int.natCast_emod _ _).symm⟩
      have hk0 : (0 : Int) ≤ (k : Int) := by omega
      have hkc : (k : Int) ≤ (c : Int) := by omega
      have hkl : (lines.take k).length = k := by rw [List.length_take]; omega
      obtain ⟨lk, hlk⟩ : ∃ lk, lk = lines.take k := ⟨_, rfl⟩
      rw [← hlk] at hkl
      have HLK := Lib.hid hlk
      have HKL := Lib.hid hkl
      obtain ⟨rk, hrk⟩ : ∃ rk, rk = Rn.ansR vs d lk := ⟨_, rfl⟩
      have HRK := Lib.hid hrk
      obtain ⟨vk, hvk⟩ : ∃ vk, vk = Rn.ansL vs d lk := ⟨_, rfl⟩
      have HVK := Lib.hid hvk
      have FLK : Hid (∀ w', Below w1.heap.size w1 w' → AtStrs w' w'.heap.size A lk) := Lib.hid (fun w' hb => by rw [HLK.out]; exact Rn.strs_take k (FL.out w' hb))
      have HLS2 : Hid (∀ l ∈ lk, l.size ≤ 16777216) := Lib.hid (fun l hl => HLS.out l (by rw [HLK.out] at hl; exact List.mem_of_mem_take hl))
      have HPR : Hid (rs.take rk.length = rk ∧ rk.length ≤ rs.length) := Lib.hid (by rw [HRS.out, hrk, hlk]; exact Rn.ansR_part vs d lines k)
      have HPL : Hid (vl.take vk.length = vk ∧ vk.length ≤ vl.length) := Lib.hid (by rw [HVL.out, hvk, hlk]; exact Rn.ansL_part vs d lines k)
      have hlk30 : lk.length ≤ 1048576 := by omega
      clear hlk hkl hrk hvk
      have HC : Hid (∀ W, Below w1.heap.size w1 W → Calls Tryz.prog 19 #[.slice Au vs.length cu, .string d, .slice A k c] W (Rn.OutV rk vk W)) := Lib.hid fun W hb => by
        have := iRun_any Au vs cu d A lk c W (FU.out _ hb) hvl hdz (FLK.out _ hb) hlk30 HLS2.out m (FM.out _ hb) HRK.out HVK.out
        rw [HKL.out] at this
        exact this
      go_wp2_with fail
      refine Calls.mono (HC.out _ HK5.out) ?_
      rintro e w6 ⟨Az1, cz1, Az2, cz2, lsz, rfl, hiz, htz, hcz1, hdz1, hcz2, hdz2, hvz, hb⟩
      have HK6 := Lib.hid (HK5.out.trans (hb.mono HK5.out.size))
      have HPx6 := Lib.hid (HPx5.out.trans (hb.mono HPx5.out.size))
      have HPy6 := Lib.hid (HPy5.out.trans (hb.mono HPy5.out.size))
      clear hb
      have FIz : Hid (∀ w', Below w6.heap.size w6 w' → At w' w'.heap.size 1 It.cells Az1 rk) := Lib.hid fun w' hb => (hiz.below hb).mono hb.size
      have FTz : Hid (∀ w', Below w6.heap.size w6 w' → AtLets w' w'.heap.size Az2 lsz) := Lib.hid fun w' hb => (htz.below hb).mono hb.size
      have HPz6 : Hid (Below w6.heap.size w6 w6) := Lib.hid (Below.refl _ _)
      have hlz : lsz.length = vk.length := by have e := congrArg List.length hvz; rwa [List.length_map] at e
      have hll0 : lsx.length = vl.length := by have e := congrArg List.length HVx.out; rwa [List.length_map] at e
      have hr1 : rk.length ≤ rs.length := HPR.out.2
      have hr2 : lsz.length ≤ lsx.length := by have := HPL.out.2; omega
      have hrkm : rk.length ≤ maxLen := by unfold maxLen; omega
      have hlzm : lsz.length ≤ maxLen := by unfold maxLen; omega
      have HTX : Hid ((lsx.take lsz.length).map Rl.v = lsz.map Rl.v) := Lib.hid (by rw [List.map_take, HVx.out, hvz, hlz]; exact HPL.out.1)
      have HTL : Hid ((lsx.take lsz.length).length = lsz.length) := Lib.hid (by rw [List.length_take]; omega)
      clear hiz htz hvz hlz hll0
      have FIx2 : Hid (∀ w', Below w2.heap.size w2 w' → At w' w'.heap.size 1 It.cells Ax1 rk) := Lib.hid fun w' hb => by have := Rn.at_take rk.length (FIx.out w' hb); rw [HPR.out.1] at this; exact this
      have h1i : (rk.length : Int) ≤ (rs.length : Int) := by omega
      have h2i : (lsz.length : Int) ≤ (lsx.length : Int) := by omega
      have h3i : (rk.length : Int) ≤ (cx1 : Int) := by omega
      have h4i : (lsz.length : Int) ≤ (cx2 : Int) := by omega
      have HSL : Hid (∀ W, Below w2.heap.size w2 W → Below w6.heap.size w6 W → Calls Tryz.prog 22 #[.slice Ax2 lsz.length cx2, .slice Az2 lsz.length cz2] W fun e w' => e = .returned (.bool true) ∧ Below W.heap.size W w') := Lib.hid fun W hb hb2 => by
        have := sameLetters_any Ax2 Az2 (lsx.take lsz.length) lsz cx2 cz2 W (Rn.lets_take _ (FTx.out _ hb)) (FTz.out _ hb2) HTX.out (by rw [HTL.out]; exact hlzm)
        rw [HTL.out] at this
        exact this
      go_wp2_with fail
      refine Calls.mono (sameInts_any Ax1 Az1 rk cx1 cz1 _ (FIx2.out _ HPx6.out) (FIz.out _ HPz6.out) hrkm) ?_
      rintro e w7 ⟨rfl, hb⟩
      have HK7 := Lib.hid (HK6.out.trans (hb.mono HK6.out.size))
      have HPx7 := Lib.hid (HPx6.out.trans (hb.mono HPx6.out.size))
      have HPy7 := Lib.hid (HPy6.out.trans (hb.mono HPy6.out.size))
      have HPz7 := Lib.hid (HPz6.out.trans (hb.mono HPz6.out.size))
      clear hb
      go_wp2_with fail
      refine Calls.mono (HSL.out _ HPx7.out HPz7.out) ?_
      rintro e w8 ⟨rfl, hb⟩
      have HK8 := Lib.hid (HK7.out.trans (hb.mono HK7.out.size))
      have HPx8 := Lib.hid (HPx7.out.trans (hb.mono HPx7.out.size))
      have HPy8 := Lib.hid (HPy7.out.trans (hb.mono HPy7.out.size))
      have HPz8 := Lib.hid (HPz7.out.trans (hb.mono HPz7.out.size))
      clear hb
      go_wp2_with fail
      go_ret
      exact ⟨rfl, FB.out _ HK8.out⟩
    · have hbi : ¬ (1048576 : Int) < (len : Int) := by omega
      have hbi2 : (1048576 : Int) < (len2 : Int) := by omega
      go_enter Tryz.func17, Tryz.ntmps17
      go_wp2_with fail
      go_ret
      exact ⟨rfl, Below.refl _ _⟩
  · have hbi : (1048576 : Int) < (len : Int) := by omega
    go_enter Tryz.func17, Tryz.ntmps17
    go_wp2_with fail
    go_ret
    exact ⟨rfl, Below.refl _ _⟩
end Go.Proofs.YtnbggmmghopphaaGreatDoor
