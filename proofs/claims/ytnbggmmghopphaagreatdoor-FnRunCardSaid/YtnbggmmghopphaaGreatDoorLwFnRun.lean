/- FnRun: the walk. (Printed by mkrl.py.) -/
import Derived.Test.YtnbggmmghopphaaGreatDoorRnV
import Derived.Test.YtnbggmmghopphaaGreatDoorLwKn
import Derived.Test.YtnbggmmghopphaaGreatDoorSmUu
namespace Go.Proofs.YtnbggmmghopphaaGreatDoor
set_option linter.unusedVariables false
open Go.RowKit
open Us (U)

set_option maxRecDepth 100000 in
set_option maxHeartbeats 6400000 in
theorem walkFnRun (a : Option Addr) (len cap : Nat) (w : World) (h : Bytes w a len cap) (m : Int) (hm : w.cell? ⟨0, 0, none⟩ = some (.int .i64 m)) :
    Calls Tryz.prog 16 #[.slice a len cap] w fun e w' => e = .returned (.bool true) ∧ Below w.heap.size w w' := by
  by_cases hbig : len ≤ 1048576
  · have hbi : ¬ (1048576 : Int) < (len : Int) := by omega
    have hpos := Po.base_pos hm
    go_enter Tryz.func16, Tryz.ntmps16
    go_wp2_with fail
    refine Calls.mono (drawSubmissionRun_any a len cap _ h) ?_
    rintro e w1 ⟨vs, Au, cu, d, A, lines, c, hsv, hds, hl30, hls, hlc, hcm, rfl, hau, hat, hb1⟩
    have hvl : vs.length ≤ maxLen := small_len hsv
    have hdz : d.size ≤ 16777216 := by omega
    have hdm : d.size ≤ maxLen := by unfold maxLen; omega
    have hl30z : lines.length ≤ 1048576 := by omega
    have HLS : Hid (∀ l ∈ lines, l.size ≤ 16777216) := Lib.hid (fun l hl => by have := hls l hl; omega)
    have FU : Hid (∀ w', Below w1.heap.size w1 w' → AtUsers w' w'.heap.size Au vs) := Lib.hid (fun w' hb => ((at_users hau (small_sizes hsv)).below hb).mono hb.size)
    have FL : Hid (∀ w', Below w1.heap.size w1 w' → AtStrs w' w'.heap.size A lines) := Lib.hid (fun w' hb => (hat.below hb).mono hb.size)
    have FM : Hid (∀ w', Below w1.heap.size w1 w' → w'.cell? ⟨0, 0, none⟩ = some (.int .i64 m)) := Lib.hid (fun w' hb => Po.mem (hb1.trans (hb.mono hb1.size)) hm hpos)
    have FB : Hid (∀ w', Below w1.heap.size w1 w' → Below w.heap.size w w') := Lib.hid (fun w' hb => hb1.trans (hb.mono hb1.size))
    have HK1 : Hid (Below w1.heap.size w1 w1) := Lib.hid (Below.refl _ _)
    clear hau hat hb1 hm h hls
    obtain ⟨rs, hrs⟩ : ∃ rs, rs = Rn.ansR vs d lines := ⟨_, rfl⟩
    have HRS := Lib.hid hrs
    obtain ⟨vl, hvv⟩ : ∃ vl, vl = Rn.ansL vs d lines := ⟨_, rfl⟩
    have HVL := Lib.hid hvv
    have hrl : rs.length ≤ 30 := by have := Rn.ansR_len vs d lines; rw [hrs]; omega
    have hvll : vl.length ≤ 30 := by have := Rn.ansL_len vs d lines; rw [hvv]; omega
    have hrm : rs.length ≤ maxLen := by unfold maxLen; omega
    clear hrs hvv
    go_wp2_with fail
    refine Calls.mono (iRun_any Au vs cu d A lines c _ (FU.out _ HK1.out) hvl hdz (FL.out _ HK1.out) hl30z HLS.out m (FM.out _ HK1.out) HRS.out HVL.out) ?_
    rintro e w2 ⟨Ax1, cx1, Ax2, cx2, lsx, rfl, hix, htx, hcx1, hdx1, hcx2, hdx2, hvx, hb⟩
    have HK2 := Lib.hid (HK1.out.trans (hb.mono HK1.out.size))
    clear hb
    have FIx : Hid (∀ w', Below w2.heap.size w2 w' → At w' w'.heap.size 1 It.cells Ax1 rs) := Lib.hid fun w' hb => (hix.below hb).mono hb.size
    have FTx : Hid (∀ w', Below w2.heap.size w2 w' → AtLets w' w'.heap.size Ax2 lsx) := Lib.hid fun w' hb => (htx.below hb).mono hb.size
    have HVx := Lib.hid hvx
    clear hix htx hvx
    have HPx2 : Hid (Below w2.heap.size w2 w2) := Lib.hid (Below.refl _ _)
    go_wp2_with fail
    refine Calls.mono (sRun_any Au vs cu d A lines c _ (FU.out _ HK2.out) hvl hdz (FL.out _ HK2.out) hl30z HLS.out HRS.out HVL.out) ?_
    rintro e w3 ⟨Ay1, cy1, Ay2, cy2, lsy, rfl, hiy, hty, hcy1, hdy1, hcy2, hdy2, hvy, hb⟩
    have HK3 := Lib.hid (HK2.out.trans (hb.mono HK2.out.size))
    have HPx3 := Lib.hid (HPx2.out.trans (hb.mono HPx2.out.size))
    clear hb
    have FIy : Hid (∀ w', Below w3.heap.size w3 w' → At w' w'.heap.size 1 It.cells Ay1 rs) := Lib.hid fun w' hb => (hiy.below hb).mono hb.size
    have FTy : Hid (∀ w', Below w3.heap.size w3 w' → AtLets w' w'.heap.size Ay2 lsy) := Lib.hid fun w' hb => (hty.below hb).mono hb.size
    have HVy := Lib.hid hvy
    clear hiy hty hvy
    have HPy3 : Hid (Below w3.heap.size w3 w3) := Lib.hid (Below.refl _ _)
    have hlx : lsx.length ≤ 30 := by have e := congrArg List.length HVx.out; rw [List.length_map] at e; omega
    have hlxm : lsx.length ≤ maxLen := by unfold maxLen; omega
    have HXY : Hid (lsx.map Rl.v = lsy.map Rl.v) := Lib.hid (HVx.out.trans HVy.out.symm)
    go_wp2_with fail
    refine Calls.mono (sameInts_any Ax1 Ay1 rs cx1 cy1 _ (FIx.out _ HPx3.out) (FIy.out _ HPy3.out) hrm) ?_
    rintro e w4 ⟨rfl, hb⟩
    have HK4 := Lib.hid (HK3.out.trans (hb.mono HK3.out.size))
    have HPx4 := Lib.hid (HPx3.out.trans (hb.mono HPx3.out.size))
    have HPy4 := Lib.hid (HPy3.out.trans (hb.mono HPy3.out.size))
    clear hb
    go_wp2_with fail
    refine Calls.mono (sameLetters_any Ax2 Ay2 lsx lsy cx2 cy2 _ (FTx.out _ HPx4.out) (FTy.out _ HPy4.out) HXY.out hlxm) ?_
    rintro e w5 ⟨rfl, hb⟩
    have HK5 := Lib.hid (HK4.out.trans (hb.mono HK4.out.size))
    have HPx5 := Lib.hid (HPx4.out.trans (hb.mono HPx4.out.size))
    have HPy5 := Lib.hid (HPy4.out.trans (hb.mono HPy4.out.size))
    clear hb
    have hll0 : lsx.length = vl.length := by have e := congrArg List.length HVx.out; rwa [List.length_map] at e
    cases hv : Us.usersOk vs
    · have hnb : ¬ Rn.good vs d := fun hg => by rw [hg.1] at hv; cases hv
      have h0 := Rn.ansR_bad (ls := lines) hnb
      have h1 := Rn.ansL_bad (ls := lines) hnb
      have hr0 : rs.length = 0 := by rw [HRS.out, h0]; rfl
      have hl0 : lsx.length = 0 := by rw [hll0, HVL.out, h1]; rfl
      have hri : ((rs.length : Int) == 0) = true := by rw [hr0]; rfl
      have hli : ((lsx.length : Int) == 0) = true := by rw [hl0]; rfl
      clear h0 h1 hr0 hl0 hll0 hnb
      have HV := Lib.hid hv
      clear hv
      go_wp2_with fail
      refine Calls.mono (iUsersValid_any Au vs cu _ (FU.out _ HK5.out) hvl) ?_
      rintro e w6 ⟨rfl, hb⟩
      have HK6 := Lib.hid (HK5.out.trans (hb.mono HK5.out.size))
      have HPx6 := Lib.hid (HPx5.out.trans (hb.mono HPx5.out.size))
      have HPy6 := Lib.hid (HPy5.out.trans (hb.mono HPy5.out.size))
      clear hb
      rw [HV.out]
      go_wp2_with fail
      go_ret
      exact ⟨rfl, FB.out _ HK6.out⟩
    · cases hdo : Dm.ok d.data.toList
      · have hnb : ¬ Rn.good vs d := fun hg => by rw [hg.2] at hdo; cases hdo
        have h0 := Rn.ansR_bad (ls := lines) hnb
        have h1 := Rn.ansL_bad (ls := lines) hnb
        have hr0 : rs.length = 0 := by rw [HRS.out, h0]; rfl
        have hl0 : lsx.length = 0 := by rw [hll0, HVL.out, h1]; rfl
        have hri : ((rs.length : Int) == 0) = true := by rw [hr0]; rfl
        have hli : ((lsx.length : Int) == 0) = true := by rw [hl0]; rfl
        clear h0 h1 hr0 hl0 hll0 hnb
        have HV := Lib.hid hv
        have HDO := Lib.hid hdo
        clear hv hdo
        go_wp2_with fail
        refine Calls.mono (iUsersValid_any Au vs cu _ (FU.out _ HK5.out) hvl) ?_
        rintro e w6 ⟨rfl, hb⟩
        have HK6 := Lib.hid (HK5.out.trans (hb.mono HK5.out.size))
        have HPx6 := Lib.hid (HPx5.out.trans (hb.mono HPx5.out.size))
        have HPy6 := Lib.hid (HPy5.out.trans (hb.mono HPy5.out.size))
        clear hb
        rw [HV.out]
        go_wp2_with fail
        refine Calls.mono (iDomainValid_any d _ hdm) ?_
        rintro e w7 ⟨rfl, hb⟩
        have HK7 := Lib.hid (HK6.out.trans (hb.mono HK6.out.size))
        have HPx7 := Lib.hid (HPx6.out.trans (hb.mono HPx6.out.size))
        have HPy7 := Lib.hid (HPy6.out.trans (hb.mono HPy6.out.size))
        clear hb
        rw [HDO.out]
        go_wp2_with fail
        go_ret
        exact ⟨rfl, FB.out _ HK7.out⟩
      · have hr := Rn.ansR_good (ls := lines) (show Rn.good vs d from ⟨hv, hdo⟩)
        have hrl2 : rs.length = lines.length := by rw [HRS.out, hr, Rn.reps_len]
        have hri : ((rs.length : Int) == (lines.length : Int)) = true := by rw [hrl2]; simp
        clear hr hrl2 hll0
        have HV := Lib.hid hv
        have HDO := Lib.hid hdo
        clear hv hdo
        go_wp2_with fail
        refine Calls.mono (iUsersValid_any Au vs cu _ (FU.out _ HK5.out) hvl) ?_
        rintro e w6 ⟨rfl, hb⟩
        have HK6 := Lib.hid (HK5.out.trans (hb.mono HK5.out.size))
        have HPx6 := Lib.hid (HPx5.out.trans (hb.mono HPx5.out.size))
        have HPy6 := Lib.hid (HPy5.out.trans (hb.mono HPy5.out.size))
        clear hb
        rw [HV.out]
        go_wp2_with fail
        refine Calls.mono (iDomainValid_any d _ hdm) ?_
        rintro e w7 ⟨rfl, hb⟩
        have HK7 := Lib.hid (HK6.out.trans (hb.mono HK6.out.size))
        have HPx7 := Lib.hid (HPx6.out.trans (hb.mono HPx6.out.size))
        have HPy7 := Lib.hid (HPy6.out.trans (hb.mono HPy6.out.size))
        clear hb
        rw [HDO.out]
        go_wp2_with fail
        go_ret
        exact ⟨rfl, FB.out _ HK7.out⟩
  · have hbi : (1048576 : Int) < (len : Int) := by omega
    go_enter Tryz.func16, Tryz.ntmps16
    go_wp2_with fail
    go_ret
    exact ⟨rfl, Below.refl _ _⟩
end Go.Proofs.YtnbggmmghopphaaGreatDoor
