/- FnRunStep: the walk. (Printed by mkrl.py.) -/
import Derived.Test.YtnbggmmghopphaaGreatDoorRnV
import Derived.Test.YtnbggmmghopphaaGreatDoorLwKn
import Derived.Test.YtnbggmmghopphaaGreatDoorSmUu
import Derived.Test.YtnbggmmghopphaaGreatDoorRnStp
import Derived.Deep.RegionHeld3
import Derived.Deep.DeepCutAuto
namespace Go.Proofs.YtnbggmmghopphaaGreatDoor
set_option linter.unusedVariables false
open Go.RowKit
open Us (U)

set_option maxRecDepth 100000 in
set_option maxHeartbeats 6400000 in
theorem walkFnRunStep (a : Option Addr) (len cap : Nat) (w : World) (h : Bytes w a len cap) (m : Int) (hm : w.cell? ⟨0, 0, none⟩ = some (.int .i64 m)) :
    Calls Tryz.prog 3 #[.slice a len cap] w fun e w' => e = .returned (.bool true) ∧ Below w.heap.size w w' := by
  by_cases hbig : len ≤ 1048576
  · have hbi : ¬ (1048576 : Int) < (len : Int) := by omega
    have hpos := Po.base_pos hm
    go_enter Tryz.func3, Tryz.ntmps3
    go_wp2_with fail
    refine Calls.mono (drawSubmissionRun_any a len cap _ h) ?_
    rintro e w1 ⟨vs, Au, cu, d, A, lines, c, hsv, hds, hl30, hls, hlc, hcm, rfl, hau, hat, hb1⟩
    have hvl : vs.length ≤ maxLen := small_len hsv
    have hdz : d.size ≤ 16777216 := by omega
    have hdm : d.size ≤ maxLen := by unfold maxLen; omega
    have hl30z : lines.length ≤ 1048576 := by omega
    have HLS : Hid (∀ l ∈ lines, l.size ≤ 16777216) := Lib.hid (fun l hl => by have := hls l hl; omega)
    have FU : Hid (∀ w', Below w1.heap.size w1 w' → AtUsers w' w'.heap.size Au vs) := Lib.hid (fun w' hb => ((at_users hau (small_sizes hsv)).below hb).mono hb.size)
    have FL : Hid (∀ w', Below w1.heap.size w1 w' → AtStrs w' w'.heap.size A lines) := Lib.hid (fun w' hb => (hat.below hb).mono hb.size)
    have FM : Hid (∀ w', Below w1.heap.size w1 w' → w'.cell? ⟨0, 0, none⟩ = some (.int .i64 m)) := Lib.hid (fun w' hb => Po.mem (hb1.trans (hb.mono hb1.size)) hm hpos)
    have FB : Hid (∀ w', Below w1.heap.size w1 w' → Below w.heap.size w w') := Lib.hid (fun w' hb => hb1.trans (hb.mono hb1.size))
    have HK1 : Hid (Below w1.heap.size w1 w1) := Lib.hid (Below.refl _ _)
    clear hau hat hb1 hm h hls
    obtain ⟨rs, hrs⟩ : ∃ rs, rs = Rn.ansR vs d lines := ⟨_, rfl⟩
    have HRS := Lib.hid hrs
    obtain ⟨vl, hvv⟩ : ∃ vl, vl = Rn.ansL vs d lines := ⟨_, rfl⟩
    have HVL := Lib.hid hvv
    have hrl : rs.length ≤ 30 := by have := Rn.ansR_len vs d lines; rw [hrs]; omega
    have hvll : vl.length ≤ 30 := by have := Rn.ansL_len vs d lines; rw [hvv]; omega
    have hrm : rs.length ≤ maxLen := by unfold maxLen; omega
    clear hrs hvv
    go_wp2_with fail
    refine Calls.mono (iRun_any Au vs cu d A lines c _ (FU.out _ HK1.out) hvl hdz (FL.out _ HK1.out) hl30z HLS.out m (FM.out _ HK1.out) HRS.out HVL.out) ?_
    rintro e w2 ⟨Ax1, cx1, Ax2, cx2, lsx, rfl, hix, htx, hcx1, hdx1, hcx2, hdx2, hvx, hb⟩
    have HK2 := Lib.hid (HK1.out.trans (hb.mono HK1.out.size))
    clear hb
    have FIx : Hid (∀ w', Below w2.heap.size w2 w' → At w' w'.heap.size 1 It.cells Ax1 rs) := Lib.hid fun w' hb => (hix.below hb).mono hb.size
    have FTx : Hid (∀ w', Below w2.heap.size w2 w' → AtLets w' w'.heap.size Ax2 lsx) := Lib.hid fun w' hb => (htx.below hb).mono hb.size
    have HVx := Lib.hid hvx
    clear hix htx hvx
    have HPx2 : Hid (Below w2.heap.size w2 w2) := Lib.hid (Below.refl _ _)
    go_wp2_with fail
    refine Calls.mono (sRun_any Au vs cu d A lines c _ (FU.out _ HK2.out) hvl hdz (FL.out _ HK2.out) hl30z HLS.out HRS.out HVL.out) ?_
    rintro e w3 ⟨Ay1, cy1, Ay2, cy2, lsy, rfl, hiy, hty, hcy1, hdy1, hcy2, hdy2, hvy, hb⟩
    have HK3 := Lib.hid (HK2.out.trans (hb.mono HK2.out.size))
    have HPx3 := Lib.hid (HPx2.out.trans (hb.mono HPx2.out.size))
    clear hb
    have FIy : Hid (∀ w', Below w3.heap.size w3 w' → At w' w'.heap.size 1 It.cells Ay1 rs) := Lib.hid fun w' hb => (hiy.below hb).mono hb.size
    have FTy : Hid (∀ w', Below w3.heap.size w3 w' → AtLets w' w'.heap.size Ay2 lsy) := Lib.hid fun w' hb => (hty.below hb).mono hb.size
    have HVy := Lib.hid hvy
    clear hiy hty hvy
    have HPy3 : Hid (Below w3.heap.size w3 w3) := Lib.hid (Below.refl _ _)
    have hlx : lsx.length ≤ 30 := by have e := congrArg List.length HVx.out; rw [List.length_map] at e; omega
    have hlxm : lsx.length ≤ maxLen := by unfold maxLen; omega
    have HXY : Hid (lsx.map Rl.v = lsy.map Rl.v) := Lib.hid (HVx.out.trans HVy.out.symm)
    go_wp2_with fail
    refine Calls.mono (sameInts_any Ax1 Ay1 rs cx1 cy1 _ (FIx.out _ HPx3.out) (FIy.out _ HPy3.out) hrm) ?_
    rintro e w4 ⟨rfl, hb⟩
    have HK4 := Lib.hid (HK3.out.trans (hb.mono HK3.out.size))
    have HPx4 := Lib.hid (HPx3.out.trans (hb.mono HPx3.out.size))
    have HPy4 := Lib.hid (HPy3.out.trans (hb.mono HPy3.out.size))
    clear hb
    go_wp2_with fail
    refine Calls.mono (sameLetters_any Ax2 Ay2 lsx lsy cx2 cy2 _ (FTx.out _ HPx4.out) (FTy.out _ HPy4.out) HXY.out hlxm) ?_
    rintro e w5 ⟨rfl, hb⟩
    have HK5 := Lib.hid (HK4.out.trans (hb.mono HK4.out.size))
    have HPx5 := Lib.hid (HPx4.out.trans (hb.mono HPx4.out.size))
    have HPy5 := Lib.hid (HPy4.out.trans (hb.mono HPy4.out.size))
    clear hb
    cases hv : Us.usersOk vs
    · have HV := Lib.hid hv
      clear hv
      go_wp2_with fail
      refine Calls.mono (sUsersValid_any Au vs cu _ (FU.out _ HK5.out) hvl) ?_
      rintro e w6 ⟨rfl, hb⟩
      have HK6 := Lib.hid (HK5.out.trans (hb.mono HK5.out.size))
      have HPx6 := Lib.hid (HPx5.out.trans (hb.mono HPx5.out.size))
      have HPy6 := Lib.hid (HPy5.out.trans (hb.mono HPy5.out.size))
      clear hb
      rw [HV.out]
      go_wp2_with fail
      refine Calls.mono (sameInts_any Ax1 Ay1 rs cx1 cy1 _ (FIx.out _ HPx6.out) (FIy.out _ HPy6.out) hrm) ?_
      rintro e w7 ⟨rfl, hb⟩
      have HK7 := Lib.hid (HK6.out.trans (hb.mono HK6.out.size))
      have HPx7 := Lib.hid (HPx6.out.trans (hb.mono HPx6.out.size))
      have HPy7 := Lib.hid (HPy6.out.trans (hb.mono HPy6.out.size))
      clear hb
      go_wp2_with fail
      refine Calls.mono (sameLetters_any Ax2 Ay2 lsx lsy cx2 cy2 _ (FTx.out _ HPx7.out) (FTy.out _ HPy7.out) HXY.out hlxm) ?_
      rintro e w8 ⟨rfl, hb⟩
      have HK8 := Lib.hid (HK7.out.trans (hb.mono HK7.out.size))
      have HPx8 := Lib.hid (HPx7.out.trans (hb.mono HPx7.out.size))
      have HPy8 := Lib.hid (HPy7.out.trans (hb.mono HPy7.out.size))
      clear hb
      go_wp2_with fail
      go_ret
      exact ⟨rfl, FB.out _ HK8.out⟩
    · cases hdo : Dm.ok d.data.toList
      · have HV := Lib.hid hv
        have HDO := Lib.hid hdo
        clear hv hdo
        go_wp2_with fail
        refine Calls.mono (sUsersValid_any Au vs cu _ (FU.out _ HK5.out) hvl) ?_
        rintro e w6 ⟨rfl, hb⟩
        have HK6 := Lib.hid (HK5.out.trans (hb.mono HK5.out.size))
        have HPx6 := Lib.hid (HPx5.out.trans (hb.mono HPx5.out.size))
        have HPy6 := Lib.hid (HPy5.out.trans (hb.mono HPy5.out.size))
        clear hb
        rw [HV.out]
        go_wp2_with fail
        refine Calls.mono (sDomainValid_any d hdz _) ?_
        rintro e w7 ⟨rfl, hb⟩
        have HK7 := Lib.hid (HK6.out.trans (hb.mono HK6.out.size))
        have HPx7 := Lib.hid (HPx6.out.trans (hb.mono HPx6.out.size))
        have HPy7 := Lib.hid (HPy6.out.trans (hb.mono HPy6.out.size))
        clear hb
        rw [HDO.out]
        go_wp2_with fail
        refine Calls.mono (sameInts_any Ax1 Ay1 rs cx1 cy1 _ (FIx.out _ HPx7.out) (FIy.out _ HPy7.out) hrm) ?_
        rintro e w8 ⟨rfl, hb⟩
        have HK8 := Lib.hid (HK7.out.trans (hb.mono HK7.out.size))
        have HPx8 := Lib.hid (HPx7.out.trans (hb.mono HPx7.out.size))
        have HPy8 := Lib.hid (HPy7.out.trans (hb.mono HPy7.out.size))
        clear hb
        go_wp2_with fail
        refine Calls.mono (sameLetters_any Ax2 Ay2 lsx lsy cx2 cy2 _ (FTx.out _ HPx8.out) (FTy.out _ HPy8.out) HXY.out hlxm) ?_
        rintro e w9 ⟨rfl, hb⟩
        have HK9 := Lib.hid (HK8.out.trans (hb.mono HK8.out.size))
        have HPx9 := Lib.hid (HPx8.out.trans (hb.mono HPx8.out.size))
        have HPy9 := Lib.hid (HPy8.out.trans (hb.mono HPy8.out.size))
        clear hb
        go_wp2_with fail
        go_ret
        exact ⟨rfl, FB.out _ HK9.out⟩
      · have HGD : Hid (Rn.good vs d) := Lib.hid ⟨hv, hdo⟩
        have HRE : Hid (rs = Rn.reps vs d Rn.s0 lines) := Lib.hid (HRS.out.trans (Rn.ansR_good ⟨hv, hdo⟩))
        have HLE : Hid (lsx.map Rl.v = Rn.lets vs d Rn.s0 lines) := Lib.hid (HVx.out.trans (HVL.out.trans (Rn.ansL_good ⟨hv, hdo⟩)))
        have HV := Lib.hid hv
        have HDO := Lib.hid hdo
        clear hv hdo
        have hrl3 : rs.length = lines.length := by rw [HRE.out, Rn.reps_len]
        have HRL := Lib.hid hrl3
        have hrlt : ∀ k : Nat, k < lines.length → 0 < rs.length := fun k hk => by omega
        clear hrl3
        go_wp2_with fail
        refine Calls.mono (sUsersValid_any Au vs cu _ (FU.out _ HK5.out) hvl) ?_
        rintro e w6 ⟨rfl, hb⟩
        have HK6 := Lib.hid (HK5.out.trans (hb.mono HK5.out.size))
        have HPx6 := Lib.hid (HPx5.out.trans (hb.mono HPx5.out.size))
        have HPy6 := Lib.hid (HPy5.out.trans (hb.mono HPy5.out.size))
        clear hb
        rw [HV.out]
        go_wp2_with fail
        refine Calls.mono (sDomainValid_any d hdz _) ?_
        rintro e w7 ⟨rfl, hb⟩
        have HK7 := Lib.hid (HK6.out.trans (hb.mono HK6.out.size))
        have HPx7 := Lib.hid (HPx6.out.trans (hb.mono HPx6.out.size))
        have HPy7 := Lib.hid (HPy6.out.trans (hb.mono HPy6.out.size))
        clear hb
        rw [HDO.out]
        have hxx := heap_alloc_new w7 (.cells #[.int .i64 0, .string ⟨#[]⟩, .slice none 0 0, .string ⟨#[]⟩] 36)
        have hE := Below.alloc (Below.refl w7.heap.size w7) (Nat.le_refl _) (.cells #[.int .i64 0, .string ⟨#[]⟩, .slice none 0 0, .string ⟨#[]⟩] 36)
        go_upto_region 9 with fail
        generalize w7.alloc (.cells #[.int .i64 0, .string ⟨#[]⟩, .slice none 0 0, .string ⟨#[]⟩] 36) = w0b at hxx hE ⊢
        obtain ⟨b, hbe⟩ : ∃ b, b = w7.heap.size := ⟨_, rfl⟩
        rw [← hbe] at hxx ⊢
        have hwb : w7.heap.size ≤ b := by omega
        clear hbe
        have HKb := HK7
        have HPb := HPx7
        have HV0 : Hid (Rn.Var w0b b Rn.s0) := Lib.hid ⟨none, 0, hxx, AtTy.nil, Nat.le_refl _, Nat.zero_le _⟩
        have HB0 := Lib.hid hE
        clear hxx hE
        go_wp2_with fail
        go_loopg [11, 12] lines.length (fun g v11 v12 wr => ∃ (k kk : Nat) (st : Int) (f : ByteArray) (us : List ByteArray) (t : ByteArray), k ≤ lines.length ∧ Hid (g = lines.length - k) ∧ v12 = .int .i64 k ∧ v11 = .int .i64 kk ∧ Hid ((Rn.lets vs d Rn.s0 (lines.take k)).length = kk) ∧ Hid ((⟨st, f, us, t⟩ : Sm.S) = Rn.st vs d Rn.s0 (lines.take k)) ∧ Hid (Rn.Var wr b ⟨st, f, us, t⟩) ∧ Hid (Below w7.heap.size w7 wr))
        case atStart => exact ⟨0, 0, 0, Sm.e0, [], Sm.e0, Nat.zero_le _, Lib.hid rfl, rfl, rfl, Lib.hid (by simp [Rn.lets]), Lib.hid (by simp [Rn.st]; rfl), HV0, HB0⟩
        case round =>
          obtain ⟨k, kk, st, f, us, t, hk, HG, rfl, rfl, HLN, HST, HVr, HB⟩ := hrel
          by_cases hlt : k < lines.length
          · have hki : (k : Int) < (lines.length : Int) := by omega
            have hr0 := hrlt k hlt
            have HKr := Lib.hid (HKb.out.trans (HB.out.mono HKb.out.size))
            have hex : ∃ l, lines[k]? = some l := ⟨_, List.getElem?_eq_getElem hlt⟩
            obtain ⟨l, hlk⟩ := hex
            obtain ⟨g, off, hA, hg, -⟩ := (FL.out w1 (Below.refl _ _)).1 (by omega)
            subst hA
            have HDL : Hid (∀ w', Below w1.heap.size w1 w' → w'.cell? ⟨g, off + k, none⟩ = some (.string l)) := Lib.hid fun w' hb' => by
              obtain ⟨g', o', e, _, hc⟩ := (FL.out w' hb').1 (by omega)
              injection e with e
              injection e with e1 e2
              subst e1 e2
              exact hc k l hlk
            have HLZ : Hid (l.size ≤ 16777216) := Lib.hid (HLS.out l (List.mem_of_getElem? hlk))
            have HTK : Hid (lines.take (k + 1) = lines.take k ++ [l]) := Lib.hid (by rw [List.take_add_one, hlk]; rfl)
            have HOK : Hid (Sm.ok ⟨st, f, us, t⟩ = true) := Lib.hid (by rw [HST.out]; exact Rn.st_ok Rn.s0_ok _)
            have hfz : f.size ≤ 8 := (Sm.ok_sizes HOK.out).1
            have hul : us.length ≤ 3 := (Sm.ok_sizes HOK.out).2.1
            have htz : t.size ≤ 21 := (Sm.ok_sizes HOK.out).2.2.2.1
            have hfm : f.size ≤ maxLen := by unfold maxLen; omega
            have htm : t.size ≤ maxLen := by unfold maxLen; omega
            obtain ⟨R, hR⟩ : ∃ R, R = Sm.line vs d ⟨st, f, us, t⟩ l := ⟨_, rfl⟩
            obtain ⟨⟨so, fo, uo, to_⟩, no⟩ := R
            have HL := Lib.hid hR.symm
            clear hR
            have HAN : Hid (Sm.ans vs d ⟨st, f, us, t⟩ l = (⟨so, fo, uo, to_⟩, no)) := Lib.hid (by rw [Sm.ans_good ⟨HOK.out, HGD.out.1, HGD.out.2⟩]; exact HL.out)
            have HST2 : Hid ((⟨so, fo, uo, to_⟩ : Sm.S) = Rn.st vs d Rn.s0 (lines.take (k + 1))) := Lib.hid (by rw [HTK.out, Rn.st_snoc, ← HST.out, HL.out])
            have HUOS : Hid (∀ u ∈ uo, u.size ≤ maxLen) := Lib.hid (by have := (Sm.ans_sizes vs d ⟨st, f, us, t⟩ l).2.1; rw [HAN.out] at this; exact this)
            have HRG : Hid (rs[k]? = some no) := Lib.hid (by rw [HRE.out, Rn.reps_get hlk, ← HST.out, HL.out])
            have HGET : Hid (∀ x, Rn.step ⟨st, f, us, t⟩ l = [x] → (lsx.map Rl.v)[kk]? = some x) := Lib.hid (fun x hx => by rw [HLE.out, ← HLN.out]; exact Rn.lets_get hlk (by rw [← HST.out]; exact hx))
            clear hlk
            obtain ⟨A1, c1, hx2, hat2, hc1, hc2⟩ := HVr.out
            dsimp only at hx2 hat2 hc1
            have d0 : wr.cell? ⟨b, 0, none⟩ = some (.int .i64 st) := cell_at hx2 0 _ rfl
            have d1 : wr.cell? ⟨b, 1, none⟩ = some (.string f) := cell_at hx2 1 _ rfl
            have d2 : wr.cell? ⟨b, 2, none⟩ = some (.slice A1 us.length c1) := cell_at hx2 2 _ rfl
            have d3 : wr.cell? ⟨b, 3, none⟩ = some (.string t) := cell_at hx2 3 _ rfl
            clear hx2
            have h0p : 0 < wr.heap.size := Nat.lt_of_le_of_lt (Nat.zero_le _) HVr.out.lt
            go_wp2_with fail
            refine Calls.mono (iSubmissionLetter_any st f t A1 us c1 _ hat2.1 hc1 hc2 hfm htm (by omega)) ?_
            rintro e w3 ⟨hyes, hno, hb3⟩
            clear d0 d1 d2 d3 hat2 hc1 hc2
            have HB3 := Lib.hid (HB.out.trans (hb3.mono HB.out.size))
            have HV3 := Lib.hid (HVr.out.below hb3)
            clear hb3 HKr
            cases hdn : Sb.done st f us t
            · obtain rfl := hno hdn
              have HLN2 : Hid ((Rn.lets vs d Rn.s0 (lines.take (k + 1))).length = kk) := Lib.hid (by rw [HTK.out, Rn.lets_snoc, ← HST.out, Rn.step_no (.inl hdn), List.append_nil]; exact HLN.out)
              clear hyes hno hdn
              have hE := Below.alloc (Below.refl w3.heap.size w3) (Nat.le_refl _) (.cells #[.string ⟨#[]⟩, .slice none 0 0, .string ⟨#[]⟩] 38)
              have hxx := heap_alloc_new w3 (.cells #[.string ⟨#[]⟩, .slice none 0 0, .string ⟨#[]⟩] 38)
              go_upto_region 14 with fail
              generalize w3.alloc (.cells #[.string ⟨#[]⟩, .slice none 0 0, .string ⟨#[]⟩] 38) = w4 at hE hxx ⊢
              obtain ⟨bl, hbl⟩ : ∃ q, q = w3.heap.size := ⟨_, rfl⟩
              rw [← hbl] at hxx ⊢
              clear hbl
              have HXL := Lib.hid hxx
              have HV4 := Lib.hid (HV3.out.below hE)
              have HB4 := Lib.hid (HB3.out.trans (hE.mono HB3.out.size))
              have HK4 := Lib.hid (HKb.out.trans (HB4.out.mono HKb.out.size))
              have dl4 : w4.cell? ⟨g, off + k, none⟩ = some (.string l) := HDL.out w4 HK4.out
              clear hE hxx HV3 HB3
              obtain ⟨w5, hw5⟩ : ∃ w5, w5 = w4 := ⟨_, rfl⟩
              rw [← hw5] at HV4 HB4 dl4 ⊢
              clear hw5 dl4 HXL HK4
              have HV5 := HV4
              have HB5 := HB4
              clear HV4 HB4
              obtain ⟨A1, c1, hx5, hat5, hc1, hc2⟩ := HV5.out
              dsimp only at hx5 hat5 hc1
              have HX5 := Lib.hid hx5
              have HAT5 := Lib.hid hat5
              have hb5 : b < w5.heap.size := HV5.out.lt
              clear hx5 hat5
              have d0 : w5.cell? ⟨b, 0, none⟩ = some (.int .i64 st) := cell_at HX5.out 0 _ rfl
              have d1 : w5.cell? ⟨b, 1, none⟩ = some (.string f) := cell_at HX5.out 1 _ rfl
              have d2 : w5.cell? ⟨b, 2, none⟩ = some (.slice A1 us.length c1) := cell_at HX5.out 2 _ rfl
              have d3 : w5.cell? ⟨b, 3, none⟩ = some (.string t) := cell_at HX5.out 3 _ rfl
              have HK5 := Lib.hid (HKb.out.trans (HB5.out.mono HKb.out.size))
              have HP5 := Lib.hid (HPb.out.trans (HB5.out.mono HPb.out.size))
              have dl : w5.cell? ⟨g, off + k, none⟩ = some (.string l) := HDL.out w5 HK5.out
              have hg5 : g < w5.heap.size := Nat.lt_of_lt_of_le hg HK5.out.size
              have HD5 : Hid (Below w5.heap.size w5 w5.drew) := Lib.hid (Sx.below_drew (Below.refl _ _))
              have HE5 : Hid (Below w5.heap.size w5 (w5.alloc (.cells #[.int .i64 0, .string ⟨#[]⟩, .slice none 0 0, .string ⟨#[]⟩] 36)).drew) := Lib.hid (Sx.below_drew ((Below.refl _ _).alloc (Nat.le_refl _) _))
              have HZ5 : Hid ((w5.alloc (.cells #[.int .i64 0, .string ⟨#[]⟩, .slice none 0 0, .string ⟨#[]⟩] 36)).drew.heap[w5.heap.size]? = some (.cells #[.int .i64 0, .string ⟨#[]⟩, .slice none 0 0, .string ⟨#[]⟩] 36)) := Lib.hid (heap_alloc_new w5 _)
              have HCL : Hid (∀ W, Below w5.heap.size w5 W → Calls Tryz.prog 27 #[.agg #[.int .i64 st, .string f, .slice A1 us.length c1, .string t], .slice Au vs.length cu, .string d, .string l] W (Sm.OwnW so fo uo to_ no W)) := Lib.hid fun W hb => iLineW_any st f t A1 us c1 W ((HAT5.out.below hb).mono hb.size).1 hc1 hc2 hfm htm Au vs cu (FU.out _ (HK5.out.trans (hb.mono HK5.out.size))) hvl d l hdz HLZ.out m (FM.out _ (HK5.out.trans (hb.mono HK5.out.size))) HAN.out
              go_upto_region 18 with fail
              go_cut [15, 16] (fun v1 v2 wx => ∃ (bq : Nat) (Aq : Option Addr) (cq : Nat), v1 = .pointer (some ⟨bq, 0, none⟩) ∧ v2 = .int .i64 no ∧ Hid (wx.heap[bq]? = some (.cells #[.int .i64 so, .string fo, .slice Aq uo.length cq, .string to_] 36 (0, 0))) ∧ Hid (AtTy 0 wx wx.heap.size Aq uo ∧ uo.length ≤ cq ∧ cq ≤ maxLen) ∧ Hid (bq < wx.heap.size ∧ w5.heap.size ≤ bq) ∧ Hid (Below w5.heap.size w5 wx))
              case first =>
                go_region_law ((first
                  | (go_simp; go_at_call 27; refine Calls.mono (HCL.out _ HD5.out) ?_; rintro e wy ⟨Aq, cq, rfl, hoq, hkq, hjq, hbq⟩; have hbw : Hid (Below w5.heap.size w5 wy) := Lib.hid (HD5.out.trans (hbq.mono HD5.out.size)); have HTQ : Hid (AtTy 0 wy wy.heap.size Aq uo) := Lib.hid (AtTy.of_own (Nat.lt_of_le_of_lt (Nat.zero_le _) hb5) hoq HUOS.out))
                  | (go_simp; go_at_call 27; refine Calls.mono (HCL.out _ HE5.out) ?_; rintro e wy ⟨Aq, cq, rfl, hoq, hkq, hjq, hbq⟩; have hbw : Hid (Below w5.heap.size w5 wy) := Lib.hid (HE5.out.trans (hbq.mono HE5.out.size)); have hlz : w5.heap.size < (w5.alloc (.cells #[.int .i64 0, .string ⟨#[]⟩, .slice none 0 0, .string ⟨#[]⟩] 36)).drew.heap.size := (Array.getElem?_eq_some_iff.1 HZ5.out).1; have HTQ : Hid (AtTy 0 wy wy.heap.size Aq uo) := Lib.hid (AtTy.of_own (Nat.lt_of_le_of_lt (Nat.zero_le _) hlz) hoq HUOS.out); have HV1 := Lib.hid ((hbq.block w5.heap.size hlz).trans HZ5.out); have vz0 : wy.cell? ⟨w5.heap.size, 0, none⟩ = some (.int .i64 0) := cell_at HV1.out 0 _ rfl; have fz0 := free_at HV1.out 0; have vz1 : wy.cell? ⟨w5.heap.size, 1, none⟩ = some (.string ⟨#[]⟩) := cell_at HV1.out 1 _ rfl; have fz1 := free_at HV1.out 1; have vz2 : wy.cell? ⟨w5.heap.size, 2, none⟩ = some (.slice none 0 0) := cell_at HV1.out 2 _ rfl; have fz2 := free_at HV1.out 2; have vz3 : wy.cell? ⟨w5.heap.size, 3, none⟩ = some (.string ⟨#[]⟩) := cell_at HV1.out 3 _ rfl; have fz3 := free_at HV1.out 3)))
                all_goals
                  go_wp2_with fail
                  go_meet
                  first
                  | (have hh := HV1.out
                     refine ⟨_, Aq, cq, rfl, rfl, ?_, ?_, ?_, ?_⟩
                     · exact Lib.hid (Lw.box4 hh _ _ _ _)
                     · exact Lib.hid ⟨HTQ.out.set4 hh _ _ _ _, hkq, hjq⟩
                     · exact Lib.hid ⟨by simp; exact (Array.getElem?_eq_some_iff.1 hh).1, Nat.le_refl _⟩
                     · exact Lib.hid (set4 hbw.out (Nat.le_refl _) _ _ _ _))
                  | (have hea := Below.alloc (Below.refl wy.heap.size wy) (Nat.le_refl _) (.cells #[.int .i64 so, .string fo, .slice Aq uo.length cq, .string to_] 36)
                     refine ⟨_, Aq, cq, rfl, rfl, ?_, ?_, ?_, ?_⟩
                     · exact Lib.hid (heap_alloc_new _ _)
                     · exact Lib.hid ⟨(HTQ.out.below hea).mono hea.size, hkq, hjq⟩
                     · exact Lib.hid ⟨by simp, hbw.out.size⟩
                     · exact Lib.hid (hbw.out.trans (hea.mono hbw.out.size)))
              clear d0 d1 d2 d3 dl
              obtain ⟨bq, Aq, cq, rfl, rfl, HXQ, HTQ, HLQ, HBQ⟩ := hcut
              obtain ⟨w6, hwm⟩ : ∃ wm, wm = wc := ⟨_, rfl⟩
              subst hwm
              have HV6 := Lib.hid (HV5.out.below HBQ.out)
              have HB6 := Lib.hid (HB5.out.trans (HBQ.out.mono HB5.out.size))
              have HX6 := Lib.hid ((HBQ.out.block b hb5).trans HX5.out)
              have hnb : b ≠ bq := by have := HLQ.out.2; omega
              have hnb2 : bq ≠ b := Ne.symm hnb
              obtain ⟨g3, off3, hA3, hg3, hc3⟩ := At.ints (FIx.out w6 (HP5.out.trans (HBQ.out.mono HP5.out.size))) (by omega)
              have yr := hc3 k no HRG.out
              subst hA3
              clear hc3
              have hkr : (k : Int) < (rs.length : Int) := by have := HRL.out; omega
              have d0 : w6.cell? ⟨b, 0, none⟩ = some (.int .i64 st) := cell_at HX6.out 0 _ rfl
              have d1 : w6.cell? ⟨b, 1, none⟩ = some (.string f) := cell_at HX6.out 1 _ rfl
              have d2 : w6.cell? ⟨b, 2, none⟩ = some (.slice A1 us.length c1) := cell_at HX6.out 2 _ rfl
              have d3 : w6.cell? ⟨b, 3, none⟩ = some (.string t) := cell_at HX6.out 3 _ rfl
              have z0 := free_at HX6.out 0
              have z1 := free_at HX6.out 1
              have z2 := free_at HX6.out 2
              have z3 := free_at HX6.out 3
              have y0 : w6.cell? ⟨bq, 0, none⟩ = some (.int .i64 so) := cell_at HXQ.out 0 _ rfl
              have y1 : w6.cell? ⟨bq, 1, none⟩ = some (.string fo) := cell_at HXQ.out 1 _ rfl
              have y2 : w6.cell? ⟨bq, 2, none⟩ = some (.slice Aq uo.length cq) := cell_at HXQ.out 2 _ rfl
              have y3 : w6.cell? ⟨bq, 3, none⟩ = some (.string to_) := cell_at HXQ.out 3 _ rfl
              go_wp2_with fail
              go_roundg (lines.length - (k + 1))
              case measure => have := HG.out; omega
              case rel => exact ⟨k + 1, kk, so, fo, uo, to_, by omega, Lib.hid rfl, by go_num, by go_num, HLN2, HST2, Lib.hid (HV6.out.store (s2 := ⟨so, fo, uo, to_⟩) HTQ.out.1 HTQ.out.2.1 HTQ.out.2.2), Lib.hid (set4 HB6.out hwb _ _ _ _)⟩
            · obtain ⟨A3, c3, rfl, ho3⟩ := hyes hdn
              have HT3 : Hid (AtTy 0 w3 w3.heap.size A3 us) := Lib.hid (AtTy.of_own h0p ho3 (fun u hu' => by have := (Sm.ok_sizes HOK.out).2.2.1 u hu'; unfold maxLen; omega))
              have HDN := Lib.hid hdn
              clear hyes hno ho3 hdn
              have hE := Below.alloc (Below.refl w3.heap.size w3) (Nat.le_refl _) (.cells #[.string f, .slice A3 us.length c3, .string t] 38)
              have hxx := heap_alloc_new w3 (.cells #[.string f, .slice A3 us.length c3, .string t] 38)
              go_upto_region 14 with fail
              generalize w3.alloc (.cells #[.string f, .slice A3 us.length c3, .string t] 38) = w4 at hE hxx ⊢
              obtain ⟨bl, hbl⟩ : ∃ q, q = w3.heap.size := ⟨_, rfl⟩
              rw [← hbl] at hxx ⊢
              clear hbl
              have HXL := Lib.hid hxx
              have HV4 := Lib.hid (HV3.out.below hE)
              have HB4 := Lib.hid (HB3.out.trans (hE.mono HB3.out.size))
              have HK4 := Lib.hid (HKb.out.trans (HB4.out.mono HKb.out.size))
              have dl4 : w4.cell? ⟨g, off + k, none⟩ = some (.string l) := HDL.out w4 HK4.out
              have HT4 := Lib.hid ((HT3.out.below hE).mono hE.size)
              clear hE hxx HT3 HV3 HB3
              by_cases hdot : l = ⟨#[46]⟩
              · have q0 : (l.toList == [46]) = true := lit_yes hdot
                have hst := Rn.step_yes (s := ⟨st, f, us, t⟩) HDN.out hdot
                have HLN2 : Hid ((Rn.lets vs d Rn.s0 (lines.take (k + 1))).length = kk + 1) := Lib.hid (by rw [HTK.out, Rn.lets_snoc, ← HST.out, hst, List.length_append, HLN.out]; rfl)
                have hge := HGET.out _ hst
                rw [List.getElem?_map] at hge
                have hex2 : ∃ y, lsx[kk]? = some y ∧ Rl.v y = ⟨f, us, t⟩ := by
                  cases hq : lsx[kk]? with
                  | none => rw [hq] at hge; cases hge
                  | some y => rw [hq] at hge; injection hge with hge; exact ⟨y, rfl, hge⟩
                obtain ⟨y, hy, hyv⟩ := hex2
                have hkk : kk < lsx.length := (List.getElem?_eq_some_iff.1 hy).1
                have hkki : ¬ (lsx.length : Int) ≤ (kk : Int) := by omega
                have hkk2 : (kk : Int) < (lsx.length : Int) := by omega
                have HP4 := Lib.hid (HPb.out.trans (HB4.out.mono HPb.out.size))
                obtain ⟨g4, off4, hA4, hg4, hc4⟩ := (FTx.out _ HP4.out).1 (by omega)
                have HTY := Lib.hid ((FTx.out _ HP4.out).2 y (List.mem_of_getElem? hy)).1
                obtain ⟨fy, Ay, uy, cy, ty⟩ := y
                injection hyv with h1 h2 h3
                dsimp only at h1 h2 h3
                have h1 := h1.symm
                have h2 := h2.symm
                have h3 := h3.symm
                subst h1 h2 h3
                have e0 : w4.cell? ⟨g4, off4 + kk * 3, none⟩ = some (.string f) := hc4 kk _ hy 0 _ rfl
                have e1 : w4.cell? ⟨g4, off4 + kk * 3 + 1, none⟩ = some (.slice Ay us.length cy) := hc4 kk _ hy 1 _ rfl
                have e2 : w4.cell? ⟨g4, off4 + kk * 3 + 2, none⟩ = some (.string t) := hc4 kk _ hy 2 _ rfl
                subst hA4
                dsimp only at HTY
                clear hc4 hy hge hst hdot
                have x0 : w4.cell? ⟨bl, 0, none⟩ = some (.string f) := cell_at HXL.out 0 _ rfl
                have x1 : w4.cell? ⟨bl, 1, none⟩ = some (.slice A3 us.length c3) := cell_at HXL.out 1 _ rfl
                have x2 : w4.cell? ⟨bl, 2, none⟩ = some (.string t) := cell_at HXL.out 2 _ rfl
                have HSL : Hid (∀ W : World, W.heap = w4.heap → Calls Tryz.prog 26 #[.agg #[.string f, .slice Ay us.length cy, .string t], .agg #[.string f, .slice A3 us.length c3, .string t]] W fun e w' => e = .returned (.bool true) ∧ Below W.heap.size W w') := Lib.hid fun W hW => sameLetter_any f t Ay A3 us cy c3 W (by have := HTY.out.keep (w' := W) (fun i _ => by rw [hW]); rwa [← hW] at this) (by have := HT4.out.1.keep (w' := W) (fun i _ => by rw [hW]); rwa [← hW] at this) (by unfold maxLen; omega)
                have hg4w : g4 < w4.heap.size := hg4
                have hblw : bl < w4.heap.size := (Array.getElem?_eq_some_iff.1 HXL.out).1
                have HD4 : Hid (Below w4.heap.size w4 w4.drew) := Lib.hid (Sx.below_drew (Below.refl _ _))
                have HS : Hid (∀ w', Below w4.heap.size w4 w' → (w'.cell? ⟨g4, off4 + kk * 3, none⟩ = some (.string f) ∧ w'.cell? ⟨g4, off4 + kk * 3 + 1, none⟩ = some (.slice Ay us.length cy) ∧ w'.cell? ⟨g4, off4 + kk * 3 + 2, none⟩ = some (.string t) ∧ w'.cell? ⟨bl, 0, none⟩ = some (.string f) ∧ w'.cell? ⟨bl, 1, none⟩ = some (.slice A3 us.length c3) ∧ w'.cell? ⟨bl, 2, none⟩ = some (.string t))) := Lib.hid fun w' hb => ⟨(hb.cell (p := ⟨g4, off4 + kk * 3, none⟩) hg4w).trans e0, (hb.cell (p := ⟨g4, off4 + kk * 3 + 1, none⟩) hg4w).trans e1, (hb.cell (p := ⟨g4, off4 + kk * 3 + 2, none⟩) hg4w).trans e2, (hb.cell (p := ⟨bl, 0, none⟩) hblw).trans x0, (hb.cell (p := ⟨bl, 1, none⟩) hblw).trans x1, (hb.cell (p := ⟨bl, 2, none⟩) hblw).trans x2⟩
                go_upto_region 15 with fail
                go_cut [100] (fun v wx => v = .bool false ∧ Hid (Below w4.heap.size w4 wx))
                case first =>
                  go_region_held3 (fun w' => w'.cell? ⟨g4, off4 + kk * 3, none⟩ = some (.string f) ∧ w'.cell? ⟨g4, off4 + kk * 3 + 1, none⟩ = some (.slice Ay us.length cy) ∧ w'.cell? ⟨g4, off4 + kk * 3 + 2, none⟩ = some (.string t) ∧ w'.cell? ⟨bl, 0, none⟩ = some (.string f) ∧ w'.cell? ⟨bl, 1, none⟩ = some (.slice A3 us.length c3) ∧ w'.cell? ⟨bl, 2, none⟩ = some (.string t)) (first | exact HS.out _ HBY.out | exact HS.out _ HD4.out) ((go_at_call 26; refine Calls.mono (HSL.out _ rfl) ?_; rintro e wy ⟨rfl, hby⟩; have HBY : Hid (Below w4.heap.size w4 wy) := Lib.hid ⟨hby.os, hby.tape, hby.output, hby.size, hby.block⟩))
                  all_goals
                    go_wp2_with fail
                    go_meet
                    exact ⟨rfl, HBY⟩
                obtain ⟨rfl, HBw⟩ := hcut
                obtain ⟨w5, hwm⟩ : ∃ wm, wm = wc := ⟨_, rfl⟩
                subst hwm
                have HV5 := Lib.hid (HV4.out.below HBw.out)
                have HB5 := Lib.hid (HB4.out.trans (HBw.out.mono HB4.out.size))
                clear e0 e1 e2 x0 x1 x2 dl4 HV4 HB4 HK4 HP4 HTY HT4 HXL HSL HBw HGET HS HD4
                obtain ⟨A1, c1, hx5, hat5, hc1, hc2⟩ := HV5.out
                dsimp only at hx5 hat5 hc1
                have HX5 := Lib.hid hx5
                have HAT5 := Lib.hid hat5
                have hb5 : b < w5.heap.size := HV5.out.lt
                clear hx5 hat5
                have d0 : w5.cell? ⟨b, 0, none⟩ = some (.int .i64 st) := cell_at HX5.out 0 _ rfl
                have d1 : w5.cell? ⟨b, 1, none⟩ = some (.string f) := cell_at HX5.out 1 _ rfl
                have d2 : w5.cell? ⟨b, 2, none⟩ = some (.slice A1 us.length c1) := cell_at HX5.out 2 _ rfl
                have d3 : w5.cell? ⟨b, 3, none⟩ = some (.string t) := cell_at HX5.out 3 _ rfl
                have HK5 := Lib.hid (HKb.out.trans (HB5.out.mono HKb.out.size))
                have HP5 := Lib.hid (HPb.out.trans (HB5.out.mono HPb.out.size))
                have dl : w5.cell? ⟨g, off + k, none⟩ = some (.string l) := HDL.out w5 HK5.out
                have hg5 : g < w5.heap.size := Nat.lt_of_lt_of_le hg HK5.out.size
                have HD5 : Hid (Below w5.heap.size w5 w5.drew) := Lib.hid (Sx.below_drew (Below.refl _ _))
                have HE5 : Hid (Below w5.heap.size w5 (w5.alloc (.cells #[.int .i64 0, .string ⟨#[]⟩, .slice none 0 0, .string ⟨#[]⟩] 36)).drew) := Lib.hid (Sx.below_drew ((Below.refl _ _).alloc (Nat.le_refl _) _))
                have HZ5 : Hid ((w5.alloc (.cells #[.int .i64 0, .string ⟨#[]⟩, .slice none 0 0, .string ⟨#[]⟩] 36)).drew.heap[w5.heap.size]? = some (.cells #[.int .i64 0, .string ⟨#[]⟩, .slice none 0 0, .string ⟨#[]⟩] 36)) := Lib.hid (heap_alloc_new w5 _)
                have HCL : Hid (∀ W, Below w5.heap.size w5 W → Calls Tryz.prog 27 #[.agg #[.int .i64 st, .string f, .slice A1 us.length c1, .string t], .slice Au vs.length cu, .string d, .string l] W (Sm.OwnW so fo uo to_ no W)) := Lib.hid fun W hb => iLineW_any st f t A1 us c1 W ((HAT5.out.below hb).mono hb.size).1 hc1 hc2 hfm htm Au vs cu (FU.out _ (HK5.out.trans (hb.mono HK5.out.size))) hvl d l hdz HLZ.out m (FM.out _ (HK5.out.trans (hb.mono HK5.out.size))) HAN.out
                go_upto_region 18 with fail
                go_cut [15, 16] (fun v1 v2 wx => ∃ (bq : Nat) (Aq : Option Addr) (cq : Nat), v1 = .pointer (some ⟨bq, 0, none⟩) ∧ v2 = .int .i64 no ∧ Hid (wx.heap[bq]? = some (.cells #[.int .i64 so, .string fo, .slice Aq uo.length cq, .string to_] 36 (0, 0))) ∧ Hid (AtTy 0 wx wx.heap.size Aq uo ∧ uo.length ≤ cq ∧ cq ≤ maxLen) ∧ Hid (bq < wx.heap.size ∧ w5.heap.size ≤ bq) ∧ Hid (Below w5.heap.size w5 wx))
                case first =>
                  go_region_law ((first
                    | (go_simp; go_at_call 27; refine Calls.mono (HCL.out _ HD5.out) ?_; rintro e wy ⟨Aq, cq, rfl, hoq, hkq, hjq, hbq⟩; have hbw : Hid (Below w5.heap.size w5 wy) := Lib.hid (HD5.out.trans (hbq.mono HD5.out.size)); have HTQ : Hid (AtTy 0 wy wy.heap.size Aq uo) := Lib.hid (AtTy.of_own (Nat.lt_of_le_of_lt (Nat.zero_le _) hb5) hoq HUOS.out))
                    | (go_simp; go_at_call 27; refine Calls.mono (HCL.out _ HE5.out) ?_; rintro e wy ⟨Aq, cq, rfl, hoq, hkq, hjq, hbq⟩; have hbw : Hid (Below w5.heap.size w5 wy) := Lib.hid (HE5.out.trans (hbq.mono HE5.out.size)); have hlz : w5.heap.size < (w5.alloc (.cells #[.int .i64 0, .string ⟨#[]⟩, .slice none 0 0, .string ⟨#[]⟩] 36)).drew.heap.size := (Array.getElem?_eq_some_iff.1 HZ5.out).1; have HTQ : Hid (AtTy 0 wy wy.heap.size Aq uo) := Lib.hid (AtTy.of_own (Nat.lt_of_le_of_lt (Nat.zero_le _) hlz) hoq HUOS.out); have HV1 := Lib.hid ((hbq.block w5.heap.size hlz).trans HZ5.out); have vz0 : wy.cell? ⟨w5.heap.size, 0, none⟩ = some (.int .i64 0) := cell_at HV1.out 0 _ rfl; have fz0 := free_at HV1.out 0; have vz1 : wy.cell? ⟨w5.heap.size, 1, none⟩ = some (.string ⟨#[]⟩) := cell_at HV1.out 1 _ rfl; have fz1 := free_at HV1.out 1; have vz2 : wy.cell? ⟨w5.heap.size, 2, none⟩ = some (.slice none 0 0) := cell_at HV1.out 2 _ rfl; have fz2 := free_at HV1.out 2; have vz3 : wy.cell? ⟨w5.heap.size, 3, none⟩ = some (.string ⟨#[]⟩) := cell_at HV1.out 3 _ rfl; have fz3 := free_at HV1.out 3)))
                  all_goals
                    go_wp2_with fail
                    go_meet
                    first
                    | (have hh := HV1.out
                       refine ⟨_, Aq, cq, rfl, rfl, ?_, ?_, ?_, ?_⟩
                       · exact Lib.hid (Lw.box4 hh _ _ _ _)
                       · exact Lib.hid ⟨HTQ.out.set4 hh _ _ _ _, hkq, hjq⟩
                       · exact Lib.hid ⟨by simp; exact (Array.getElem?_eq_some_iff.1 hh).1, Nat.le_refl _⟩
                       · exact Lib.hid (set4 hbw.out (Nat.le_refl _) _ _ _ _))
                    | (have hea := Below.alloc (Below.refl wy.heap.size wy) (Nat.le_refl _) (.cells #[.int .i64 so, .string fo, .slice Aq uo.length cq, .string to_] 36)
                       refine ⟨_, Aq, cq, rfl, rfl, ?_, ?_, ?_, ?_⟩
                       · exact Lib.hid (heap_alloc_new _ _)
                       · exact Lib.hid ⟨(HTQ.out.below hea).mono hea.size, hkq, hjq⟩
                       · exact Lib.hid ⟨by simp, hbw.out.size⟩
                       · exact Lib.hid (hbw.out.trans (hea.mono hbw.out.size)))
                clear d0 d1 d2 d3 dl
                obtain ⟨bq, Aq, cq, rfl, rfl, HXQ, HTQ, HLQ, HBQ⟩ := hcut
                obtain ⟨w6, hwm⟩ : ∃ wm, wm = wc := ⟨_, rfl⟩
                subst hwm
                have HV6 := Lib.hid (HV5.out.below HBQ.out)
                have HB6 := Lib.hid (HB5.out.trans (HBQ.out.mono HB5.out.size))
                have HX6 := Lib.hid ((HBQ.out.block b hb5).trans HX5.out)
                have hnb : b ≠ bq := by have := HLQ.out.2; omega
                have hnb2 : bq ≠ b := Ne.symm hnb
                obtain ⟨g3, off3, hA3, hg3, hc3⟩ := At.ints (FIx.out w6 (HP5.out.trans (HBQ.out.mono HP5.out.size))) (by omega)
                have yr := hc3 k no HRG.out
                subst hA3
                clear hc3
                have hkr : (k : Int) < (rs.length : Int) := by have := HRL.out; omega
                have d0 : w6.cell? ⟨b, 0, none⟩ = some (.int .i64 st) := cell_at HX6.out 0 _ rfl
                have d1 : w6.cell? ⟨b, 1, none⟩ = some (.string f) := cell_at HX6.out 1 _ rfl
                have d2 : w6.cell? ⟨b, 2, none⟩ = some (.slice A1 us.length c1) := cell_at HX6.out 2 _ rfl
                have d3 : w6.cell? ⟨b, 3, none⟩ = some (.string t) := cell_at HX6.out 3 _ rfl
                have z0 := free_at HX6.out 0
                have z1 := free_at HX6.out 1
                have z2 := free_at HX6.out 2
                have z3 := free_at HX6.out 3
                have y0 : w6.cell? ⟨bq, 0, none⟩ = some (.int .i64 so) := cell_at HXQ.out 0 _ rfl
                have y1 : w6.cell? ⟨bq, 1, none⟩ = some (.string fo) := cell_at HXQ.out 1 _ rfl
                have y2 : w6.cell? ⟨bq, 2, none⟩ = some (.slice Aq uo.length cq) := cell_at HXQ.out 2 _ rfl
                have y3 : w6.cell? ⟨bq, 3, none⟩ = some (.string to_) := cell_at HXQ.out 3 _ rfl
                go_wp2_with fail
                go_roundg (lines.length - (k + 1))
                case measure => have := HG.out; omega
                case rel => exact ⟨k + 1, (kk + 1), so, fo, uo, to_, by omega, Lib.hid rfl, by go_num, by go_num, HLN2, HST2, Lib.hid (HV6.out.store (s2 := ⟨so, fo, uo, to_⟩) HTQ.out.1 HTQ.out.2.1 HTQ.out.2.2), Lib.hid (set4 HB6.out hwb _ _ _ _)⟩
              · have q0 : (l.toList == [46]) = false := lit_no hdot
                have HLN2 : Hid ((Rn.lets vs d Rn.s0 (lines.take (k + 1))).length = kk) := Lib.hid (by rw [HTK.out, Rn.lets_snoc, ← HST.out, Rn.step_no (.inr hdot), List.append_nil]; exact HLN.out)
                clear hdot HT4
                obtain ⟨w5, hw5⟩ : ∃ w5, w5 = w4 := ⟨_, rfl⟩
                rw [← hw5] at HV4 HB4 dl4 ⊢
                clear hw5 dl4 HXL HK4
                have HV5 := HV4
                have HB5 := HB4
                clear HV4 HB4
                obtain ⟨A1, c1, hx5, hat5, hc1, hc2⟩ := HV5.out
                dsimp only at hx5 hat5 hc1
                have HX5 := Lib.hid hx5
                have HAT5 := Lib.hid hat5
                have hb5 : b < w5.heap.size := HV5.out.lt
                clear hx5 hat5
                have d0 : w5.cell? ⟨b, 0, none⟩ = some (.int .i64 st) := cell_at HX5.out 0 _ rfl
                have d1 : w5.cell? ⟨b, 1, none⟩ = some (.string f) := cell_at HX5.out 1 _ rfl
                have d2 : w5.cell? ⟨b, 2, none⟩ = some (.slice A1 us.length c1) := cell_at HX5.out 2 _ rfl
                have d3 : w5.cell? ⟨b, 3, none⟩ = some (.string t) := cell_at HX5.out 3 _ rfl
                have HK5 := Lib.hid (HKb.out.trans (HB5.out.mono HKb.out.size))
                have HP5 := Lib.hid (HPb.out.trans (HB5.out.mono HPb.out.size))
                have dl : w5.cell? ⟨g, off + k, none⟩ = some (.string l) := HDL.out w5 HK5.out
                have hg5 : g < w5.heap.size := Nat.lt_of_lt_of_le hg HK5.out.size
                have HD5 : Hid (Below w5.heap.size w5 w5.drew) := Lib.hid (Sx.below_drew (Below.refl _ _))
                have HE5 : Hid (Below w5.heap.size w5 (w5.alloc (.cells #[.int .i64 0, .string ⟨#[]⟩, .slice none 0 0, .string ⟨#[]⟩] 36)).drew) := Lib.hid (Sx.below_drew ((Below.refl _ _).alloc (Nat.le_refl _) _))
                have HZ5 : Hid ((w5.alloc (.cells #[.int .i64 0, .string ⟨#[]⟩, .slice none 0 0, .string ⟨#[]⟩] 36)).drew.heap[w5.heap.size]? = some (.cells #[.int .i64 0, .string ⟨#[]⟩, .slice none 0 0, .string ⟨#[]⟩] 36)) := Lib.hid (heap_alloc_new w5 _)
                have HCL : Hid (∀ W, Below w5.heap.size w5 W → Calls Tryz.prog 27 #[.agg #[.int .i64 st, .string f, .slice A1 us.length c1, .string t], .slice Au vs.length cu, .string d, .string l] W (Sm.OwnW so fo uo to_ no W)) := Lib.hid fun W hb => iLineW_any st f t A1 us c1 W ((HAT5.out.below hb).mono hb.size).1 hc1 hc2 hfm htm Au vs cu (FU.out _ (HK5.out.trans (hb.mono HK5.out.size))) hvl d l hdz HLZ.out m (FM.out _ (HK5.out.trans (hb.mono HK5.out.size))) HAN.out
                go_upto_region 18 with fail
                go_cut [15, 16] (fun v1 v2 wx => ∃ (bq : Nat) (Aq : Option Addr) (cq : Nat), v1 = .pointer (some ⟨bq, 0, none⟩) ∧ v2 = .int .i64 no ∧ Hid (wx.heap[bq]? = some (.cells #[.int .i64 so, .string fo, .slice Aq uo.length cq, .string to_] 36 (0, 0))) ∧ Hid (AtTy 0 wx wx.heap.size Aq uo ∧ uo.length ≤ cq ∧ cq ≤ maxLen) ∧ Hid (bq < wx.heap.size ∧ w5.heap.size ≤ bq) ∧ Hid (Below w5.heap.size w5 wx))
                case first =>
                  go_region_law ((first
                    | (go_simp; go_at_call 27; refine Calls.mono (HCL.out _ HD5.out) ?_; rintro e wy ⟨Aq, cq, rfl, hoq, hkq, hjq, hbq⟩; have hbw : Hid (Below w5.heap.size w5 wy) := Lib.hid (HD5.out.trans (hbq.mono HD5.out.size)); have HTQ : Hid (AtTy 0 wy wy.heap.size Aq uo) := Lib.hid (AtTy.of_own (Nat.lt_of_le_of_lt (Nat.zero_le _) hb5) hoq HUOS.out))
                    | (go_simp; go_at_call 27; refine Calls.mono (HCL.out _ HE5.out) ?_; rintro e wy ⟨Aq, cq, rfl, hoq, hkq, hjq, hbq⟩; have hbw : Hid (Below w5.heap.size w5 wy) := Lib.hid (HE5.out.trans (hbq.mono HE5.out.size)); have hlz : w5.heap.size < (w5.alloc (.cells #[.int .i64 0, .string ⟨#[]⟩, .slice none 0 0, .string ⟨#[]⟩] 36)).drew.heap.size := (Array.getElem?_eq_some_iff.1 HZ5.out).1; have HTQ : Hid (AtTy 0 wy wy.heap.size Aq uo) := Lib.hid (AtTy.of_own (Nat.lt_of_le_of_lt (Nat.zero_le _) hlz) hoq HUOS.out); have HV1 := Lib.hid ((hbq.block w5.heap.size hlz).trans HZ5.out); have vz0 : wy.cell? ⟨w5.heap.size, 0, none⟩ = some (.int .i64 0) := cell_at HV1.out 0 _ rfl; have fz0 := free_at HV1.out 0; have vz1 : wy.cell? ⟨w5.heap.size, 1, none⟩ = some (.string ⟨#[]⟩) := cell_at HV1.out 1 _ rfl; have fz1 := free_at HV1.out 1; have vz2 : wy.cell? ⟨w5.heap.size, 2, none⟩ = some (.slice none 0 0) := cell_at HV1.out 2 _ rfl; have fz2 := free_at HV1.out 2; have vz3 : wy.cell? ⟨w5.heap.size, 3, none⟩ = some (.string ⟨#[]⟩) := cell_at HV1.out 3 _ rfl; have fz3 := free_at HV1.out 3)))
                  all_goals
                    go_wp2_with fail
                    go_meet
                    first
                    | (have hh := HV1.out
                       refine ⟨_, Aq, cq, rfl, rfl, ?_, ?_, ?_, ?_⟩
                       · exact Lib.hid (Lw.box4 hh _ _ _ _)
                       · exact Lib.hid ⟨HTQ.out.set4 hh _ _ _ _, hkq, hjq⟩
                       · exact Lib.hid ⟨by simp; exact (Array.getElem?_eq_some_iff.1 hh).1, Nat.le_refl _⟩
                       · exact Lib.hid (set4 hbw.out (Nat.le_refl _) _ _ _ _))
                    | (have hea := Below.alloc (Below.refl wy.heap.size wy) (Nat.le_refl _) (.cells #[.int .i64 so, .string fo, .slice Aq uo.length cq, .string to_] 36)
                       refine ⟨_, Aq, cq, rfl, rfl, ?_, ?_, ?_, ?_⟩
                       · exact Lib.hid (heap_alloc_new _ _)
                       · exact Lib.hid ⟨(HTQ.out.below hea).mono hea.size, hkq, hjq⟩
                       · exact Lib.hid ⟨by simp, hbw.out.size⟩
                       · exact Lib.hid (hbw.out.trans (hea.mono hbw.out.size)))
                clear d0 d1 d2 d3 dl
                obtain ⟨bq, Aq, cq, rfl, rfl, HXQ, HTQ, HLQ, HBQ⟩ := hcut
                obtain ⟨w6, hwm⟩ : ∃ wm, wm = wc := ⟨_, rfl⟩
                subst hwm
                have HV6 := Lib.hid (HV5.out.below HBQ.out)
                have HB6 := Lib.hid (HB5.out.trans (HBQ.out.mono HB5.out.size))
                have HX6 := Lib.hid ((HBQ.out.block b hb5).trans HX5.out)
                have hnb : b ≠ bq := by have := HLQ.out.2; omega
                have hnb2 : bq ≠ b := Ne.symm hnb
                obtain ⟨g3, off3, hA3, hg3, hc3⟩ := At.ints (FIx.out w6 (HP5.out.trans (HBQ.out.mono HP5.out.size))) (by omega)
                have yr := hc3 k no HRG.out
                subst hA3
                clear hc3
                have hkr : (k : Int) < (rs.length : Int) := by have := HRL.out; omega
                have d0 : w6.cell? ⟨b, 0, none⟩ = some (.int .i64 st) := cell_at HX6.out 0 _ rfl
                have d1 : w6.cell? ⟨b, 1, none⟩ = some (.string f) := cell_at HX6.out 1 _ rfl
                have d2 : w6.cell? ⟨b, 2, none⟩ = some (.slice A1 us.length c1) := cell_at HX6.out 2 _ rfl
                have d3 : w6.cell? ⟨b, 3, none⟩ = some (.string t) := cell_at HX6.out 3 _ rfl
                have z0 := free_at HX6.out 0
                have z1 := free_at HX6.out 1
                have z2 := free_at HX6.out 2
                have z3 := free_at HX6.out 3
                have y0 : w6.cell? ⟨bq, 0, none⟩ = some (.int .i64 so) := cell_at HXQ.out 0 _ rfl
                have y1 : w6.cell? ⟨bq, 1, none⟩ = some (.string fo) := cell_at HXQ.out 1 _ rfl
                have y2 : w6.cell? ⟨bq, 2, none⟩ = some (.slice Aq uo.length cq) := cell_at HXQ.out 2 _ rfl
                have y3 : w6.cell? ⟨bq, 3, none⟩ = some (.string to_) := cell_at HXQ.out 3 _ rfl
                go_wp2_with fail
                go_roundg (lines.length - (k + 1))
                case measure => have := HG.out; omega
                case rel => exact ⟨k + 1, kk, so, fo, uo, to_, by omega, Lib.hid rfl, by go_num, by go_num, HLN2, HST2, Lib.hid (HV6.out.store (s2 := ⟨so, fo, uo, to_⟩) HTQ.out.1 HTQ.out.2.1 HTQ.out.2.2), Lib.hid (set4 HB6.out hwb _ _ _ _)⟩
          · have hki : ¬ (k : Int) < (lines.length : Int) := by omega
            obtain rfl : k = lines.length := by omega
            have hke : kk = lsx.length := by have e := congrArg List.length HLE.out; rw [List.length_map] at e; have := HLN.out; rw [List.take_length] at this; omega
            have hkq : ((kk : Int) == (lsx.length : Int)) = true := by rw [hke]; simp
            clear hke
            go_wp2_with fail
            go_ret
            exact ⟨rfl, FB.out _ (HKb.out.trans (HB.out.mono HKb.out.size))⟩
  · have hbi : (1048576 : Int) < (len : Int) := by omega
    go_enter Tryz.func3, Tryz.ntmps3
    go_wp2_with fail
    go_ret
    exact ⟨rfl, Below.refl _ _⟩
end Go.Proofs.YtnbggmmghopphaaGreatDoor
