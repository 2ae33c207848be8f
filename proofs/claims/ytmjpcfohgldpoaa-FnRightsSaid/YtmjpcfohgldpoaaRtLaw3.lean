/- FnRightsText, FnRights: the walks. -/
import Derived.Test.YtmjpcfohgldpoaaRtDraw
namespace Go.Proofs.Ytmjpcfohgldpoaa
set_option linter.unusedVariables false
open Go.RowKit

theorem count_done (n j : Nat) (hn : n < 64) (hj : j ≤ 6) (h : n / Rt.pw j = 0) : (Rt.textTo n 6).length = (Rt.textTo n j).length := by
  have hstep : ∀ i, j ≤ i → (Rt.textTo n (i + 1)).length = (Rt.textTo n i).length := by
    intro i hi
    have hlt : n < Rt.pw j := by
      have := Rt.pw_pos j
      rcases Nat.lt_or_ge n (Rt.pw j) with h' | h'
      · exact h'
      · have := Nat.div_pos h' this; omega
    have hle : Rt.pw j ≤ Rt.pw i := Nat.pow_le_pow_right (by omega) hi
    have hb : Rt.hasB n i = false := by
      unfold Rt.hasB
      rw [Nat.div_eq_of_lt (by omega)]; rfl
    rw [Rt.textTo_succ, hb]; simp
  have hall : ∀ d, j + d ≤ 6 → (Rt.textTo n (j + d)).length = (Rt.textTo n j).length := by
    intro d
    induction d with
    | zero => intro _; rfl
    | succ d ih => intro hd; rw [← Nat.add_assoc, hstep (j + d) (by omega), ih (by omega)]
  have := hall (6 - j) (by omega)
  rwa [show j + (6 - j) = 6 from by omega] at this
theorem count_step (n j : Nat) : (((Rt.textTo n j).length : Nat) : Int) + ((n / Rt.pw j % 2 : Nat) : Int) = ((Rt.textTo n (j + 1)).length : Nat) := by
  rw [Rt.textTo_succ]
  unfold Rt.hasB
  rcases Nat.mod_two_eq_zero_or_one (n / Rt.pw j) with h | h <;> rw [h] <;> simp
theorem pw_succ (j : Nat) : Rt.pw (j + 1) = Rt.pw j * 2 := Nat.pow_succ ..

set_option maxHeartbeats 800000 in
theorem walkFnRightsText (a : Option Addr) (len cap : Nat) (w : World) (h : Bytes w a len cap) :
    Calls Try.prog 5 #[.slice a len cap] w fun e w' => e = .returned (.bool true) ∧ Below w.heap.size w w' := by
  by_cases hbig : len ≤ 1048576
  · go_enter Try.func5, Try.ntmps5
    go_wp2_with fail
    refine (drawRightsText_any a len cap _ h).mono ?_
    rintro e w1 ⟨r, hr, rfl, hb1⟩
    obtain ⟨hr1, hr2⟩ := hr
    go_wp2_with fail
    refine (iRightsText_any r _).mono ?_
    rintro e w2 ⟨rfl, hb2⟩
    go_wp2_with fail
    refine (sRightsText_any r _).mono ?_
    rintro e w3 ⟨rfl, hb3⟩
    have hB := hb1.trans ((hb2.trans (hb3.mono hb2.size)).mono hb1.size)
    by_cases hr0 : 0 ≤ r ∧ r ≤ 63
    · obtain ⟨n, rfl⟩ := Int.eq_ofNat_of_zero_le hr0.1
      have HT := Lib.hid (Rt.text_of n (by omega))
      have hle := Rt.text_le (n : Int)
      have hn : n < 64 := by omega
      clear hr0 hr1
      go_wp2_with fail
      go_loop [6, 7] (fun m k => ∃ j q : Nat, j ≤ 6 ∧ q < 64 ∧ Hid (n / Rt.pw j = q) ∧ k = .int .i64 (q : Int) ∧ m = .int .i64 ((Rt.textTo n j).length : Nat)) (fun _ k => (intOf k).toNat)
      case atStart => exact ⟨0, n, by omega, hn, Lib.hid (by simp [Rt.pw]), rfl, rfl⟩
      case round =>
        obtain ⟨j, q, hj, hq64, HQ, rfl, rfl⟩ := hrel
        have hl := Rt.textTo_le n j
        by_cases hq : 0 < q
        · have hj6 : j < 6 := by
            rcases Nat.lt_or_ge j 6 with h' | h'
            · exact h'
            · have e : j = 6 := by omega
              have := HQ.out
              rw [e] at this
              have e64 : Rt.pw 6 = 64 := rfl
              rw [e64, Nat.div_eq_of_lt (by omega)] at this
              omega
          have HC := Lib.hid (count_step n j)
          go_wp2_with fail
          go_round
          case rel =>
            refine ⟨j + 1, q / 2, by omega, by omega, Lib.hid ?_, by go_num, ?_⟩
            · rw [pw_succ, ← Nat.div_div_eq_div_mul, HQ.out]
            · rw [← HC.out, HQ.out]; simp
          case measure => simp [intOf]; omega
        · have hq0 : q = 0 := by omega
          have HL := Lib.hid (count_done n j hn hj (by rw [HQ.out, hq0]))
          subst hq0
          go_wp2_with fail
          go_ret
          refine ⟨?_, hB⟩
          rw [HT.out, HL.out]; simp
    · have HT := Lib.hid (Rt.text_bad r hr0)
      go_wp2_with fail
      go_loop [6, 7] (fun m k => k = .int .i64 r ∧ m = .int .i64 0) (fun _ k => (intOf k).toNat)
      case atStart => exact ⟨rfl, rfl⟩
      case round =>
        obtain ⟨rfl, rfl⟩ := hrel
        have hrr : r = -1 ∨ r = 64 := by omega
        clear hr0 hr1 hr2
        rcases hrr with rfl | rfl
        · go_wp2_with fail
          go_ret
          exact ⟨by rw [HT.out]; simp, hB⟩
        · go_wp2_with fail
          go_ret
          exact ⟨by rw [HT.out]; simp, hB⟩
  · go_enter Try.func5, Try.ntmps5
    go_wp2
    go_ret
    exact ⟨rfl, Below.refl _ _⟩

theorem rParse_text (n : Nat) (hn : n < 64) : Rt.parse 0 (Rt.text (n : Int)) = some n := by
  have h : ∀ n, n < 64 → Rt.parse 0 (Rt.textTo n 6) = some n := by decide +kernel
  rw [Rt.text_of n hn, h n hn]

set_option maxHeartbeats 800000 in
theorem walkFnRights (a : Option Addr) (len cap : Nat) (w : World) (h : Bytes w a len cap) :
    Calls Try.prog 9 #[.slice a len cap] w fun e w' => e = .returned (.bool true) ∧ Below w.heap.size w w' := by
  by_cases hbig : len ≤ 1048576
  · go_enter Try.func9, Try.ntmps9
    go_wp2_with fail
    refine (drawRightsText_any a len cap _ h).mono ?_
    rintro e w1 ⟨r, hr, rfl, hb1⟩
    obtain ⟨hr1, hr2⟩ := hr
    go_wp2_with fail
    refine (iRightsText_any r _).mono ?_
    rintro e w2 ⟨rfl, hb2⟩
    go_wp2_with fail
    refine (sRightsText_any r _).mono ?_
    rintro e w3 ⟨rfl, hb3⟩
    have hB := hb1.trans ((hb2.trans (hb3.mono hb2.size)).mono hb1.size)
    by_cases hr0 : 0 ≤ r ∧ r ≤ 63
    · obtain ⟨n, rfl⟩ := Int.eq_ofNat_of_zero_le hr0.1
      have HP := Lib.hid (rParse_text n (by omega))
      have hle := Rt.text_le (n : Int)
      have hn : n < 64 := by omega
      clear hr0 hr1
      go_wp2_with fail
      refine (iRightsParse_any _ _ (by rw [str_size]; omega)).mono ?_
      rintro e w4 ⟨rfl, hb4⟩
      rw [HP.out]
      go_wp2_with fail
      go_ret
      exact ⟨by simp, hB.trans (hb4.mono hB.size)⟩
    · have hrr : r = -1 ∨ r = 64 := by omega
      clear hr0 hr1 hr2
      rcases hrr with rfl | rfl
      · go_wp2_with fail
        go_ret
        exact ⟨by simp, hB⟩
      · go_wp2_with fail
        go_ret
        exact ⟨by simp, hB⟩
  · go_enter Try.func9, Try.ntmps9
    go_wp2
    go_ret
    exact ⟨rfl, Below.refl _ _⟩

end Go.Proofs.Ytmjpcfohgldpoaa
