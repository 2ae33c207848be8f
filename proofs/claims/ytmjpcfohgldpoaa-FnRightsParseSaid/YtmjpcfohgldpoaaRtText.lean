/- The walks over RightsText, the reference's and the program's. -/
import Derived.Test.YtmjpcfohgldpoaaRtWalks
import Derived.Test.YtmjpcfohgldpoaaRtImpl
import Derived.Test.YtmjpcfohgldpoaaBld
import Derived.Lib.IndexBytes
namespace Go.Proofs.Ytmjpcfohgldpoaa
set_option linter.unusedVariables false
open Go.RowKit

/-- lo ≤ n ≤ hi -/
def inB (n lo hi : Int) : Bool := decide (lo ≤ n) && decide (n ≤ hi)
theorem inB_iff {n lo hi : Int} : inB n lo hi = true ↔ lo ≤ n ∧ n ≤ hi := by unfold inB; simp
theorem inB_no {n lo hi : Int} : inB n lo hi = false ↔ ¬ (lo ≤ n ∧ n ≤ hi) := by rw [← inB_iff]; simp
set_option maxHeartbeats 400000 in
theorem l6In_any (n lo hi : Int) (w : World) :
    Calls Try.prog 48 #[.int .i64 n, .int .i64 lo, .int .i64 hi] w fun e w' => e = .returned (.bool (inB n lo hi)) ∧ w = w' := by
  by_cases h1 : lo ≤ n
  · by_cases h2 : n ≤ hi
    · go_enter Try.func48, Try.ntmps48
      go_wp2
      go_ret
      exact ⟨by rw [inB_iff.2 ⟨h1, h2⟩]; rfl, rfl⟩
    · go_enter Try.func48, Try.ntmps48
      go_wp2
      go_ret
      exact ⟨by rw [inB_no.2 (by omega)]; rfl, rfl⟩
  · go_enter Try.func48, Try.ntmps48
    go_wp2
    go_ret
    exact ⟨by rw [inB_no.2 (by omega)]; rfl, rfl⟩

set_option maxHeartbeats 400000 in
theorem l13Rights_any (n : Int) (w : World) :
    Calls Try.prog 37 #[.int .i64 n] w fun e w' => e = .returned (.bool (inB n 0 63)) ∧ w = w' := by
  go_enter Try.func37, Try.ntmps37
  go_wp2_with (go_at_call 48; refine (l6In_any _ _ _ _).mono ?_; rintro e w' ⟨rfl, rfl⟩)
  go_ret
  exact ⟨rfl, rfl⟩
theorem l13Rights_yes (n : Int) (w : World) (h : 0 ≤ n ∧ n ≤ 63) :
    Calls Try.prog 37 #[.int .i64 n] w fun e w' => e = .returned (.bool true) ∧ w = w' :=
  (l13Rights_any n w).mono fun e w' ⟨he, hw⟩ => ⟨by rw [he, inB_iff.2 h], hw⟩
theorem l13Rights_no (n : Int) (w : World) (h : ¬ (0 ≤ n ∧ n ≤ 63)) :
    Calls Try.prog 37 #[.int .i64 n] w fun e w' => e = .returned (.bool false) ∧ w = w' :=
  (l13Rights_any n w).mono fun e w' ⟨he, hw⟩ => ⟨by rw [he, inB_no.2 h], hw⟩
theorem l13Bit_pw (k : Nat) (hk : k < 6) (w : World) :
    Calls Try.prog 35 #[.int .i64 (k : Int)] w fun e w' => e = .returned (.int .i64 (Rt.pw k : Nat)) ∧ Below w.heap.size w w' := l13Bit_any k hk w
set_option maxHeartbeats 400000 in
theorem rightsValid_any (n : Int) (w : World) :
    Calls Try.prog 38 #[.int .i64 n] w fun e w' => e = .returned (.bool (inB n 0 63)) ∧ w = w' := by
  by_cases h1 : 0 ≤ n
  · by_cases h2 : n ≤ 63
    · go_enter Try.func38, Try.ntmps38
      go_wp2
      go_ret
      exact ⟨by rw [inB_iff.2 ⟨h1, h2⟩]; rfl, rfl⟩
    · go_enter Try.func38, Try.ntmps38
      go_wp2
      go_ret
      exact ⟨by rw [inB_no.2 (by omega)]; rfl, rfl⟩
  · go_enter Try.func38, Try.ntmps38
    go_wp2
    go_ret
    exact ⟨by rw [inB_no.2 (by omega)]; rfl, rfl⟩
theorem rightsValid_yes (n : Int) (w : World) (h : 0 ≤ n ∧ n ≤ 63) :
    Calls Try.prog 38 #[.int .i64 n] w fun e w' => e = .returned (.bool true) ∧ w = w' :=
  (rightsValid_any n w).mono fun e w' ⟨he, hw⟩ => ⟨by rw [he, inB_iff.2 h], hw⟩
theorem rightsValid_no (n : Int) (w : World) (h : ¬ (0 ≤ n ∧ n ≤ 63)) :
    Calls Try.prog 38 #[.int .i64 n] w fun e w' => e = .returned (.bool false) ∧ w = w' :=
  (rightsValid_any n w).mono fun e w' ⟨he, hw⟩ => ⟨by rw [he, inB_no.2 h], hw⟩

/-- a string of a list of bytes -/
abbrev str (l : List UInt8) : Value := .string ⟨l.toArray⟩
theorem ext_letter (k : Nat) (hk : k < 6) : (ByteArray.mk #[108, 114, 119, 105, 101, 97]).extract k (k + 1) = ⟨#[Rt.letter k]⟩ := by
  have h : k = 0 ∨ k = 1 ∨ k = 2 ∨ k = 3 ∨ k = 4 ∨ k = 5 := by omega
  rcases h with rfl | rfl | rfl | rfl | rfl | rfl <;> rfl
theorem bytes_append (a b : List UInt8) : (ByteArray.mk a.toArray) ++ (ByteArray.mk b.toArray) = ByteArray.mk (a ++ b).toArray := by
  apply ByteArray.ext
  simp
theorem str_size (l : List UInt8) : (ByteArray.mk l.toArray).size = l.length := by simp [ByteArray.size]

set_option maxHeartbeats 1600000 in
theorem sRightsText_any (r : Int) (w : World) :
    Calls Try.prog 17 #[.int .i64 r] w fun e w' => e = .returned (str (Rt.text r)) ∧ Below w.heap.size w w' := by
  by_cases hr : 0 ≤ r ∧ r ≤ 63
  · obtain ⟨n, rfl⟩ := Int.eq_ofNat_of_zero_le hr.1
    have hn : n < 64 := by omega
    go_enter Try.func17, Try.ntmps17
    go_wp2_with fail
    go_loopw [3, 4] (fun o i wr => ∃ k : Nat, k ≤ 6 ∧ i = .int .i64 k ∧ o = str (Rt.textTo n k) ∧ Below w.heap.size w wr) (fun _ i _ => 6 - (intOf i).toNat)
    case atStart => exact ⟨0, Nat.zero_le _, rfl, rfl, Below.refl _ _⟩
    case round =>
      obtain ⟨k, hk, rfl, rfl, hb⟩ := hrel
      by_cases hlt : k < 6
      · have hp := Rt.pw_le hlt
        have hq := quo_test n (Rt.pw k) (Rt.pw_pos k) hn
        have hp0 := Rt.pw_pos k
        have hl := Rt.textTo_le n k
        cases hB : Rt.hasB n k
        · have HB := Lib.hid hB
          unfold Rt.hasB at hB
          rw [hB] at hq
          clear hB
          go_wp2_with (first | (go_at_call 37; refine (l13Rights_yes _ _ hr).mono ?_; rintro e w' ⟨rfl, rfl⟩) | (go_at_call 35; refine (l13Bit_pw _ hlt _).mono ?_; rintro e w1 ⟨rfl, hb1⟩))
          refine ⟨⟨k + 1, by omega, by go_num, ?_, hb.trans (hb1.mono hb.size)⟩, by simp [intOf]; omega⟩
          rw [Rt.textTo_succ, HB.out]; simp
        · have HB := Lib.hid hB
          unfold Rt.hasB at hB
          rw [hB] at hq
          clear hB
          go_wp2_with (first | (go_at_call 37; refine (l13Rights_yes _ _ hr).mono ?_; rintro e w' ⟨rfl, rfl⟩) | (go_at_call 35; refine (l13Bit_pw _ hlt _).mono ?_; rintro e w1 ⟨rfl, hb1⟩))
          refine ⟨⟨k + 1, by omega, by go_num, ?_, hb.trans (hb1.mono hb.size)⟩, by simp [intOf]; omega⟩
          rw [Rt.textTo_succ, HB.out, ext_letter k hlt, if_pos rfl]
          exact congrArg Value.string (bytes_append _ [Rt.letter k])
      · obtain rfl : k = 6 := by omega
        go_wp2_with fail
        go_ret
        exact ⟨by rw [Rt.text_of n hn]; rfl, hb⟩
  · have HT := Lib.hid (Rt.text_bad r hr)
    go_enter Try.func17, Try.ntmps17
    go_wp2_with fail
    go_loopw [3, 4] (fun o i wr => i = .int .i64 0 ∧ o = str [] ∧ wr = w) (fun _ i _ => 6 - (intOf i).toNat)
    case atStart => exact ⟨rfl, rfl, rfl⟩
    case round =>
      obtain ⟨rfl, rfl, rfl⟩ := hrel
      go_wp2_with (go_at_call 37; refine (l13Rights_no _ _ hr).mono ?_; rintro e w' ⟨rfl, rfl⟩)
      go_ret
      exact ⟨by rw [HT.out]; rfl, Below.refl _ _⟩

end Go.Proofs.Ytmjpcfohgldpoaa
