/- impl.RightsText. -/
import Derived.Test.YtmjpcfohgldpoaaRtText
namespace Go.Proofs.Ytmjpcfohgldpoaa
set_option linter.unusedVariables false
open Go.RowKit

theorem and_wrap {o : Nat} (ho : o < 64) {k : Nat} (hk : k < 6) : (bits BinOp.and IntKind.i64 ((o : Nat) : Int) (wrap64 (2 ^ k)) != 0) = Rt.hasB o k := by
  have h : ∀ k, k < 6 → wrap64 (2 ^ k) = ((2 ^ k : Nat) : Int) := by decide +kernel
  rw [h k hk, and_tab o ho k hk]; rfl

set_option maxHeartbeats 1600000 in
theorem iRightsText_any (r : Int) (w : World) :
    Calls Try.prog 18 #[.int .i64 r] w fun e w' => e = .returned (str (Rt.text r)) ∧ Below w.heap.size w w' := by
  by_cases hr : 0 ≤ r ∧ r ≤ 63
  · obtain ⟨n, rfl⟩ := Int.eq_ofNat_of_zero_le hr.1
    have hn : n < 64 := by omega
    go_enter Try.func18, Try.ntmps18
    go_wp2_with (go_at_call 38; refine (rightsValid_yes _ _ hr).mono ?_; rintro e w' ⟨rfl, rfl⟩)
    go_loopw [8] (fun i wr => ∃ k : Nat, k ≤ 6 ∧ i = .int .i64 k ∧ Lib.IsBuilder 57 5 w.heap.size w.heap.size (Lib.byteCells (Rt.textTo n k)) wr ∧ Below w.heap.size w wr) (fun i _ => 6 - (intOf i).toNat)
    case atStart => exact ⟨0, Nat.zero_le _, rfl, Lib.fresh_isBuilder _ _ w, by go_grown⟩
    case round =>
      obtain ⟨k, hk, rfl, hB, hb⟩ := hrel
      by_cases hlt : k < 6
      · have hl := Rt.textTo_le n k
        have ht := and_wrap hn hlt
        have hle := letters_at k hlt (by simpa [ByteArray.size] using hlt)
        cases hq : Rt.hasB n k
        · have HQ := Lib.hid hq
          rw [hq] at ht
          clear hq hle
          go_wp2_with fail
          refine ⟨⟨k + 1, by omega, by go_num, ?_, hb⟩, by simp [intOf]; omega⟩
          rw [Rt.textTo_succ, HQ.out]; simpa using hB
        · have HQ := Lib.hid hq
          rw [hq] at ht
          clear hq
          go_wp2_with fail
          refine (writeByte_any _ _ _ _ _ hB (by simp [Lib.byteCells]; omega) hb.size).mono ?_
          rintro e w1 ⟨rfl, hB1, hb1⟩
          go_wp2_with fail
          refine ⟨⟨k + 1, by omega, by go_num, ?_, hb.trans hb1⟩, by simp [intOf]; omega⟩
          rw [Rt.textTo_succ, HQ.out]
          refine .inr ?_
          simpa [Lib.byteCells] using hB1
      · obtain rfl : k = 6 := by omega
        go_wp2_with (go_at_call 40; refine (Try.Builder_String_any _ _ _ _ hB hb.size).mono ?_; rintro e w' ⟨rfl, hb1⟩)
        go_ret
        exact ⟨by rw [Rt.text_of n hn]; rfl, hb.trans hb1⟩
  · have HT := Lib.hid (Rt.text_bad r hr)
    go_enter Try.func18, Try.ntmps18
    go_wp2_with (go_at_call 38; refine (rightsValid_no _ _ hr).mono ?_; rintro e w' ⟨rfl, rfl⟩)
    go_ret
    exact ⟨by rw [HT.out]; rfl, Below.refl _ _⟩

end Go.Proofs.Ytmjpcfohgldpoaa
