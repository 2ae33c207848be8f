/- The walks over the rights' functions. -/
import Derived.Test.YtmjpcfohgldpoaaProg
import Derived.Test.YtmjpcfohgldpoaaRtPlain
import Derived.WalkKit
import Derived.WalkSpells
import Derived.WalkLawsBesides
import Derived.Handy
import Derived.Deep.QuietTactic
import Derived.BigQuiet
import Derived.Lib.Hide
namespace Go.Proofs.Ytmjpcfohgldpoaa
set_option linter.unusedVariables false
open Go.RowKit

set_option maxHeartbeats 400000 in
theorem l13Bit_any (k : Nat) (hk : k < 6) (w : World) :
    Calls Try.prog 35 #[.int .i64 (k : Int)] w fun e w' => e = .returned (.int .i64 ((2 ^ k : Nat) : Int)) ∧ Below w.heap.size w w' := by
  have h : k = 0 ∨ k = 1 ∨ k = 2 ∨ k = 3 ∨ k = 4 ∨ k = 5 := by omega
  rcases h with rfl | rfl | rfl | rfl | rfl | rfl
  all_goals
    go_enter Try.func35, Try.ntmps35
    go_wp2
    go_ret
    exact ⟨rfl, by go_grown⟩

theorem below_drewN {B : Nat} {a w : World} (h : Below B a w) (n : Nat) : Below B a (w.drewN n) := ⟨h.os, h.tape, h.output, h.size, h.block⟩

theorem drop_all {s : ByteArray} {k : Nat} (h : ¬ k < s.size) : s.data.toList.drop k = [] := by
  apply List.drop_of_length_le
  have : s.data.toList.length = s.size := by rw [Array.length_toList]; rfl
  omega
theorem letters_at (m : Nat) (hm : m < 6) (h : m < (ByteArray.mk #[108, 114, 119, 105, 101, 97]).size) : (ByteArray.mk #[108, 114, 119, 105, 101, 97])[m] = Rt.letter m := by
  have h : m = 0 ∨ m = 1 ∨ m = 2 ∨ m = 3 ∨ m = 4 ∨ m = 5 := by omega
  rcases h with rfl | rfl | rfl | rfl | rfl | rfl <;> rfl
theorem byte_eql (a b : UInt8) : (((a.toNat : Int)) == (b.toNat : Int)) = decide (a = b) := by
  by_cases h : a = b
  · simp [h]
  · have : ¬ ((a.toNat : Int) = (b.toNat : Int)) := by
      intro e; exact h (UInt8.toNat_inj.mp (by omega))
    simp [h, this]
theorem letter_test (m : Nat) (hm : m < 6) (h : m < (ByteArray.mk #[108, 114, 119, 105, 101, 97]).size) (c : UInt8) :
    ((((ByteArray.mk #[108, 114, 119, 105, 101, 97])[m].toNat : Int)) == (c.toNat : Int)) = decide (Rt.letter m = c) := by
  rw [letters_at m hm h, byte_eql]

theorem quo_test (o b : Nat) (hb : 0 < b) (ho : o < 64) : ((wrap64 ((o : Int) / (b : Int))).tmod 2 == 1) = (o / b % 2 == 1) := by
  have h1 : o / b ≤ o := Nat.div_le_self _ _
  rw [← Int.natCast_ediv]
  generalize o / b = q at h1
  have h2 : wrap64 ((q : Nat) : Int) = (q : Int) := by unfold wrap64; omega
  rw [h2, Bool.eq_iff_iff, Int.tmod_eq_emod_of_nonneg (by omega)]
  simp only [beq_iff_eq]
  omega

set_option maxHeartbeats 1600000 in
theorem sRightsParse_any (s : ByteArray) (w : World) (hs : s.size ≤ 2097152) :
    Calls Try.prog 15 #[.string s] w fun e w' => e = .returned (.tuple #[.int .i64 ((Rt.parse 0 s.data.toList).getD 0 : Nat), .bool (Rt.parse 0 s.data.toList).isSome]) ∧ Below w.heap.size w w' := by
  go_enter Try.func15, Try.ntmps15
  go_wp2_with fail
  go_loopw [4, 5] (fun o i wr => ∃ k out : Nat, k ≤ s.size ∧ out < 64 ∧ i = .int .i64 k ∧ o = .int .i64 out ∧ Rt.parse 0 s.data.toList = Rt.parse out (s.data.toList.drop k) ∧ Below w.heap.size w wr) (fun _ i _ => s.size - (intOf i).toNat)
  case atStart => exact ⟨0, 0, Nat.zero_le _, by omega, rfl, rfl, by simp, Below.refl _ _⟩
  case round =>
    obtain ⟨k, out, hk, ho, rfl, rfl, hp, hb⟩ := hrel
    have HP := Lib.hid hp
    clear hp
    by_cases hlt : k < s.size
    · have HS : Hid (Rt.parse out (s.data.toList.drop k) = if Rt.okB out s[k] = true then Rt.parse (out + Rt.bit s[k]) (s.data.toList.drop (k + 1)) else none) := Lib.hid (Rt.parse_step (by simpa using hlt))
      obtain ⟨wo, rfl⟩ : ∃ wo : World, wo = wr := ⟨_, rfl⟩
      go_wp2_with fail
      go_loopw [6, 7] (fun b j wr => ∃ m : Nat, m ≤ 6 ∧ j = .int .i64 m ∧ b = .int .i64 (Rt.bitTo s[k] m : Nat) ∧ Below w.heap.size w wr) (fun _ j _ => 6 - (intOf j).toNat)
      case atStart => exact ⟨0, by omega, rfl, rfl, hb⟩
      case round =>
        obtain ⟨m, hm, rfl, rfl, hb1⟩ := hrel
        have HB := Lib.hid (Rt.bitTo_succ s[k] m)
        by_cases hm6 : m < 6
        · have ht := letter_test m hm6 (by simpa [ByteArray.size] using hm6) s[k]
          by_cases hc : Rt.letter m = s[k]
          · have ht' : ((((ByteArray.mk #[108, 114, 119, 105, 101, 97])[m]'(by simpa [ByteArray.size] using hm6)).toNat : Int) == (s[k].toNat : Int)) = true := by rw [ht]; simp [hc]
            have HC := Lib.hid hc
            clear ht hc
            go_wp2_with fail
            go_quiet (fail)
            go_wp2_with (go_at_call 35; refine (l13Bit_any _ hm6 _).mono ?_; rintro e w' ⟨rfl, hb2⟩)
            go_roundw
            case rel => exact ⟨m + 1, by omega, by go_num, by rw [HB.out, if_pos HC.out]; simp, (below_drewN hb1 _).trans (hb2.mono hb1.size)⟩
            case measure => simp [intOf]; omega
          · have ht' : ((((ByteArray.mk #[108, 114, 119, 105, 101, 97])[m]'(by simpa [ByteArray.size] using hm6)).toNat : Int) == (s[k].toNat : Int)) = false := by rw [ht]; simp [hc]
            have HC := Lib.hid hc
            clear ht hc
            go_wp2_with fail
            go_quiet (fail)
            go_wp2_with fail
            refine ⟨⟨m + 1, by omega, by go_num, by rw [HB.out, if_neg HC.out], below_drewN hb1 _⟩, ?_⟩
            simp [intOf]; omega
        · obtain rfl : m = 6 := by omega
          clear HB
          have hbl := Rt.bit_le s[k]
          have e0 : Rt.bitTo s[k] 6 = Rt.bit s[k] := rfl
          rw [e0]
          cases hok : Rt.okB out s[k]
          · have HO := Lib.hid hok
            have hf := Rt.okB_false hok
            clear hok
            have hfin : Rt.parse 0 s.data.toList = none := by
              rw [HP.out, HS.out]
              exact if_neg (by rw [HO.out]; decide)
            have HF := Lib.hid hfin
            clear hfin
            rcases hf with h0 | ⟨h0, h1⟩
            · have hz : (((Rt.bit s[k] : Nat) : Int) == 0) = true := by simp [h0]
              clear h0
              go_wp2_with fail
              go_ret2
              exact ⟨by rw [HF.out]; rfl, hb1⟩
            · have hz : (((Rt.bit s[k] : Nat) : Int) == 0) = false := by simp; omega
              have hq := quo_test out _ h0 ho
              rw [h1] at hq
              clear h1
              go_wp2_with fail
              go_ret2
              exact ⟨by rw [HF.out]; rfl, hb1⟩
          · have HO := Lib.hid hok
            obtain ⟨h0, h1, h2⟩ := Rt.okB_lt ho hok
            clear hok
            have hz : (((Rt.bit s[k] : Nat) : Int) == 0) = false := by simp; omega
            have hq := quo_test out _ h0 ho
            rw [h2] at hq
            clear h2
            go_wp2_with fail
            refine ⟨⟨k + 1, out + Rt.bit s[k], by omega, by omega, by go_num, by go_num, ?_, hb1⟩, by simp [intOf]; omega⟩
            rw [HP.out, HS.out]
            exact if_pos HO.out
    · have hfin : Rt.parse 0 s.data.toList = some out := by
        rw [HP.out, drop_all hlt]
        rfl
      have HF := Lib.hid hfin
      clear hfin
      go_wp2_with fail
      go_ret2
      exact ⟨by rw [HF.out]; rfl, hb⟩

end Go.Proofs.Ytmjpcfohgldpoaa
