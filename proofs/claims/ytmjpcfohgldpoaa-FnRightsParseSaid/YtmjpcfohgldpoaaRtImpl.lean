/- The walks over the program's own functions on rights. -/
import Derived.Test.YtmjpcfohgldpoaaRtWalks
import Derived.Test.YtmjpcfohgldpoaaShelf
namespace Go.Proofs.Ytmjpcfohgldpoaa
set_option linter.unusedVariables false
open Go.RowKit

theorem idx_letter (c : UInt8) : (∃ k : Nat, k < 6 ∧ Rt.bit c = 2 ^ k ∧ Lib.indexByte [108, 114, 119, 105, 101, 97] c = (k : Int)) ∨ (Rt.bit c = 0 ∧ Lib.indexByte [108, 114, 119, 105, 101, 97] c = -1) := by
  unfold Rt.bit
  by_cases h0 : c = 108
  · subst h0; exact .inl ⟨0, by omega, by decide, by decide⟩
  by_cases h1 : c = 114
  · subst h1; exact .inl ⟨1, by omega, by decide, by decide⟩
  by_cases h2 : c = 119
  · subst h2; exact .inl ⟨2, by omega, by decide, by decide⟩
  by_cases h3 : c = 105
  · subst h3; exact .inl ⟨3, by omega, by decide, by decide⟩
  by_cases h4 : c = 101
  · subst h4; exact .inl ⟨4, by omega, by decide, by decide⟩
  by_cases h5 : c = 97
  · subst h5; exact .inl ⟨5, by omega, by decide, by decide⟩
  refine .inr ⟨?_, ?_⟩
  · simp [Rt.bitTo, Rt.letter, Ne.symm h0, Ne.symm h1, Ne.symm h2, Ne.symm h3, Ne.symm h4, Ne.symm h5]
  · simp [Lib.indexByte, Ne.symm h0, Ne.symm h1, Ne.symm h2, Ne.symm h3, Ne.symm h4, Ne.symm h5]

theorem and_tab : ∀ o, o < 64 → ∀ j, j < 6 → (bits BinOp.and IntKind.i64 ((o : Nat) : Int) ((2 ^ j : Nat) : Int) != 0) = (o / 2 ^ j % 2 == 1) := by decide +kernel
theorem or_tab : ∀ o, o < 64 → ∀ j, j < 6 → o / 2 ^ j % 2 = 0 → bits BinOp.or IntKind.i64 ((o : Nat) : Int) ((2 ^ j : Nat) : Int) = ((o + 2 ^ j : Nat) : Int) := by decide +kernel
theorem okB_pow {o j : Nat} {c : UInt8} (h : Rt.bit c = 2 ^ j) : Rt.okB o c = !(o / 2 ^ j % 2 == 1) := by
  unfold Rt.okB
  rw [h]
  have : (2 ^ j == 0) = false := by
    have := Nat.two_pow_pos j
    simp
  rw [this]; simp

theorem toU8 (c : UInt8) : ((c.toNat : Int)).toNat.toUInt8 = c := by simp
theorem idx_calls (c : UInt8) (j : Int) (h : Lib.indexByte [108, 114, 119, 105, 101, 97] c = j) (w : World) :
    Calls Try.prog 36 #[.string ⟨#[108, 114, 119, 105, 101, 97]⟩, .int .u8 (c.toNat : Int)] w fun e w' => e = .returned (.int .i64 j) ∧ w = w' :=
  (Try.strings_IndexByte _ _ _).mono fun e w' ⟨he, hw⟩ => ⟨by rw [he, toU8, h], hw.symm⟩

set_option maxHeartbeats 1600000 in
theorem iRightsParse_any (s : ByteArray) (w : World) (hs : s.size ≤ 2097152) :
    Calls Try.prog 16 #[.string s] w fun e w' => e = .returned (.tuple #[.int .i64 ((Rt.parse 0 s.data.toList).getD 0 : Nat), .bool (Rt.parse 0 s.data.toList).isSome]) ∧ Below w.heap.size w w' := by
  go_enter Try.func16, Try.ntmps16
  go_wp2_with fail
  go_loopw [4, 9] (fun o i wr => ∃ k out : Nat, k ≤ s.size ∧ out < 64 ∧ i = .int .i64 k ∧ o = .int .i64 out ∧ Rt.parse 0 s.data.toList = Rt.parse out (s.data.toList.drop k) ∧ Below w.heap.size w wr) (fun _ i _ => s.size - (intOf i).toNat)
  case atStart => exact ⟨0, 0, Nat.zero_le _, by omega, rfl, rfl, by simp, Below.refl _ _⟩
  case round =>
    obtain ⟨k, out, hk, ho, rfl, rfl, hp, hb⟩ := hrel
    have HP := Lib.hid hp
    clear hp
    by_cases hlt : k < s.size
    · have HS : Hid (Rt.parse out (s.data.toList.drop k) = if Rt.okB out s[k] = true then Rt.parse (out + Rt.bit s[k]) (s.data.toList.drop (k + 1)) else none) := Lib.hid (Rt.parse_step (by simpa using hlt))
      rcases idx_letter s[k] with ⟨j, hj, hbit, hidx⟩ | ⟨hbit, hidx⟩
      · have HI := Lib.hid hidx
        have HB := Lib.hid hbit
        clear hidx hbit
        obtain rfl | rfl | rfl | rfl | rfl | rfl : j = 0 ∨ j = 1 ∨ j = 2 ∨ j = 3 ∨ j = 4 ∨ j = 5 := by omega
        · have hand : (bits BinOp.and IntKind.i64 (out : Int) 1 != 0) = (out / 2 ^ 0 % 2 == 1) := and_tab out ho 0 (by omega)
          cases hq : (out / 2 ^ 0 % 2 == 1)
          · have hor : bits BinOp.or IntKind.i64 (out : Int) 1 = ((out + 2 ^ 0 : Nat) : Int) := or_tab out ho 0 (by omega) (by have := beq_eq_false_iff_ne.1 hq; omega)
            have hlt' : out + 2 ^ 0 < 64 := Rt.add_lt out ho 0 (by omega) (by have := beq_eq_false_iff_ne.1 hq; omega)
            have HO : Hid (Rt.okB out s[k] = true) := Lib.hid (by rw [okB_pow HB.out, hq]; rfl)
            have HOR := Lib.hid hor
            rw [hq] at hand
            clear hq hor
            go_wp2_with (go_at_call 36; refine (idx_calls _ _ HI.out _).mono ?_; rintro e w' ⟨rfl, rfl⟩)
            refine ⟨⟨k + 1, out + 2 ^ 0, by omega, hlt', by go_num, by rw [HOR.out], ?_, hb⟩, by simp [intOf]; omega⟩
            rw [HP.out, HS.out, if_pos HO.out, HB.out]
          · have HO : Hid (Rt.okB out s[k] = false) := Lib.hid (by rw [okB_pow HB.out, hq]; rfl)
            rw [hq] at hand
            clear hq
            go_wp2_with (go_at_call 36; refine (idx_calls _ _ HI.out _).mono ?_; rintro e w' ⟨rfl, rfl⟩)
            go_ret2
            exact ⟨by rw [HP.out, HS.out, if_neg (by rw [HO.out]; decide)]; rfl, hb⟩
        · have hand : (bits BinOp.and IntKind.i64 (out : Int) 2 != 0) = (out / 2 ^ 1 % 2 == 1) := and_tab out ho 1 (by omega)
          cases hq : (out / 2 ^ 1 % 2 == 1)
          · have hor : bits BinOp.or IntKind.i64 (out : Int) 2 = ((out + 2 ^ 1 : Nat) : Int) := or_tab out ho 1 (by omega) (by have := beq_eq_false_iff_ne.1 hq; omega)
            have hlt' : out + 2 ^ 1 < 64 := Rt.add_lt out ho 1 (by omega) (by have := beq_eq_false_iff_ne.1 hq; omega)
            have HO : Hid (Rt.okB out s[k] = true) := Lib.hid (by rw [okB_pow HB.out, hq]; rfl)
            have HOR := Lib.hid hor
            rw [hq] at hand
            clear hq hor
            go_wp2_with (go_at_call 36; refine (idx_calls _ _ HI.out _).mono ?_; rintro e w' ⟨rfl, rfl⟩)
            refine ⟨⟨k + 1, out + 2 ^ 1, by omega, hlt', by go_num, by rw [HOR.out], ?_, hb⟩, by simp [intOf]; omega⟩
            rw [HP.out, HS.out, if_pos HO.out, HB.out]
          · have HO : Hid (Rt.okB out s[k] = false) := Lib.hid (by rw [okB_pow HB.out, hq]; rfl)
            rw [hq] at hand
            clear hq
            go_wp2_with (go_at_call 36; refine (idx_calls _ _ HI.out _).mono ?_; rintro e w' ⟨rfl, rfl⟩)
            go_ret2
            exact ⟨by rw [HP.out, HS.out, if_neg (by rw [HO.out]; decide)]; rfl, hb⟩
        · have hand : (bits BinOp.and IntKind.i64 (out : Int) 4 != 0) = (out / 2 ^ 2 % 2 == 1) := and_tab out ho 2 (by omega)
          cases hq : (out / 2 ^ 2 % 2 == 1)
          · have hor : bits BinOp.or IntKind.i64 (out : Int) 4 = ((out + 2 ^ 2 : Nat) : Int) := or_tab out ho 2 (by omega) (by have := beq_eq_false_iff_ne.1 hq; omega)
            have hlt' : out + 2 ^ 2 < 64 := Rt.add_lt out ho 2 (by omega) (by have := beq_eq_false_iff_ne.1 hq; omega)
            have HO : Hid (Rt.okB out s[k] = true) := Lib.hid (by rw [okB_pow HB.out, hq]; rfl)
            have HOR := Lib.hid hor
            rw [hq] at hand
            clear hq hor
            go_wp2_with (go_at_call 36; refine (idx_calls _ _ HI.out _).mono ?_; rintro e w' ⟨rfl, rfl⟩)
            refine ⟨⟨k + 1, out + 2 ^ 2, by omega, hlt', by go_num, by rw [HOR.out], ?_, hb⟩, by simp [intOf]; omega⟩
            rw [HP.out, HS.out, if_pos HO.out, HB.out]
          · have HO : Hid (Rt.okB out s[k] = false) := Lib.hid (by rw [okB_pow HB.out, hq]; rfl)
            rw [hq] at hand
            clear hq
            go_wp2_with (go_at_call 36; refine (idx_calls _ _ HI.out _).mono ?_; rintro e w' ⟨rfl, rfl⟩)
            go_ret2
            exact ⟨by rw [HP.out, HS.out, if_neg (by rw [HO.out]; decide)]; rfl, hb⟩
        · have hand : (bits BinOp.and IntKind.i64 (out : Int) 8 != 0) = (out / 2 ^ 3 % 2 == 1) := and_tab out ho 3 (by omega)
          cases hq : (out / 2 ^ 3 % 2 == 1)
          · have hor : bits BinOp.or IntKind.i64 (out : Int) 8 = ((out + 2 ^ 3 : Nat) : Int) := or_tab out ho 3 (by omega) (by have := beq_eq_false_iff_ne.1 hq; omega)
            have hlt' : out + 2 ^ 3 < 64 := Rt.add_lt out ho 3 (by omega) (by have := beq_eq_false_iff_ne.1 hq; omega)
            have HO : Hid (Rt.okB out s[k] = true) := Lib.hid (by rw [okB_pow HB.out, hq]; rfl)
            have HOR := Lib.hid hor
            rw [hq] at hand
            clear hq hor
            go_wp2_with (go_at_call 36; refine (idx_calls _ _ HI.out _).mono ?_; rintro e w' ⟨rfl, rfl⟩)
            refine ⟨⟨k + 1, out + 2 ^ 3, by omega, hlt', by go_num, by rw [HOR.out], ?_, hb⟩, by simp [intOf]; omega⟩
            rw [HP.out, HS.out, if_pos HO.out, HB.out]
          · have HO : Hid (Rt.okB out s[k] = false) := Lib.hid (by rw [okB_pow HB.out, hq]; rfl)
            rw [hq] at hand
            clear hq
            go_wp2_with (go_at_call 36; refine (idx_calls _ _ HI.out _).mono ?_; rintro e w' ⟨rfl, rfl⟩)
            go_ret2
            exact ⟨by rw [HP.out, HS.out, if_neg (by rw [HO.out]; decide)]; rfl, hb⟩
        · have hand : (bits BinOp.and IntKind.i64 (out : Int) 16 != 0) = (out / 2 ^ 4 % 2 == 1) := and_tab out ho 4 (by omega)
          cases hq : (out / 2 ^ 4 % 2 == 1)
          · have hor : bits BinOp.or IntKind.i64 (out : Int) 16 = ((out + 2 ^ 4 : Nat) : Int) := or_tab out ho 4 (by omega) (by have := beq_eq_false_iff_ne.1 hq; omega)
            have hlt' : out + 2 ^ 4 < 64 := Rt.add_lt out ho 4 (by omega) (by have := beq_eq_false_iff_ne.1 hq; omega)
            have HO : Hid (Rt.okB out s[k] = true) := Lib.hid (by rw [okB_pow HB.out, hq]; rfl)
            have HOR := Lib.hid hor
            rw [hq] at hand
            clear hq hor
            go_wp2_with (go_at_call 36; refine (idx_calls _ _ HI.out _).mono ?_; rintro e w' ⟨rfl, rfl⟩)
            refine ⟨⟨k + 1, out + 2 ^ 4, by omega, hlt', by go_num, by rw [HOR.out], ?_, hb⟩, by simp [intOf]; omega⟩
            rw [HP.out, HS.out, if_pos HO.out, HB.out]
          · have HO : Hid (Rt.okB out s[k] = false) := Lib.hid (by rw [okB_pow HB.out, hq]; rfl)
            rw [hq] at hand
            clear hq
            go_wp2_with (go_at_call 36; refine (idx_calls _ _ HI.out _).mono ?_; rintro e w' ⟨rfl, rfl⟩)
            go_ret2
            exact ⟨by rw [HP.out, HS.out, if_neg (by rw [HO.out]; decide)]; rfl, hb⟩
        · have hand : (bits BinOp.and IntKind.i64 (out : Int) 32 != 0) = (out / 2 ^ 5 % 2 == 1) := and_tab out ho 5 (by omega)
          cases hq : (out / 2 ^ 5 % 2 == 1)
          · have hor : bits BinOp.or IntKind.i64 (out : Int) 32 = ((out + 2 ^ 5 : Nat) : Int) := or_tab out ho 5 (by omega) (by have := beq_eq_false_iff_ne.1 hq; omega)
            have hlt' : out + 2 ^ 5 < 64 := Rt.add_lt out ho 5 (by omega) (by have := beq_eq_false_iff_ne.1 hq; omega)
            have HO : Hid (Rt.okB out s[k] = true) := Lib.hid (by rw [okB_pow HB.out, hq]; rfl)
            have HOR := Lib.hid hor
            rw [hq] at hand
            clear hq hor
            go_wp2_with (go_at_call 36; refine (idx_calls _ _ HI.out _).mono ?_; rintro e w' ⟨rfl, rfl⟩)
            refine ⟨⟨k + 1, out + 2 ^ 5, by omega, hlt', by go_num, by rw [HOR.out], ?_, hb⟩, by simp [intOf]; omega⟩
            rw [HP.out, HS.out, if_pos HO.out, HB.out]
          · have HO : Hid (Rt.okB out s[k] = false) := Lib.hid (by rw [okB_pow HB.out, hq]; rfl)
            rw [hq] at hand
            clear hq
            go_wp2_with (go_at_call 36; refine (idx_calls _ _ HI.out _).mono ?_; rintro e w' ⟨rfl, rfl⟩)
            go_ret2
            exact ⟨by rw [HP.out, HS.out, if_neg (by rw [HO.out]; decide)]; rfl, hb⟩
      · have HI := Lib.hid hidx
        have HO : Hid (Rt.okB out s[k] = false) := Lib.hid (by unfold Rt.okB; rw [hbit]; rfl)
        clear hidx hbit
        go_wp2_with (go_at_call 36; refine (idx_calls _ _ HI.out _).mono ?_; rintro e w' ⟨rfl, rfl⟩)
        go_ret2
        exact ⟨by rw [HP.out, HS.out, if_neg (by rw [HO.out]; decide)]; rfl, hb⟩
    · have hfin : Rt.parse 0 s.data.toList = some out := by
        rw [HP.out, drop_all hlt]
        rfl
      have HF := Lib.hid hfin
      clear hfin
      go_wp2_with fail
      go_ret2
      exact ⟨by rw [HF.out]; rfl, hb⟩

end Go.Proofs.Ytmjpcfohgldpoaa
