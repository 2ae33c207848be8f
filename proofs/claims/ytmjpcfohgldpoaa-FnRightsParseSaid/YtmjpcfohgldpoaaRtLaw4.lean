/- FnRightsTwice, FnRightsParse: the walks. -/
import Derived.Test.YtmjpcfohgldpoaaRtDraw
import Derived.Test.YtmjpcfohgldpoaaRtPlain2
namespace Go.Proofs.Ytmjpcfohgldpoaa
set_option linter.unusedVariables false
open Go.RowKit

theorem list_append (s t : ByteArray) : (s ++ t).data.toList = s.data.toList ++ t.data.toList := by simp
theorem extract_one (s : ByteArray) (i : Nat) (h : i < s.size) : s.extract i (i + 1) = ⟨#[s[i]]⟩ := by
  apply ByteArray.ext
  apply Array.ext
  · simp; omega
  · intro j h1 h2
    simp at h1 h2
    subst h2
    simp
    rfl
theorem rev_snoc (s : ByteArray) (i : Nat) (h : i < s.size) : s.extract i (i + 1) ++ (ByteArray.mk (s.data.toList.take i).reverse.toArray) = ByteArray.mk (s.data.toList.take (i + 1)).reverse.toArray := by
  rw [extract_one s i h, List.take_succ_eq_append_getElem (by simpa using h), List.reverse_append]
  exact bytes_append [s[i]] _
theorem list_len (s : ByteArray) : s.data.toList.length = s.size := by rw [Array.length_toList]; rfl

set_option maxHeartbeats 800000 in
theorem walkFnRightsTwice (a : Option Addr) (len cap : Nat) (w : World) (h : Bytes w a len cap) :
    Calls Try.prog 6 #[.slice a len cap] w fun e w' => e = .returned (.bool true) ∧ Below w.heap.size w w' := by
  by_cases hbig : len ≤ 1048576
  · go_enter Try.func6, Try.ntmps6
    go_wp2_with fail
    refine (drawRightsParse_any a len cap _ h).mono ?_
    rintro e w1 ⟨s, hs, rfl, hb1⟩
    go_wp2_with fail
    refine (iRightsParse_any s _ (by omega)).mono ?_
    rintro e w2 ⟨rfl, hb2⟩
    go_wp2_with fail
    refine (sRightsParse_any s _ (by omega)).mono ?_
    rintro e w3 ⟨rfl, hb3⟩
    have hB := hb1.trans ((hb2.trans (hb3.mono hb2.size)).mono hb1.size)
    cases hp : Rt.parse 0 s.data.toList with
    | none =>
      rw [Option.getD_none, Option.isSome_none]
      go_wp2_with fail
      go_ret
      exact ⟨rfl, hB⟩
    | some o =>
      rw [Option.getD_some, Option.isSome_some]
      have HP := Lib.hid hp
      clear hp
      cases hee : s.toList.isEmpty
      · have HE : Hid (s.data.toList ≠ []) := Lib.hid (by rw [← Lib.toList_data]; intro e; rw [e] at hee; simp at hee)
        have H2 := Lib.hid (Rt.parse_twice HP.out HE.out)
        have H3 := Lib.hid (Rt.parse_z HP.out)
        go_wp2_with fail
        refine (iRightsParse_any _ _ (by simp; omega)).mono ?_
        rintro e w4 ⟨rfl, hb4⟩
        rw [list_append, H2.out, Option.getD_none, Option.isSome_none]
        go_wp2_with fail
        refine (iRightsParse_any _ _ (by rw [ByteArray.size_append]; have : (ByteArray.mk #[122]).size = 1 := rfl; omega)).mono ?_
        rintro e w5 ⟨rfl, hb5⟩
        rw [list_append, H3.out, Option.getD_none, Option.isSome_none]
        go_wp2_with fail
        go_ret
        exact ⟨rfl, hB.trans ((hb4.trans (hb5.mono hb4.size)).mono hB.size)⟩
      · go_wp2_with fail
        go_ret
        exact ⟨rfl, hB⟩
  · go_enter Try.func6, Try.ntmps6
    go_wp2
    go_ret
    exact ⟨rfl, Below.refl _ _⟩

set_option maxHeartbeats 800000 in
theorem walkFnRightsParse (a : Option Addr) (len cap : Nat) (w : World) (h : Bytes w a len cap) :
    Calls Try.prog 13 #[.slice a len cap] w fun e w' => e = .returned (.bool true) ∧ Below w.heap.size w w' := by
  by_cases hbig : len ≤ 1048576
  · go_enter Try.func13, Try.ntmps13
    go_wp2_with fail
    refine (drawRightsParse_any a len cap _ h).mono ?_
    rintro e w1 ⟨s, hs, rfl, hb1⟩
    go_wp2_with fail
    refine (iRightsParse_any s _ (by omega)).mono ?_
    rintro e w2 ⟨rfl, hb2⟩
    go_wp2_with fail
    refine (sRightsParse_any s _ (by omega)).mono ?_
    rintro e w3 ⟨rfl, hb3⟩
    have hB := hb1.trans ((hb2.trans (hb3.mono hb2.size)).mono hb1.size)
    cases hp : Rt.parse 0 s.data.toList with
    | none =>
      rw [Option.getD_none, Option.isSome_none]
      go_wp2_with fail
      go_ret
      exact ⟨rfl, hB⟩
    | some o =>
      rw [Option.getD_some, Option.isSome_some]
      have ho := Rt.parse_lt _ _ _ (by omega) hp
      have HR := Lib.hid ((Rt.parse_rev s.data.toList).trans hp)
      have HL := Lib.hid (Rt.parse_length hp)
      have HT := Lib.hid (Rt.text_of o ho)
      clear hp
      go_wp2_with fail
      go_loop [8, 9] (fun t i => ∃ k : Nat, k ≤ s.size ∧ i = .int .i64 k ∧ t = str (s.data.toList.take k).reverse) (fun _ i => s.size - (intOf i).toNat)
      case atStart => exact ⟨0, by omega, rfl, rfl⟩
      case round =>
        obtain ⟨k, hk, rfl, rfl⟩ := hrel
        by_cases hlt : k < s.size
        · have HS := Lib.hid (rev_snoc s k hlt)
          have hlk : (s.data.toList.take k).reverse.length ≤ k := by simp; omega
          go_wp2_with fail
          go_round
          case rel => exact ⟨k + 1, by omega, by go_num, by rw [HS.out]⟩
          case measure => simp [intOf]; omega
        · obtain rfl : k = s.size := by omega
          go_wp2_with fail
          refine (iRightsParse_any _ _ (by rw [str_size]; simp; omega)).mono ?_
          rintro e w4 ⟨rfl, hb4⟩
          have e1 : (s.data.toList.take s.size).reverse.toArray.toList = s.data.toList.reverse := by
            rw [List.take_of_length_le (by rw [list_len]; omega)]
          rw [e1, HR.out, Option.getD_some, Option.isSome_some]
          clear e1
          go_wp2_with fail
          refine (iRightsText_any _ _).mono ?_
          rintro e w5 ⟨rfl, hb5⟩
          have e2 : (Rt.text (o : Int)).length = s.size := by rw [HT.out, HL.out, list_len]
          have HE2 := Lib.hid e2
          clear e2
          go_wp2_with fail
          go_ret
          refine ⟨?_, hB.trans ((hb4.trans (hb5.mono hb4.size)).mono hB.size)⟩
          rw [HE2.out]; simp
  · go_enter Try.func13, Try.ntmps13
    go_wp2
    go_ret
    exact ⟨rfl, Below.refl _ _⟩

end Go.Proofs.Ytmjpcfohgldpoaa
