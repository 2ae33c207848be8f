/- FnExactUsersPlain: the walk. -/
import Derived.Test.YtjoohmokjliecaaUsEx
import Derived.Test.YtjoohmokjliecaaPpI
namespace Go.Proofs.Ytjoohmokjliecaa
set_option linter.unusedVariables false
open Go.RowKit
open Us (U)

theorem Up.split (o : Option (List UInt8)) : ∃ (s : ByteArray) (b : Bool), Up.val o = .tuple #[.string s, .bool b] := by
  cases o with
  | none => exact ⟨⟨#[]⟩, false, rfl⟩
  | some n => exact ⟨Ct.mk n, true, rfl⟩

set_option maxHeartbeats 1600000 in
theorem walkFnExactUsersPlain (A : Option Addr) (us : List U) (c : Nat) (t : ByteArray) (w : World) (h : AtUsers w w.heap.size A us) (hn : us.length ≤ maxLen) (_ : t.size ≤ maxLen) :
    Calls Try.prog 9 #[.slice A us.length c, .string t] w fun e w' => e = .returned (.bool true) ∧ Below w.heap.size w w' := by
  by_cases hbig : t.size ≤ 1048576
  · obtain ⟨s, b, hs⟩ := Up.split (Up.ans us t.data.toList)
    have HS := Lib.hid hs
    clear hs
    go_enter Try.func9, Try.ntmps9
    go_wp2_with fail
    refine (szUserS_any A us c _ _ h hn (by omega) (by omega)).mono ?_
    rintro e w1 ⟨r, rfl, hm, hle, hq, hb1⟩
    have HQ := Lib.hid hq
    clear hq
    by_cases hneg : r < 0
    · go_wp2_with fail
      go_ret
      exact ⟨rfl, hb1⟩
    · have hlen := (HQ.out (by omega)).1
      have h1 := (h.below hb1).mono hb1.size
      go_wp2_with fail
      refine (toUserS_any A us c _ h1 hlen).mono ?_
      rintro e w2 ⟨A2, c2, rfl, hc2, hc2', h2, hb2⟩
      go_wp2_with fail
      refine (sUsersPlain_any A2 us c2 t _ h2 hn).mono ?_
      rintro e w3 ⟨rfl, hb3⟩
      rw [HS.out]
      have h3 := ((h1.below hb2).mono hb2.size).below hb3 |>.mono hb3.size
      go_wp2_with fail
      refine (toUserS_any A us c _ h3 hlen).mono ?_
      rintro e w4 ⟨A4, c4, rfl, hc4, hc4', h4, hb4⟩
      go_wp2_with fail
      refine (iUsersPlain_any A4 us c4 t _ h4 hn).mono ?_
      rintro e w5 ⟨rfl, hb5⟩
      rw [HS.out]
      have h5 := (((h3.below hb4).mono hb4.size).below hb5).mono hb5.size
      have h45 := (h4.below hb5).mono hb5.size
      go_wp2_with fail
      refine (toUserS_any A us c _ h5 hlen).mono ?_
      rintro e w6 ⟨A6, c6, rfl, hc6, hc6', h6, hb6⟩
      have h46 := (h45.below hb6).mono hb6.size
      go_wp2_with fail
      refine (eqUserS_any A4 A6 us c4 c6 _ h46 h6 hn).mono ?_
      rintro e w7 ⟨rfl, hb7⟩
      go_wp2_with fail
      go_ret
      exact ⟨rfl, hb1.trans ((hb2.trans ((hb3.trans ((hb4.trans ((hb5.trans ((hb6.trans (hb7.mono hb6.size)).mono hb5.size)).mono hb4.size)).mono hb3.size)).mono hb2.size)).mono hb1.size)⟩
  · go_enter Try.func9, Try.ntmps9
    go_wp2_with fail
    go_ret
    exact ⟨rfl, Below.refl _ _⟩

end Go.Proofs.Ytjoohmokjliecaa
