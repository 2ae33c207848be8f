/- FnPlain: the walk. -/
import Derived.Test.YtjoohmokjliecaaUpDraw2
import Derived.Test.YtjoohmokjliecaaPpI
namespace Go.Proofs.Ytjoohmokjliecaa
set_option linter.unusedVariables false
open Go.RowKit
open Us (U)

set_option maxRecDepth 100000 in
set_option maxHeartbeats 1600000 in
theorem walkFnPlain (a : Option Addr) (len cap : Nat) (w : World) (h : Bytes w a len cap) :
    Calls Try.prog 8 #[.slice a len cap] w fun e w' => e = .returned (.bool true) ∧ Below w.heap.size w w' := by
  by_cases hbig : len ≤ 1048576
  · go_enter Try.func8, Try.ntmps8
    go_wp2_with fail
    refine (drawUsersProve2_any a len cap _ h).mono ?_
    rintro e w1 ⟨us, A, c, nm, ps, hsm, hc1, hc2, hnm, hps, rfl, hat, hb1⟩
    have h1 := at_users hat (small_sizes hsm)
    have hlen := small_len hsm
    clear hat hsm
    go_wp2_with fail
    refine (iUsersProve_any A us c nm ps _ h1 hlen).mono ?_
    rintro e w2 ⟨rfl, hb2⟩
    have h2 := (h1.below hb2).mono hb2.size
    go_wp2_with fail
    refine (sUsersProve_any A us c nm ps _ h2 hlen).mono ?_
    rintro e w3 ⟨rfl, hb3⟩
    have h3 := (h2.below hb3).mono hb3.size
    have hB3 := hb1.trans ((hb2.trans (hb3.mono hb2.size)).mono hb1.size)
    clear hb1 hb2 hb3 h1 h2
    have HA := Lib.hid (Up.ans_make us nm ps)
    obtain ⟨t, HT⟩ : ∃ t, Hid (Pp.make nm ps = t) := ⟨_, Lib.hid rfl⟩
    rw [HT.out] at HA
    cases hv : Us.proves us nm ps
    · have HN : Hid (Up.val (Up.ans us t.data.toList) = .tuple #[.string ⟨#[]⟩, .bool false]) := Lib.hid (by rw [HA.out, hv]; rfl)
      clear hv
      go_wp2_with fail
      refine (iPlainMake_any nm ps (small_max (by omega)) (small_max (by omega)) _).mono ?_
      rintro e w4 ⟨rfl, hb4⟩
      rw [HT.out]
      have h4 := (h3.below hb4).mono hb4.size
      have hB4 := hB3.trans (hb4.mono hB3.size)
      go_wp2_with fail
      refine (iUsersPlain_any A us c t _ h4 hlen).mono ?_
      rintro e w5 ⟨rfl, hb5⟩
      rw [HN.out]
      go_wp2_with fail
      go_ret
      exact ⟨rfl, hB4.trans (hb5.mono hB4.size)⟩
    · have HN : Hid (Up.val (Up.ans us t.data.toList) = .tuple #[.string nm, .bool true]) := Lib.hid (by rw [HA.out, hv, if_pos rfl]; unfold Up.val; dsimp only; rw [Ct.mk_self])
      clear hv
      go_wp2_with fail
      refine (iPlainMake_any nm ps (small_max (by omega)) (small_max (by omega)) _).mono ?_
      rintro e w4 ⟨rfl, hb4⟩
      rw [HT.out]
      have h4 := (h3.below hb4).mono hb4.size
      have hB4 := hB3.trans (hb4.mono hB3.size)
      go_wp2_with fail
      refine (iUsersPlain_any A us c t _ h4 hlen).mono ?_
      rintro e w5 ⟨rfl, hb5⟩
      rw [HN.out]
      go_wp2_with fail
      go_ret
      exact ⟨rfl, hB4.trans (hb5.mono hB4.size)⟩
  · go_enter Try.func8, Try.ntmps8
    go_wp2
    go_ret
    exact ⟨rfl, Below.refl _ _⟩
end Go.Proofs.Ytjoohmokjliecaa
