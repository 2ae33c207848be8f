/- FnPlainUser: the walk. -/
import Derived.Test.YtjoohmokjliecaaUpDraw2
import Derived.Test.YtjoohmokjliecaaPpI
namespace Go.Proofs.Ytjoohmokjliecaa
set_option linter.unusedVariables false
open Go.RowKit
open Us (U)

set_option maxRecDepth 100000 in
set_option maxHeartbeats 1600000 in
theorem walkFnPlainUser (a : Option Addr) (len cap : Nat) (w : World) (h : Bytes w a len cap) :
    Calls Try.prog 10 #[.slice a len cap] w fun e w' => e = .returned (.bool true) ∧ Below w.heap.size w w' := by
  by_cases hbig : len ≤ 1048576
  · go_enter Try.func10, Try.ntmps10
    go_wp2_with fail
    refine (drawUsersPlain_any a len cap _ h).mono ?_
    rintro e w1 ⟨us, A, c, t, hsm, hc1, hc2, ht, rfl, hat, hb1⟩
    have h1 := at_users hat (small_sizes hsm)
    have hlen := small_len hsm
    have HSS := Lib.hid hsm
    clear hat hsm
    cases ha : Up.ans us t.data.toList with
    | none =>
      have HN : Hid (Up.val (Up.ans us t.data.toList) = .tuple #[.string ⟨#[]⟩, .bool false]) := Lib.hid (by rw [ha]; rfl)
      clear ha
      go_wp2_with fail
      refine (iUsersPlain_any A us c t _ h1 hlen).mono ?_
      rintro e w2 ⟨rfl, hb2⟩
      rw [HN.out]
      have h2 := (h1.below hb2).mono hb2.size
      have hB2 := hb1.trans (hb2.mono hb1.size)
      go_wp2_with fail
      refine (sUsersPlain_any A us c t _ h2 hlen).mono ?_
      rintro e w3 ⟨rfl, hb3⟩
      rw [HN.out]
      go_wp2_with fail
      go_ret
      exact ⟨rfl, hB2.trans (hb3.mono hB2.size)⟩
    | some n =>
      obtain ⟨u, hu, hname, hmake⟩ := Up.ans_text ha
      obtain ⟨x, HX⟩ : ∃ x : ByteArray, Hid (Ct.mk n = x) := ⟨_, Lib.hid rfl⟩
      have HN : Hid (Up.val (Up.ans us t.data.toList) = .tuple #[.string x, .bool true]) := Lib.hid (by rw [ha]; unfold Up.val; dsimp only; rw [HX.out])
      have HE : Hid (Us.answer us x = .tuple #[.agg #[.string u.name, .string u.pass, .int .i64 u.quota], .bool true]) := Lib.hid (by
        unfold Us.answer
        rw [← HX.out, hu]
        rfl)
      have HM : Hid (Pp.make u.name u.pass = t) := Lib.hid (by rw [hmake, Ct.mk_self])
      have hsz : u.name.size ≤ 9 ∧ u.pass.size ≤ 9 := HSS.out.2.2 u (Us.ans_mem hu).2.1
      obtain ⟨hz1, hz2⟩ := hsz
      clear ha hu hname hmake
      go_wp2_with fail
      refine (iUsersPlain_any A us c t _ h1 hlen).mono ?_
      rintro e w2 ⟨rfl, hb2⟩
      rw [HN.out]
      have h2 := (h1.below hb2).mono hb2.size
      have hB2 := hb1.trans (hb2.mono hb1.size)
      go_wp2_with fail
      refine (sUsersPlain_any A us c t _ h2 hlen).mono ?_
      rintro e w3 ⟨rfl, hb3⟩
      rw [HN.out]
      have h3 := (h2.below hb3).mono hb3.size
      have hB3 := hB2.trans (hb3.mono hB2.size)
      go_wp2_with fail
      refine (iUsersFind_any A us c x _ h3 hlen).mono ?_
      rintro e w4 ⟨rfl, hb4⟩
      rw [HE.out]
      have hB4 := hB3.trans (hb4.mono hB3.size)
      have hB4' := hB4.alloc hB4.size (.cells #[.string u.name, .string u.pass, .int .i64 u.quota] 74)
      go_wp2_with fail
      refine (iPlainMake_any u.name u.pass (small_max (by omega)) (small_max (by omega)) _).mono ?_
      rintro e w5 ⟨rfl, hb5⟩
      rw [HM.out]
      go_wp2_with fail
      go_ret
      exact ⟨by simp, hB4'.trans (hb5.mono hB4'.size)⟩
  · go_enter Try.func10, Try.ntmps10
    go_wp2
    go_ret
    exact ⟨rfl, Below.refl _ _⟩
end Go.Proofs.Ytjoohmokjliecaa
