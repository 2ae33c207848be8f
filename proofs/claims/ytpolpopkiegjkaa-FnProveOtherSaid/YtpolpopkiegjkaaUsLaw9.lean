/- FnProveOther: the walk. -/
import Derived.Test.YtpolpopkiegjkaaUsDraw2
namespace Go.Proofs.Ytpolpopkiegjkaa
set_option linter.unusedVariables false
open Go.RowKit
open Us (U)

theorem Us.with_a {ps ps' : ByteArray} (h : ps'.size = ps.size + 1) : ps'.toList ≠ ps.toList := by
  intro e
  have := congrArg List.length e
  rw [Go.ByteArray.toList_eq, Go.ByteArray.toList_eq] at this
  have e1 : ps.data.toList.length = ps.size := Array.length_toList
  have e2 : ps'.data.toList.length = ps'.size := Array.length_toList
  omega

set_option maxRecDepth 100000 in
set_option maxHeartbeats 800000 in
theorem walkFnProveOther (a : Option Addr) (len cap : Nat) (w : World) (h : Bytes w a len cap) :
    Calls Try.prog 8 #[.slice a len cap] w fun e w' => e = .returned (.bool true) ∧ Below w.heap.size w w' := by
  by_cases hbig : len ≤ 1048576
  · go_enter Try.func8, Try.ntmps8
    go_wp2_with fail
    refine (drawUsersProve_any a len cap _ h).mono ?_
    rintro e w1 ⟨us, A, c, nm, ps, hsm, hc1, hc2, hps, rfl, hat, hb1⟩
    have h1 := at_users hat (small_sizes hsm)
    have hlen := small_len hsm
    clear hat hsm
    go_wp2_with fail
    refine (iUsersProve_any A us c nm ps _ h1 hlen).mono ?_
    rintro e w2 ⟨rfl, hb2⟩
    have h2 := (h1.below hb2).mono hb2.size
    go_wp2_with fail
    refine (sUsersProve_any A us c nm ps _ h2 hlen).mono ?_
    rintro e w3 ⟨rfl, hb3⟩
    have h3 := (h2.below hb3).mono hb3.size
    have hB := hb1.trans ((hb2.trans (hb3.mono hb2.size)).mono hb1.size)
    cases hv : Us.proves us nm ps
    · go_wp2_with fail
      go_ret
      exact ⟨rfl, hB⟩
    · obtain ⟨hne, hnn⟩ := Us.proves_yes hv
      have HV1 : Hid (∀ ps' : ByteArray, ps'.size = ps.size + 1 → Us.proves us nm ps' = false) := Lib.hid fun ps' h => hne ps' (Us.with_a h)
      have HV2 := Lib.hid (hne ⟨#[]⟩ (by rw [show (ByteArray.mk #[]).toList = [] by rw [Go.ByteArray.toList_eq]]; exact fun e => hnn e.symm))
      clear hne hnn
      go_wp2_with fail
      refine Calls.mono (iUsersProve_any A us c nm _ _ h3 hlen) ?_
      rintro e w4 ⟨rfl, hb4⟩
      rw [HV1.out _ (by rw [ByteArray.size_append]; rfl)]
      go_wp2_with fail
      refine Calls.mono (iUsersProve_any A us c nm _ _ ((h3.below hb4).mono hb4.size) hlen) ?_
      rintro e w5 ⟨rfl, hb5⟩
      rw [HV2.out]
      go_wp2_with fail
      go_ret
      exact ⟨rfl, hB.trans ((hb4.trans (hb5.mono hb4.size)).mono hB.size)⟩
  · go_enter Try.func8, Try.ntmps8
    go_wp2
    go_ret
    exact ⟨rfl, Below.refl _ _⟩

end Go.Proofs.Ytpolpopkiegjkaa
