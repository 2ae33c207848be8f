/- FnProve: the walk. -/
import Derived.Test.YtpolpopkiegjkaaUsDraw2
namespace Go.Proofs.Ytpolpopkiegjkaa
set_option linter.unusedVariables false
open Go.RowKit
open Us (U)

set_option maxRecDepth 100000 in
set_option maxHeartbeats 3200000 in
theorem walkFnProve (a : Option Addr) (len cap : Nat) (w : World) (h : Bytes w a len cap) :
    Calls Try.prog 7 #[.slice a len cap] w fun e w' => e = .returned (.bool true) ∧ Below w.heap.size w w' := by
  by_cases hbig : len ≤ 1048576
  · go_enter Try.func7, Try.ntmps7
    go_wp2_with fail
    refine (drawUsersProve_any a len cap _ h).mono ?_
    rintro e w1 ⟨us, A, c, nm, ps, hsm, hc1, hc2, hps, rfl, hat, hb1⟩
    have h1 := at_users hat (small_sizes hsm)
    have hlen := small_len hsm
    obtain ⟨u, b, HE, HP⟩ := Us.split us nm
    clear hat hsm
    go_wp2_with fail
    refine (iUsersProve_any A us c nm ps _ h1 hlen).mono ?_
    rintro e w2 ⟨rfl, hb2⟩
    have h2 := (h1.below hb2).mono hb2.size
    go_wp2_with fail
    refine (sUsersProve_any A us c nm ps _ h2 hlen).mono ?_
    rintro e w3 ⟨rfl, hb3⟩
    have h3 := (h2.below hb3).mono hb3.size
    rw [HP.out]
    go_wp2_with fail
    refine (iUsersFind_any A us c nm _ h3 hlen).mono ?_
    rintro e w4 ⟨rfl, hb4⟩
    rw [HE.out]
    have hB := hb1.trans ((hb2.trans ((hb3.trans (hb4.mono hb3.size)).mono hb2.size)).mono hb1.size)
    clear HE HP
    cases b
    · go_wp2_with fail
      go_ret
      exact ⟨by simp, hB.alloc hB.size _⟩
    · go_wp2_with fail
      go_ret
      exact ⟨by simp, hB.alloc hB.size _⟩
  · go_enter Try.func7, Try.ntmps7
    go_wp2
    go_ret
    exact ⟨rfl, Below.refl _ _⟩

end Go.Proofs.Ytpolpopkiegjkaa
