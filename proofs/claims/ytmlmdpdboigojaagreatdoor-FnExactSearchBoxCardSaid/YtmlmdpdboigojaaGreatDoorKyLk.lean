/- The program's nodes find what the key finds. -/
import Derived.Test.YtmlmdpdboigojaaGreatDoorKySf
import Derived.Test.YtmlmdpdboigojaaGreatDoorKyFp
namespace Go.Proofs.YtmlmdpdboigojaaGreatDoor
set_option linter.unusedVariables false
open Go.RowKit

theorem Ky.nd_finds (ms : List Ml) (m : Ml) (i : Nat) : ∀ (d : Nat) (x : Kx), Kt.all d (Kx.v d x) = true → Nd.finds ms m i (Kx.nd d x) = Kt.finds ms m i d (Kx.v d x)
  | 0, _, h => by cases h
  | d + 1, x, h => by
    obtain ⟨hch, hin⟩ := Kt.all_parts h
    obtain ⟨kind, flag, text, A, set, c, KA, keys, kc⟩ := x
    simp only [Kx.kind, Kx.flag, Kx.text, Kx.set, Kx.keys] at hch hin
    rw [Kt.finds_succ]
    simp only [Kx.nd, Kx.kind, Kx.flag, Kx.text, Kx.A, Kx.set, Kx.c, Kx.keys]
    by_cases k1 : kind = 1
    · subst k1; rfl
    · by_cases k2 : kind = 2
      · subst k2; rfl
      · by_cases k3 : kind = 3
        · subst k3; rfl
        · by_cases k4 : kind = 4
          · subst k4; rfl
          · by_cases k5 : kind = 5
            · subst k5
              obtain ⟨a, rfl⟩ := Ky.list1 (by have h9 : (keys.length == 1) = true := hin; simpa using h9)
              have h1 := Ky.nd_finds ms m i d a (hch a (by simp))
              show (!Nd.finds ms m i (Kx.nd d a)) = !Kt.finds ms m i d (Kx.v d a)
              rw [h1]
            · by_cases k6 : kind = 6
              · subst k6
                obtain ⟨a, b, rfl⟩ := Ky.list2 (by have h9 : (keys.length == 2) = true := hin; simpa using h9)
                have h1 := Ky.nd_finds ms m i d a (hch a (by simp))
                have h2 := Ky.nd_finds ms m i d b (hch b (by simp))
                show (Nd.finds ms m i (Kx.nd d a) && Nd.finds ms m i (Kx.nd d b)) = (Kt.finds ms m i d (Kx.v d a) && Kt.finds ms m i d (Kx.v d b))
                rw [h1, h2]
              · by_cases k7 : kind = 7
                · subst k7
                  obtain ⟨a, b, rfl⟩ := Ky.list2 (by have h9 : (keys.length == 2) = true := hin; simpa using h9)
                  have h1 := Ky.nd_finds ms m i d a (hch a (by simp))
                  have h2 := Ky.nd_finds ms m i d b (hch b (by simp))
                  show (Nd.finds ms m i (Kx.nd d a) || Nd.finds ms m i (Kx.nd d b)) = (Kt.finds ms m i d (Kx.v d a) || Kt.finds ms m i d (Kx.v d b))
                  rw [h1, h2]
                · simp only [k1, k2, k3, k4, k5, k6, k7, or_self, ite_false]; rfl
theorem Ky.nd_ok {w : World} {B : Nat} : ∀ (d : Nat) (x : Kx), Kx.In d w B x → Kt.all d (Kx.v d x) = true → Nd.Ok (Kx.nd d x) w B
  | 0, _, _, h => by cases h
  | d + 1, x, hi, h => by
    obtain ⟨hch, hin⟩ := Kt.all_parts h
    obtain ⟨_, hs, _, _, _, _, _, hk⟩ := hi
    obtain ⟨kind, flag, text, A, set, c, KA, keys, kc⟩ := x
    simp only [Kx.kind, Kx.flag, Kx.text, Kx.set, Kx.keys, Kx.A] at hch hin hs hk
    simp only [Kx.nd, Kx.kind, Kx.flag, Kx.text, Kx.A, Kx.set, Kx.c, Kx.keys]
    by_cases k1 : kind = 1
    · subst k1
      have h9 : (Ky.flagOne flag && keys.length == 0) = true := hin
      rw [Bool.and_eq_true] at h9
      exact h9.1
    · by_cases k2 : kind = 2
      · subst k2; trivial
      · by_cases k3 : kind = 3
        · subst k3
          have h9 : (Ky.setOk set && keys.length == 0) = true := hin
          rw [Bool.and_eq_true] at h9
          exact ⟨h9.1, hs⟩
        · by_cases k4 : kind = 4
          · subst k4
            have h9 : (Ky.setOk set && keys.length == 0) = true := hin
            rw [Bool.and_eq_true] at h9
            exact ⟨h9.1, hs⟩
          · by_cases k5 : kind = 5
            · subst k5
              obtain ⟨a, rfl⟩ := Ky.list1 (by have h9 : (keys.length == 1) = true := hin; simpa using h9)
              exact Ky.nd_ok d a (hk a (by simp)) (hch a (by simp))
            · by_cases k6 : kind = 6
              · subst k6
                obtain ⟨a, b, rfl⟩ := Ky.list2 (by have h9 : (keys.length == 2) = true := hin; simpa using h9)
                exact ⟨Ky.nd_ok d a (hk a (by simp)) (hch a (by simp)), Ky.nd_ok d b (hk b (by simp)) (hch b (by simp))⟩
              · by_cases k7 : kind = 7
                · subst k7
                  obtain ⟨a, b, rfl⟩ := Ky.list2 (by have h9 : (keys.length == 2) = true := hin; simpa using h9)
                  exact ⟨Ky.nd_ok d a (hk a (by simp)) (hch a (by simp)), Ky.nd_ok d b (hk b (by simp)) (hch b (by simp))⟩
                · simp only [k1, k2, k3, k4, k5, k6, k7, or_self, ite_false]; trivial
end Go.Proofs.YtmlmdpdboigojaaGreatDoor
