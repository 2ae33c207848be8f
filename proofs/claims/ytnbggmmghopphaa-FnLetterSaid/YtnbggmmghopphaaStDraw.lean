/- Draws of receivers, texts and letters. -/
import Derived.Test.YtnbggmmghopphaaStEx
import Derived.Test.YtnbggmmghopphaaKt
import Derived.Test.YtnbggmmghopphaaRx
import Derived.Deep.DeepCutAuto
namespace Go.Proofs.Ytnbggmmghopphaa
set_option linter.unusedVariables false
open Go.RowKit

theorem St.cells_one1 (u : ByteArray) : ∀ v ∈ St.cells u, v.oneCell' = true := by
  intro v hv
  simp only [St.cells, List.mem_singleton] at hv
  subst hv; rfl
/-- a slice of the call's own that holds these strings -/
abbrev St.Own (w : World) (B : Nat) (v : Value) (us : List ByteArray) : Prop := OwnL 9 1 St.cells w B v us
theorem own_grown {α : Type} {E : TypeId} {size : Nat} {f : α → List Value} {w w' : World} {B b : Nat} {v : Value} {us : List α} (ho : OwnL E size f w B v us) (hg : w.grownBy w' (some b)) (hb : b < B) : OwnL E size f w' B v us :=
  World.ownsRow.kept ho hg (by
    cases hq : v.ownBlock with
    | none => exact .inl rfl
    | some q => exact .inr fun e => by have := OwnL.blk ho hq; injection e with e; omega)

theorem many_size (a b : ByteArray) : (a ++ b).size = a.size + b.size := by simp
set_option maxHeartbeats 800000 in
theorem l6Many_any (s : ByteArray) (n : Nat) (hs : s.size = 1) (hn : n ≤ 30) (w : World) :
    Calls Try.prog 23 #[.string s, .int .i64 (n : Int)] w fun e w' => ∃ t : ByteArray, e = .returned (.string t) ∧ t.size = n ∧ w = w' := by
  go_enter Try.func23, Try.ntmps23
  go_wp2_with fail
  go_loopg [0, 1, 5] n (fun g s i o wr => ∃ (k : Nat) (t u : ByteArray), Hid (g = k) ∧ i = .int .i64 (k : Int) ∧ s = .string t ∧ o = .string u ∧ k ≤ 30 ∧ Hid (u.size + k * t.size = n) ∧ wr = w)
  case atStart => exact ⟨n, s, ⟨#[]⟩, Lib.hid rfl, rfl, rfl, rfl, hn, Lib.hid (by rw [hs]; show 0 + n * 1 = n; omega), rfl⟩
  case round =>
    obtain ⟨k, t, u, HG, rfl, rfl, rfl, hk, HS, rfl⟩ := hrel
    by_cases h0 : 0 < k
    · have h0i : (0 : Int) < (k : Int) := by omega
      have hts : t.size ≤ 30 := by
        have e := HS.out
        have := Nat.le_mul_of_pos_left t.size h0
        omega
      have hus : u.size ≤ 30 := by have e := HS.out; omega
      have E2 : Hid ((k : Int) / 2 = ((k / 2 : Nat) : Int)) := Lib.hid (by omega)
      by_cases h1 : k % 2 = 1
      · have h4 : ((k : Int) % 2 == 1) = true := by simp; omega
        have HS2 : Hid ((u ++ t).size + k / 2 * (t ++ t).size = n) := Lib.hid (by
          have e := HS.out
          rw [many_size, many_size]
          obtain ⟨d, rfl⟩ : ∃ d, k = 2 * d + 1 := ⟨k / 2, by omega⟩
          rw [show (2 * d + 1) / 2 = d from by omega, Nat.mul_add, ← e, Nat.add_mul, Nat.mul_comm 2 d, Nat.mul_assoc, Nat.two_mul, Nat.mul_add]
          omega)
        go_wp2_with fail
        go_roundg (k / 2)
        case measure => have := HG.out; omega
        case rel => exact ⟨k / 2, t ++ t, u ++ t, Lib.hid rfl, by rw [E2.out], rfl, rfl, by omega, HS2, rfl⟩
      · have h4 : ((k : Int) % 2 == 1) = false := by simp; omega
        have HS2 : Hid (u.size + k / 2 * (t ++ t).size = n) := Lib.hid (by
          have e := HS.out
          rw [many_size]
          obtain ⟨d, rfl⟩ : ∃ d, k = 2 * d := ⟨k / 2, by omega⟩
          rw [show 2 * d / 2 = d from by omega, Nat.mul_add, ← e, Nat.mul_comm 2 d, Nat.mul_assoc, Nat.two_mul, Nat.mul_add])
        go_wp2_with fail
        go_roundg (k / 2)
        case measure => have := HG.out; omega
        case rel => exact ⟨k / 2, t ++ t, u, Lib.hid rfl, by rw [E2.out], rfl, rfl, by omega, HS2, rfl⟩
    · obtain rfl : k = 0 := by omega
      have HF : Hid (u.size = n) := Lib.hid (by have := HS.out; omega)
      go_wp2_with fail
      go_ret
      exact ⟨u, rfl, HF.out, rfl⟩


end Go.Proofs.Ytnbggmmghopphaa
