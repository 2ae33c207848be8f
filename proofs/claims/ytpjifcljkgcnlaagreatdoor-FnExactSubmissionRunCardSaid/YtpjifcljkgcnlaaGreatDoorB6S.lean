/- l2Letter and l2Value of the specification. -/
import Derived.Test.YtpjifcljkgcnlaaGreatDoorProg
import Derived.Test.YtpjifcljkgcnlaaGreatDoorPl
import Derived.Test.YtpjifcljkgcnlaaGreatDoorKt
import Derived.WalkKit
import Derived.WalkSpells
import Derived.WalkLawsBesides
import Derived.Handy
import Derived.Lib.Hide
import Derived.Deep.LoopGhost
import Derived.Laws.IdiomStrings
import Derived.Lib.BufferRead
namespace Go.Proofs.YtpjifcljkgcnlaaGreatDoor
set_option linter.unusedVariables false
open Go.RowKit

def B6.text : ByteArray := ⟨#[65, 66, 67, 68, 69, 70, 71, 72, 73, 74, 75, 76, 77, 78, 79, 80, 81, 82, 83, 84, 85, 86, 87, 88, 89, 90, 97, 98, 99, 100, 101, 102, 103, 104, 105, 106, 107, 108, 109, 110, 111, 112, 113, 114, 115, 116, 117, 118, 119, 120, 121, 122, 48, 49, 50, 51, 52, 53, 54, 55, 56, 57, 43, 47]⟩

theorem B6.text_fin : ∀ v : Fin 64, B6.text[v.1]'v.2 = B6.sign v.1 := by decide
theorem B6.text_at (v : Nat) (h : v < 64) : B6.text[v]'h = B6.sign v := B6.text_fin ⟨v, h⟩

set_option maxHeartbeats 800000 in
theorem l2Letter_any (v : Nat) (h : v < 64) (w : World) :
    Calls Tryz.prog 103 #[.int .i64 (v : Int)] w fun e w' => e = .returned (.int .u8 ((B6.sign v).toNat : Int)) ∧ w' = w := by
  go_enter Tryz.func103, Tryz.ntmps103
  go_wp2
  go_ret
  exact ⟨congrArg (fun x : UInt8 => Ending.returned (Value.int IntKind.u8 (x.toNat : Int))) (B6.text_at v h), rfl⟩

/-- the number of a sign, or -1 -/
def B6.sval (b : UInt8) : Int := match B6.val b with
  | some v => (v : Int)
  | none => -1

theorem B6.val_first {b : UInt8} {k : Nat} (hk : k < 64) (h : B6.sign k = b) (hp : ∀ j, j < k → B6.sign j ≠ b) : B6.val b = some k := by
  unfold B6.val
  rw [List.findIdx?_eq_some_iff_getElem]
  have hl : B6.tab.length = 64 := rfl
  have hg : ∀ j (hj : j < B6.tab.length), B6.tab[j]'hj = B6.sign j := fun j hj => by unfold B6.sign; rw [List.getD_eq_getElem?_getD, List.getElem?_eq_getElem hj]; rfl
  have hk' : k < B6.tab.length := by omega
  refine ⟨hk', by rw [hg k hk', h]; exact beq_self_eq_true b, fun j hj => ?_⟩
  have := hp j hj
  rw [hg j (by omega)]
  simp [this]
theorem B6.val_nothing {b : UInt8} (hp : ∀ j, j < 64 → B6.sign j ≠ b) : B6.val b = none := by
  cases h : B6.val b with
  | none => rfl
  | some v =>
    exfalso
    unfold B6.val at h
    rw [List.findIdx?_eq_some_iff_getElem] at h
    obtain ⟨hv, h1, _⟩ := h
    have hg : B6.tab[v]'hv = B6.sign v := by unfold B6.sign; rw [List.getD_eq_getElem?_getD, List.getElem?_eq_getElem hv]; rfl
    rw [hg] at h1
    exact hp v hv (by simpa using h1)

set_option maxHeartbeats 800000 in
theorem l2Value_any (b : UInt8) (w : World) :
    Calls Tryz.prog 102 #[.int .u8 (b.toNat : Int)] w fun e w' => e = .returned (.int .i64 (B6.sval b)) ∧ w' = w := by
  go_enter Tryz.func102, Tryz.ntmps102
  go_wp2_with fail
  go_loopg [3] 64 (fun g i wr => ∃ k : Nat, k ≤ 64 ∧ Hid (g = 64 - k) ∧ i = .int .i64 k ∧ Hid (∀ j, j < k → B6.sign j ≠ b) ∧ wr = w)
  case atStart => exact ⟨0, by omega, Lib.hid rfl, rfl, Lib.hid (fun j hj => absurd hj (by omega)), rfl⟩
  case round =>
    obtain ⟨k, hk, HG, rfl, HN, rfl⟩ := hrel
    by_cases hlt : k < 64
    · by_cases he : B6.sign k = b
      · have hei : ((B6.sign k).toNat : Int) = (b.toNat : Int) := by rw [he]
        go_wp2_with fail
        refine (l2Letter_any k hlt _).mono ?_
        rintro e w1 ⟨rfl, rfl⟩
        go_wp2_with fail
        go_ret
        refine ⟨?_, rfl⟩
        unfold B6.sval
        rw [B6.val_first hlt he HN.out]
        rfl
      · have hei : ¬ ((B6.sign k).toNat : Int) = (b.toNat : Int) := fun h => he (UInt8.toNat_inj.1 (by omega))
        have HE := Lib.hid he
        clear he
        go_wp2_with fail
        refine (l2Letter_any k hlt _).mono ?_
        rintro e w1 ⟨rfl, rfl⟩
        go_wp2_with fail
        go_roundg (64 - (k + 1))
        case measure => have := HG.out; omega
        case rel =>
          refine ⟨k + 1, by omega, Lib.hid rfl, by go_num, Lib.hid (fun j hj => ?_), rfl⟩
          rcases Nat.lt_or_ge j k with h | h
          · exact HN.out j h
          · obtain rfl : j = k := by omega
            exact HE.out
    · obtain rfl : k = 64 := by omega
      go_wp2_with fail
      go_ret
      refine ⟨?_, rfl⟩
      unfold B6.sval
      rw [B6.val_nothing HN.out]
      rfl
end Go.Proofs.YtpjifcljkgcnlaaGreatDoor
