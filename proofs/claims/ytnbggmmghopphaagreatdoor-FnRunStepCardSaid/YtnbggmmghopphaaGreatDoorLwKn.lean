/- knows and hasName of the laws. -/
import Derived.Test.YtnbggmmghopphaaGreatDoorStX
import Derived.Test.YtnbggmmghopphaaGreatDoorUsA
import Derived.Test.YtnbggmmghopphaaGreatDoorSmP
namespace Go.Proofs.YtnbggmmghopphaaGreatDoor
set_option linter.unusedVariables false
open Go.RowKit
open Us (U)

theorem Sm.knows_any (us : List U) (n : ByteArray) : Sm.knows us n = us.any (fun u => u.name.toList == n.toList) := by
  unfold Sm.knows Us.find
  induction us with
  | nil => rfl
  | cons u r ih =>
    rw [List.find?_cons, List.any_cons, ← ih]
    show (match (u.name.toList == n.toList) with | true => some u | false => _).isSome = _
    cases (u.name.toList == n.toList) <;> rfl
theorem any_take {α : Type} {p : α → Bool} {l : List α} {k : Nat} {x : α} (h : l[k]? = some x) : (l.take (k + 1)).any p = ((l.take k).any p || p x) := by
  rw [List.take_add_one, h, List.any_append]; simp

set_option maxHeartbeats 800000 in
theorem knows_any (A : Option Addr) (us : List U) (c : Nat) (n : ByteArray) (w : World) (h : AtUsers w w.heap.size A us) (hn : us.length ≤ maxLen) :
    Calls Tryz.prog 29 #[.slice A us.length c, .string n] w fun e w' => e = .returned (.bool (Sm.knows us n)) ∧ Below w.heap.size w w' := by
  unfold maxLen at hn
  go_enter Tryz.func29, Tryz.ntmps29
  go_wp2_with fail
  go_loopg [5] us.length (fun g i wr => ∃ k : Nat, k ≤ us.length ∧ Hid (g = us.length - k) ∧ i = .int .i64 k ∧ Hid ((us.take k).any (fun u => u.name.toList == n.toList) = false) ∧ Below w.heap.size w wr)
  case atStart => exact ⟨0, Nat.zero_le _, Lib.hid rfl, rfl, Lib.hid rfl, Below.refl _ _⟩
  case round =>
    obtain ⟨k, hk, HG, rfl, HA, hb⟩ := hrel
    by_cases hlt : k < us.length
    · obtain ⟨g, off, rfl, hg, hc⟩ := (h.below hb).1 (by omega)
      obtain ⟨u, hu⟩ : ∃ u, us[k]? = some u := ⟨_, List.getElem?_eq_getElem hlt⟩
      obtain ⟨d1, _, _⟩ := hc k u hu
      have HU := Lib.hid hu
      clear hc hu
      have k1 : (k : Int) < (us.length : Int) := by omega
      cases hq : (u.name.toList == n.toList)
      · have HA2 : Hid ((us.take (k + 1)).any (fun u => u.name.toList == n.toList) = false) := Lib.hid (by rw [any_take HU.out, HA.out, hq]; rfl)
        go_wp2_with fail
        go_roundg (us.length - (k + 1))
        case measure => have := HG.out; omega
        case rel => exact ⟨k + 1, by omega, Lib.hid rfl, by go_num, HA2, hb⟩
      · have HK : Hid (Sm.knows us n = true) := Lib.hid (by rw [Sm.knows_any]; exact List.any_eq_true.2 ⟨u, List.mem_of_getElem? HU.out, hq⟩)
        go_wp2_with fail
        go_ret
        exact ⟨by rw [HK.out]; rfl, hb⟩
    · obtain rfl : k = us.length := by omega
      have HK : Hid (Sm.knows us n = false) := Lib.hid (by rw [Sm.knows_any]; have := HA.out; rwa [List.take_length] at this)
      go_wp2_with fail
      go_ret
      exact ⟨by rw [HK.out]; rfl, hb⟩

set_option maxHeartbeats 800000 in
theorem hasName_any (A : Option Addr) (us : List ByteArray) (c : Nat) (n : ByteArray) (w : World) (h : AtStrs w w.heap.size A us) (hn : us.length ≤ maxLen) :
    Calls Tryz.prog 50 #[.slice A us.length c, .string n] w fun e w' => e = .returned (.bool (St.has us n)) ∧ Below w.heap.size w w' := by
  unfold maxLen at hn
  go_enter Tryz.func50, Tryz.ntmps50
  go_wp2_with fail
  go_loopg [5] us.length (fun g i wr => ∃ k : Nat, k ≤ us.length ∧ Hid (g = us.length - k) ∧ i = .int .i64 k ∧ Hid ((us.take k).any (fun u => u.toList == n.toList) = false) ∧ Below w.heap.size w wr)
  case atStart => exact ⟨0, Nat.zero_le _, Lib.hid rfl, rfl, Lib.hid rfl, Below.refl _ _⟩
  case round =>
    obtain ⟨k, hk, HG, rfl, HA, hb⟩ := hrel
    by_cases hlt : k < us.length
    · obtain ⟨g, off, rfl, hg, hc⟩ := (h.below hb).1 (by omega)
      obtain ⟨u, hu⟩ : ∃ u, us[k]? = some u := ⟨_, List.getElem?_eq_getElem hlt⟩
      have d1 := hc k u hu
      have HU := Lib.hid hu
      clear hc hu
      have k1 : (k : Int) < (us.length : Int) := by omega
      cases hq : (u.toList == n.toList)
      · have HA2 : Hid ((us.take (k + 1)).any (fun u => u.toList == n.toList) = false) := Lib.hid (by rw [any_take HU.out, HA.out, hq]; rfl)
        go_wp2_with fail
        go_roundg (us.length - (k + 1))
        case measure => have := HG.out; omega
        case rel => exact ⟨k + 1, by omega, Lib.hid rfl, by go_num, HA2, hb⟩
      · have HK : Hid (St.has us n = true) := Lib.hid (by unfold St.has; exact List.any_eq_true.2 ⟨u, List.mem_of_getElem? HU.out, hq⟩)
        go_wp2_with fail
        go_ret
        exact ⟨by rw [HK.out]; rfl, hb⟩
    · obtain rfl : k = us.length := by omega
      have HK : Hid (St.has us n = false) := Lib.hid (by unfold St.has; have := HA.out; rwa [List.take_length] at this)
      go_wp2_with fail
      go_ret
      exact ⟨by rw [HK.out]; rfl, hb⟩

end Go.Proofs.YtnbggmmghopphaaGreatDoor
