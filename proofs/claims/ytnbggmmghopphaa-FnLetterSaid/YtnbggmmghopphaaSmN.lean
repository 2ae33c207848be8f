/- sameNames, sameLetter, sameSub of the laws, at equal data. (Printed by mksmn.py.) -/
import Derived.Test.YtnbggmmghopphaaSmK
namespace Go.Proofs.Ytnbggmmghopphaa
set_option linter.unusedVariables false
open Go.RowKit

set_option maxHeartbeats 800000 in
theorem sameNames_any (A A' : Option Addr) (us : List ByteArray) (c c' : Nat) (w : World) (h : AtStrs w w.heap.size A us) (h' : AtStrs w w.heap.size A' us) (hn : us.length ≤ maxLen) :
    Calls Try.prog 15 #[.slice A us.length c, .slice A' us.length c'] w fun e w' => e = .returned (.bool true) ∧ Below w.heap.size w w' := by
  unfold maxLen at hn
  go_enter Try.func15, Try.ntmps15
  go_wp2_with fail
  go_loopg [5] us.length (fun g i wr => ∃ k : Nat, k ≤ us.length ∧ Hid (g = us.length - k) ∧ i = .int .i64 k ∧ Below w.heap.size w wr)
  case atStart => exact ⟨0, Nat.zero_le _, Lib.hid rfl, rfl, Below.refl _ _⟩
  case round =>
    obtain ⟨k, hk, HG, rfl, hb⟩ := hrel
    by_cases hlt : k < us.length
    · obtain ⟨g, off, rfl, hg, hc⟩ := (h.below hb).1 (by omega)
      obtain ⟨g', off', rfl, hg', hc'⟩ := (h'.below hb).1 (by omega)
      obtain ⟨u, hu⟩ : ∃ u, us[k]? = some u := ⟨_, List.getElem?_eq_getElem hlt⟩
      have d1 := hc k u hu
      have e1 := hc' k u hu
      clear hc hc' hu
      have k1 : (k : Int) < (us.length : Int) := by omega
      go_upto_region 6 with fail
      go_quiet (fail)
      go_wp2_with fail
      go_roundg (us.length - (k + 1))
      case measure => have := HG.out; omega
      case rel => exact ⟨k + 1, by omega, Lib.hid rfl, by go_num, below_drewN hb _⟩
    · obtain rfl : k = us.length := by omega
      go_wp2_with fail
      go_ret
      exact ⟨rfl, hb⟩

set_option maxRecDepth 100000 in
set_option maxHeartbeats 1600000 in
theorem sameLetter_any (f t : ByteArray) (A A' : Option Addr) (us : List ByteArray) (c c' : Nat) (w : World) (h : AtStrs w w.heap.size A us) (h' : AtStrs w w.heap.size A' us) (hn : us.length ≤ maxLen) :
    Calls Try.prog 8 #[.agg #[.string f, .slice A us.length c, .string t], .agg #[.string f, .slice A' us.length c', .string t]] w fun e w' => e = .returned (.bool true) ∧ Below w.heap.size w w' := by
  obtain ⟨hx1, hx2, hB, hsz⟩ := two_boxes w (.cells #[.string f, .slice A us.length c, .string t] 28) (.cells #[.string f, .slice A' us.length c', .string t] 28)
  go_enter Try.func8, Try.ntmps8
  go_upto_region 1 with fail
  generalize (w.alloc (.cells #[.string f, .slice A us.length c, .string t] 28)).alloc (.cells #[.string f, .slice A' us.length c', .string t] 28) = W at hx1 hx2 hB hsz ⊢
  have d0 : W.cell? ⟨w.heap.size, 0, none⟩ = some (.string f) := cell_at hx1 0 _ rfl
  have d1 : W.cell? ⟨w.heap.size, 1, none⟩ = some (.slice A us.length c) := cell_at hx1 1 _ rfl
  have d2 : W.cell? ⟨w.heap.size, 2, none⟩ = some (.string t) := cell_at hx1 2 _ rfl
  have e0 : W.cell? ⟨w.heap.size + 1, 0, none⟩ = some (.string f) := cell_at hx2 0 _ rfl
  have e1 : W.cell? ⟨w.heap.size + 1, 1, none⟩ = some (.slice A' us.length c') := cell_at hx2 1 _ rfl
  have e2 : W.cell? ⟨w.heap.size + 1, 2, none⟩ = some (.string t) := cell_at hx2 2 _ rfl
  have ha := (h.below hB).mono hB.size
  have ha' := (h'.below hB).mono hB.size
  clear hx1 hx2 hsz
  go_wp2_with fail
  refine Calls.mono (sameNames_any A A' us c c' _ ha ha' hn) ?_
  rintro e w1 ⟨rfl, hb1⟩
  go_wp2_with fail
  go_ret
  exact ⟨rfl, hB.trans (hb1.mono hB.size)⟩

end Go.Proofs.Ytnbggmmghopphaa
