/- Lists of names: l21Has, l21Names of the reference; Index, Contains, receiversValid of the program. -/
import Derived.Test.YtnbggmmghopphaaPl
import Derived.Test.YtnbggmmghopphaaRx
import Derived.Deep.DeepCutAuto
import Derived.BigQuiet
namespace Go.Proofs.Ytnbggmmghopphaa
set_option linter.unusedVariables false
open Go.RowKit

/-- a slice of strings that reads as a list, below block B -/
def AtStrs (w : World) (B : Nat) (A : Option Addr) (us : List ByteArray) : Prop :=
  (0 < us.length → ∃ g off, A = some ⟨g, off, none⟩ ∧ g < B ∧ ∀ i u, us[i]? = some u → w.cell? ⟨g, off + i, none⟩ = some (.string u)) ∧
  ∀ u ∈ us, u.size ≤ maxLen
section
variable {w w' : World} {B : Nat} {A : Option Addr} {us : List ByteArray}
theorem AtStrs.keep (h : AtStrs w B A us) (hB : ∀ i, i < B → w'.heap[i]? = w.heap[i]?) : AtStrs w' B A us := by
  refine ⟨fun hl => ?_, h.2⟩
  obtain ⟨g, off, ha, hlt, hc⟩ := h.1 hl
  exact ⟨g, off, ha, hlt, fun i u hu => by rw [World.cell?_of_block (hB g hlt)]; exact hc i u hu⟩
theorem AtStrs.below (h : AtStrs w B A us) (k : Below B w w') : AtStrs w' B A us := h.keep k.block
theorem AtStrs.mono (h : AtStrs w B A us) {B' : Nat} (hB : B ≤ B') : AtStrs w B' A us := by
  refine ⟨fun hl => ?_, h.2⟩
  obtain ⟨g, off, ha, hlt, hc⟩ := h.1 hl
  exact ⟨g, off, ha, by omega, hc⟩
theorem AtStrs.take (h : AtStrs w B A us) (k : Nat) : AtStrs w B A (us.take k) := by
  refine ⟨fun hl => ?_, fun u hu => h.2 u (List.mem_of_mem_take hu)⟩
  rw [List.length_take] at hl
  obtain ⟨g, off, ha, hlt, hc⟩ := h.1 (by omega)
  refine ⟨g, off, ha, hlt, fun i u hu => hc i u ?_⟩
  rw [List.getElem?_take] at hu
  by_cases him : i < k
  · rwa [if_pos him] at hu
  · rw [if_neg him] at hu; cases hu
end

set_option maxHeartbeats 1600000 in
theorem l21Has_any (A : Option Addr) (us : List ByteArray) (n c : Nat) (nm : ByteArray) (w : World) (B : Nat) (h : AtStrs w B A us) (hl : us.length = n) (hn : n ≤ maxLen) :
    Calls Try.prog 37 #[.slice A n c, .string nm] w fun e w' => e = .returned (.bool (St.has us nm)) ∧ w' = w := by
  unfold maxLen at hn
  subst hl
  go_enter Try.func37, Try.ntmps37
  go_wp2_with fail
  go_loopg [5] us.length (fun g i wr => ∃ k : Nat, k ≤ us.length ∧ Hid (g = us.length - k) ∧ i = .int .i64 k ∧ Hid (St.has us nm = (us.drop k).any fun x => x.toList == nm.toList) ∧ wr = w)
  case atStart => exact ⟨0, Nat.zero_le _, Lib.hid rfl, rfl, Lib.hid (by rw [List.drop_zero]; rfl), rfl⟩
  case round =>
    obtain ⟨k, hk, HG, rfl, HR, rfl⟩ := hrel
    by_cases hlt2 : k < us.length
    · obtain ⟨g, off, rfl, hg, hc⟩ := h.1 (by omega)
      obtain ⟨u, hu⟩ : ∃ u, us[k]? = some u := ⟨_, List.getElem?_eq_getElem hlt2⟩
      have d1 := hc k u hu
      have HU := Lib.hid hu
      clear hc hu
      cases hn1 : (u.toList == nm.toList)
      · have HN := Lib.hid (St.has_next HR.out HU.out hn1)
        go_wp2_with fail
        go_roundg (us.length - (k + 1))
        case measure => have := HG.out; omega
        case rel => exact ⟨k + 1, by omega, Lib.hid rfl, by go_num, HN, rfl⟩
      · have HF := Lib.hid (St.has_yes HR.out HU.out hn1)
        go_wp2_with fail
        go_ret
        exact ⟨by rw [HF.out]; rfl, rfl⟩
    · obtain rfl : k = us.length := by omega
      have HF := Lib.hid (St.has_end HR.out)
      go_wp2_with fail
      go_ret
      exact ⟨by rw [HF.out]; rfl, rfl⟩

set_option maxHeartbeats 1600000 in
theorem index_any (A : Option Addr) (us : List ByteArray) (n c : Nat) (nm : ByteArray) (w : World) (B : Nat) (h : AtStrs w B A us) (hl : us.length = n) (hn : n ≤ maxLen) :
    Calls Try.prog 39 #[.slice A n c, .string nm] w fun e w' => ∃ r : Int, e = .returned (.int .i64 r) ∧ decide (0 ≤ r) = St.has us nm ∧ w' = w := by
  unfold maxLen at hn
  subst hl
  go_enter Try.func39, Try.ntmps39
  go_wp2_with fail
  go_loopg [8] us.length (fun g i wr => ∃ k : Nat, k ≤ us.length ∧ Hid (g = us.length - k) ∧ i = .int .i64 k ∧ Hid (St.has us nm = (us.drop k).any fun x => x.toList == nm.toList) ∧ wr = w)
  case atStart => exact ⟨0, Nat.zero_le _, Lib.hid rfl, rfl, Lib.hid (by rw [List.drop_zero]; rfl), rfl⟩
  case round =>
    obtain ⟨k, hk, HG, rfl, HR, rfl⟩ := hrel
    by_cases hlt2 : k < us.length
    · obtain ⟨g, off, rfl, hg, hc⟩ := h.1 (by omega)
      obtain ⟨u, hu⟩ : ∃ u, us[k]? = some u := ⟨_, List.getElem?_eq_getElem hlt2⟩
      have d1 := hc k u hu
      have HU := Lib.hid hu
      clear hc hu
      cases hn1 : (u.toList == nm.toList)
      · have HN := Lib.hid (St.has_next HR.out HU.out hn1)
        have hn2 : (nm.toList == u.toList) = false := by rw [BEq.comm]; exact hn1
        go_wp2_with fail
        go_roundg (us.length - (k + 1))
        case measure => have := HG.out; omega
        case rel => exact ⟨k + 1, by omega, Lib.hid rfl, by go_num, HN, rfl⟩
      · have HF := Lib.hid (St.has_yes HR.out HU.out hn1)
        have hn2 : (nm.toList == u.toList) = true := by rw [BEq.comm]; exact hn1
        go_wp2_with fail
        go_ret
        exact ⟨k, rfl, by rw [HF.out]; simp, rfl⟩
    · obtain rfl : k = us.length := by omega
      have HF := Lib.hid (St.has_end HR.out)
      go_wp2_with fail
      go_ret
      exact ⟨-1, rfl, by rw [HF.out]; rfl, rfl⟩
set_option maxHeartbeats 1600000 in
theorem contains_any (A : Option Addr) (us : List ByteArray) (n c : Nat) (nm : ByteArray) (w : World) (B : Nat) (h : AtStrs w B A us) (hl : us.length = n) (hn : n ≤ maxLen) :
    Calls Try.prog 30 #[.slice A n c, .string nm] w fun e w' => e = .returned (.bool (St.has us nm)) ∧ w' = w := by
  go_enter Try.func30, Try.ntmps30
  go_wp2_with fail
  refine (index_any A us n c nm _ B h hl hn).mono ?_
  rintro e w1 ⟨r, rfl, hr, rfl⟩
  go_wp2_with fail
  go_ret
  exact ⟨by rw [← hr]; rfl, rfl⟩

end Go.Proofs.Ytnbggmmghopphaa
