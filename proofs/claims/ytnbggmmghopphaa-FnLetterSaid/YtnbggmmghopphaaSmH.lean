/- A valid session's facts; a list of names does not lie in the block of a result. -/
import Derived.Test.YtnbggmmghopphaaSmB
import Derived.Test.YtnbggmmghopphaaSmP
namespace Go.Proofs.Ytnbggmmghopphaa
set_option linter.unusedVariables false
open Go.RowKit

theorem Sm.ok_names {s : Sm.S} (h : Sm.ok s = true) : ∀ u ∈ s.tos, Nm.nameOk u.data.toList = true := by
  intro u hu
  have hr : Sb.recv s.tos = true → Nm.nameOk u.data.toList = true := fun h => by
    unfold Sb.recv at h
    rw [Bool.and_eq_true] at h
    exact ((St.namesOk_iff s.tos).1 h.1).2.1 u hu
  have hl : s.tos.length = 0 → Nm.nameOk u.data.toList = true := fun h => by
    have := List.length_eq_zero_iff.1 h; rw [this] at hu; cases hu
  unfold Sm.ok Sb.ok at h
  split at h
  · simp at h; exact hl (by simp [h.2.1])
  · split at h
    · simp at h; exact hl (by simp [h.2.1])
    · split at h
      · simp only [Bool.and_eq_true] at h; exact hr h.2.1
      · split at h
        · simp only [Bool.and_eq_true] at h; exact hr h.2.1
        · cases h
theorem Sm.ok_nouser {s : Sm.S} (h : Sm.ok s = true) (h2 : s.st < 2) : s.user = ⟨#[]⟩ := by
  have he : s.user.toList.isEmpty = true → s.user = ⟨#[]⟩ := fun h => by
    have h1 := List.isEmpty_iff.1 h
    rw [Go.ByteArray.toList_eq] at h1
    have h2 : s.user.data = #[] := by simpa using h1
    cases hs : s.user with
    | mk d => rw [hs] at h2; exact congrArg _ h2
  unfold Sm.ok Sb.ok at h
  split at h
  · simp only [Bool.and_eq_true] at h; exact he h.1
  · split at h
    · omega
    · split at h
      · omega
      · split at h
        · omega
        · cases h
theorem Sm.ok_text {s : Sm.S} (h : Sm.ok s = true) : s.text.size ≤ 21 := by
  have he : s.text.toList.isEmpty = true → s.text.size ≤ 21 := fun h => by
    have h1 := List.isEmpty_iff.1 h
    rw [Go.ByteArray.toList_eq] at h1
    have h2 : s.text.data = #[] := by simpa using h1
    show s.text.data.size ≤ 21
    rw [h2]; simp
  unfold Sm.ok Sb.ok at h
  split at h
  · simp only [Bool.and_eq_true] at h; exact he h.2.2
  · split at h
    · simp only [Bool.and_eq_true] at h; exact he h.2.2
    · split at h
      · simp only [Bool.and_eq_true] at h; exact he h.2.2
      · split at h
        · simp only [Bool.and_eq_true, decide_eq_true_eq] at h; exact h.2.2
        · cases h
theorem Sm.res_set {b : Nat} {w4 : World} {A : Option Addr} {us : List ByteArray} {t : TypeId} (hat : AtStrs w4 w4.heap.size A us) (hn : ∀ u ∈ us, Nm.nameOk u.data.toList = true) (hb : w4.heap[b]? = some (.cells #[.int .i64 0, .string ⟨#[]⟩, .slice none 0 0, .string ⟨#[]⟩] t (0, 0))) (v0 v1 v2 v3 : Value) :
    AtStrs ((((w4.setCell ⟨b, 0, none⟩ v0).setCell ⟨b, 1, none⟩ v1).setCell ⟨b, 2, none⟩ v2).setCell ⟨b, 3, none⟩ v3) ((((w4.setCell ⟨b, 0, none⟩ v0).setCell ⟨b, 1, none⟩ v1).setCell ⟨b, 2, none⟩ v2).setCell ⟨b, 3, none⟩ v3).heap.size A us := by
  match us, hat, hn with
  | [], _, _ => exact at_none
  | u :: us', hat, hn =>
    have hne : ∀ g off, A = some ⟨g, off, none⟩ → b ≠ g := by
      rintro g off rfl rfl
      obtain ⟨g', off', hA, hlt, hc⟩ := hat.1 (by simp)
      injection hA with hA
      injection hA with h1 h2
      subst h1; subst h2
      have hu := hc 0 u rfl
      have hk := hn u (by simp)
      have hz : ∀ x : ByteArray, x = ⟨#[]⟩ → Nm.nameOk x.data.toList = true → False := by rintro x rfl h; revert h; decide
      simp [World.cell?, hb] at hu
      match off, hu with
      | 0, hu => cases hu
      | 1, hu => injection hu with hu; injection hu with hu; exact hz u hu.symm hk
      | 2, hu => cases hu
      | 3, hu => injection hu with hu; injection hu with hu; exact hz u hu.symm hk
      | off + 4, hu => cases hu
    exact ((((hat.setCell (p := ⟨b, 0, none⟩) hne v0).setCell (p := ⟨b, 1, none⟩) hne v1).setCell (p := ⟨b, 2, none⟩) hne v2).setCell (p := ⟨b, 3, none⟩) hne v3).mono (by simp)
end Go.Proofs.Ytnbggmmghopphaa
