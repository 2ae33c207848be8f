/- Plain facts on names. No program. -/
import Derived.Below
namespace Go.Proofs.Ytjoohmokjliecaa.Nm
set_option linter.unusedVariables false

/-- may the byte stand in a name? -/
def nb (c : UInt8) : Bool := decide (97 ≤ c.toNat ∧ c.toNat ≤ 122) || decide (48 ≤ c.toNat ∧ c.toNat ≤ 57)
theorem nb_yes {c : UInt8} (h : (97 ≤ c.toNat ∧ c.toNat ≤ 122) ∨ (48 ≤ c.toNat ∧ c.toNat ≤ 57)) : nb c = true := by
  unfold nb; simp only [Bool.or_eq_true, decide_eq_true_eq]; exact h
theorem nb_no {c : UInt8} (h : ¬ ((97 ≤ c.toNat ∧ c.toNat ≤ 122) ∨ (48 ≤ c.toNat ∧ c.toNat ≤ 57))) : nb c = false := by
  unfold nb; simp only [Bool.or_eq_false_iff, decide_eq_false_iff_not]; exact ⟨fun k => h (.inl k), fun k => h (.inr k)⟩
/-- how many bytes of a name begin the list -/
def run : List UInt8 → Nat
  | [] => 0
  | c :: l => if nb c = true then run l + 1 else 0
def lenOk (n : Nat) : Bool := decide (1 ≤ n ∧ n ≤ 8)
def nameOk (l : List UInt8) : Bool := l.all nb && lenOk l.length

theorem run_le (l : List UInt8) : run l ≤ l.length := by
  induction l with
  | nil => simp [run]
  | cons c l ih => unfold run; split <;> simp <;> omega
theorem run_step {l : List UInt8} {i : Nat} (hi : i < l.length) (h : nb l[i] = true) : run (l.drop i) = run (l.drop (i + 1)) + 1 := by
  rw [List.drop_eq_getElem_cons hi, run, if_pos h]
theorem run_stop {l : List UInt8} {i : Nat} (hi : i < l.length) (h : nb l[i] = false) : run (l.drop i) = 0 := by
  rw [List.drop_eq_getElem_cons hi, run, h]; rfl
theorem run_all (l : List UInt8) : l.all nb = true ↔ run l = l.length := by
  induction l with
  | nil => simp [run]
  | cons c l ih =>
    have := run_le l
    simp only [List.all_cons, Bool.and_eq_true, run, List.length_cons]
    by_cases h : nb c = true
    · rw [if_pos h, ih]; simp [h]
    · rw [if_neg h]; simp [h]
theorem nameOk_of_run (l : List UInt8) (h : run l = l.length) : nameOk l = lenOk l.length := by
  unfold nameOk; rw [(run_all l).2 h]; rfl
theorem nameOk_short (l : List UInt8) (h : run l ≠ l.length) : nameOk l = false := by
  unfold nameOk
  have : l.all nb ≠ true := fun e => h ((run_all l).1 e)
  simp [this]
theorem nameOk_len {l : List UInt8} (h : nameOk l = true) : 1 ≤ l.length ∧ l.length ≤ 8 := by
  unfold nameOk lenOk at h
  simp at h
  exact h.2
theorem lenOk_iff {n : Nat} : lenOk n = true ↔ 1 ≤ n ∧ n ≤ 8 := by unfold lenOk; simp
theorem all_step {l : List UInt8} {i : Nat} (hi : i < l.length) : (l.drop i).all nb = (nb l[i] && (l.drop (i + 1)).all nb) := by
  rw [List.drop_eq_getElem_cons hi]; rfl

end Go.Proofs.Ytjoohmokjliecaa.Nm
