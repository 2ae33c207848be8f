/- Pl: NmPlain OrdPlain, in one text. -/
import Derived.Below
import Derived.Laws.Strings
namespace Go.Proofs.YtmlmdpdboigojaaGreatDoor.Nm
set_option linter.unusedVariables false

/-- may the byte stand in a name? -/
def nb (c : UInt8) : Bool := decide (97 ≤ c.toNat ∧ c.toNat ≤ 122) || decide (48 ≤ c.toNat ∧ c.toNat ≤ 57)
theorem nb_yes {c : UInt8} (h : (97 ≤ c.toNat ∧ c.toNat ≤ 122) ∨ (48 ≤ c.toNat ∧ c.toNat ≤ 57)) : nb c = true := by
  unfold nb; simp only [Bool.or_eq_true, decide_eq_true_eq]; exact h
theorem nb_no {c : UInt8} (h : ¬ ((97 ≤ c.toNat ∧ c.toNat ≤ 122) ∨ (48 ≤ c.toNat ∧ c.toNat ≤ 57))) : nb c = false := by
  unfold nb; simp only [Bool.or_eq_false_iff, decide_eq_false_iff_not]; exact ⟨fun k => h (.inl k), fun k => h (.inr k)⟩
/-- how many bytes of a name begin the list -/
def run : List UInt8 → Nat
  | [] => 0
  | c :: l => if nb c = true then run l + 1 else 0
def lenOk (n : Nat) : Bool := decide (1 ≤ n ∧ n ≤ 8)
def nameOk (l : List UInt8) : Bool := l.all nb && lenOk l.length

theorem run_le (l : List UInt8) : run l ≤ l.length := by
  induction l with
  | nil => simp [run]
  | cons c l ih => unfold run; split <;> simp <;> omega
theorem run_step {l : List UInt8} {i : Nat} (hi : i < l.length) (h : nb l[i] = true) : run (l.drop i) = run (l.drop (i + 1)) + 1 := by
  rw [List.drop_eq_getElem_cons hi, run, if_pos h]
theorem run_stop {l : List UInt8} {i : Nat} (hi : i < l.length) (h : nb l[i] = false) : run (l.drop i) = 0 := by
  rw [List.drop_eq_getElem_cons hi, run, h]; rfl
theorem run_all (l : List UInt8) : l.all nb = true ↔ run l = l.length := by
  induction l with
  | nil => simp [run]
  | cons c l ih =>
    have := run_le l
    simp only [List.all_cons, Bool.and_eq_true, run, List.length_cons]
    by_cases h : nb c = true
    · rw [if_pos h, ih]; simp [h]
    · rw [if_neg h]; simp [h]
theorem nameOk_of_run (l : List UInt8) (h : run l = l.length) : nameOk l = lenOk l.length := by
  unfold nameOk; rw [(run_all l).2 h]; rfl
theorem nameOk_short (l : List UInt8) (h : run l ≠ l.length) : nameOk l = false := by
  unfold nameOk
  have : l.all nb ≠ true := fun e => h ((run_all l).1 e)
  simp [this]
theorem nameOk_len {l : List UInt8} (h : nameOk l = true) : 1 ≤ l.length ∧ l.length ≤ 8 := by
  unfold nameOk lenOk at h
  simp at h
  exact h.2
theorem lenOk_iff {n : Nat} : lenOk n = true ↔ 1 ≤ n ∧ n ≤ 8 := by unfold lenOk; simp
theorem all_step {l : List UInt8} {i : Nat} (hi : i < l.length) : (l.drop i).all nb = (nb l[i] && (l.drop (i + 1)).all nb) := by
  rw [List.drop_eq_getElem_cons hi]; rfl

end Go.Proofs.YtmlmdpdboigojaaGreatDoor.Nm

namespace Go.Proofs.YtmlmdpdboigojaaGreatDoor
set_option linter.unusedVariables false

theorem u8_tri (x y : UInt8) : x < y ∨ x = y ∨ y < x := by
  rcases Nat.lt_trichotomy x.toNat y.toNat with h | h | h
  · exact .inl (UInt8.lt_iff_toNat_lt.2 h)
  · exact .inr (.inl (UInt8.toNat_inj.1 h))
  · exact .inr (.inr (UInt8.lt_iff_toNat_lt.2 h))
theorem bl_irrefl : ∀ a : List UInt8, Op.bytesLess a a = false
  | [] => rfl
  | x :: a => by simp [Op.bytesLess, bl_irrefl a]
theorem bl_le : ∀ a b : List UInt8, (Op.bytesLess a b || a == b) = !(Op.bytesLess b a)
  | [], [] => rfl
  | [], y :: b => by simp [Op.bytesLess]
  | x :: a, [] => by simp [Op.bytesLess]
  | x :: a, y :: b => by
    have ih := bl_le a b
    simp only [Op.bytesLess, List.cons_beq_cons]
    rcases u8_tri x y with h | h | h
    · have h1 : ¬ y < x := UInt8.lt_asymm h
      have h2 : (x == y) = false := by simp; exact UInt8.ne_of_lt h
      have h3 : (y == x) = false := by simp; exact fun e => UInt8.ne_of_lt h e.symm
      simp [h, h1, h2, h3]
    · subst h
      have h1 : ¬ x < x := UInt8.lt_irrefl x
      simp only [h1, decide_false, Bool.false_or, beq_self_eq_true, Bool.true_and]
      exact ih
    · have h1 : ¬ x < y := UInt8.lt_asymm h
      have h2 : (x == y) = false := by simp; exact fun e => UInt8.ne_of_lt h e.symm
      simp [h, h1, h2]
theorem bl_trans : ∀ a b c : List UInt8, Op.bytesLess a b = true → Op.bytesLess b c = true → Op.bytesLess a c = true
  | a, b, [], _, h => by cases b <;> simp [Op.bytesLess] at h
  | a, [], c :: l, h, _ => by cases a <;> simp [Op.bytesLess] at h
  | [], y :: b, z :: c, _, _ => rfl
  | x :: a, y :: b, z :: c, h1, h2 => by
    simp only [Op.bytesLess, Bool.or_eq_true, decide_eq_true_eq, Bool.and_eq_true, beq_iff_eq] at h1 h2 ⊢
    rcases h1 with h1 | ⟨rfl, h1⟩ <;> rcases h2 with h2 | ⟨rfl, h2⟩
    · exact .inl (UInt8.lt_trans h1 h2)
    · exact .inl h1
    · exact .inl h2
    · exact .inr ⟨rfl, bl_trans _ _ _ h1 h2⟩
/-- a string stands ahead of another one -/
def slt (a b : ByteArray) : Bool := Op.bytesLess a.toList b.toList
theorem slt_irrefl (a : ByteArray) : slt a a = false := bl_irrefl _
theorem slt_trans {a b c : ByteArray} (h1 : slt a b = true) (h2 : slt b c = true) : slt a c = true := bl_trans _ _ _ h1 h2
theorem sle_eq (a b : ByteArray) : (Op.bytesLess a.toList b.toList || a.toList == b.toList) = !(slt b a) := bl_le _ _
theorem slt_ne {a b : ByteArray} (h : slt a b = true) : a ≠ b := by rintro rfl; rw [slt_irrefl] at h; cases h
theorem slt_asymm {a b : ByteArray} (h : slt a b = true) : slt b a = false := by
  cases hq : slt b a
  · rfl
  · exact absurd (slt_trans h hq) (by rw [slt_irrefl]; decide)

end Go.Proofs.YtmlmdpdboigojaaGreatDoor
