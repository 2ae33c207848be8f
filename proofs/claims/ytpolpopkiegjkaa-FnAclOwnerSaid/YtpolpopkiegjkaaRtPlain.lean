/- Plain facts on rights: bits of letters, parsing and printing. No program. -/
import Derived.Below
namespace Go.Proofs.Ytpolpopkiegjkaa.Rt
set_option linter.unusedVariables false

def letter (k : Nat) : UInt8 := [108, 114, 119, 105, 101, 97].getD k 0
def bitTo (c : UInt8) : Nat → Nat
  | 0 => 0
  | k + 1 => if letter k = c then 2 ^ k else bitTo c k
def bit (c : UInt8) : Nat := bitTo c 6

/-- may the letter be taken after 'out'? -/
def okB (out : Nat) (c : UInt8) : Bool := !(bit c == 0) && !(out / bit c % 2 == 1)
def parse : Nat → List UInt8 → Option Nat
  | out, [] => some out
  | out, c :: l => if okB out c = true then parse (out + bit c) l else none

theorem bit_cases (c : UInt8) : bit c = 0 ∨ ∃ k, k < 6 ∧ bit c = 2 ^ k := by
  unfold bit
  simp only [bitTo]
  repeat' split
  all_goals first | (left; rfl) | (right; first | exact ⟨0, by omega, rfl⟩ | exact ⟨1, by omega, rfl⟩ | exact ⟨2, by omega, rfl⟩ | exact ⟨3, by omega, rfl⟩ | exact ⟨4, by omega, rfl⟩ | exact ⟨5, by omega, rfl⟩)

theorem bit_le (c : UInt8) : bit c ≤ 32 := by
  rcases bit_cases c with h | ⟨k, hk, h⟩
  · omega
  · rw [h]; exact Nat.pow_le_pow_right (by omega) (by omega : k ≤ 5)

theorem add_lt : ∀ out : Nat, out < 64 → ∀ k, k < 6 → out / 2 ^ k % 2 = 0 → out + 2 ^ k < 64 := by decide
theorem okB_lt {out : Nat} {c : UInt8} (ho : out < 64) (h : okB out c = true) : 0 < bit c ∧ out + bit c < 64 ∧ out / bit c % 2 = 0 := by
  unfold okB at h
  simp at h
  obtain ⟨h0, h1⟩ := h
  refine ⟨by omega, ?_, h1⟩
  rcases bit_cases c with hb | ⟨k, hk, hb⟩
  · omega
  · rw [hb] at h1 ⊢
    exact add_lt out ho k hk h1
theorem okB_false {out : Nat} {c : UInt8} (h : okB out c = false) : bit c = 0 ∨ (0 < bit c ∧ out / bit c % 2 = 1) := by
  unfold okB at h
  simp at h
  by_cases h0 : bit c = 0
  · exact .inl h0
  · exact .inr ⟨by omega, by have := h h0; omega⟩

theorem parse_step {out : Nat} {l : List UInt8} {i : Nat} (hi : i < l.length) :
    parse out (l.drop i) = if okB out l[i] = true then parse (out + bit l[i]) (l.drop (i + 1)) else none := by
  rw [List.drop_eq_getElem_cons hi, parse]
theorem bitTo_succ (c : UInt8) (k : Nat) : bitTo c (k + 1) = if letter k = c then 2 ^ k else bitTo c k := rfl

/-- 2 to the k, closed to the walk -/
def pw (k : Nat) : Nat := 2 ^ k
theorem pw_pos (k : Nat) : 0 < pw k := Nat.two_pow_pos k
theorem pw_le {k : Nat} (h : k < 6) : pw k ≤ 32 := Nat.pow_le_pow_right (by omega) (by omega : k ≤ 5)
/-- has the number r the bit k? -/
def hasB (r k : Nat) : Bool := r / pw k % 2 == 1
/-- the letters of the first k bits of r -/
def textTo (r : Nat) : Nat → List UInt8
  | 0 => []
  | k + 1 => textTo r k ++ if hasB r k = true then [letter k] else []
def text (r : Int) : List UInt8 := if 0 ≤ r ∧ r ≤ 63 then textTo r.toNat 6 else []
theorem textTo_succ (r k : Nat) : textTo r (k + 1) = textTo r k ++ if hasB r k = true then [letter k] else [] := rfl
theorem textTo_le (r k : Nat) : (textTo r k).length ≤ k := by
  induction k with
  | zero => simp [textTo]
  | succ k ih => rw [textTo_succ]; split <;> simp <;> omega
theorem text_le (r : Int) : (text r).length ≤ 6 := by
  unfold text; split
  · exact textTo_le _ 6
  · simp
theorem text_of (r : Nat) (h : r < 64) : text (r : Int) = textTo r 6 := by
  unfold text; rw [if_pos ⟨by omega, by omega⟩]; simp
theorem text_bad (r : Int) (h : ¬ (0 ≤ r ∧ r ≤ 63)) : text r = [] := if_neg h

end Go.Proofs.Ytpolpopkiegjkaa.Rt
