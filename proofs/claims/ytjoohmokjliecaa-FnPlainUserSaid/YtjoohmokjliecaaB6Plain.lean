/- Base64 as plain functions on lists of bytes: what both sides compute. No program in sight. -/
import Lean
namespace Go.Proofs.Ytjoohmokjliecaa
set_option linter.unusedVariables false
namespace B6

def tab : List UInt8 := [65, 66, 67, 68, 69, 70, 71, 72, 73, 74, 75, 76, 77, 78, 79, 80, 81, 82, 83, 84, 85, 86, 87, 88, 89, 90, 97, 98, 99, 100, 101, 102, 103, 104, 105, 106, 107, 108, 109, 110, 111, 112, 113, 114, 115, 116, 117, 118, 119, 120, 121, 122, 48, 49, 50, 51, 52, 53, 54, 55, 56, 57, 43, 47]
def sign (v : Nat) : UInt8 := tab.getD v 0
/-- the number of a sign -/
def val (b : UInt8) : Option Nat := tab.findIdx? (· == b)
def val0 (b : UInt8) : Nat := (val b).getD 0

theorem val_sign : ∀ v, v < 64 → val (sign v) = some v := by decide
theorem val_eq : val 61 = none := by decide
theorem val_lt {b : UInt8} {v : Nat} (h : val b = some v) : v < 64 := by
  have := List.findIdx?_eq_some_iff_getElem.1 h
  obtain ⟨h1, _⟩ := this
  exact h1
theorem val0_lt (b : UInt8) : val0 b < 64 := by
  unfold val0
  cases h : val b with
  | none => decide
  | some v => exact val_lt h

/-- three bytes as a number -/
def num (a b c : UInt8) : Nat := 65536 * a.toNat + 256 * b.toNat + c.toNat
def enc : List UInt8 → List UInt8
  | [] => []
  | [a] => [sign (num a 0 0 / 262144), sign (num a 0 0 / 4096 % 64), 61, 61]
  | [a, b] => [sign (num a b 0 / 262144), sign (num a b 0 / 4096 % 64), sign (num a b 0 / 64 % 64), 61]
  | a :: b :: c :: r => [sign (num a b c / 262144), sign (num a b c / 4096 % 64), sign (num a b c / 64 % 64), sign (num a b c % 64)] ++ enc r

theorem enc_len (l : List UInt8) : (enc l).length = (l.length + 2) / 3 * 4 := by
  induction l using enc.induct with
  | case1 => rfl
  | case2 a => simp [enc]
  | case3 a b => simp [enc]
  | case4 a b c r ih => simp only [enc, List.length_append, List.length_cons, List.length_nil, ih]; omega

/-- the bytes of a number of 24 bits -/
def bytes (n : Nat) : List UInt8 := [UInt8.ofNat (n / 65536), UInt8.ofNat (n / 256), UInt8.ofNat n]
/-- four signs, each counted (0 where it is none) -/
def decG (a b c d : UInt8) : List UInt8 := bytes (64 * (64 * (64 * val0 a + val0 b) + val0 c) + val0 d)
/-- the specification's decoding -/
def dec : List UInt8 → List UInt8
  | a :: b :: c :: d :: r => decG a b c d ++ dec r
  | _ => []

/-- the signs at the beginning of a group -/
def lead : List UInt8 → List Nat
  | [] => []
  | a :: r => match val a with
    | some v => v :: lead r
    | none => []
def fold (vs : List Nat) : Nat := vs.foldl (fun n v => 64 * n + v) 0
def readG (g : List UInt8) : List UInt8 := (bytes (fold (lead g) * 64 ^ (4 - (lead g).length))).take ((lead g).length * 6 / 8)
/-- the implementation's decoding -/
def read : List UInt8 → List UInt8
  | [] => []
  | a :: b :: c :: d :: r => readG [a, b, c, d] ++ read r
  | l => readG l

theorem u8 (a : UInt8) : a.toNat < 256 := a.toNat_lt

theorem bytes_num (a b c : UInt8) : bytes (num a b c) = [a, b, c] := by
  have ha := u8 a
  have hb := u8 b
  have hc := u8 c
  unfold bytes num
  have e1 : (65536 * a.toNat + 256 * b.toNat + c.toNat) / 65536 = a.toNat := by omega
  have e2 : (65536 * a.toNat + 256 * b.toNat + c.toNat) / 256 = 256 * a.toNat + b.toNat := by omega
  rw [e1, e2]
  have f2 : UInt8.ofNat (256 * a.toNat + b.toNat) = b := by
    apply UInt8.toNat_inj.1
    rw [UInt8.toNat_ofNat']
    omega
  have f3 : UInt8.ofNat (65536 * a.toNat + 256 * b.toNat + c.toNat) = c := by
    apply UInt8.toNat_inj.1
    rw [UInt8.toNat_ofNat']
    omega
  rw [f2, f3, UInt8.ofNat_toNat]

theorem num_lt (a b c : UInt8) : num a b c < 16777216 := by
  have ha := u8 a
  have hb := u8 b
  have hc := u8 c
  unfold num; omega

theorem val0_sign {v : Nat} (h : v < 64) : val0 (sign v) = v := by unfold val0; rw [val_sign v h]; rfl
theorem val0_eq : val0 61 = 0 := by unfold val0; rw [val_eq]; rfl

theorem decG_sign (a b c : UInt8) : decG (sign (num a b c / 262144)) (sign (num a b c / 4096 % 64)) (sign (num a b c / 64 % 64)) (sign (num a b c % 64)) = [a, b, c] := by
  have h := num_lt a b c
  unfold decG
  rw [val0_sign (by omega), val0_sign (by omega), val0_sign (by omega), val0_sign (by omega)]
  rw [← bytes_num a b c]
  congr 1
  omega
theorem num2 (a b : UInt8) : num a b 0 % 64 = 0 := by
  unfold num
  have : (0 : UInt8).toNat = 0 := rfl
  rw [this]; omega
theorem num1 (a : UInt8) : num a 0 0 / 64 % 64 = 0 := by
  unfold num
  have : (0 : UInt8).toNat = 0 := rfl
  rw [this]; omega
theorem num1' (a : UInt8) : num a 0 0 % 64 = 0 := num2 a 0
theorem decG_two (a b : UInt8) : decG (sign (num a b 0 / 262144)) (sign (num a b 0 / 4096 % 64)) (sign (num a b 0 / 64 % 64)) 61 = [a, b, 0] := by
  have h := num_lt a b 0
  have := num2 a b
  unfold decG
  rw [val0_sign (by omega), val0_sign (by omega), val0_sign (by omega), val0_eq]
  rw [← bytes_num a b 0]
  congr 1
  omega
theorem decG_one (a : UInt8) : decG (sign (num a 0 0 / 262144)) (sign (num a 0 0 / 4096 % 64)) 61 61 = [a, 0, 0] := by
  have h := num_lt a 0 0
  have := num1 a
  have := num1' a
  unfold decG
  rw [val0_sign (by omega), val0_sign (by omega), val0_eq]
  rw [← bytes_num a 0 0]
  congr 1
  omega

/-- the specification's decoding gives the bytes, and at most two noughts more -/
theorem dec_enc (l : List UInt8) : ∃ k, k ≤ 2 ∧ dec (enc l) = l ++ List.replicate k 0 := by
  induction l using enc.induct with
  | case1 => exact ⟨0, by omega, rfl⟩
  | case2 a => exact ⟨2, by omega, by simp only [enc, dec, decG_one]; rfl⟩
  | case3 a b => exact ⟨1, by omega, by simp only [enc, dec, decG_two]; rfl⟩
  | case4 a b c r ih =>
    obtain ⟨k, hk, e⟩ := ih
    exact ⟨k, hk, by simp only [enc, List.cons_append, List.nil_append, dec, decG_sign, e]⟩

theorem lead_sign {v : Nat} (h : v < 64) (r : List UInt8) : lead (sign v :: r) = v :: lead r := by simp only [lead, val_sign v h]
theorem lead_eq (r : List UInt8) : lead (61 :: r) = [] := by simp only [lead, val_eq]

theorem readG_sign (a b c : UInt8) : readG [sign (num a b c / 262144), sign (num a b c / 4096 % 64), sign (num a b c / 64 % 64), sign (num a b c % 64)] = [a, b, c] := by
  have h := num_lt a b c
  unfold readG
  rw [lead_sign (by omega), lead_sign (by omega), lead_sign (by omega), lead_sign (by omega)]
  simp only [lead, fold, List.foldl, List.length_cons, List.length_nil]
  have : (64 * (64 * (64 * (64 * 0 + num a b c / 262144) + num a b c / 4096 % 64) + num a b c / 64 % 64) + num a b c % 64) * 64 ^ (4 - (0 + 1 + 1 + 1 + 1)) = num a b c := by
    simp only [Nat.reduceAdd, Nat.reduceSub, Nat.pow_zero]
    omega
  rw [this, bytes_num]
  rfl
theorem readG_two (a b : UInt8) : readG [sign (num a b 0 / 262144), sign (num a b 0 / 4096 % 64), sign (num a b 0 / 64 % 64), 61] = [a, b] := by
  have h := num_lt a b 0
  have h2 := num2 a b
  unfold readG
  rw [lead_sign (by omega), lead_sign (by omega), lead_sign (by omega), lead_eq]
  simp only [fold, List.foldl, List.length_cons, List.length_nil]
  have : (64 * (64 * (64 * 0 + num a b 0 / 262144) + num a b 0 / 4096 % 64) + num a b 0 / 64 % 64) * 64 ^ (4 - (0 + 1 + 1 + 1)) = num a b 0 := by
    simp only [Nat.reduceAdd, Nat.reduceSub, Nat.pow_one]
    omega
  rw [this, bytes_num]
  rfl
theorem readG_one (a : UInt8) : readG [sign (num a 0 0 / 262144), sign (num a 0 0 / 4096 % 64), 61, 61] = [a] := by
  have h := num_lt a 0 0
  have h1 := num1 a
  have h2 := num1' a
  unfold readG
  rw [lead_sign (by omega), lead_sign (by omega), lead_eq]
  simp only [fold, List.foldl, List.length_cons, List.length_nil]
  have : (64 * (64 * 0 + num a 0 0 / 262144) + num a 0 0 / 4096 % 64) * 64 ^ (4 - (0 + 1 + 1)) = num a 0 0 := by
    simp only [Nat.reduceAdd, Nat.reduceSub, Nat.reducePow]
    omega
  rw [this, bytes_num]
  rfl

theorem read_enc (l : List UInt8) : read (enc l) = l := by
  induction l using enc.induct with
  | case1 => rfl
  | case2 a => simp only [enc, read, readG_one, List.append_nil]
  | case3 a b => simp only [enc, read, readG_two, List.append_nil]
  | case4 a b c r ih => simp only [enc, List.cons_append, List.nil_append, read, readG_sign, ih]

theorem enc_inj {a b : List UInt8} (h : enc a = enc b) : a = b := by rw [← read_enc a, h, read_enc]

theorem readG_len (g : List UInt8) (h : g.length ≤ 4) : (readG g).length ≤ 3 := by
  unfold readG
  rw [List.length_take]
  exact Nat.le_trans (Nat.min_le_right _ _) (Nat.le_refl _)
theorem read_len (l : List UInt8) : (read l).length ≤ (l.length + 3) / 4 * 3 := by
  induction l using read.induct with
  | case1 => simp [read]
  | case2 a b c d r ih =>
    have := readG_len [a, b, c, d] (by simp)
    simp only [read, List.length_append, List.length_cons]
    omega
  | case3 l h1 h2 =>
    have h4 : l.length ≤ 3 := by
      match l, h1, h2 with
      | [], _, _ => simp
      | [_], _, _ => simp
      | [_, _], _, _ => simp
      | [_, _, _], _, _ => simp
      | a :: b :: c :: d :: r, _, h2 => exact absurd rfl (h2 a b c d r)
    have h5 : 0 < l.length := by
      match l, h1 with
      | [], h1 => exact absurd rfl h1
      | a :: r, _ => simp
    have : read l = readG l := by
      match l, h1, h2 with
      | [], h1, _ => exact absurd rfl h1
      | [_], _, _ => rfl
      | [_, _], _, _ => rfl
      | [_, _, _], _, _ => rfl
      | a :: b :: c :: d :: r, _, h2 => exact absurd rfl (h2 a b c d r)
    rw [this]
    have := readG_len l (by omega)
    omega

/-- the answer of both sides: the bytes whose text it is -/
def decode (t : List UInt8) : Option (List UInt8) := if t.length ≤ 40 ∧ enc (read t) = t then some (read t) else none

theorem decode_some {t s : List UInt8} (h : decode t = some s) : enc s = t ∧ t.length ≤ 40 := by
  unfold decode at h
  split at h
  · rename_i h1; injection h with h; subst h; exact ⟨h1.2, h1.1⟩
  · cases h
theorem decode_enc {s : List UInt8} (h : s.length ≤ 30) : decode (enc s) = some s := by
  unfold decode
  rw [read_enc, enc_len, if_pos ⟨by omega, rfl⟩]
theorem decode_none {t s : List UInt8} (h : decode t = none) (ht : t.length ≤ 40) : enc s ≠ t := by
  intro e
  subst e
  unfold decode at h
  rw [read_enc, if_pos ⟨ht, rfl⟩] at h
  cases h
end B6
end Go.Proofs.Ytjoohmokjliecaa
