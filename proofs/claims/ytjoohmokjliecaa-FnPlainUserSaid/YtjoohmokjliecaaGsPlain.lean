/- A text in groups: plain Lean. -/
import Derived.Test.YtjoohmokjliecaaB6Plain
namespace Go.Proofs.Ytjoohmokjliecaa
set_option linter.unusedVariables false
namespace Gs
/-- the groups of K bytes -/
def gs (K : Nat) (L : List UInt8) : List (List UInt8) := (List.range ((L.length + (K - 1)) / K)).map fun i => (L.drop (i * K)).take K
theorem gs3 (a b c : UInt8) (r : List UInt8) : gs 3 (a :: b :: c :: r) = [a, b, c] :: gs 3 r := by
  unfold gs
  have h : ((a :: b :: c :: r).length + (3 - 1)) / 3 = (r.length + (3 - 1)) / 3 + 1 := by simp only [List.length_cons]; omega
  rw [h, List.range_succ_eq_map, List.map_cons, List.map_map]
  congr 1
  apply List.map_congr_left
  intro i _
  simp only [Function.comp, Nat.succ_mul]
  rfl
theorem gs4 (a b c d : UInt8) (r : List UInt8) : gs 4 (a :: b :: c :: d :: r) = [a, b, c, d] :: gs 4 r := by
  unfold gs
  have h : ((a :: b :: c :: d :: r).length + (4 - 1)) / 4 = (r.length + (4 - 1)) / 4 + 1 := by simp only [List.length_cons]; omega
  rw [h, List.range_succ_eq_map, List.map_cons, List.map_map]
  congr 1
  apply List.map_congr_left
  intro i _
  simp only [Function.comp, Nat.succ_mul]
  rfl
theorem gs_enc (L : List UInt8) : (gs 3 L).flatMap B6.enc = B6.enc L := by
  induction L using B6.enc.induct with
  | case1 => rfl
  | case2 a => simp [gs, List.range_succ]
  | case3 a b => simp [gs, List.range_succ]
  | case4 a b c r ih =>
    rw [gs3, List.flatMap_cons, ih]
    simp only [B6.enc, List.append_nil]
theorem gs_read (L : List UInt8) : (gs 4 L).flatMap B6.readG = B6.read L := by
  induction L using B6.read.induct with
  | case1 => rfl
  | case2 a b c d r ih => rw [gs4, List.flatMap_cons, ih]; rfl
  | case3 l h1 h2 =>
    match l, h1, h2 with
    | [], h1, _ => exact absurd rfl h1
    | [_], _, _ => simp [gs, List.range_succ, B6.read]
    | [_, _], _, _ => simp [gs, List.range_succ, B6.read]
    | [_, _, _], _, _ => simp [gs, List.range_succ, B6.read]
    | a :: b :: c :: d :: r, _, h2 => exact absurd rfl (h2 a b c d r)
/-- a group is not empty, and not too long -/
abbrev G (K : Nat) := { s : ByteArray // 1 ≤ s.size ∧ s.size ≤ K }
theorem ok {s : ByteArray} {K i : Nat} (hK : 1 ≤ K) (h : i * K < s.size) : 1 ≤ (s.extract (i * K) (min (i * K + K) s.size)).size ∧ (s.extract (i * K) (min (i * K + K) s.size)).size ≤ K := by
  rw [ByteArray.size_extract]; omega
def at_ (s : ByteArray) (K : Nat) (hK : 1 ≤ K) (i : Nat) : G K :=
  if h : i * K < s.size then ⟨s.extract (i * K) (min (i * K + K) s.size), ok hK h⟩ else ⟨⟨#[0]⟩, by decide, hK⟩
theorem at_val {s : ByteArray} {K : Nat} (hK : 1 ≤ K) {i : Nat} (h : i * K < s.size) : (at_ s K hK i).1 = s.extract (i * K) (min (i * K + K) s.size) := by unfold at_; rw [dif_pos h]
def upto {α : Type} (f : Nat → α) (k : Nat) : List α := (List.range k).map f
theorem upto_succ {α : Type} (f : Nat → α) (k : Nat) : upto f (k + 1) = upto f k ++ [f k] := by simp [upto, List.range_succ]
theorem upto_length {α : Type} (f : Nat → α) (k : Nat) : (upto f k).length = k := by simp [upto]
theorem groups (s : ByteArray) (K : Nat) (hK : 1 ≤ K) : (upto (at_ s K hK) ((s.size + (K - 1)) / K)).map (fun g => g.1.data.toList) = gs K s.data.toList := by
  unfold upto gs
  rw [List.map_map]
  have hl : s.data.toList.length = s.size := Array.length_toList
  rw [hl]
  apply List.map_congr_left
  intro i hi
  rw [List.mem_range] at hi
  have h : i * K < s.size := by
    have h1 : (i + 1) * K ≤ s.size + (K - 1) := (Nat.le_div_iff_mul_le (by omega)).1 hi
    rw [Nat.succ_mul] at h1
    omega
  show (at_ s K hK i).1.data.toList = _
  rw [at_val hK h]
  simp only [ByteArray.data_extract, Array.toList_extract, List.extract_eq_take_drop]
  apply List.ext_getElem?
  intro j
  simp only [List.getElem?_take, List.getElem?_drop]
  by_cases hj : j < K
  · by_cases hs : i * K + j < s.size
    · rw [if_pos (by omega), if_pos hj]
    · rw [if_neg (by omega), if_pos hj, List.getElem?_eq_none (by omega)]
  · rw [if_neg (by omega), if_neg hj]
end Gs
end Go.Proofs.Ytjoohmokjliecaa
