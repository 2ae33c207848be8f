/- More plain facts on the parsing of rights: order, repetition, number of letters. No program. -/
import Derived.Test.YtmjpcfohgldpoaaRtPlain
namespace Go.Proofs.Ytmjpcfohgldpoaa.Rt
set_option linter.unusedVariables false

def ok2 (o x : Nat) : Bool := !(x == 0) && !(o / x % 2 == 1)
theorem okB_eq (o : Nat) (c : UInt8) : okB o c = ok2 o (bit c) := rfl
def bits7 : List Nat := [0, 1, 2, 4, 8, 16, 32]
theorem bit_mem (c : UInt8) : bit c ∈ bits7 := by
  rcases bit_cases c with h | ⟨k, hk, h⟩
  · rw [h]; decide
  · rw [h]
    have hk' : k = 0 ∨ k = 1 ∨ k = 2 ∨ k = 3 ∨ k = 4 ∨ k = 5 := by omega
    rcases hk' with rfl | rfl | rfl | rfl | rfl | rfl <;> decide
theorem swap2 : ∀ o, o < 64 → ∀ x ∈ bits7, ∀ y ∈ bits7, (ok2 o x && ok2 (o + x) y) = (ok2 o y && ok2 (o + y) x) := by decide +kernel
theorem count2 : ∀ o, o < 64 → ∀ x ∈ bits7, ok2 o x = true → (textTo (o + x) 6).length = (textTo o 6).length + 1 := by decide +kernel
theorem stay2 : ∀ o, o < 64 → ∀ x ∈ bits7, ∀ y ∈ bits7, ok2 o y = true → ok2 o x = false → ok2 (o + y) x = false := by decide +kernel
theorem twice2 : ∀ o, o < 64 → ∀ x ∈ bits7, ok2 o x = true → ok2 (o + x) x = false := by decide +kernel
theorem ok2_lt {o : Nat} {c : UInt8} (ho : o < 64) (h : okB o c = true) : o + bit c < 64 := (okB_lt ho h).2.1

theorem parse_lt : ∀ (l : List UInt8) (o o' : Nat), o < 64 → parse o l = some o' → o' < 64
  | [], o, o', ho, h => by simp [parse] at h; omega
  | c :: l, o, o', ho, h => by
    unfold parse at h
    by_cases hok : okB o c = true
    · rw [if_pos hok] at h
      exact parse_lt l _ _ (ok2_lt ho hok) h
    · rw [if_neg hok] at h; cases h
theorem parse_swap (a b : UInt8) (l : List UInt8) (o : Nat) (ho : o < 64) : parse o (a :: b :: l) = parse o (b :: a :: l) := by
  have hs := swap2 o ho _ (bit_mem a) _ (bit_mem b)
  simp only [parse]
  rw [okB_eq, okB_eq, okB_eq, okB_eq]
  have e : o + bit a + bit b = o + bit b + bit a := by omega
  rw [e]
  cases h1 : ok2 o (bit a) <;> cases h2 : ok2 (o + bit a) (bit b) <;> cases h3 : ok2 o (bit b) <;> cases h4 : ok2 (o + bit b) (bit a) <;> simp_all
theorem parse_perm {l l' : List UInt8} (h : l.Perm l') : ∀ o, o < 64 → parse o l = parse o l' := by
  induction h with
  | nil => intros; rfl
  | cons x _ ih =>
    intro o ho
    simp only [parse]
    by_cases hok : okB o x = true
    · rw [if_pos hok, if_pos hok]; exact ih _ (ok2_lt ho hok)
    · rw [if_neg hok, if_neg hok]
  | swap x y l => intro o ho; exact parse_swap y x l o ho
  | trans _ _ ih1 ih2 => intro o ho; rw [ih1 o ho, ih2 o ho]
theorem parse_rev (l : List UInt8) : parse 0 l.reverse = parse 0 l := parse_perm (List.reverse_perm l) 0 (by omega)
theorem parse_count : ∀ (l : List UInt8) (o o' : Nat), o < 64 → parse o l = some o' → (textTo o' 6).length = (textTo o 6).length + l.length
  | [], o, o', ho, h => by simp [parse] at h; subst h; simp
  | c :: l, o, o', ho, h => by
    unfold parse at h
    by_cases hok : okB o c = true
    · rw [if_pos hok] at h
      have := parse_count l _ _ (ok2_lt ho hok) h
      have h2 := count2 o ho _ (bit_mem c) (by rw [← okB_eq]; exact hok)
      simp only [List.length_cons]; omega
    · rw [if_neg hok] at h; cases h
theorem parse_length {l : List UInt8} {o : Nat} (h : parse 0 l = some o) : (textTo o 6).length = l.length := by
  have := parse_count l 0 o (by omega) h
  have e : (textTo 0 6).length = 0 := by decide
  omega
theorem parse_stay : ∀ (l : List UInt8) (o o' : Nat) (c : UInt8), o < 64 → parse o l = some o' → okB o c = false → okB o' c = false
  | [], o, o', c, ho, h, hc => by simp [parse] at h; subst h; exact hc
  | d :: l, o, o', c, ho, h, hc => by
    unfold parse at h
    by_cases hok : okB o d = true
    · rw [if_pos hok] at h
      exact parse_stay l _ _ c (ok2_lt ho hok) h (stay2 o ho _ (bit_mem c) _ (bit_mem d) hok hc)
    · rw [if_neg hok] at h; cases h
theorem parse_append : ∀ (l l' : List UInt8) (o : Nat), parse o (l ++ l') = (parse o l).bind fun o' => parse o' l'
  | [], l', o => by simp [parse]
  | c :: l, l', o => by
    simp only [List.cons_append, parse]
    by_cases hok : okB o c = true
    · rw [if_pos hok, if_pos hok]; exact parse_append l l' _
    · rw [if_neg hok, if_neg hok]; rfl
theorem parse_twice {l : List UInt8} {o : Nat} (h : parse 0 l = some o) (hl : l ≠ []) : parse 0 (l ++ l) = none := by
  rw [parse_append, h]
  cases l with
  | nil => exact absurd rfl hl
  | cons c l =>
    have h' := h
    unfold parse at h'
    by_cases hok : okB 0 c = true
    · rw [if_pos hok] at h'
      have hn := twice2 0 (by omega) _ (bit_mem c) hok
      have := parse_stay l _ _ c (ok2_lt (by omega) hok) h' hn
      simp [parse, this]
    · rw [if_neg hok] at h'; cases h'
theorem parse_z {l : List UInt8} {o : Nat} (h : parse 0 l = some o) : parse 0 (l ++ [122]) = none := by
  rw [parse_append, h]
  have : okB o 122 = false := by
    rw [okB_eq]
    have e : bit 122 = 0 := by decide
    rw [e]; rfl
  simp [parse, this]

end Go.Proofs.Ytmjpcfohgldpoaa.Rt
