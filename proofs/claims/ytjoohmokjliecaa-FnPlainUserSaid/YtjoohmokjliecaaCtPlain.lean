/- A text cut at every byte of a kind: plain Lean. -/
import Lean
namespace Go.Proofs.Ytjoohmokjliecaa
set_option linter.unusedVariables false
namespace Ct
def cut (c : UInt8) : List UInt8 → List (List UInt8)
  | [] => [[]]
  | a :: r => if a = c then [] :: cut c r else match cut c r with
    | p :: ps => (a :: p) :: ps
    | [] => [[a]]
theorem cut_ne (c : UInt8) (l : List UInt8) : cut c l ≠ [] := by
  cases l with
  | nil => simp [cut]
  | cons a r =>
    unfold cut
    split
    · simp
    · split <;> simp
theorem cut_none (c : UInt8) : ∀ p : List UInt8, (∀ x ∈ p, x ≠ c) → cut c p = [p]
  | [], _ => rfl
  | a :: r, h => by
    have ih := cut_none c r (fun x hx => h x (List.mem_cons_of_mem _ hx))
    unfold cut
    rw [if_neg (h a (List.mem_cons_self ..)), ih]
theorem cut_at (c : UInt8) (r : List UInt8) : ∀ p : List UInt8, (∀ x ∈ p, x ≠ c) → cut c (p ++ c :: r) = p :: cut c r
  | [], _ => by rw [List.nil_append, cut, if_pos rfl]
  | a :: p, h => by
    have ih := cut_at c r p (fun x hx => h x (List.mem_cons_of_mem _ hx))
    rw [List.cons_append, cut, if_neg (h a (List.mem_cons_self ..)), ih]
theorem cut_len (c : UInt8) (l : List UInt8) : (cut c l).length ≤ l.length + 1 := by
  induction l with
  | nil => simp [cut]
  | cons a r ih =>
    unfold cut
    split
    · simp only [List.length_cons]; omega
    · split
      · rename_i h; rw [h] at ih; simp only [List.length_cons] at ih ⊢; omega
      · simp
/-- the pieces together with the bytes between them are no longer than the text -/
theorem cut_size (c : UInt8) (l : List UInt8) : ∀ p ∈ cut c l, p.length ≤ l.length := by
  induction l with
  | nil => simp [cut]
  | cons a r ih =>
    unfold cut
    split
    · intro p hp
      rcases List.mem_cons.1 hp with rfl | hp
      · simp
      · have := ih p hp; simp only [List.length_cons]; omega
    · split
      · rename_i q qs h
        rw [h] at ih
        intro p hp
        rcases List.mem_cons.1 hp with rfl | hp
        · have := ih q (List.mem_cons_self ..); simp only [List.length_cons]; omega
        · have := ih p (List.mem_cons_of_mem _ hp); simp only [List.length_cons]; omega
      · intro p hp
        simp at hp; subst hp; simp
def mk (l : List UInt8) : ByteArray := ⟨l.toArray⟩
def cutB (c : UInt8) (s : ByteArray) : List ByteArray := (cut c s.data.toList).map mk
end Ct
end Go.Proofs.Ytjoohmokjliecaa
