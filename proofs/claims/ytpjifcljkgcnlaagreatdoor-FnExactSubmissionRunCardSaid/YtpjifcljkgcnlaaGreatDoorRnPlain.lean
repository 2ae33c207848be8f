/- What a run of lines gives: plain facts. -/
import Derived.Test.YtpjifcljkgcnlaaGreatDoorSmP
import Derived.Test.YtpjifcljkgcnlaaGreatDoorPl
import Derived.Test.YtpjifcljkgcnlaaGreatDoorSbX
namespace Go.Proofs.YtpjifcljkgcnlaaGreatDoor
set_option linter.unusedVariables false
open Us (U)

namespace Rn
/-- a letter -/
structure V where
  f : ByteArray
  us : List ByteArray
  t : ByteArray
def s0 : Sm.S := ⟨0, Sm.e0, [], Sm.e0⟩
/-- is the letter of a session complete? -/
def done (s : Sm.S) : Bool := Sm.ok s && decide (s.st = 5) && decide (s.text.size ≤ 20)
/-- the letters that a line completes -/
def step (s : Sm.S) (l : ByteArray) : List V := if done s = true ∧ l = ⟨#[46]⟩ then [⟨s.user, s.tos, s.text⟩] else []
/-- the session behind lines -/
def st (us : List U) (d : ByteArray) (s : Sm.S) : List ByteArray → Sm.S
  | [] => s
  | l :: r => st us d (Sm.line us d s l).1 r
def reps (us : List U) (d : ByteArray) (s : Sm.S) : List ByteArray → List Int
  | [] => []
  | l :: r => (Sm.line us d s l).2 :: reps us d (Sm.line us d s l).1 r
def lets (us : List U) (d : ByteArray) (s : Sm.S) : List ByteArray → List V
  | [] => []
  | l :: r => step s l ++ lets us d (Sm.line us d s l).1 r
variable {us : List U} {d : ByteArray}
theorem st_snoc (s : Sm.S) (ls : List ByteArray) (l : ByteArray) : st us d s (ls ++ [l]) = (Sm.line us d (st us d s ls) l).1 := by
  induction ls generalizing s with
  | nil => rfl
  | cons a r ih => exact ih _
theorem reps_snoc (s : Sm.S) (ls : List ByteArray) (l : ByteArray) : reps us d s (ls ++ [l]) = reps us d s ls ++ [(Sm.line us d (st us d s ls) l).2] := by
  induction ls generalizing s with
  | nil => rfl
  | cons a r ih => exact congrArg (_ :: ·) (ih _)
theorem lets_snoc (s : Sm.S) (ls : List ByteArray) (l : ByteArray) : lets us d s (ls ++ [l]) = lets us d s ls ++ step (st us d s ls) l := by
  induction ls generalizing s with
  | nil => show step s l ++ [] = [] ++ step s l; simp
  | cons a r ih => exact (congrArg (step s a ++ ·) (ih _)).trans (List.append_assoc _ _ _).symm
theorem reps_app (s : Sm.S) (a b : List ByteArray) : reps us d s (a ++ b) = reps us d s a ++ reps us d (st us d s a) b := by
  induction a generalizing s with
  | nil => rfl
  | cons x r ih => exact congrArg (_ :: ·) (ih _)
theorem lets_app (s : Sm.S) (a b : List ByteArray) : lets us d s (a ++ b) = lets us d s a ++ lets us d (st us d s a) b := by
  induction a generalizing s with
  | nil => rfl
  | cons x r ih => exact (congrArg (step s x ++ ·) (ih _)).trans (List.append_assoc _ _ _).symm
theorem reps_len (s : Sm.S) (ls : List ByteArray) : (reps us d s ls).length = ls.length := by
  induction ls generalizing s with
  | nil => rfl
  | cons a r ih => show (_ :: _).length = _; rw [List.length_cons, ih]; rfl
theorem step_no {s : Sm.S} {l : ByteArray} (h : Sb.done s.st s.user s.tos s.text = false ∨ ¬ l = ⟨#[46]⟩) : step s l = [] := by
  unfold step
  rw [if_neg]
  rintro ⟨h1, h2⟩
  rcases h with h | h
  · unfold done at h1; rw [show (Sm.ok s && decide (s.st = 5) && decide (s.text.size ≤ 20)) = Sb.done s.st s.user s.tos s.text from rfl, h] at h1; cases h1
  · exact h h2
theorem step_yes {s : Sm.S} {l : ByteArray} (h : Sb.done s.st s.user s.tos s.text = true) (hl : l = ⟨#[46]⟩) : step s l = [⟨s.user, s.tos, s.text⟩] := by
  unfold step
  rw [if_pos]
  exact ⟨h, hl⟩
theorem step_len (s : Sm.S) (l : ByteArray) : (step s l).length ≤ 1 := by unfold step; split <;> simp
theorem lets_len (s : Sm.S) (ls : List ByteArray) : (lets us d s ls).length ≤ ls.length := by
  induction ls generalizing s with
  | nil => exact Nat.le_refl _
  | cons a r ih => show (step s a ++ lets us d _ r).length ≤ _; rw [List.length_append, List.length_cons]; have := step_len s a; have := ih (Sm.line us d s a).1; omega
theorem st_ok {s : Sm.S} (h : Sm.ok s = true) (ls : List ByteArray) : Sm.ok (st us d s ls) = true := by
  induction ls generalizing s with
  | nil => exact h
  | cons a r ih => exact ih (Sm.line_ok h a)
theorem s0_ok : Sm.ok s0 = true := by unfold s0; exact Sm.ok_idle (.inl rfl)
theorem reps_part (s : Sm.S) (ls : List ByteArray) (k : Nat) : reps us d s ls = reps us d s (ls.take k) ++ reps us d (st us d s (ls.take k)) (ls.drop k) := by
  conv => lhs; rw [← List.take_append_drop k ls]
  exact reps_app _ _ _
theorem reps_take (s : Sm.S) (ls : List ByteArray) {k : Nat} (hk : k ≤ ls.length) : reps us d s (ls.take k) = (reps us d s ls).take k := by
  rw [reps_part s ls k, List.take_left' (by rw [reps_len, List.length_take, Nat.min_eq_left hk])]
theorem lets_part (s : Sm.S) (ls : List ByteArray) (k : Nat) : ∃ r, lets us d s ls = lets us d s (ls.take k) ++ r := by
  refine ⟨lets us d (st us d s (ls.take k)) (ls.drop k), ?_⟩
  conv => lhs; rw [← List.take_append_drop k ls]
  exact lets_app _ _ _
/-- who is known -/
def okU (us : List U) (n : ByteArray) : Prop := Sm.knows us n = true
/-- what holds in a session that was reached by lines: the user and the receivers are known, from stage 2 on -/
structure Good (us : List U) (s : Sm.S) : Prop where
  ok : Sm.ok s = true
  user : 2 ≤ s.st → ¬ s.st = 6 → okU us s.user
  tos : ∀ n ∈ s.tos, okU us n
theorem proves_knows {n p : ByteArray} (h : Us.proves us n p = true) : okU us n := by
  unfold Us.proves Us.ans at h
  rw [Bool.and_eq_true] at h
  have h1 := h.1
  unfold okU Sm.knows
  cases hk : Us.usersOk us
  · rw [hk] at h1; simp at h1
  · rw [hk] at h1; exact h1
theorem back_good {s : Sm.S} (h : Good us s) (h6 : ¬ s.st = 6) : Good us (Sm.back s) := by
  refine ⟨Sm.back_ok h.ok h6, fun h1 h2 => ?_, fun n hn => by cases hn⟩
  unfold Sm.back at h1 ⊢
  dsimp only at h1 ⊢
  by_cases h2 : 2 ≤ s.st
  · exact h.user h2 h6
  · rw [if_neg h2] at h1; omega
theorem st_range {s : Sm.S} (h : Sm.ok s = true) : 0 ≤ s.st ∧ s.st ≤ 6 := ⟨(Sm.ok_sizes h).2.2.2.2.1, (Sm.ok_sizes h).2.2.2.2.2⟩
theorem line_good {s : Sm.S} (h : Good us s) (l : ByteArray) : Good us (Sm.line us d s l).1 := by
  have hk := Sm.line_ok h.ok (us := us) (d := d) l
  have hr := st_range h.ok
  refine ⟨hk, ?_, ?_⟩
  all_goals
    clear hk
    unfold Sm.line
    split
    · first | exact h.user | exact h.tos
    rename_i h6
    split
    · rename_i h5
      unfold Sm.data
      split
      · first | exact (back_good h h6).user | exact (back_good h h6).tos
      · first | exact h.user | exact h.tos
    rename_i h5
    unfold Sm.word
    split
    · split
      · unfold Sm.hello
        split
        · split
          · have hb : Good us { s with st := if s.st = 0 then 1 else s.st } → Good us (Sm.back { s with st := if s.st = 0 then 1 else s.st }) := fun g => back_good g (by dsimp only; split <;> omega)
            have hg : Good us { s with st := if s.st = 0 then 1 else s.st } := by
              by_cases h0 : s.st = 0
              · rcases Sm.ok_split h.ok with ⟨a, b, c, e⟩ | ⟨a, _⟩ | ⟨a, _⟩ | ⟨a, _⟩
                · refine ⟨?_, fun h1 _ => ?_, h.tos⟩
                  · rw [if_pos h0, b, c, e]; exact Sm.ok_idle (.inr (.inl rfl))
                  · dsimp only at h1; rw [if_pos h0] at h1; omega
                all_goals omega
              · refine ⟨?_, ?_, h.tos⟩
                · rw [if_neg h0]; exact h.ok
                · dsimp only; rw [if_neg h0]; exact h.user
            first | exact (hb hg).user | exact (hb hg).tos
          · first | exact h.user | exact h.tos
        · first | exact h.user | exact h.tos
      split
      · unfold Sm.auth
        split
        · first | exact h.user | exact h.tos
        · split
          · split
            · split
              · rename_i n hn
                obtain ⟨_, p, _, hp⟩ := Up.ans_inv hn
                first | exact fun _ _ => proves_knows hp | (intro n hn; cases hn)
              · first | exact h.user | exact h.tos
            · first | exact h.user | exact h.tos
          · first | exact h.user | exact h.tos
      split
      · unfold Sm.mail
        split
        · first | exact h.user | exact h.tos
        · split
          · first | exact h.user | exact h.tos
          · split
            · split
              · first | exact fun _ _ => h.user (by omega) h6 | exact h.tos
              · first | exact h.user | exact h.tos
            · first | exact h.user | exact h.tos
      split
      · unfold Sm.rcpt
        split
        · first | exact h.user | exact h.tos
        · split
          · rename_i a b _
            split
            · rename_i hkn
              split
              · first | exact h.user | exact h.tos
              · split
                · first | exact h.user | exact h.tos
                · first
                  | exact fun _ _ => h.user (by omega) h6
                  | (intro n hn
                     rcases List.mem_append.1 hn with hn | hn
                     · exact h.tos n hn
                     · rw [List.mem_singleton] at hn; subst hn; exact hkn.2)
            · first | exact h.user | exact h.tos
          · first | exact h.user | exact h.tos
      · unfold Sm.plain
        split
        · split
          · first | exact fun _ _ => h.user (by omega) h6 | exact h.tos
          · first | exact h.user | exact h.tos
        split
        · first | exact (back_good h h6).user | exact (back_good h h6).tos
        split
        · first | exact h.user | exact h.tos
        split
        · first | exact fun _ h => absurd rfl h | (intro n hn; cases hn)
        · first | exact h.user | exact h.tos
    · first | exact h.user | exact h.tos
theorem s0_good : Good us s0 := ⟨s0_ok, fun h _ => by unfold s0 at h; dsimp only at h; omega, fun n hn => by cases hn⟩
/-- a letter whose sender and receivers are known -/
def fine (us : List U) (x : V) : Prop := Nm.nameOk x.f.data.toList = true ∧ Sb.recv x.us = true ∧ x.t.size ≤ 20 ∧ okU us x.f ∧ ∀ n ∈ x.us, okU us n
theorem step_fine {s : Sm.S} (h : Good us s) (l : ByteArray) : ∀ x ∈ step s l, fine us x := by
  intro x hx
  unfold step at hx
  split at hx
  · rename_i hd
    rw [List.mem_singleton] at hx
    subst hx
    have hdn := hd.1
    unfold done at hdn
    simp only [Bool.and_eq_true, decide_eq_true_eq] at hdn
    rcases Sm.ok_split h.ok with ⟨a, _⟩ | ⟨a, _⟩ | ⟨a, _⟩ | ⟨a, b, c, e⟩
    · omega
    · omega
    · omega
    · exact ⟨b, c, hdn.2, h.user (by omega) (by omega), h.tos⟩
  · cases hx
theorem lets_fine {s : Sm.S} (h : Good us s) (ls : List ByteArray) : ∀ x ∈ lets us d s ls, fine us x := by
  induction ls generalizing s with
  | nil => intro x hx; cases hx
  | cons l r ih =>
    intro x hx
    rcases List.mem_append.1 hx with hx | hx
    · exact step_fine h l x hx
    · exact ih (line_good h l) x hx
/-- from below stage 2 to above there is a proof -/
theorem line_235 {s : Sm.S} (hr : 0 ≤ s.st) (h : s.st < 2) (l : ByteArray) (h2 : ¬ (Sm.line us d s l).2 = 235) : (Sm.line us d s l).1.st < 2 ∨ (Sm.line us d s l).1.st = 6 := by
  revert h2
  unfold Sm.line
  rw [if_neg (by omega), if_neg (by omega)]
  unfold Sm.word
  split
  · split
    · unfold Sm.hello
      split
      · split
        · intro _
          refine .inl ?_
          unfold Sm.back
          dsimp only
          split <;> split <;> omega
        · intro _; exact .inl h
      · intro _; exact .inl h
    split
    · unfold Sm.auth
      split
      · intro _; exact .inl h
      · split
        · split
          · split
            · intro e; exact absurd rfl e
            · intro _; exact .inl h
          · intro _; exact .inl h
        · intro _; exact .inl h
    split
    · unfold Sm.mail
      rw [if_pos h]
      intro _; exact .inl h
    split
    · unfold Sm.rcpt
      rw [if_pos (by omega)]
      intro _; exact .inl h
    · unfold Sm.plain
      split
      · rw [if_neg (by omega)]; intro _; exact .inl h
      split
      · intro _; refine .inl ?_; unfold Sm.back; dsimp only; rw [if_neg (by omega)]; exact h
      split
      · intro _; exact .inl h
      split
      · intro _; exact .inr rfl
      · intro _; exact .inl h
  · intro _; exact .inl h
theorem line_over {s : Sm.S} (h : s.st = 6) (l : ByteArray) : (Sm.line us d s l).1 = s := by unfold Sm.line; rw [if_pos h]
theorem lets_none {s : Sm.S} (hk : Sm.ok s = true) (h : s.st < 2 ∨ s.st = 6) (ls : List ByteArray) (hn : ¬ 235 ∈ reps us d s ls) : lets us d s ls = [] := by
  induction ls generalizing s with
  | nil => rfl
  | cons l r ih =>
    have hn1 : ¬ (Sm.line us d s l).2 = 235 := fun e => hn (by show (235 : Int) ∈ _ :: _; rw [e]; simp)
    have hn2 : ¬ 235 ∈ reps us d (Sm.line us d s l).1 r := fun e => hn (List.mem_cons_of_mem _ e)
    have hs : step s l = [] := by
      unfold step
      rw [if_neg]
      rintro ⟨hd, _⟩
      unfold done at hd
      simp only [Bool.and_eq_true, decide_eq_true_eq] at hd
      omega
    show step s l ++ _ = []
    rw [hs]
    refine ih (Sm.line_ok hk l) ?_ hn2
    rcases h with h | h
    · exact line_235 (st_range hk).1 h l hn1
    · rw [line_over h]; exact .inr h
end Rn
end Go.Proofs.YtpjifcljkgcnlaaGreatDoor
