/- Pl: NmPlain OrdPlain CtPlain DmPlain B6Plain UsPlain UsPlain2 StPlain StPlain2 PpPlain PpPlain2 PfPlain GsPlain, in one text. -/
import Derived.Below
import Derived.Laws.Strings
import Lean
import Derived.Lib.IndexLaws
namespace Go.Proofs.Ytpbaimofffcnaaa.Nm
set_option linter.unusedVariables false

/-- may the byte stand in a name? -/
def nb (c : UInt8) : Bool := decide (97 ≤ c.toNat ∧ c.toNat ≤ 122) || decide (48 ≤ c.toNat ∧ c.toNat ≤ 57)
theorem nb_yes {c : UInt8} (h : (97 ≤ c.toNat ∧ c.toNat ≤ 122) ∨ (48 ≤ c.toNat ∧ c.toNat ≤ 57)) : nb c = true := by
  unfold nb; simp only [Bool.or_eq_true, decide_eq_true_eq]; exact h
theorem nb_no {c : UInt8} (h : ¬ ((97 ≤ c.toNat ∧ c.toNat ≤ 122) ∨ (48 ≤ c.toNat ∧ c.toNat ≤ 57))) : nb c = false := by
  unfold nb; simp only [Bool.or_eq_false_iff, decide_eq_false_iff_not]; exact ⟨fun k => h (.inl k), fun k => h (.inr k)⟩
/-- how many bytes of a name begin the list -/
def run : List UInt8 → Nat
  | [] => 0
  | c :: l => if nb c = true then run l + 1 else 0
def lenOk (n : Nat) : Bool := decide (1 ≤ n ∧ n ≤ 8)
def nameOk (l : List UInt8) : Bool := l.all nb && lenOk l.length

theorem run_le (l : List UInt8) : run l ≤ l.length := by
  induction l with
  | nil => simp [run]
  | cons c l ih => unfold run; split <;> simp <;> omega
theorem run_step {l : List UInt8} {i : Nat} (hi : i < l.length) (h : nb l[i] = true) : run (l.drop i) = run (l.drop (i + 1)) + 1 := by
  rw [List.drop_eq_getElem_cons hi, run, if_pos h]
theorem run_stop {l : List UInt8} {i : Nat} (hi : i < l.length) (h : nb l[i] = false) : run (l.drop i) = 0 := by
  rw [List.drop_eq_getElem_cons hi, run, h]; rfl
theorem run_all (l : List UInt8) : l.all nb = true ↔ run l = l.length := by
  induction l with
  | nil => simp [run]
  | cons c l ih =>
    have := run_le l
    simp only [List.all_cons, Bool.and_eq_true, run, List.length_cons]
    by_cases h : nb c = true
    · rw [if_pos h, ih]; simp [h]
    · rw [if_neg h]; simp [h]
theorem nameOk_of_run (l : List UInt8) (h : run l = l.length) : nameOk l = lenOk l.length := by
  unfold nameOk; rw [(run_all l).2 h]; rfl
theorem nameOk_short (l : List UInt8) (h : run l ≠ l.length) : nameOk l = false := by
  unfold nameOk
  have : l.all nb ≠ true := fun e => h ((run_all l).1 e)
  simp [this]
theorem nameOk_len {l : List UInt8} (h : nameOk l = true) : 1 ≤ l.length ∧ l.length ≤ 8 := by
  unfold nameOk lenOk at h
  simp at h
  exact h.2
theorem lenOk_iff {n : Nat} : lenOk n = true ↔ 1 ≤ n ∧ n ≤ 8 := by unfold lenOk; simp
theorem all_step {l : List UInt8} {i : Nat} (hi : i < l.length) : (l.drop i).all nb = (nb l[i] && (l.drop (i + 1)).all nb) := by
  rw [List.drop_eq_getElem_cons hi]; rfl

end Go.Proofs.Ytpbaimofffcnaaa.Nm

namespace Go.Proofs.Ytpbaimofffcnaaa
set_option linter.unusedVariables false

theorem u8_tri (x y : UInt8) : x < y ∨ x = y ∨ y < x := by
  rcases Nat.lt_trichotomy x.toNat y.toNat with h | h | h
  · exact .inl (UInt8.lt_iff_toNat_lt.2 h)
  · exact .inr (.inl (UInt8.toNat_inj.1 h))
  · exact .inr (.inr (UInt8.lt_iff_toNat_lt.2 h))
theorem bl_irrefl : ∀ a : List UInt8, Op.bytesLess a a = false
  | [] => rfl
  | x :: a => by simp [Op.bytesLess, bl_irrefl a]
theorem bl_le : ∀ a b : List UInt8, (Op.bytesLess a b || a == b) = !(Op.bytesLess b a)
  | [], [] => rfl
  | [], y :: b => by simp [Op.bytesLess]
  | x :: a, [] => by simp [Op.bytesLess]
  | x :: a, y :: b => by
    have ih := bl_le a b
    simp only [Op.bytesLess, List.cons_beq_cons]
    rcases u8_tri x y with h | h | h
    · have h1 : ¬ y < x := UInt8.lt_asymm h
      have h2 : (x == y) = false := by simp; exact UInt8.ne_of_lt h
      have h3 : (y == x) = false := by simp; exact fun e => UInt8.ne_of_lt h e.symm
      simp [h, h1, h2, h3]
    · subst h
      have h1 : ¬ x < x := UInt8.lt_irrefl x
      simp only [h1, decide_false, Bool.false_or, beq_self_eq_true, Bool.true_and]
      exact ih
    · have h1 : ¬ x < y := UInt8.lt_asymm h
      have h2 : (x == y) = false := by simp; exact fun e => UInt8.ne_of_lt h e.symm
      simp [h, h1, h2]
theorem bl_trans : ∀ a b c : List UInt8, Op.bytesLess a b = true → Op.bytesLess b c = true → Op.bytesLess a c = true
  | a, b, [], _, h => by cases b <;> simp [Op.bytesLess] at h
  | a, [], c :: l, h, _ => by cases a <;> simp [Op.bytesLess] at h
  | [], y :: b, z :: c, _, _ => rfl
  | x :: a, y :: b, z :: c, h1, h2 => by
    simp only [Op.bytesLess, Bool.or_eq_true, decide_eq_true_eq, Bool.and_eq_true, beq_iff_eq] at h1 h2 ⊢
    rcases h1 with h1 | ⟨rfl, h1⟩ <;> rcases h2 with h2 | ⟨rfl, h2⟩
    · exact .inl (UInt8.lt_trans h1 h2)
    · exact .inl h1
    · exact .inl h2
    · exact .inr ⟨rfl, bl_trans _ _ _ h1 h2⟩
/-- a string stands ahead of another one -/
def slt (a b : ByteArray) : Bool := Op.bytesLess a.toList b.toList
theorem slt_irrefl (a : ByteArray) : slt a a = false := bl_irrefl _
theorem slt_trans {a b c : ByteArray} (h1 : slt a b = true) (h2 : slt b c = true) : slt a c = true := bl_trans _ _ _ h1 h2
theorem sle_eq (a b : ByteArray) : (Op.bytesLess a.toList b.toList || a.toList == b.toList) = !(slt b a) := bl_le _ _
theorem slt_ne {a b : ByteArray} (h : slt a b = true) : a ≠ b := by rintro rfl; rw [slt_irrefl] at h; cases h
theorem slt_asymm {a b : ByteArray} (h : slt a b = true) : slt b a = false := by
  cases hq : slt b a
  · rfl
  · exact absurd (slt_trans h hq) (by rw [slt_irrefl]; decide)

end Go.Proofs.Ytpbaimofffcnaaa

namespace Go.Proofs.Ytpbaimofffcnaaa
set_option linter.unusedVariables false
namespace Ct
def cut (c : UInt8) : List UInt8 → List (List UInt8)
  | [] => [[]]
  | a :: r => if a = c then [] :: cut c r else match cut c r with
    | p :: ps => (a :: p) :: ps
    | [] => [[a]]
theorem cut_ne (c : UInt8) (l : List UInt8) : cut c l ≠ [] := by
  cases l with
  | nil => simp [cut]
  | cons a r =>
    unfold cut
    split
    · simp
    · split <;> simp
theorem cut_none (c : UInt8) : ∀ p : List UInt8, (∀ x ∈ p, x ≠ c) → cut c p = [p]
  | [], _ => rfl
  | a :: r, h => by
    have ih := cut_none c r (fun x hx => h x (List.mem_cons_of_mem _ hx))
    unfold cut
    rw [if_neg (h a (List.mem_cons_self ..)), ih]
theorem cut_at (c : UInt8) (r : List UInt8) : ∀ p : List UInt8, (∀ x ∈ p, x ≠ c) → cut c (p ++ c :: r) = p :: cut c r
  | [], _ => by rw [List.nil_append, cut, if_pos rfl]
  | a :: p, h => by
    have ih := cut_at c r p (fun x hx => h x (List.mem_cons_of_mem _ hx))
    rw [List.cons_append, cut, if_neg (h a (List.mem_cons_self ..)), ih]
theorem cut_len (c : UInt8) (l : List UInt8) : (cut c l).length ≤ l.length + 1 := by
  induction l with
  | nil => simp [cut]
  | cons a r ih =>
    unfold cut
    split
    · simp only [List.length_cons]; omega
    · split
      · rename_i h; rw [h] at ih; simp only [List.length_cons] at ih ⊢; omega
      · simp
/-- the pieces together with the bytes between them are no longer than the text -/
theorem cut_size (c : UInt8) (l : List UInt8) : ∀ p ∈ cut c l, p.length ≤ l.length := by
  induction l with
  | nil => simp [cut]
  | cons a r ih =>
    unfold cut
    split
    · intro p hp
      rcases List.mem_cons.1 hp with rfl | hp
      · simp
      · have := ih p hp; simp only [List.length_cons]; omega
    · split
      · rename_i q qs h
        rw [h] at ih
        intro p hp
        rcases List.mem_cons.1 hp with rfl | hp
        · have := ih q (List.mem_cons_self ..); simp only [List.length_cons]; omega
        · have := ih p (List.mem_cons_of_mem _ hp); simp only [List.length_cons]; omega
      · intro p hp
        simp at hp; subst hp; simp
def mk (l : List UInt8) : ByteArray := ⟨l.toArray⟩
def cutB (c : UInt8) (s : ByteArray) : List ByteArray := (cut c s.data.toList).map mk
end Ct
end Go.Proofs.Ytpbaimofffcnaaa

namespace Go.Proofs.Ytpbaimofffcnaaa
set_option linter.unusedVariables false

theorem Ct.mem (c : UInt8) (x : UInt8) (hx : x ≠ c) : ∀ l : List UInt8, x ∈ l → ∃ p ∈ Ct.cut c l, x ∈ p
  | [], h => absurd h (by simp)
  | a :: r, h => by
    unfold Ct.cut
    by_cases ha : a = c
    · rw [if_pos ha]
      rcases List.mem_cons.1 h with rfl | h
      · exact absurd ha hx
      · obtain ⟨p, hp, hxp⟩ := Ct.mem c x hx r h
        exact ⟨p, List.mem_cons_of_mem _ hp, hxp⟩
    · rw [if_neg ha]
      cases hc : Ct.cut c r with
      | nil => exact absurd hc (Ct.cut_ne c r)
      | cons p ps =>
        rcases List.mem_cons.1 h with rfl | h
        · exact ⟨x :: p, by simp, by simp⟩
        · obtain ⟨q, hq, hxq⟩ := Ct.mem c x hx r h
          rw [hc] at hq
          rcases List.mem_cons.1 hq with rfl | hq
          · exact ⟨a :: q, by simp, List.mem_cons_of_mem _ hxq⟩
          · exact ⟨q, List.mem_cons_of_mem _ hq, hxq⟩
theorem Ct.single (c : UInt8) : ∀ {l p : List UInt8}, Ct.cut c l = [p] → l = p
  | [], p, h => by simp [Ct.cut] at h; exact h.symm
  | a :: r, p, h => by
    unfold Ct.cut at h
    split at h
    · injection h with h1 h2
      exact absurd h2 (Ct.cut_ne c r)
    · cases hc : Ct.cut c r with
      | nil => exact absurd hc (Ct.cut_ne c r)
      | cons q qs =>
        rw [hc] at h
        injection h with h1 h2
        subst h2
        rw [Ct.single c hc, h1]
theorem Ct.double (c : UInt8) : ∀ {l p q : List UInt8} {qs : List (List UInt8)}, Ct.cut c l = p :: q :: qs → ∃ r, l = p ++ c :: r ∧ Ct.cut c r = q :: qs
  | [], p, q, qs, h => by simp [Ct.cut] at h
  | a :: r, p, q, qs, h => by
    unfold Ct.cut at h
    split at h
    · rename_i ha
      injection h with h1 h2
      subst h1
      exact ⟨r, by simp [ha], h2⟩
    · cases hc : Ct.cut c r with
      | nil => exact absurd hc (Ct.cut_ne c r)
      | cons q1 qs1 =>
        rw [hc] at h
        injection h with h1 h2
        subst h2
        obtain ⟨r2, hr, h3⟩ := Ct.double c hc
        exact ⟨r2, by rw [hr, ← h1]; rfl, h3⟩

namespace Dm
open Nm
/-- what stands behind a name: a dot and a name, k times at the most -/
def more : Nat → List UInt8 → Option Nat
  | 0, _ => some 0
  | k + 1, [] => some 0
  | k + 1, c :: t => if c = 46 then (if lenOk (run t) = true then (more k (t.drop (run t))).map (1 + run t + ·) else none) else some 0
def rd (k : Nat) (l : List UInt8) : Option Nat := if lenOk (run l) = true then (more k (l.drop (run l))).map (run l + ·) else none
theorem more_dot (k : Nat) (t : List UInt8) : more (k + 1) (46 :: t) = (rd k t).map (1 + ·) := by
  show (if (46 : UInt8) = 46 then (if lenOk (run t) = true then (more k (t.drop (run t))).map (1 + run t + ·) else none) else some 0) = _
  unfold rd
  rw [if_pos rfl]
  by_cases hk : lenOk (run t) = true
  · rw [if_pos hk, if_pos hk]
    cases more k (t.drop (run t)) with
    | none => rfl
    | some m => simp only [Option.map_some]; congr 1; omega
  · rw [if_neg hk, if_neg hk]; rfl
theorem more_not {k : Nat} {c : UInt8} {t : List UInt8} (h : c ≠ 46) : more (k + 1) (c :: t) = some 0 := by
  unfold more; rw [if_neg h]
/-- is it a domain? -/
def ok (l : List UInt8) : Bool := (Ct.cut 46 l).all nameOk && decide ((Ct.cut 46 l).length ≤ 3) && decide (l.length ≤ 20)

theorem take_run (l : List UInt8) : (l.take (run l)).all nb = true := by
  induction l with
  | nil => rfl
  | cons c l ih =>
    unfold run
    split
    · rename_i h; simp only [List.take_succ_cons, List.all_cons, h, ih]; rfl
    · rfl
theorem drop_run (l : List UInt8) : l.drop (run l) = [] ∨ ∃ c t, l.drop (run l) = c :: t ∧ nb c = false := by
  induction l with
  | nil => exact .inl rfl
  | cons c l ih =>
    unfold run
    split
    · simpa using ih
    · rename_i h; exact .inr ⟨c, l, rfl, by simpa using h⟩
theorem run_take (l : List UInt8) : ∀ n, run (l.take n) = min (run l) n := by
  induction l with
  | nil => intro n; simp [run]
  | cons c l ih =>
    intro n
    cases n with
    | zero => simp [run]
    | succ n =>
      simp only [List.take_succ_cons]
      unfold run
      split
      · rw [ih n]; omega
      · simp
theorem run_ext {x : UInt8} (hx : nb x = false) (s : List UInt8) : ∀ l, run (l ++ x :: s) = run l
  | [] => by simp [run, hx]
  | c :: l => by
    rw [List.cons_append]
    unfold run
    rw [run_ext hx s l]
theorem run_app {l : List UInt8} (h : l.all nb = true) (s : List UInt8) : run (l ++ s) = l.length + run s := by
  induction l with
  | nil => simp
  | cons c l ih =>
    simp only [List.all_cons, Bool.and_eq_true] at h
    rw [List.cons_append, run, if_pos h.1, ih h.2]
    simp; omega
theorem nb_dot : nb 46 = false := by decide
theorem nb_at : nb 64 = false := by decide
theorem nb_gt : nb 62 = false := by decide
theorem all_ne {l : List UInt8} (h : l.all nb = true) {c : UInt8} (hc : nb c = false) : ∀ x ∈ l, x ≠ c := by
  intro x hx e
  subst e
  rw [List.all_eq_true] at h
  rw [h _ hx] at hc
  cases hc
theorem name_all {l : List UInt8} (h : nameOk l = true) : l.all nb = true := by unfold nameOk at h; simp only [Bool.and_eq_true] at h; exact h.1
theorem name_mk {l : List UInt8} (h : l.all nb = true) : nameOk l = lenOk l.length := by unfold nameOk; rw [h]; rfl

theorem full : ∀ (k : Nat) (l : List UInt8), rd k l = some l.length ↔ ((Ct.cut 46 l).all nameOk = true ∧ (Ct.cut 46 l).length ≤ k + 1) := by
  intro k
  induction k with
  | zero =>
    intro l
    have hsplit : l = l.take (run l) ++ l.drop (run l) := (List.take_append_drop _ _).symm
    have hn := take_run l
    have hle := run_le l
    rcases drop_run l with h | ⟨c, t, h, hc⟩
    · have hrl : run l = l.length := by have := congrArg List.length h; simp at this; omega
      have hall : l.all nb = true := (run_all l).2 hrl
      rw [Ct.cut_none 46 l (all_ne hall nb_dot)]
      unfold rd
      rw [hrl]
      simp only [more, List.all_cons, List.all_nil, Bool.and_true, List.length_singleton, name_mk hall]
      by_cases hk : lenOk l.length = true <;> simp [hk]
    · have hlt : run l < l.length := by have := congrArg List.length h; simp at this; omega
      constructor
      · intro e
        unfold rd at e
        simp only [more] at e
        split at e
        · simp at e; omega
        · cases e
      · rintro ⟨h1, h2⟩
        exfalso
        match hcut : Ct.cut 46 l, h2 with
        | [], _ => exact Ct.cut_ne 46 l hcut
        | [p], _ =>
          have := Ct.single 46 hcut
          subst this
          rw [hcut] at h1
          simp only [List.all_cons, List.all_nil, Bool.and_true] at h1
          have := (run_all l).1 (name_all h1)
          omega
        | p :: q :: ps, h2 => simp at h2
  | succ k ih =>
    intro l
    have hsplit : l = l.take (run l) ++ l.drop (run l) := (List.take_append_drop _ _).symm
    have hn := take_run l
    have hle := run_le l
    have htl : (l.take (run l)).length = run l := by rw [List.length_take]; omega
    rcases drop_run l with h | ⟨c, t, h, hc⟩
    · have hrl : run l = l.length := by have := congrArg List.length h; simp at this; omega
      have hall : l.all nb = true := (run_all l).2 hrl
      rw [Ct.cut_none 46 l (all_ne hall nb_dot)]
      unfold rd
      rw [h, hrl]
      simp only [more, List.all_cons, List.all_nil, Bool.and_true, List.length_singleton, name_mk hall]
      by_cases hk : lenOk l.length = true <;> simp [hk]
    · have hlen : l.length = run l + (t.length + 1) := by have := congrArg List.length h; simp at this; omega
      by_cases h46 : c = 46
      · subst h46
        have hcut : Ct.cut 46 l = l.take (run l) :: Ct.cut 46 t := by
          conv => lhs; rw [hsplit, h]
          exact Ct.cut_at 46 t _ (all_ne hn nb_dot)
        rw [hcut]
        unfold rd
        rw [h, more_dot]
        simp only [List.all_cons, Bool.and_eq_true, List.length_cons, name_mk hn, htl]
        have := ih t
        by_cases hk : lenOk (run l) = true
        · rw [if_pos hk]
          simp only [hk, true_and]
          constructor
          · intro e
            cases hr : rd k t with
            | none => rw [hr] at e; simp at e
            | some m =>
              rw [hr] at e
              simp at e
              have hm : m = t.length := by omega
              obtain ⟨a, b⟩ := this.1 (by rw [hr, hm])
              exact ⟨a, by omega⟩
          · rintro ⟨a, b⟩
            rw [this.2 ⟨a, by omega⟩]
            simp; omega
        · rw [if_neg hk]
          constructor
          · intro e; cases e
          · rintro ⟨⟨a, _⟩, _⟩; exact absurd a hk
      · constructor
        · intro e
          exfalso
          unfold rd at e
          rw [h, more_not h46] at e
          split at e
          · simp at e; omega
          · cases e
        · rintro ⟨h1, _⟩
          exfalso
          obtain ⟨p, hp, hcp⟩ := Ct.mem 46 c h46 l (by rw [hsplit, h]; simp)
          rw [List.all_eq_true] at h1
          have := name_all (h1 p hp)
          rw [List.all_eq_true] at this
          rw [this c hcp] at hc
          cases hc
theorem ok_iff (l : List UInt8) : ok l = true ↔ rd 2 l = some l.length ∧ l.length ≤ 20 := by
  unfold ok
  simp only [Bool.and_eq_true, decide_eq_true_eq]
  rw [full 2 l]

theorem more_ext {x : UInt8} (hx : nb x = false) (h46 : x ≠ 46) (s : List UInt8) : ∀ (k : Nat) (q : List UInt8), more k (q ++ x :: s) = more k q
  | 0, q => rfl
  | k + 1, [] => by rw [List.nil_append, more_not h46]; rfl
  | k + 1, c :: t => by
    rw [List.cons_append]
    unfold more
    have hr := run_ext hx s t
    rw [hr]
    have hd : (t ++ x :: s).drop (run t) = t.drop (run t) ++ x :: s := by rw [List.drop_append_of_le_length (run_le t)]
    rw [hd, more_ext hx h46 s k]
theorem rd_ext {x : UInt8} (hx : nb x = false) (h46 : x ≠ 46) (s : List UInt8) (k : Nat) (q : List UInt8) : rd k (q ++ x :: s) = rd k q := by
  unfold rd
  rw [run_ext hx s q, List.drop_append_of_le_length (run_le q), more_ext hx h46]

theorem more_take : ∀ (k : Nat) (t : List UInt8) (m : Nat), more k t = some m → m ≤ t.length ∧ more k (t.take m) = some m
  | 0, t, m, h => by simp [more] at h; subst h; simp [more]
  | k + 1, [], m, h => by simp [more] at h; subst h; simp [more]
  | k + 1, c :: t, m, h => by
    by_cases h46 : c = 46
    · subst h46
      unfold more at h
      rw [if_pos rfl] at h
      split at h
      · rename_i hk
        cases hm : more k (t.drop (run t)) with
        | none => rw [hm] at h; cases h
        | some m' =>
          rw [hm] at h
          simp at h
          obtain ⟨h1, h2⟩ := more_take k _ m' hm
          have hle := run_le t
          rw [List.length_drop] at h1
          subst h
          refine ⟨by simp; omega, ?_⟩
          rw [show 1 + run t + m' = (run t + m') + 1 by omega, List.take_succ_cons]
          unfold more
          have e1 : run (t.take (run t + m')) = run t := by rw [run_take]; omega
          have e2 : (t.take (run t + m')).drop (run t) = (t.drop (run t)).take m' := by rw [List.drop_take]; congr 1; omega
          rw [if_pos rfl, e1, if_pos hk, e2, h2]
          simp; omega
      · cases h
    · rw [more_not h46] at h
      injection h with h
      subst h
      simp [more]
theorem rd_take {k : Nat} {t : List UInt8} {m : Nat} (h : rd k t = some m) : m ≤ t.length ∧ rd k (t.take m) = some m := by
  unfold rd at h
  split at h
  · rename_i hk
    cases hm : more k (t.drop (run t)) with
    | none => rw [hm] at h; cases h
    | some m' =>
      rw [hm] at h
      simp at h
      obtain ⟨h1, h2⟩ := more_take k _ m' hm
      have hle := run_le t
      rw [List.length_drop] at h1
      subst h
      refine ⟨by omega, ?_⟩
      unfold rd
      have e1 : run (t.take (run t + m')) = run t := by rw [run_take]; omega
      have e2 : (t.take (run t + m')).drop (run t) = (t.drop (run t)).take m' := by rw [List.drop_take]; congr 1; omega
      rw [e1, if_pos hk, e2, h2]
      rfl
  · cases h
theorem rd_ok {k : Nat} {t : List UInt8} {m : Nat} (h : rd 2 t = some m) (h20 : m ≤ 20) : ok (t.take m) = true := by
  obtain ⟨h1, h2⟩ := rd_take h
  have hl : (t.take m).length = m := by rw [List.length_take]; omega
  rw [ok_iff, hl]
  exact ⟨h2, h20⟩
theorem ok_bytes {l : List UInt8} (h : ok l = true) {c : UInt8} (hc : nb c = false) (h46 : c ≠ 46) : ∀ x ∈ l, x ≠ c := by
  intro x hx e
  subst e
  unfold ok at h
  simp only [Bool.and_eq_true] at h
  obtain ⟨p, hp, hxp⟩ := Ct.mem 46 x h46 l hx
  have h1 := h.1.1
  rw [List.all_eq_true] at h1
  have := name_all (h1 p hp)
  rw [List.all_eq_true] at this
  rw [this x hxp] at hc
  cases hc
theorem ok_len {l : List UInt8} (h : ok l = true) : l.length ≤ 20 := ((ok_iff l).1 h).2
end Dm

namespace Pa
open Nm
/-- the user and the domain of an address -/
def parse (l : List UInt8) : Option (List UInt8 × List UInt8) := match Ct.cut 64 l with
  | [a, b] => if nameOk a = true ∧ Dm.ok b = true then some (a, b) else none
  | _ => none
/-- of a path that is not empty -/
def path : List UInt8 → Option (List UInt8 × List UInt8)
  | 60 :: r => if r.getLast? = some 62 then parse r.dropLast else none
  | _ => none
/-- of the path behind a beginning -/
def behind (g l : List UInt8) : Option (List UInt8 × List UInt8) := if g <+: l then path (l.drop g.length) else none

theorem parse_mk {a b : List UInt8} (ha : nameOk a = true) (hb : Dm.ok b = true) : parse (a ++ 64 :: b) = some (a, b) := by
  unfold parse
  rw [Ct.cut_at 64 b a (Dm.all_ne (Dm.name_all ha) Dm.nb_at), Ct.cut_none 64 b (Dm.ok_bytes hb Dm.nb_at (by decide))]
  simp [ha, hb]
theorem parse_some {l a b : List UInt8} (h : parse l = some (a, b)) : l = a ++ 64 :: b ∧ nameOk a = true ∧ Dm.ok b = true := by
  unfold parse at h
  split at h
  · rename_i a' b' hc
    split at h
    · rename_i hk
      injection h with h
      injection h with h1 h2
      subst h1; subst h2
      obtain ⟨r, hr, hr2⟩ := Ct.double 64 hc
      rw [Ct.single 64 hr2] at hr
      exact ⟨hr, hk.1, hk.2⟩
    · cases h
  · cases h
theorem path_mk {a b : List UInt8} (ha : nameOk a = true) (hb : Dm.ok b = true) : path (60 :: (a ++ 64 :: b) ++ [62]) = some (a, b) := by
  rw [List.cons_append]
  show (if (a ++ 64 :: b ++ [62]).getLast? = some 62 then parse (a ++ 64 :: b ++ [62]).dropLast else none) = _
  rw [if_pos List.getLast?_concat, List.dropLast_concat]
  exact parse_mk ha hb
theorem path_some {l a b : List UInt8} (h : path l = some (a, b)) : l = 60 :: (a ++ 64 :: b) ++ [62] ∧ nameOk a = true ∧ Dm.ok b = true := by
  unfold path at h
  split at h
  · rename_i r
    split at h
    · rename_i hr
      obtain ⟨h1, h2, h3⟩ := parse_some h
      refine ⟨?_, h2, h3⟩
      have : r = r.dropLast ++ [62] := by
        obtain ⟨ys, rfl⟩ := List.getLast?_eq_some_iff.1 hr
        simp
      rw [List.cons_append, ← h1, ← this]
    · cases h
  · cases h
/-- how the program reads it -/
theorem path_yes {r t : List UInt8} {m : Nat} (hk : lenOk (run r) = true) (ht : r.drop (run r) = 64 :: t) (hr : Dm.rd 2 t = some m) (h20 : m ≤ 20) (hg : t.drop m = [62]) : path (60 :: r) = some (r.take (run r), t.take m) := by
  have hle := run_le r
  have e : 60 :: r = 60 :: (r.take (run r) ++ 64 :: t.take m) ++ [62] := by
    conv => lhs; rw [← List.take_append_drop (run r) r, ht, ← List.take_append_drop m t, hg]
    simp
  rw [e]
  refine path_mk ?_ (Dm.rd_ok (k := 2) hr h20)
  rw [Dm.name_mk (Dm.take_run r), List.length_take, Nat.min_eq_left hle]
  exact hk
theorem path_inv {r a b : List UInt8} (h : path (60 :: r) = some (a, b)) : lenOk (run r) = true ∧ ∃ t m, r.drop (run r) = 64 :: t ∧ Dm.rd 2 t = some m ∧ m ≤ 20 ∧ t.drop m = [62] ∧ a = r.take (run r) ∧ b = t.take m := by
  obtain ⟨h1, h2, h3⟩ := path_some h
  rw [List.cons_append] at h1
  injection h1 with _ h1
  rw [List.append_assoc, List.cons_append] at h1
  subst h1
  have hr : run (a ++ 64 :: (b ++ [62])) = a.length := by
    rw [Dm.run_ext Dm.nb_at]; exact (run_all a).1 (Dm.name_all h2)
  obtain ⟨h4, h5⟩ := (Dm.ok_iff b).1 h3
  rw [hr]
  refine ⟨lenOk_iff.2 (nameOk_len h2), b ++ [62], b.length, by simp, ?_, h5, by simp, by simp, by simp⟩
  rw [Dm.rd_ext Dm.nb_gt (by decide)]
  exact h4
theorem path_no {r : List UInt8} (h : ¬ (lenOk (run r) = true ∧ ∃ t m, r.drop (run r) = 64 :: t ∧ Dm.rd 2 t = some m ∧ m ≤ 20 ∧ t.drop m = [62])) : path (60 :: r) = none := by
  cases hp : path (60 :: r) with
  | none => rfl
  | some ab =>
    obtain ⟨a, b⟩ := ab
    obtain ⟨h1, t, m, h2, h3, h4, h5, _⟩ := path_inv hp
    exact absurd ⟨h1, t, m, h2, h3, h4, h5⟩ h
theorem path_len {l a b : List UInt8} (h : path l = some (a, b)) : a.length ≤ 8 ∧ 1 ≤ a.length ∧ b.length ≤ 20 := by
  obtain ⟨_, h2, h3⟩ := path_some h
  exact ⟨(nameOk_len h2).2, (nameOk_len h2).1, Dm.ok_len h3⟩
end Pa
end Go.Proofs.Ytpbaimofffcnaaa

namespace Go.Proofs.Ytpbaimofffcnaaa
set_option linter.unusedVariables false
namespace B6

def tab : List UInt8 := [65, 66, 67, 68, 69, 70, 71, 72, 73, 74, 75, 76, 77, 78, 79, 80, 81, 82, 83, 84, 85, 86, 87, 88, 89, 90, 97, 98, 99, 100, 101, 102, 103, 104, 105, 106, 107, 108, 109, 110, 111, 112, 113, 114, 115, 116, 117, 118, 119, 120, 121, 122, 48, 49, 50, 51, 52, 53, 54, 55, 56, 57, 43, 47]
def sign (v : Nat) : UInt8 := tab.getD v 0
/-- the number of a sign -/
def val (b : UInt8) : Option Nat := tab.findIdx? (· == b)
def val0 (b : UInt8) : Nat := (val b).getD 0

theorem val_sign : ∀ v, v < 64 → val (sign v) = some v := by decide
theorem val_eq : val 61 = none := by decide
theorem val_lt {b : UInt8} {v : Nat} (h : val b = some v) : v < 64 := by
  have := List.findIdx?_eq_some_iff_getElem.1 h
  obtain ⟨h1, _⟩ := this
  exact h1
theorem val0_lt (b : UInt8) : val0 b < 64 := by
  unfold val0
  cases h : val b with
  | none => decide
  | some v => exact val_lt h

/-- three bytes as a number -/
def num (a b c : UInt8) : Nat := 65536 * a.toNat + 256 * b.toNat + c.toNat
def enc : List UInt8 → List UInt8
  | [] => []
  | [a] => [sign (num a 0 0 / 262144), sign (num a 0 0 / 4096 % 64), 61, 61]
  | [a, b] => [sign (num a b 0 / 262144), sign (num a b 0 / 4096 % 64), sign (num a b 0 / 64 % 64), 61]
  | a :: b :: c :: r => [sign (num a b c / 262144), sign (num a b c / 4096 % 64), sign (num a b c / 64 % 64), sign (num a b c % 64)] ++ enc r

theorem enc_len (l : List UInt8) : (enc l).length = (l.length + 2) / 3 * 4 := by
  induction l using enc.induct with
  | case1 => rfl
  | case2 a => simp [enc]
  | case3 a b => simp [enc]
  | case4 a b c r ih => simp only [enc, List.length_append, List.length_cons, List.length_nil, ih]; omega

/-- the bytes of a number of 24 bits -/
def bytes (n : Nat) : List UInt8 := [UInt8.ofNat (n / 65536), UInt8.ofNat (n / 256), UInt8.ofNat n]
/-- four signs, each counted (0 where it is none) -/
def decG (a b c d : UInt8) : List UInt8 := bytes (64 * (64 * (64 * val0 a + val0 b) + val0 c) + val0 d)
/-- the specification's decoding -/
def dec : List UInt8 → List UInt8
  | a :: b :: c :: d :: r => decG a b c d ++ dec r
  | _ => []

/-- the signs at the beginning of a group -/
def lead : List UInt8 → List Nat
  | [] => []
  | a :: r => match val a with
    | some v => v :: lead r
    | none => []
def fold (vs : List Nat) : Nat := vs.foldl (fun n v => 64 * n + v) 0
def readG (g : List UInt8) : List UInt8 := (bytes (fold (lead g) * 64 ^ (4 - (lead g).length))).take ((lead g).length * 6 / 8)
/-- the implementation's decoding -/
def read : List UInt8 → List UInt8
  | [] => []
  | a :: b :: c :: d :: r => readG [a, b, c, d] ++ read r
  | l => readG l

theorem u8 (a : UInt8) : a.toNat < 256 := a.toNat_lt

theorem bytes_num (a b c : UInt8) : bytes (num a b c) = [a, b, c] := by
  have ha := u8 a
  have hb := u8 b
  have hc := u8 c
  unfold bytes num
  have e1 : (65536 * a.toNat + 256 * b.toNat + c.toNat) / 65536 = a.toNat := by omega
  have e2 : (65536 * a.toNat + 256 * b.toNat + c.toNat) / 256 = 256 * a.toNat + b.toNat := by omega
  rw [e1, e2]
  have f2 : UInt8.ofNat (256 * a.toNat + b.toNat) = b := by
    apply UInt8.toNat_inj.1
    rw [UInt8.toNat_ofNat']
    omega
  have f3 : UInt8.ofNat (65536 * a.toNat + 256 * b.toNat + c.toNat) = c := by
    apply UInt8.toNat_inj.1
    rw [UInt8.toNat_ofNat']
    omega
  rw [f2, f3, UInt8.ofNat_toNat]

theorem num_lt (a b c : UInt8) : num a b c < 16777216 := by
  have ha := u8 a
  have hb := u8 b
  have hc := u8 c
  unfold num; omega

theorem val0_sign {v : Nat} (h : v < 64) : val0 (sign v) = v := by unfold val0; rw [val_sign v h]; rfl
theorem val0_eq : val0 61 = 0 := by unfold val0; rw [val_eq]; rfl

theorem decG_sign (a b c : UInt8) : decG (sign (num a b c / 262144)) (sign (num a b c / 4096 % 64)) (sign (num a b c / 64 % 64)) (sign (num a b c % 64)) = [a, b, c] := by
  have h := num_lt a b c
  unfold decG
  rw [val0_sign (by omega), val0_sign (by omega), val0_sign (by omega), val0_sign (by omega)]
  rw [← bytes_num a b c]
  congr 1
  omega
theorem num2 (a b : UInt8) : num a b 0 % 64 = 0 := by
  unfold num
  have : (0 : UInt8).toNat = 0 := rfl
  rw [this]; omega
theorem num1 (a : UInt8) : num a 0 0 / 64 % 64 = 0 := by
  unfold num
  have : (0 : UInt8).toNat = 0 := rfl
  rw [this]; omega
theorem num1' (a : UInt8) : num a 0 0 % 64 = 0 := num2 a 0
theorem decG_two (a b : UInt8) : decG (sign (num a b 0 / 262144)) (sign (num a b 0 / 4096 % 64)) (sign (num a b 0 / 64 % 64)) 61 = [a, b, 0] := by
  have h := num_lt a b 0
  have := num2 a b
  unfold decG
  rw [val0_sign (by omega), val0_sign (by omega), val0_sign (by omega), val0_eq]
  rw [← bytes_num a b 0]
  congr 1
  omega
theorem decG_one (a : UInt8) : decG (sign (num a 0 0 / 262144)) (sign (num a 0 0 / 4096 % 64)) 61 61 = [a, 0, 0] := by
  have h := num_lt a 0 0
  have := num1 a
  have := num1' a
  unfold decG
  rw [val0_sign (by omega), val0_sign (by omega), val0_eq]
  rw [← bytes_num a 0 0]
  congr 1
  omega

/-- the specification's decoding gives the bytes, and at most two noughts more -/
theorem dec_enc (l : List UInt8) : ∃ k, k ≤ 2 ∧ dec (enc l) = l ++ List.replicate k 0 := by
  induction l using enc.induct with
  | case1 => exact ⟨0, by omega, rfl⟩
  | case2 a => exact ⟨2, by omega, by simp only [enc, dec, decG_one]; rfl⟩
  | case3 a b => exact ⟨1, by omega, by simp only [enc, dec, decG_two]; rfl⟩
  | case4 a b c r ih =>
    obtain ⟨k, hk, e⟩ := ih
    exact ⟨k, hk, by simp only [enc, List.cons_append, List.nil_append, dec, decG_sign, e]⟩

theorem lead_sign {v : Nat} (h : v < 64) (r : List UInt8) : lead (sign v :: r) = v :: lead r := by simp only [lead, val_sign v h]
theorem lead_eq (r : List UInt8) : lead (61 :: r) = [] := by simp only [lead, val_eq]

theorem readG_sign (a b c : UInt8) : readG [sign (num a b c / 262144), sign (num a b c / 4096 % 64), sign (num a b c / 64 % 64), sign (num a b c % 64)] = [a, b, c] := by
  have h := num_lt a b c
  unfold readG
  rw [lead_sign (by omega), lead_sign (by omega), lead_sign (by omega), lead_sign (by omega)]
  simp only [lead, fold, List.foldl, List.length_cons, List.length_nil]
  have : (64 * (64 * (64 * (64 * 0 + num a b c / 262144) + num a b c / 4096 % 64) + num a b c / 64 % 64) + num a b c % 64) * 64 ^ (4 - (0 + 1 + 1 + 1 + 1)) = num a b c := by
    simp only [Nat.reduceAdd, Nat.reduceSub, Nat.pow_zero]
    omega
  rw [this, bytes_num]
  rfl
theorem readG_two (a b : UInt8) : readG [sign (num a b 0 / 262144), sign (num a b 0 / 4096 % 64), sign (num a b 0 / 64 % 64), 61] = [a, b] := by
  have h := num_lt a b 0
  have h2 := num2 a b
  unfold readG
  rw [lead_sign (by omega), lead_sign (by omega), lead_sign (by omega), lead_eq]
  simp only [fold, List.foldl, List.length_cons, List.length_nil]
  have : (64 * (64 * (64 * 0 + num a b 0 / 262144) + num a b 0 / 4096 % 64) + num a b 0 / 64 % 64) * 64 ^ (4 - (0 + 1 + 1 + 1)) = num a b 0 := by
    simp only [Nat.reduceAdd, Nat.reduceSub, Nat.pow_one]
    omega
  rw [this, bytes_num]
  rfl
theorem readG_one (a : UInt8) : readG [sign (num a 0 0 / 262144), sign (num a 0 0 / 4096 % 64), 61, 61] = [a] := by
  have h := num_lt a 0 0
  have h1 := num1 a
  have h2 := num1' a
  unfold readG
  rw [lead_sign (by omega), lead_sign (by omega), lead_eq]
  simp only [fold, List.foldl, List.length_cons, List.length_nil]
  have : (64 * (64 * 0 + num a 0 0 / 262144) + num a 0 0 / 4096 % 64) * 64 ^ (4 - (0 + 1 + 1)) = num a 0 0 := by
    simp only [Nat.reduceAdd, Nat.reduceSub, Nat.reducePow]
    omega
  rw [this, bytes_num]
  rfl

theorem read_enc (l : List UInt8) : read (enc l) = l := by
  induction l using enc.induct with
  | case1 => rfl
  | case2 a => simp only [enc, read, readG_one, List.append_nil]
  | case3 a b => simp only [enc, read, readG_two, List.append_nil]
  | case4 a b c r ih => simp only [enc, List.cons_append, List.nil_append, read, readG_sign, ih]

theorem enc_inj {a b : List UInt8} (h : enc a = enc b) : a = b := by rw [← read_enc a, h, read_enc]

theorem readG_len (g : List UInt8) (h : g.length ≤ 4) : (readG g).length ≤ 3 := by
  unfold readG
  rw [List.length_take]
  exact Nat.le_trans (Nat.min_le_right _ _) (Nat.le_refl _)
theorem read_len (l : List UInt8) : (read l).length ≤ (l.length + 3) / 4 * 3 := by
  induction l using read.induct with
  | case1 => simp [read]
  | case2 a b c d r ih =>
    have := readG_len [a, b, c, d] (by simp)
    simp only [read, List.length_append, List.length_cons]
    omega
  | case3 l h1 h2 =>
    have h4 : l.length ≤ 3 := by
      match l, h1, h2 with
      | [], _, _ => simp
      | [_], _, _ => simp
      | [_, _], _, _ => simp
      | [_, _, _], _, _ => simp
      | a :: b :: c :: d :: r, _, h2 => exact absurd rfl (h2 a b c d r)
    have h5 : 0 < l.length := by
      match l, h1 with
      | [], h1 => exact absurd rfl h1
      | a :: r, _ => simp
    have : read l = readG l := by
      match l, h1, h2 with
      | [], h1, _ => exact absurd rfl h1
      | [_], _, _ => rfl
      | [_, _], _, _ => rfl
      | [_, _, _], _, _ => rfl
      | a :: b :: c :: d :: r, _, h2 => exact absurd rfl (h2 a b c d r)
    rw [this]
    have := readG_len l (by omega)
    omega

/-- the answer of both sides: the bytes whose text it is -/
def decode (t : List UInt8) : Option (List UInt8) := if t.length ≤ 40 ∧ enc (read t) = t then some (read t) else none

theorem decode_some {t s : List UInt8} (h : decode t = some s) : enc s = t ∧ t.length ≤ 40 := by
  unfold decode at h
  split at h
  · rename_i h1; injection h with h; subst h; exact ⟨h1.2, h1.1⟩
  · cases h
theorem decode_enc {s : List UInt8} (h : s.length ≤ 30) : decode (enc s) = some s := by
  unfold decode
  rw [read_enc, enc_len, if_pos ⟨by omega, rfl⟩]
theorem decode_none {t s : List UInt8} (h : decode t = none) (ht : t.length ≤ 40) : enc s ≠ t := by
  intro e
  subst e
  unfold decode at h
  rw [read_enc, if_pos ⟨ht, rfl⟩] at h
  cases h
end B6
end Go.Proofs.Ytpbaimofffcnaaa

namespace Go.Proofs.Ytpbaimofffcnaaa.Us
set_option linter.unusedVariables false

structure U where
  name : ByteArray
  pass : ByteArray
  quota : Int
abbrev anyoneL : List UInt8 := [97, 110, 121, 111, 110, 101]
def valid (u : U) : Bool := Nm.nameOk u.name.data.toList && !(u.name.toList == anyoneL) && Nm.nameOk u.pass.data.toList && decide (0 ≤ u.quota ∧ u.quota ≤ 200)
/-- is element i in order, and valid? -/
def itemOk (us : List U) (i : Nat) : Bool :=
  match us[i]? with
  | some u => valid u && (i == 0 || match us[i - 1]? with | some p => slt p.name u.name | none => true)
  | none => true
def okTo (us : List U) : Nat → Bool
  | 0 => true
  | k + 1 => okTo us k && itemOk us k
def usersOk (us : List U) : Bool := decide (1 ≤ us.length ∧ us.length ≤ 4) && okTo us us.length

theorem okTo_succ (us : List U) (k : Nat) : okTo us (k + 1) = (okTo us k && itemOk us k) := rfl
theorem okTo_mono {us : List U} {k : Nat} (h : okTo us k = false) : ∀ n, k ≤ n → okTo us n = false := by
  intro n hn
  obtain ⟨d, rfl⟩ : ∃ d, n = k + d := ⟨n - k, by omega⟩
  induction d with
  | zero => exact h
  | succ d ih => rw [← Nat.add_assoc, okTo_succ, ih (by omega)]; rfl
theorem usersOk_stop {us : List U} {k : Nat} (hk : k < us.length) (h : itemOk us k = false) : usersOk us = false := by
  unfold usersOk
  rw [okTo_mono (k := k + 1) (by rw [okTo_succ, h]; simp) us.length (by omega)]; simp
theorem usersOk_size {us : List U} (h : ¬ (1 ≤ us.length ∧ us.length ≤ 4)) : usersOk us = false := by
  unfold usersOk; simp [h]
theorem usersOk_all {us : List U} (h : okTo us us.length = true) : usersOk us = decide (1 ≤ us.length ∧ us.length ≤ 4) := by
  unfold usersOk; rw [h]; simp
theorem itemOk_zero {us : List U} (h : 0 < us.length) : itemOk us 0 = valid us[0] := by
  unfold itemOk; rw [List.getElem?_eq_getElem h]; simp
theorem itemOk_next {us : List U} {k : Nat} (h : k < us.length) (hk : 0 < k) : itemOk us k = (valid us[k] && slt us[k - 1].name us[k].name) := by
  unfold itemOk
  rw [List.getElem?_eq_getElem h, List.getElem?_eq_getElem (by omega : k - 1 < us.length)]
  have : (k == 0) = false := by simp; omega
  simp [this]
theorem valid_of {u : U} (h1 : Nm.nameOk u.name.data.toList = true) (h2 : (u.name.toList == anyoneL) = false) (h3 : Nm.nameOk u.pass.data.toList = true) (h4 : 0 ≤ u.quota ∧ u.quota ≤ 200) : valid u = true := by
  unfold valid; rw [h1, h2, h3]; simp [h4]
theorem valid_no1 {u : U} (h1 : Nm.nameOk u.name.data.toList = false) : valid u = false := by unfold valid; rw [h1]; rfl
theorem valid_no2 {u : U} (h : (u.name.toList == anyoneL) = true) : valid u = false := by unfold valid; rw [h]; simp
theorem valid_no3 {u : U} (h : Nm.nameOk u.pass.data.toList = false) : valid u = false := by unfold valid; rw [h]; simp
theorem valid_no4 {u : U} (h : ¬ (0 ≤ u.quota ∧ u.quota ≤ 200)) : valid u = false := by unfold valid; simp [h]
theorem valid_ne {u : U} (h : valid u = true) : u.name.toList ≠ [] := by
  unfold valid at h
  simp only [Bool.and_eq_true] at h
  have := Nm.nameOk_len h.1.1.1
  intro e
  rw [Go.ByteArray.toList_eq] at e
  rw [e] at this
  simp at this

/-- the name ahead of element k -/
def prevName (us : List U) : Nat → ByteArray
  | 0 => ⟨#[]⟩
  | k + 1 => match us[k]? with | some p => p.name | none => ⟨#[]⟩
theorem prevName_succ {us : List U} {k : Nat} {u : U} (h : us[k]? = some u) : prevName us (k + 1) = u.name := by
  show (match us[k]? with | some p => p.name | none => ⟨#[]⟩) = u.name
  rw [h]
theorem slt_empty {a : ByteArray} (h : a.toList ≠ []) : slt ⟨#[]⟩ a = true := by
  unfold slt
  have e : (ByteArray.mk #[]).toList = [] := by rw [Go.ByteArray.toList_eq]
  rw [e]
  cases hl : a.toList with
  | nil => exact absurd hl h
  | cons x l => rfl
theorem itemOk_prev {us : List U} {k : Nat} {u : U} (h : us[k]? = some u) (hv : valid u = true) : itemOk us k = slt (prevName us k) u.name := by
  unfold itemOk
  rw [h]
  cases k with
  | zero => simp [hv, prevName, slt_empty (valid_ne hv)]
  | succ k =>
    have hk : k < us.length := by
      have := (List.getElem?_eq_some_iff.1 h).1
      omega
    have e : (k + 1 == 0) = false := by simp
    simp [hv, prevName, List.getElem?_eq_getElem hk]
theorem itemOk_bad {us : List U} {k : Nat} {u : U} (h : us[k]? = some u) (hv : valid u = false) : itemOk us k = false := by
  unfold itemOk
  rw [h]; simp [hv]

theorem usersOk_set {us : List U} {k : Nat} {u : U} (hk : k < us.length) (hv : valid u = false) : usersOk (us.set k u) = false :=
  usersOk_stop (k := k) (by rw [List.length_set]; exact hk) (itemOk_bad (u := u) (by rw [List.getElem?_set_self hk]) hv)

end Go.Proofs.Ytpbaimofffcnaaa.Us

namespace Go.Proofs.Ytpbaimofffcnaaa.Us
set_option linter.unusedVariables false

theorem okTo_item {us : List U} : ∀ n, okTo us n = true → ∀ i, i < n → itemOk us i = true := by
  intro n
  induction n with
  | zero => intro _ i hi; omega
  | succ n ih =>
    intro h i hi
    rw [okTo_succ, Bool.and_eq_true] at h
    by_cases hin : i = n
    · subst hin; exact h.2
    · exact ih h.1 i (by omega)
theorem okTo_of {us : List U} : ∀ n, (∀ i, i < n → itemOk us i = true) → okTo us n = true := by
  intro n
  induction n with
  | zero => intro _; rfl
  | succ n ih =>
    intro h
    rw [okTo_succ, ih fun i hi => h i (by omega), h n (by omega)]; rfl
theorem usersOk_iff (us : List U) : usersOk us = true ↔ (1 ≤ us.length ∧ us.length ≤ 4) ∧ (∀ u ∈ us, valid u = true) ∧ us.Pairwise (fun a b => slt a.name b.name = true) := by
  unfold usersOk
  rw [Bool.and_eq_true, decide_eq_true_eq]
  constructor
  · rintro ⟨h1, h2⟩
    have hi := okTo_item _ h2
    refine ⟨h1, fun u hu => ?_, ?_⟩
    · obtain ⟨i, hl, rfl⟩ := List.mem_iff_getElem.1 hu
      have := hi i hl
      by_cases h0 : 0 < i
      · rw [itemOk_next hl h0, Bool.and_eq_true] at this; exact this.1
      · obtain rfl : i = 0 := by omega
        rw [itemOk_zero hl] at this; exact this
    · rw [List.pairwise_iff_getElem]
      intro i j hil hjl hij
      obtain ⟨d, rfl⟩ : ∃ d, j = i + 1 + d := ⟨j - i - 1, by omega⟩
      induction d with
      | zero =>
        have := hi (i + 1) hjl
        rw [itemOk_next hjl (by omega), Bool.and_eq_true] at this
        exact this.2
      | succ d ih =>
        have := hi (i + 1 + (d + 1)) hjl
        rw [itemOk_next hjl (by omega), Bool.and_eq_true] at this
        exact slt_trans (ih (by omega) (by omega)) this.2
  · rintro ⟨h1, h2, h3⟩
    refine ⟨h1, okTo_of _ fun i hi => ?_⟩
    rw [List.pairwise_iff_getElem] at h3
    by_cases h0 : 0 < i
    · rw [itemOk_next hi h0, h2 _ (List.getElem_mem hi), h3 (i - 1) i (by omega) hi (by omega)]; rfl
    · obtain rfl : i = 0 := by omega
      rw [itemOk_zero hi]; exact h2 _ (List.getElem_mem hi)
theorem usersOk_sub {us vs : List U} (h : usersOk us = true) (hs : vs.Sublist us) (hl : 1 ≤ vs.length) : usersOk vs = true := by
  obtain ⟨h1, h2, h3⟩ := (usersOk_iff us).1 h
  refine (usersOk_iff vs).2 ⟨⟨hl, Nat.le_trans hs.length_le h1.2⟩, fun u hu => h2 u (hs.subset hu), h3.sublist hs⟩
theorem usersOk_out {us : List U} {k : Nat} (h : usersOk us = true) (hk : k < us.length) : usersOk (us.take k ++ us.drop (k + 1)) = decide (us.length > 1) := by
  have hlen : (us.take k ++ us.drop (k + 1)).length = us.length - 1 := by simp; omega
  by_cases h1 : us.length > 1
  · rw [decide_eq_true h1]
    refine usersOk_sub h ?_ (by omega)
    have e : us = us.take k ++ us.drop k := (List.take_append_drop k us).symm
    conv => rhs; rw [e]
    refine List.Sublist.append (List.Sublist.refl _) ?_
    rw [List.drop_eq_getElem_cons hk]
    exact List.sublist_cons_self _ _
  · rw [decide_eq_false h1]
    exact usersOk_size (by omega)
theorem usersOk_twice {us : List U} {k : Nat} (hk : k < us.length) : usersOk (us.take (k + 1) ++ us.drop k) = false := by
  cases hv : usersOk (us.take (k + 1) ++ us.drop k)
  · rfl
  · exfalso
    obtain ⟨_, _, h3⟩ := (usersOk_iff _).1 hv
    rw [List.pairwise_append] at h3
    have h := h3.2.2 us[k] (by rw [List.mem_take_iff_getElem]; exact ⟨k, by omega, rfl⟩) us[k] (by rw [List.drop_eq_getElem_cons hk]; exact List.mem_cons_self ..)
    rw [slt_irrefl] at h
    cases h
theorem same_of {a b : ByteArray} (h : (a.toList == b.toList) = true) : a = b := by
  have h := eq_of_beq h
  rw [Go.ByteArray.toList_eq, Go.ByteArray.toList_eq] at h
  cases a; cases b
  congr
  exact Array.toList_inj.1 h
theorem find_at {us : List U} {k : Nat} {u : U} (h : usersOk us = true) (hu : us[k]? = some u) : us.find? (fun x => x.name.toList == u.name.toList) = some u := by
  obtain ⟨_, _, h3⟩ := (usersOk_iff us).1 h
  rw [List.pairwise_iff_getElem] at h3
  have hk : k < us.length := (List.getElem?_eq_some_iff.1 hu).1
  have e : us[k] = u := (List.getElem?_eq_some_iff.1 hu).2
  rw [List.find?_eq_some_iff_getElem]
  refine ⟨by simp, k, hk, e, fun j hj => ?_⟩
  cases hb : (us[j].name.toList == u.name.toList)
  · rfl
  · have h4 := h3 j k (by omega) hk hj
    rw [e, same_of hb, slt_irrefl] at h4
    cases h4
theorem find_anyone {us : List U} {nm : ByteArray} (h : usersOk us = true) (hn : nm.toList = anyoneL) : us.find? (fun x => x.name.toList == nm.toList) = none := by
  obtain ⟨_, h2, _⟩ := (usersOk_iff us).1 h
  rw [List.find?_eq_none]
  intro u hu
  have := h2 u hu
  unfold valid at this
  simp only [Bool.and_eq_true, Bool.not_eq_true'] at this
  rw [hn, this.1.1.2]
  simp

end Go.Proofs.Ytpbaimofffcnaaa.Us

namespace Go.Proofs.Ytpbaimofffcnaaa.St
set_option linter.unusedVariables false

def has (l : List ByteArray) (s : ByteArray) : Bool := l.any fun x => x.toList == s.toList
def itemOk (ss : List ByteArray) (i : Nat) : Bool :=
  match ss[i]? with
  | some s => Nm.nameOk s.data.toList && !has (ss.take i) s
  | none => true
def okTo (ss : List ByteArray) : Nat → Bool
  | 0 => true
  | k + 1 => okTo ss k && itemOk ss k
/-- names, each once, no more than may be -/
def namesOk (ss : List ByteArray) : Bool := decide (ss.length ≤ 3) && okTo ss ss.length

theorem okTo_succ (us : List ByteArray) (k : Nat) : okTo us (k + 1) = (okTo us k && itemOk us k) := rfl
theorem okTo_mono {us : List ByteArray} {k : Nat} (h : okTo us k = false) : ∀ n, k ≤ n → okTo us n = false := by
  intro n hn
  obtain ⟨d, rfl⟩ : ∃ d, n = k + d := ⟨n - k, by omega⟩
  induction d with
  | zero => exact h
  | succ d ih => rw [← Nat.add_assoc, okTo_succ, ih (by omega)]; rfl
theorem stop {us : List ByteArray} {k : Nat} (hk : k < us.length) (h : itemOk us k = false) : okTo us us.length = false :=
  okTo_mono (k := k + 1) (by rw [okTo_succ, h]; simp) us.length (by omega)
theorem namesOk_stop {us : List ByteArray} {k : Nat} (hk : k < us.length) (h : itemOk us k = false) : namesOk us = false := by
  unfold namesOk
  rw [stop hk h]; simp
theorem namesOk_size {us : List ByteArray} (h : ¬ us.length ≤ 3) : namesOk us = false := by
  unfold namesOk; simp [h]
theorem namesOk_all {us : List ByteArray} (h : okTo us us.length = true) : namesOk us = decide (us.length ≤ 3) := by
  unfold namesOk; rw [h]; simp
theorem item_no1 {us : List ByteArray} {k : Nat} {s : ByteArray} (h : us[k]? = some s) (hn : Nm.nameOk s.data.toList = false) : itemOk us k = false := by
  unfold itemOk; rw [h]; simp [hn]
theorem item_is {us : List ByteArray} {k : Nat} {s : ByteArray} (h : us[k]? = some s) (hn : Nm.nameOk s.data.toList = true) : itemOk us k = !has (us.take k) s := by
  unfold itemOk; rw [h]; simp [hn]
theorem has_yes {us : List ByteArray} {nm s : ByteArray} {k : Nat} (h : has us nm = (us.drop k).any fun x => x.toList == nm.toList) (hu : us[k]? = some s) (hn : (s.toList == nm.toList) = true) : has us nm = true := by
  have hk : k < us.length := (List.getElem?_eq_some_iff.1 hu).1
  have e : us[k] = s := (List.getElem?_eq_some_iff.1 hu).2
  rw [h, List.drop_eq_getElem_cons hk, e, List.any_cons, hn]; rfl
theorem has_next {us : List ByteArray} {nm s : ByteArray} {k : Nat} (h : has us nm = (us.drop k).any fun x => x.toList == nm.toList) (hu : us[k]? = some s) (hn : (s.toList == nm.toList) = false) : has us nm = (us.drop (k + 1)).any fun x => x.toList == nm.toList := by
  have hk : k < us.length := (List.getElem?_eq_some_iff.1 hu).1
  have e : us[k] = s := (List.getElem?_eq_some_iff.1 hu).2
  rw [h, List.drop_eq_getElem_cons hk, e, List.any_cons, hn]; rfl
theorem has_end {us : List ByteArray} {nm : ByteArray} (h : has us nm = (us.drop us.length).any fun x => x.toList == nm.toList) : has us nm = false := by
  rw [h, List.drop_length]; rfl

end Go.Proofs.Ytpbaimofffcnaaa.St

namespace Go.Proofs.Ytpbaimofffcnaaa.St
set_option linter.unusedVariables false

theorem str_eq {a b : ByteArray} : (a.toList == b.toList) = true ↔ a = b := by
  constructor
  · intro h
    have h := eq_of_beq h
    rw [Go.ByteArray.toList_eq, Go.ByteArray.toList_eq] at h
    cases a; cases b
    congr
    exact Array.toList_inj.1 h
  · rintro rfl; simp
theorem has_iff (l : List ByteArray) (s : ByteArray) : has l s = true ↔ s ∈ l := by
  unfold has
  rw [List.any_eq_true]
  constructor
  · rintro ⟨x, hx, h⟩
    rw [str_eq] at h
    subst h; exact hx
  · intro h; exact ⟨s, h, str_eq.2 rfl⟩
theorem okTo_iff (us : List ByteArray) : ∀ n, n ≤ us.length → (okTo us n = true ↔ (∀ u ∈ us.take n, Nm.nameOk u.data.toList = true) ∧ (us.take n).Nodup)
  | 0, _ => by simp [okTo]
  | n + 1, h => by
    have hu := List.getElem?_eq_getElem (by omega : n < us.length)
    have ht : us.take (n + 1) = us.take n ++ [us[n]] := by rw [List.take_add_one, hu]; rfl
    rw [okTo_succ, Bool.and_eq_true, okTo_iff us n (by omega), ht, List.nodup_append]
    cases hn : Nm.nameOk us[n].data.toList
    · rw [item_no1 hu hn]
      simp only [Bool.false_eq_true, and_false, false_iff]
      rintro ⟨h1, _⟩
      have := h1 us[n] (List.mem_append_right _ (List.mem_singleton.2 rfl))
      rw [hn] at this
      cases this
    · rw [item_is hu hn]
      have e : (!has (us.take n) us[n]) = true ↔ us[n] ∉ us.take n := by
        rw [← has_iff]; cases has (us.take n) us[n] <;> simp
      rw [e]
      constructor
      · rintro ⟨⟨h1, h2⟩, h3⟩
        refine ⟨fun u hu => ?_, h2, by simp, fun a ha b hb => ?_⟩
        · rcases List.mem_append.1 hu with h' | h'
          · exact h1 u h'
          · rw [List.mem_singleton] at h'; subst h'; exact hn
        · rw [List.mem_singleton] at hb; subst hb
          rintro rfl; exact h3 ha
      · rintro ⟨h1, h2, _, h4⟩
        exact ⟨⟨fun u hu => h1 u (List.mem_append_left _ hu), h2⟩, fun hm => h4 _ hm us[n] (List.mem_singleton.2 rfl) rfl⟩
theorem namesOk_iff (us : List ByteArray) : namesOk us = true ↔ us.length ≤ 3 ∧ (∀ u ∈ us, Nm.nameOk u.data.toList = true) ∧ us.Nodup := by
  unfold namesOk
  rw [Bool.and_eq_true, decide_eq_true_eq, okTo_iff us us.length (Nat.le_refl _), List.take_length]
theorem namesOk_sub {us vs : List ByteArray} (h : namesOk us = true) (hs : vs.Sublist us) : namesOk vs = true := by
  obtain ⟨h1, h2, h3⟩ := (namesOk_iff us).1 h
  exact (namesOk_iff vs).2 ⟨Nat.le_trans hs.length_le h1, fun u hu => h2 u (hs.subset hu), h3.sublist hs⟩
theorem out_sub {us : List ByteArray} {k : Nat} (hk : k < us.length) : (us.take k ++ us.drop (k + 1)).Sublist us := by
  have e : us = us.take k ++ us.drop k := (List.take_append_drop k us).symm
  conv => rhs; rw [e]
  refine List.Sublist.append (List.Sublist.refl _) ?_
  rw [List.drop_eq_getElem_cons hk]
  exact List.sublist_cons_self _ _
theorem namesOk_twice {us : List ByteArray} {k : Nat} (hk : k < us.length) : namesOk (us.take (k + 1) ++ us.drop k) = false := by
  cases hv : namesOk (us.take (k + 1) ++ us.drop k)
  · rfl
  · exfalso
    obtain ⟨_, _, h3⟩ := (namesOk_iff _).1 hv
    rw [List.nodup_append] at h3
    exact h3.2.2 us[k] (by rw [List.mem_take_iff_getElem]; exact ⟨k, by omega, rfl⟩) us[k] (by rw [List.drop_eq_getElem_cons hk]; exact List.mem_cons_self ..) rfl

end Go.Proofs.Ytpbaimofffcnaaa.St

namespace Go.Proofs.Ytpbaimofffcnaaa
set_option linter.unusedVariables false
namespace Pp
/-- of the bytes -/
def parts (s : List UInt8) : Option (List UInt8 × List UInt8) := match Ct.cut 0 s with
  | [p0, p1, p2] => if p0 = [] ∧ Nm.nameOk p1 = true ∧ Nm.nameOk p2 = true then some (p1, p2) else none
  | _ => none
/-- of the text -/
def parse (t : List UInt8) : Option (List UInt8 × List UInt8) := match B6.decode t with
  | some s => parts s
  | none => none
theorem parts_len {s : List UInt8} (h : (Ct.cut 0 s).length ≠ 3) : parts s = none := by
  unfold parts
  split
  · rename_i e; rw [e] at h; exact absurd rfl h
  · rfl
theorem parts_three {s p0 p1 p2 : List UInt8} (h : Ct.cut 0 s = [p0, p1, p2]) : parts s = if p0 = [] ∧ Nm.nameOk p1 = true ∧ Nm.nameOk p2 = true then some (p1, p2) else none := by
  unfold parts
  rw [h]
end Pp
end Go.Proofs.Ytpbaimofffcnaaa

namespace Go.Proofs.Ytpbaimofffcnaaa
set_option linter.unusedVariables false
namespace Pp
theorem nb0 : Nm.nb 0 = false := by decide
theorem parts_yes {u p : List UInt8} (hu : Nm.nameOk u = true) (hp : Nm.nameOk p = true) : parts (0 :: (u ++ 0 :: p)) = some (u, p) := by
  have h : Ct.cut 0 (0 :: (u ++ 0 :: p)) = [[], u, p] := by
    have h1 := Ct.cut_at 0 (u ++ 0 :: p) [] (by simp)
    rw [List.nil_append] at h1
    rw [h1, Ct.cut_at 0 p u (Dm.all_ne (Dm.name_all hu) nb0), Ct.cut_none 0 p (Dm.all_ne (Dm.name_all hp) nb0)]
  rw [parts_three h, if_pos ⟨rfl, hu, hp⟩]
theorem parts_inv {s u p : List UInt8} (h : parts s = some (u, p)) : s = 0 :: (u ++ 0 :: p) ∧ Nm.nameOk u = true ∧ Nm.nameOk p = true := by
  unfold parts at h
  split at h
  · rename_i p0 p1 p2 hc
    split at h
    · rename_i hk
      injection h with h
      injection h with h1 h2
      subst h1; subst h2
      obtain ⟨r, hr, hc2⟩ := Ct.double 0 hc
      obtain ⟨r2, hr2, hc3⟩ := Ct.double 0 hc2
      rw [Ct.single 0 hc3] at hr2
      rw [hk.1, List.nil_append] at hr
      exact ⟨by rw [hr, hr2], hk.2.1, hk.2.2⟩
    · cases h
  · cases h
theorem idx {u p : List UInt8} (hu : Nm.nameOk u = true) {o : Nat} (h : Lib.indexByte (u ++ 0 :: p) 0 = (o : Int)) : o = u.length := by
  obtain ⟨h1, h2⟩ := Lib.indexByte_some h
  have hne := Dm.all_ne (Dm.name_all hu) nb0
  rcases Nat.lt_trichotomy o u.length with h3 | h3 | h3
  · rw [List.getElem?_append_left h3, List.getElem?_eq_getElem h3] at h1
    injection h1 with h1
    exact absurd h1 (hne _ (List.getElem_mem _))
  · exact h3
  · exact absurd (by simp) (h2 u.length h3)
/-- no byte 0 ahead -/
theorem no1 {s : List UInt8} (h : ¬ [0] <+: s) : parts s = none := by
  cases hp : parts s with
  | none => rfl
  | some x =>
    obtain ⟨u, p⟩ := x
    obtain ⟨e, _⟩ := parts_inv hp
    exact absurd ⟨u ++ 0 :: p, by rw [e]; rfl⟩ h
theorem no2 {r : List UInt8} (h : ¬ 0 ≤ Lib.indexByte r 0) : parts (0 :: r) = none := by
  cases hp : parts (0 :: r) with
  | none => rfl
  | some x =>
    obtain ⟨u, p⟩ := x
    obtain ⟨e, _⟩ := parts_inv hp
    injection e with _ e
    have h1 : Lib.indexByte r 0 = -1 := by have := Lib.indexByte_ge r 0; omega
    have := Lib.indexByte_none h1 u.length
    rw [e] at this
    exact absurd (by simp) this
theorem no3 {r : List UInt8} {o : Nat} (h : Lib.indexByte r 0 = (o : Int)) (hn : ¬ (Nm.nameOk (r.take o) = true ∧ Nm.nameOk (r.drop (o + 1)) = true)) : parts (0 :: r) = none := by
  cases hp : parts (0 :: r) with
  | none => rfl
  | some x =>
    obtain ⟨u, p⟩ := x
    obtain ⟨e, hu, hq⟩ := parts_inv hp
    injection e with _ e
    subst e
    have := idx hu h
    subst this
    exact absurd ⟨by simpa using hu, by simpa using hq⟩ hn
theorem yes {r : List UInt8} {o : Nat} (h : Lib.indexByte r 0 = (o : Int)) (h1 : Nm.nameOk (r.take o) = true) (h2 : Nm.nameOk (r.drop (o + 1)) = true) : parts (0 :: r) = some (r.take o, r.drop (o + 1)) := by
  have h3 := (Lib.indexByte_some h).1
  have hlt := (List.getElem?_eq_some_iff.1 h3).1
  have e : r = r.take o ++ 0 :: r.drop (o + 1) := by
    conv => lhs; rw [← List.take_append_drop o r, List.drop_eq_getElem_cons hlt, (List.getElem?_eq_some_iff.1 h3).2]
  conv => lhs; rw [e]
  exact parts_yes h1 h2
end Pp
end Go.Proofs.Ytpbaimofffcnaaa

namespace Go.Proofs.Ytpbaimofffcnaaa
set_option linter.unusedVariables false

theorem Pf.take_eq {s p : ByteArray} (h : p.size ≤ s.size) : ((s.extract 0 p.size).toList == p.toList) = decide (p.data.toList <+: s.data.toList) := by
  have hl : p.data.toList.length = p.size := Array.length_toList
  have e : (s.extract 0 p.size).toList = s.data.toList.take p.size := by rw [Go.ByteArray.toList_eq]; simp [ByteArray.data_extract]
  rw [e, Go.ByteArray.toList_eq, ← hl, Bool.eq_iff_iff, beq_iff_eq, decide_eq_true_eq, List.prefix_iff_eq_take]
  exact eq_comm
theorem Pf.short {s p : ByteArray} (h : ¬ p.size ≤ s.size) : decide (p.data.toList <+: s.data.toList) = false := by
  have hl : p.data.toList.length = p.size := Array.length_toList
  have hl2 : s.data.toList.length = s.size := Array.length_toList
  rw [decide_eq_false_iff_not]
  intro hp
  have := hp.length_le
  omega

end Go.Proofs.Ytpbaimofffcnaaa

namespace Go.Proofs.Ytpbaimofffcnaaa
set_option linter.unusedVariables false
namespace Gs
/-- the groups of K bytes -/
def gs (K : Nat) (L : List UInt8) : List (List UInt8) := (List.range ((L.length + (K - 1)) / K)).map fun i => (L.drop (i * K)).take K
theorem gs3 (a b c : UInt8) (r : List UInt8) : gs 3 (a :: b :: c :: r) = [a, b, c] :: gs 3 r := by
  unfold gs
  have h : ((a :: b :: c :: r).length + (3 - 1)) / 3 = (r.length + (3 - 1)) / 3 + 1 := by simp only [List.length_cons]; omega
  rw [h, List.range_succ_eq_map, List.map_cons, List.map_map]
  congr 1
  apply List.map_congr_left
  intro i _
  simp only [Function.comp, Nat.succ_mul]
  rfl
theorem gs4 (a b c d : UInt8) (r : List UInt8) : gs 4 (a :: b :: c :: d :: r) = [a, b, c, d] :: gs 4 r := by
  unfold gs
  have h : ((a :: b :: c :: d :: r).length + (4 - 1)) / 4 = (r.length + (4 - 1)) / 4 + 1 := by simp only [List.length_cons]; omega
  rw [h, List.range_succ_eq_map, List.map_cons, List.map_map]
  congr 1
  apply List.map_congr_left
  intro i _
  simp only [Function.comp, Nat.succ_mul]
  rfl
theorem gs_enc (L : List UInt8) : (gs 3 L).flatMap B6.enc = B6.enc L := by
  induction L using B6.enc.induct with
  | case1 => rfl
  | case2 a => simp [gs, List.range_succ]
  | case3 a b => simp [gs, List.range_succ]
  | case4 a b c r ih =>
    rw [gs3, List.flatMap_cons, ih]
    simp only [B6.enc, List.append_nil]
theorem gs_read (L : List UInt8) : (gs 4 L).flatMap B6.readG = B6.read L := by
  induction L using B6.read.induct with
  | case1 => rfl
  | case2 a b c d r ih => rw [gs4, List.flatMap_cons, ih]; rfl
  | case3 l h1 h2 =>
    match l, h1, h2 with
    | [], h1, _ => exact absurd rfl h1
    | [_], _, _ => simp [gs, List.range_succ, B6.read]
    | [_, _], _, _ => simp [gs, List.range_succ, B6.read]
    | [_, _, _], _, _ => simp [gs, List.range_succ, B6.read]
    | a :: b :: c :: d :: r, _, h2 => exact absurd rfl (h2 a b c d r)
/-- a group is not empty, and not too long -/
abbrev G (K : Nat) := { s : ByteArray // 1 ≤ s.size ∧ s.size ≤ K }
theorem ok {s : ByteArray} {K i : Nat} (hK : 1 ≤ K) (h : i * K < s.size) : 1 ≤ (s.extract (i * K) (min (i * K + K) s.size)).size ∧ (s.extract (i * K) (min (i * K + K) s.size)).size ≤ K := by
  rw [ByteArray.size_extract]; omega
def at_ (s : ByteArray) (K : Nat) (hK : 1 ≤ K) (i : Nat) : G K :=
  if h : i * K < s.size then ⟨s.extract (i * K) (min (i * K + K) s.size), ok hK h⟩ else ⟨⟨#[0]⟩, by decide, hK⟩
theorem at_val {s : ByteArray} {K : Nat} (hK : 1 ≤ K) {i : Nat} (h : i * K < s.size) : (at_ s K hK i).1 = s.extract (i * K) (min (i * K + K) s.size) := by unfold at_; rw [dif_pos h]
def upto {α : Type} (f : Nat → α) (k : Nat) : List α := (List.range k).map f
theorem upto_succ {α : Type} (f : Nat → α) (k : Nat) : upto f (k + 1) = upto f k ++ [f k] := by simp [upto, List.range_succ]
theorem upto_length {α : Type} (f : Nat → α) (k : Nat) : (upto f k).length = k := by simp [upto]
theorem groups (s : ByteArray) (K : Nat) (hK : 1 ≤ K) : (upto (at_ s K hK) ((s.size + (K - 1)) / K)).map (fun g => g.1.data.toList) = gs K s.data.toList := by
  unfold upto gs
  rw [List.map_map]
  have hl : s.data.toList.length = s.size := Array.length_toList
  rw [hl]
  apply List.map_congr_left
  intro i hi
  rw [List.mem_range] at hi
  have h : i * K < s.size := by
    have h1 : (i + 1) * K ≤ s.size + (K - 1) := (Nat.le_div_iff_mul_le (by omega)).1 hi
    rw [Nat.succ_mul] at h1
    omega
  show (at_ s K hK i).1.data.toList = _
  rw [at_val hK h]
  simp only [ByteArray.data_extract, Array.toList_extract, List.extract_eq_take_drop]
  apply List.ext_getElem?
  intro j
  simp only [List.getElem?_take, List.getElem?_drop]
  by_cases hj : j < K
  · by_cases hs : i * K + j < s.size
    · rw [if_pos (by omega), if_pos hj]
    · rw [if_neg (by omega), if_pos hj, List.getElem?_eq_none (by omega)]
  · rw [if_neg (by omega), if_neg hj]
end Gs
end Go.Proofs.Ytpbaimofffcnaaa
