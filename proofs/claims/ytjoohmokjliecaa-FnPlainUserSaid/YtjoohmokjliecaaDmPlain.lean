/- Domains, addresses and paths: plain Lean. -/
import Derived.Test.YtjoohmokjliecaaNmPlain
import Derived.Test.YtjoohmokjliecaaCtPlain
namespace Go.Proofs.Ytjoohmokjliecaa
set_option linter.unusedVariables false

theorem Ct.mem (c : UInt8) (x : UInt8) (hx : x ≠ c) : ∀ l : List UInt8, x ∈ l → ∃ p ∈ Ct.cut c l, x ∈ p
  | [], h => absurd h (by simp)
  | a :: r, h => by
    unfold Ct.cut
    by_cases ha : a = c
    · rw [if_pos ha]
      rcases List.mem_cons.1 h with rfl | h
      · exact absurd ha hx
      · obtain ⟨p, hp, hxp⟩ := Ct.mem c x hx r h
        exact ⟨p, List.mem_cons_of_mem _ hp, hxp⟩
    · rw [if_neg ha]
      cases hc : Ct.cut c r with
      | nil => exact absurd hc (Ct.cut_ne c r)
      | cons p ps =>
        rcases List.mem_cons.1 h with rfl | h
        · exact ⟨x :: p, by simp, by simp⟩
        · obtain ⟨q, hq, hxq⟩ := Ct.mem c x hx r h
          rw [hc] at hq
          rcases List.mem_cons.1 hq with rfl | hq
          · exact ⟨a :: q, by simp, List.mem_cons_of_mem _ hxq⟩
          · exact ⟨q, List.mem_cons_of_mem _ hq, hxq⟩
theorem Ct.single (c : UInt8) : ∀ {l p : List UInt8}, Ct.cut c l = [p] → l = p
  | [], p, h => by simp [Ct.cut] at h; exact h.symm
  | a :: r, p, h => by
    unfold Ct.cut at h
    split at h
    · injection h with h1 h2
      exact absurd h2 (Ct.cut_ne c r)
    · cases hc : Ct.cut c r with
      | nil => exact absurd hc (Ct.cut_ne c r)
      | cons q qs =>
        rw [hc] at h
        injection h with h1 h2
        subst h2
        rw [Ct.single c hc, h1]
theorem Ct.double (c : UInt8) : ∀ {l p q : List UInt8} {qs : List (List UInt8)}, Ct.cut c l = p :: q :: qs → ∃ r, l = p ++ c :: r ∧ Ct.cut c r = q :: qs
  | [], p, q, qs, h => by simp [Ct.cut] at h
  | a :: r, p, q, qs, h => by
    unfold Ct.cut at h
    split at h
    · rename_i ha
      injection h with h1 h2
      subst h1
      exact ⟨r, by simp [ha], h2⟩
    · cases hc : Ct.cut c r with
      | nil => exact absurd hc (Ct.cut_ne c r)
      | cons q1 qs1 =>
        rw [hc] at h
        injection h with h1 h2
        subst h2
        obtain ⟨r2, hr, h3⟩ := Ct.double c hc
        exact ⟨r2, by rw [hr, ← h1]; rfl, h3⟩

namespace Dm
open Nm
/-- what stands behind a name: a dot and a name, k times at the most -/
def more : Nat → List UInt8 → Option Nat
  | 0, _ => some 0
  | k + 1, [] => some 0
  | k + 1, c :: t => if c = 46 then (if lenOk (run t) = true then (more k (t.drop (run t))).map (1 + run t + ·) else none) else some 0
def rd (k : Nat) (l : List UInt8) : Option Nat := if lenOk (run l) = true then (more k (l.drop (run l))).map (run l + ·) else none
theorem more_dot (k : Nat) (t : List UInt8) : more (k + 1) (46 :: t) = (rd k t).map (1 + ·) := by
  show (if (46 : UInt8) = 46 then (if lenOk (run t) = true then (more k (t.drop (run t))).map (1 + run t + ·) else none) else some 0) = _
  unfold rd
  rw [if_pos rfl]
  by_cases hk : lenOk (run t) = true
  · rw [if_pos hk, if_pos hk]
    cases more k (t.drop (run t)) with
    | none => rfl
    | some m => simp only [Option.map_some]; congr 1; omega
  · rw [if_neg hk, if_neg hk]; rfl
theorem more_not {k : Nat} {c : UInt8} {t : List UInt8} (h : c ≠ 46) : more (k + 1) (c :: t) = some 0 := by
  unfold more; rw [if_neg h]
/-- is it a domain? -/
def ok (l : List UInt8) : Bool := (Ct.cut 46 l).all nameOk && decide ((Ct.cut 46 l).length ≤ 3) && decide (l.length ≤ 20)

theorem take_run (l : List UInt8) : (l.take (run l)).all nb = true := by
  induction l with
  | nil => rfl
  | cons c l ih =>
    unfold run
    split
    · rename_i h; simp only [List.take_succ_cons, List.all_cons, h, ih]; rfl
    · rfl
theorem drop_run (l : List UInt8) : l.drop (run l) = [] ∨ ∃ c t, l.drop (run l) = c :: t ∧ nb c = false := by
  induction l with
  | nil => exact .inl rfl
  | cons c l ih =>
    unfold run
    split
    · simpa using ih
    · rename_i h; exact .inr ⟨c, l, rfl, by simpa using h⟩
theorem run_take (l : List UInt8) : ∀ n, run (l.take n) = min (run l) n := by
  induction l with
  | nil => intro n; simp [run]
  | cons c l ih =>
    intro n
    cases n with
    | zero => simp [run]
    | succ n =>
      simp only [List.take_succ_cons]
      unfold run
      split
      · rw [ih n]; omega
      · simp
theorem run_ext {x : UInt8} (hx : nb x = false) (s : List UInt8) : ∀ l, run (l ++ x :: s) = run l
  | [] => by simp [run, hx]
  | c :: l => by
    rw [List.cons_append]
    unfold run
    rw [run_ext hx s l]
theorem run_app {l : List UInt8} (h : l.all nb = true) (s : List UInt8) : run (l ++ s) = l.length + run s := by
  induction l with
  | nil => simp
  | cons c l ih =>
    simp only [List.all_cons, Bool.and_eq_true] at h
    rw [List.cons_append, run, if_pos h.1, ih h.2]
    simp; omega
theorem nb_dot : nb 46 = false := by decide
theorem nb_at : nb 64 = false := by decide
theorem nb_gt : nb 62 = false := by decide
theorem all_ne {l : List UInt8} (h : l.all nb = true) {c : UInt8} (hc : nb c = false) : ∀ x ∈ l, x ≠ c := by
  intro x hx e
  subst e
  rw [List.all_eq_true] at h
  rw [h _ hx] at hc
  cases hc
theorem name_all {l : List UInt8} (h : nameOk l = true) : l.all nb = true := by unfold nameOk at h; simp only [Bool.and_eq_true] at h; exact h.1
theorem name_mk {l : List UInt8} (h : l.all nb = true) : nameOk l = lenOk l.length := by unfold nameOk; rw [h]; rfl

theorem full : ∀ (k : Nat) (l : List UInt8), rd k l = some l.length ↔ ((Ct.cut 46 l).all nameOk = true ∧ (Ct.cut 46 l).length ≤ k + 1) := by
  intro k
  induction k with
  | zero =>
    intro l
    have hsplit : l = l.take (run l) ++ l.drop (run l) := (List.take_append_drop _ _).symm
    have hn := take_run l
    have hle := run_le l
    rcases drop_run l with h | ⟨c, t, h, hc⟩
    · have hrl : run l = l.length := by have := congrArg List.length h; simp at this; omega
      have hall : l.all nb = true := (run_all l).2 hrl
      rw [Ct.cut_none 46 l (all_ne hall nb_dot)]
      unfold rd
      rw [hrl]
      simp only [more, List.all_cons, List.all_nil, Bool.and_true, List.length_singleton, name_mk hall]
      by_cases hk : lenOk l.length = true <;> simp [hk]
    · have hlt : run l < l.length := by have := congrArg List.length h; simp at this; omega
      constructor
      · intro e
        unfold rd at e
        simp only [more] at e
        split at e
        · simp at e; omega
        · cases e
      · rintro ⟨h1, h2⟩
        exfalso
        match hcut : Ct.cut 46 l, h2 with
        | [], _ => exact Ct.cut_ne 46 l hcut
        | [p], _ =>
          have := Ct.single 46 hcut
          subst this
          rw [hcut] at h1
          simp only [List.all_cons, List.all_nil, Bool.and_true] at h1
          have := (run_all l).1 (name_all h1)
          omega
        | p :: q :: ps, h2 => simp at h2
  | succ k ih =>
    intro l
    have hsplit : l = l.take (run l) ++ l.drop (run l) := (List.take_append_drop _ _).symm
    have hn := take_run l
    have hle := run_le l
    have htl : (l.take (run l)).length = run l := by rw [List.length_take]; omega
    rcases drop_run l with h | ⟨c, t, h, hc⟩
    · have hrl : run l = l.length := by have := congrArg List.length h; simp at this; omega
      have hall : l.all nb = true := (run_all l).2 hrl
      rw [Ct.cut_none 46 l (all_ne hall nb_dot)]
      unfold rd
      rw [h, hrl]
      simp only [more, List.all_cons, List.all_nil, Bool.and_true, List.length_singleton, name_mk hall]
      by_cases hk : lenOk l.length = true <;> simp [hk]
    · have hlen : l.length = run l + (t.length + 1) := by have := congrArg List.length h; simp at this; omega
      by_cases h46 : c = 46
      · subst h46
        have hcut : Ct.cut 46 l = l.take (run l) :: Ct.cut 46 t := by
          conv => lhs; rw [hsplit, h]
          exact Ct.cut_at 46 t _ (all_ne hn nb_dot)
        rw [hcut]
        unfold rd
        rw [h, more_dot]
        simp only [List.all_cons, Bool.and_eq_true, List.length_cons, name_mk hn, htl]
        have := ih t
        by_cases hk : lenOk (run l) = true
        · rw [if_pos hk]
          simp only [hk, true_and]
          constructor
          · intro e
            cases hr : rd k t with
            | none => rw [hr] at e; simp at e
            | some m =>
              rw [hr] at e
              simp at e
              have hm : m = t.length := by omega
              obtain ⟨a, b⟩ := this.1 (by rw [hr, hm])
              exact ⟨a, by omega⟩
          · rintro ⟨a, b⟩
            rw [this.2 ⟨a, by omega⟩]
            simp; omega
        · rw [if_neg hk]
          constructor
          · intro e; cases e
          · rintro ⟨⟨a, _⟩, _⟩; exact absurd a hk
      · constructor
        · intro e
          exfalso
          unfold rd at e
          rw [h, more_not h46] at e
          split at e
          · simp at e; omega
          · cases e
        · rintro ⟨h1, _⟩
          exfalso
          obtain ⟨p, hp, hcp⟩ := Ct.mem 46 c h46 l (by rw [hsplit, h]; simp)
          rw [List.all_eq_true] at h1
          have := name_all (h1 p hp)
          rw [List.all_eq_true] at this
          rw [this c hcp] at hc
          cases hc
theorem ok_iff (l : List UInt8) : ok l = true ↔ rd 2 l = some l.length ∧ l.length ≤ 20 := by
  unfold ok
  simp only [Bool.and_eq_true, decide_eq_true_eq]
  rw [full 2 l]

theorem more_ext {x : UInt8} (hx : nb x = false) (h46 : x ≠ 46) (s : List UInt8) : ∀ (k : Nat) (q : List UInt8), more k (q ++ x :: s) = more k q
  | 0, q => rfl
  | k + 1, [] => by rw [List.nil_append, more_not h46]; rfl
  | k + 1, c :: t => by
    rw [List.cons_append]
    unfold more
    have hr := run_ext hx s t
    rw [hr]
    have hd : (t ++ x :: s).drop (run t) = t.drop (run t) ++ x :: s := by rw [List.drop_append_of_le_length (run_le t)]
    rw [hd, more_ext hx h46 s k]
theorem rd_ext {x : UInt8} (hx : nb x = false) (h46 : x ≠ 46) (s : List UInt8) (k : Nat) (q : List UInt8) : rd k (q ++ x :: s) = rd k q := by
  unfold rd
  rw [run_ext hx s q, List.drop_append_of_le_length (run_le q), more_ext hx h46]

theorem more_take : ∀ (k : Nat) (t : List UInt8) (m : Nat), more k t = some m → m ≤ t.length ∧ more k (t.take m) = some m
  | 0, t, m, h => by simp [more] at h; subst h; simp [more]
  | k + 1, [], m, h => by simp [more] at h; subst h; simp [more]
  | k + 1, c :: t, m, h => by
    by_cases h46 : c = 46
    · subst h46
      unfold more at h
      rw [if_pos rfl] at h
      split at h
      · rename_i hk
        cases hm : more k (t.drop (run t)) with
        | none => rw [hm] at h; cases h
        | some m' =>
          rw [hm] at h
          simp at h
          obtain ⟨h1, h2⟩ := more_take k _ m' hm
          have hle := run_le t
          rw [List.length_drop] at h1
          subst h
          refine ⟨by simp; omega, ?_⟩
          rw [show 1 + run t + m' = (run t + m') + 1 by omega, List.take_succ_cons]
          unfold more
          have e1 : run (t.take (run t + m')) = run t := by rw [run_take]; omega
          have e2 : (t.take (run t + m')).drop (run t) = (t.drop (run t)).take m' := by rw [List.drop_take]; congr 1; omega
          rw [if_pos rfl, e1, if_pos hk, e2, h2]
          simp; omega
      · cases h
    · rw [more_not h46] at h
      injection h with h
      subst h
      simp [more]
theorem rd_take {k : Nat} {t : List UInt8} {m : Nat} (h : rd k t = some m) : m ≤ t.length ∧ rd k (t.take m) = some m := by
  unfold rd at h
  split at h
  · rename_i hk
    cases hm : more k (t.drop (run t)) with
    | none => rw [hm] at h; cases h
    | some m' =>
      rw [hm] at h
      simp at h
      obtain ⟨h1, h2⟩ := more_take k _ m' hm
      have hle := run_le t
      rw [List.length_drop] at h1
      subst h
      refine ⟨by omega, ?_⟩
      unfold rd
      have e1 : run (t.take (run t + m')) = run t := by rw [run_take]; omega
      have e2 : (t.take (run t + m')).drop (run t) = (t.drop (run t)).take m' := by rw [List.drop_take]; congr 1; omega
      rw [e1, if_pos hk, e2, h2]
      rfl
  · cases h
theorem rd_ok {k : Nat} {t : List UInt8} {m : Nat} (h : rd 2 t = some m) (h20 : m ≤ 20) : ok (t.take m) = true := by
  obtain ⟨h1, h2⟩ := rd_take h
  have hl : (t.take m).length = m := by rw [List.length_take]; omega
  rw [ok_iff, hl]
  exact ⟨h2, h20⟩
theorem ok_bytes {l : List UInt8} (h : ok l = true) {c : UInt8} (hc : nb c = false) (h46 : c ≠ 46) : ∀ x ∈ l, x ≠ c := by
  intro x hx e
  subst e
  unfold ok at h
  simp only [Bool.and_eq_true] at h
  obtain ⟨p, hp, hxp⟩ := Ct.mem 46 x h46 l hx
  have h1 := h.1.1
  rw [List.all_eq_true] at h1
  have := name_all (h1 p hp)
  rw [List.all_eq_true] at this
  rw [this x hxp] at hc
  cases hc
theorem ok_len {l : List UInt8} (h : ok l = true) : l.length ≤ 20 := ((ok_iff l).1 h).2
end Dm

namespace Pa
open Nm
/-- the user and the domain of an address -/
def parse (l : List UInt8) : Option (List UInt8 × List UInt8) := match Ct.cut 64 l with
  | [a, b] => if nameOk a = true ∧ Dm.ok b = true then some (a, b) else none
  | _ => none
/-- of a path that is not empty -/
def path : List UInt8 → Option (List UInt8 × List UInt8)
  | 60 :: r => if r.getLast? = some 62 then parse r.dropLast else none
  | _ => none
/-- of the path behind a beginning -/
def behind (g l : List UInt8) : Option (List UInt8 × List UInt8) := if g <+: l then path (l.drop g.length) else none

theorem parse_mk {a b : List UInt8} (ha : nameOk a = true) (hb : Dm.ok b = true) : parse (a ++ 64 :: b) = some (a, b) := by
  unfold parse
  rw [Ct.cut_at 64 b a (Dm.all_ne (Dm.name_all ha) Dm.nb_at), Ct.cut_none 64 b (Dm.ok_bytes hb Dm.nb_at (by decide))]
  simp [ha, hb]
theorem parse_some {l a b : List UInt8} (h : parse l = some (a, b)) : l = a ++ 64 :: b ∧ nameOk a = true ∧ Dm.ok b = true := by
  unfold parse at h
  split at h
  · rename_i a' b' hc
    split at h
    · rename_i hk
      injection h with h
      injection h with h1 h2
      subst h1; subst h2
      obtain ⟨r, hr, hr2⟩ := Ct.double 64 hc
      rw [Ct.single 64 hr2] at hr
      exact ⟨hr, hk.1, hk.2⟩
    · cases h
  · cases h
theorem path_mk {a b : List UInt8} (ha : nameOk a = true) (hb : Dm.ok b = true) : path (60 :: (a ++ 64 :: b) ++ [62]) = some (a, b) := by
  rw [List.cons_append]
  show (if (a ++ 64 :: b ++ [62]).getLast? = some 62 then parse (a ++ 64 :: b ++ [62]).dropLast else none) = _
  rw [if_pos List.getLast?_concat, List.dropLast_concat]
  exact parse_mk ha hb
theorem path_some {l a b : List UInt8} (h : path l = some (a, b)) : l = 60 :: (a ++ 64 :: b) ++ [62] ∧ nameOk a = true ∧ Dm.ok b = true := by
  unfold path at h
  split at h
  · rename_i r
    split at h
    · rename_i hr
      obtain ⟨h1, h2, h3⟩ := parse_some h
      refine ⟨?_, h2, h3⟩
      have : r = r.dropLast ++ [62] := by
        obtain ⟨ys, rfl⟩ := List.getLast?_eq_some_iff.1 hr
        simp
      rw [List.cons_append, ← h1, ← this]
    · cases h
  · cases h
/-- how the program reads it -/
theorem path_yes {r t : List UInt8} {m : Nat} (hk : lenOk (run r) = true) (ht : r.drop (run r) = 64 :: t) (hr : Dm.rd 2 t = some m) (h20 : m ≤ 20) (hg : t.drop m = [62]) : path (60 :: r) = some (r.take (run r), t.take m) := by
  have hle := run_le r
  have e : 60 :: r = 60 :: (r.take (run r) ++ 64 :: t.take m) ++ [62] := by
    conv => lhs; rw [← List.take_append_drop (run r) r, ht, ← List.take_append_drop m t, hg]
    simp
  rw [e]
  refine path_mk ?_ (Dm.rd_ok (k := 2) hr h20)
  rw [Dm.name_mk (Dm.take_run r), List.length_take, Nat.min_eq_left hle]
  exact hk
theorem path_inv {r a b : List UInt8} (h : path (60 :: r) = some (a, b)) : lenOk (run r) = true ∧ ∃ t m, r.drop (run r) = 64 :: t ∧ Dm.rd 2 t = some m ∧ m ≤ 20 ∧ t.drop m = [62] ∧ a = r.take (run r) ∧ b = t.take m := by
  obtain ⟨h1, h2, h3⟩ := path_some h
  rw [List.cons_append] at h1
  injection h1 with _ h1
  rw [List.append_assoc, List.cons_append] at h1
  subst h1
  have hr : run (a ++ 64 :: (b ++ [62])) = a.length := by
    rw [Dm.run_ext Dm.nb_at]; exact (run_all a).1 (Dm.name_all h2)
  obtain ⟨h4, h5⟩ := (Dm.ok_iff b).1 h3
  rw [hr]
  refine ⟨lenOk_iff.2 (nameOk_len h2), b ++ [62], b.length, by simp, ?_, h5, by simp, by simp, by simp⟩
  rw [Dm.rd_ext Dm.nb_gt (by decide)]
  exact h4
theorem path_no {r : List UInt8} (h : ¬ (lenOk (run r) = true ∧ ∃ t m, r.drop (run r) = 64 :: t ∧ Dm.rd 2 t = some m ∧ m ≤ 20 ∧ t.drop m = [62])) : path (60 :: r) = none := by
  cases hp : path (60 :: r) with
  | none => rfl
  | some ab =>
    obtain ⟨a, b⟩ := ab
    obtain ⟨h1, t, m, h2, h3, h4, h5, _⟩ := path_inv hp
    exact absurd ⟨h1, t, m, h2, h3, h4, h5⟩ h
theorem path_len {l a b : List UInt8} (h : path l = some (a, b)) : a.length ≤ 8 ∧ 1 ≤ a.length ∧ b.length ≤ 20 := by
  obtain ⟨_, h2, h3⟩ := path_some h
  exact ⟨(nameOk_len h2).2, (nameOk_len h2).1, Dm.ok_len h3⟩
end Pa
end Go.Proofs.Ytjoohmokjliecaa
