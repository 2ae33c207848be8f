/- Plain facts on lists of grants: order, parts, setting. No program. -/
import Derived.Test.YtkmaandeljancaaAcPlain
namespace Go.Proofs.Ytkmaandeljancaa.Ac
set_option linter.unusedVariables false

theorem okTo_item {us : List G} : ∀ n, okTo us n = true → ∀ i, i < n → itemOk us i = true := by
  intro n
  induction n with
  | zero => intro _ i hi; omega
  | succ n ih =>
    intro h i hi
    rw [okTo_succ, Bool.and_eq_true] at h
    by_cases hin : i = n
    · subst hin; exact h.2
    · exact ih h.1 i (by omega)
theorem okTo_of {us : List G} : ∀ n, (∀ i, i < n → itemOk us i = true) → okTo us n = true := by
  intro n
  induction n with
  | zero => intro _; rfl
  | succ n ih =>
    intro h
    rw [okTo_succ, ih fun i hi => h i (by omega), h n (by omega)]; rfl
theorem itemOk_zero {us : List G} (h : 0 < us.length) : itemOk us 0 = valid us[0] := by
  unfold itemOk; rw [List.getElem?_eq_getElem h]; simp
theorem itemOk_next {us : List G} {k : Nat} (h : k < us.length) (hk : 0 < k) : itemOk us k = (valid us[k] && slt us[k - 1].user us[k].user) := by
  unfold itemOk
  rw [List.getElem?_eq_getElem h, List.getElem?_eq_getElem (by omega : k - 1 < us.length)]
  have : (k == 0) = false := by simp; omega
  simp [this]
/-- in order, and each valid -/
def inOrder (us : List G) : Prop := (∀ u ∈ us, valid u = true) ∧ us.Pairwise (fun a b => slt a.user b.user = true)
theorem aclOk_iff (us : List G) : aclOk us = true ↔ us.length ≤ 4 ∧ inOrder us := by
  unfold aclOk inOrder
  rw [Bool.and_eq_true, decide_eq_true_eq]
  constructor
  · rintro ⟨h1, h2⟩
    have hi := okTo_item _ h2
    refine ⟨h1, fun u hu => ?_, ?_⟩
    · obtain ⟨i, hl, rfl⟩ := List.mem_iff_getElem.1 hu
      have := hi i hl
      by_cases h0 : 0 < i
      · rw [itemOk_next hl h0, Bool.and_eq_true] at this; exact this.1
      · obtain rfl : i = 0 := by omega
        rw [itemOk_zero hl] at this; exact this
    · rw [List.pairwise_iff_getElem]
      intro i j hil hjl hij
      obtain ⟨d, rfl⟩ : ∃ d, j = i + 1 + d := ⟨j - i - 1, by omega⟩
      induction d with
      | zero =>
        have := hi (i + 1) hjl
        rw [itemOk_next hjl (by omega), Bool.and_eq_true] at this
        exact this.2
      | succ d ih =>
        have := hi (i + 1 + (d + 1)) hjl
        rw [itemOk_next hjl (by omega), Bool.and_eq_true] at this
        exact slt_trans (ih (by omega) (by omega)) this.2
  · rintro ⟨h1, h2, h3⟩
    refine ⟨h1, okTo_of _ fun i hi => ?_⟩
    rw [List.pairwise_iff_getElem] at h3
    by_cases h0 : 0 < i
    · rw [itemOk_next hi h0, h2 _ (List.getElem_mem hi), h3 (i - 1) i (by omega) hi (by omega)]; rfl
    · obtain rfl : i = 0 := by omega
      rw [itemOk_zero hi]; exact h2 _ (List.getElem_mem hi)
theorem aclOk_sub {us vs : List G} (h : aclOk us = true) (hs : vs.Sublist us) : aclOk vs = true := by
  obtain ⟨h1, h2, h3⟩ := (aclOk_iff us).1 h
  exact (aclOk_iff vs).2 ⟨Nat.le_trans hs.length_le h1, fun u hu => h2 u (hs.subset hu), h3.sublist hs⟩
theorem aclOk_out {us : List G} {k : Nat} (h : aclOk us = true) (hk : k < us.length) : aclOk (us.take k ++ us.drop (k + 1)) = true := by
  refine aclOk_sub h ?_
  have e : us = us.take k ++ us.drop k := (List.take_append_drop k us).symm
  conv => rhs; rw [e]
  refine List.Sublist.append (List.Sublist.refl _) ?_
  rw [List.drop_eq_getElem_cons hk]
  exact List.sublist_cons_self _ _
theorem aclOk_twice {us : List G} {k : Nat} (hk : k < us.length) : aclOk (us.take (k + 1) ++ us.drop k) = false := by
  cases hv : aclOk (us.take (k + 1) ++ us.drop k)
  · rfl
  · exfalso
    obtain ⟨_, _, h3⟩ := (aclOk_iff _).1 hv
    rw [List.pairwise_append] at h3
    have h := h3.2.2 us[k] (by rw [List.mem_take_iff_getElem]; exact ⟨k, by omega, rfl⟩) us[k] (by rw [List.drop_eq_getElem_cons hk]; exact List.mem_cons_self ..)
    rw [slt_irrefl] at h
    cases h
theorem aclOk_nil : aclOk [] = true := by unfold aclOk; rfl
theorem valid_rights {u : G} (h : valid u = true) : 1 ≤ u.rights ∧ u.rights ≤ 63 := by
  unfold valid at h
  simp only [Bool.and_eq_true, decide_eq_true_eq] at h
  exact h.2
theorem valid_name {u : G} (h : valid u = true) : Nm.nameOk u.user.data.toList = true := by
  unfold valid at h
  simp only [Bool.and_eq_true, decide_eq_true_eq] at h
  exact h.1

/-- the same name -/
def same (a b : ByteArray) : Bool := a.toList == b.toList
theorem same_iff {a b : ByteArray} : same a b = true ↔ a = b := by
  unfold same
  constructor
  · intro h
    have h := eq_of_beq h
    rw [Go.ByteArray.toList_eq, Go.ByteArray.toList_eq] at h
    cases a; cases b
    congr
    exact Array.toList_inj.1 h
  · rintro rfl; simp
theorem same_no {a b : ByteArray} : same a b = false ↔ a ≠ b := by
  constructor
  · rintro h rfl; rw [same_iff.2 rfl] at h; cases h
  · intro h
    cases hq : same a b
    · rfl
    · exact absurd (same_iff.1 hq) h
theorem slt_tri (a b : ByteArray) : slt a b = true ∨ a = b ∨ slt b a = true := by
  cases h : slt b a
  · have := sle_eq a b
    rw [h, Bool.not_false, Bool.or_eq_true] at this
    rcases this with h1 | h1
    · exact .inl h1
    · exact .inr (.inl (same_iff.1 h1))
  · exact .inr (.inr rfl)

/-- what the reference builds from the first k grants, and whether the new one was put -/
def step (s : ByteArray) (r : Int) (x : List G × Bool) (u : G) : List G × Bool :=
  let y := if (!x.2 && !(slt u.user s)) = true then (x.1 ++ [⟨s, r⟩], true) else x
  if same u.user s = true then y else (y.1 ++ [u], y.2)
def put (us : List G) (s : ByteArray) (r : Int) (k : Nat) : List G × Bool := (us.take k).foldl (step s r) ([], r == 0)
theorem put_succ {us : List G} {s : ByteArray} {r : Int} {k : Nat} {u : G} (h : us[k]? = some u) : put us s r (k + 1) = step s r (put us s r k) u := by
  unfold put
  rw [List.take_add_one, h]
  simp
/-- the whole list that the reference builds -/
def build (us : List G) (s : ByteArray) (r : Int) : List G := if (put us s r us.length).2 = true then (put us s r us.length).1 else (put us s r us.length).1 ++ [⟨s, r⟩]
/-- the list without a name -/
def drop (us : List G) (s : ByteArray) : List G := us.filter fun u => !(same u.user s)
/-- the list with a grant, in order -/
def ins : List G → ByteArray → Int → List G
  | [], s, r => [⟨s, r⟩]
  | u :: us, s, r => if slt u.user s = true then u :: ins us s r else ⟨s, r⟩ :: u :: us

end Go.Proofs.Ytkmaandeljancaa.Ac
