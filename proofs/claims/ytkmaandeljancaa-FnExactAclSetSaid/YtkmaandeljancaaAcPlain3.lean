/- Plain facts on setting a grant: the list that the reference builds. No program. -/
import Derived.Test.YtkmaandeljancaaAcPlain2
namespace Go.Proofs.Ytkmaandeljancaa.Ac
set_option linter.unusedVariables false

theorem step_keep_same {s : ByteArray} {r : Int} {x : List G × Bool} {u : G} (h : (!x.2 && !(slt u.user s)) = false) (hs : same u.user s = true) : step s r x u = x := by
  unfold step; simp only [h, hs]; rfl
theorem step_keep_new {s : ByteArray} {r : Int} {x : List G × Bool} {u : G} (h : (!x.2 && !(slt u.user s)) = false) (hs : same u.user s = false) : step s r x u = (x.1 ++ [u], x.2) := by
  unfold step; simp only [h, hs]; rfl
theorem step_put_same {s : ByteArray} {r : Int} {x : List G × Bool} {u : G} (h : (!x.2 && !(slt u.user s)) = true) (hs : same u.user s = true) : step s r x u = (x.1 ++ [⟨s, r⟩], true) := by
  unfold step; simp only [h, hs]; rfl
theorem step_put_new {s : ByteArray} {r : Int} {x : List G × Bool} {u : G} (h : (!x.2 && !(slt u.user s)) = true) (hs : same u.user s = false) : step s r x u = (x.1 ++ [⟨s, r⟩] ++ [u], true) := by
  unfold step; simp only [h, hs]; rfl
theorem put_len (us : List G) (s : ByteArray) (r : Int) : ∀ k, k ≤ us.length → (put us s r k).1.length + (if (put us s r k).2 = true then 0 else 1) ≤ k + 1
  | 0, _ => by
    show ([] : List G).length + (if (r == 0) = true then 0 else 1) ≤ 0 + 1
    split <;> simp
  | k + 1, h => by
    have hu := List.getElem?_eq_getElem (by omega : k < us.length)
    have ih := put_len us s r k (by omega)
    rw [put_succ hu]
    generalize put us s r k = x at ih ⊢
    obtain ⟨l, p⟩ := x
    simp only at ih
    cases hs : same us[k].user s <;> cases hc : (!p && !(slt us[k].user s))
    · rw [step_keep_new hc hs]; simp only [List.length_append, List.length_singleton]; omega
    · rw [step_put_new hc hs]
      have : p = false := by cases p <;> simp_all
      subst this
      simp only [List.length_append, List.length_singleton] at ih ⊢; simp at ih ⊢; omega
    · rw [step_keep_same hc hs]; simp only; omega
    · rw [step_put_same hc hs]
      have : p = false := by cases p <;> simp_all
      subst this
      simp only [List.length_append, List.length_singleton] at ih ⊢; simp at ih ⊢; omega
theorem put_le (us : List G) (s : ByteArray) (r : Int) (k : Nat) (h : k ≤ us.length) : (put us s r k).1.length ≤ k + 1 := by
  have := put_len us s r k h
  omega
theorem put_mem (us : List G) (s : ByteArray) (r : Int) : ∀ k, k ≤ us.length → ∀ u ∈ (put us s r k).1, u ∈ us ∨ u = ⟨s, r⟩
  | 0, _, u, hu => by simp [put] at hu
  | k + 1, h, u, hu => by
    have hk := List.getElem?_eq_getElem (by omega : k < us.length)
    have ih := put_mem us s r k (by omega)
    rw [put_succ hk] at hu
    generalize put us s r k = x at ih hu
    obtain ⟨l, p⟩ := x
    have hm : us[k] ∈ us := List.getElem_mem _
    cases hs : same us[k].user s <;> cases hc : (!p && !(slt us[k].user s))
    · rw [step_keep_new hc hs] at hu
      rcases List.mem_append.1 hu with h' | h'
      · exact ih u h'
      · rw [List.mem_singleton] at h'; subst h'; exact .inl hm
    · rw [step_put_new hc hs] at hu
      rcases List.mem_append.1 hu with h' | h'
      · rcases List.mem_append.1 h' with h' | h'
        · exact ih u h'
        · exact .inr (List.mem_singleton.1 h')
      · rw [List.mem_singleton] at h'; subst h'; exact .inl hm
    · rw [step_keep_same hc hs] at hu; exact ih u hu
    · rw [step_put_same hc hs] at hu
      rcases List.mem_append.1 hu with h' | h'
      · exact ih u h'
      · exact .inr (List.mem_singleton.1 h')
theorem build_yes {us : List G} {s : ByteArray} {r : Int} (h : (put us s r us.length).2 = true) : build us s r = (put us s r us.length).1 := if_pos h
theorem build_no {us : List G} {s : ByteArray} {r : Int} (h : (put us s r us.length).2 = false) : build us s r = (put us s r us.length).1 ++ [⟨s, r⟩] := if_neg (by rw [h]; decide)
theorem build_len (us : List G) (s : ByteArray) (r : Int) : (build us s r).length ≤ us.length + 1 := by
  have := put_len us s r us.length (Nat.le_refl _)
  cases h : (put us s r us.length).2
  · rw [build_no h]; rw [h] at this; simp at this ⊢; omega
  · rw [build_yes h]; omega
theorem build_mem (us : List G) (s : ByteArray) (r : Int) : ∀ u ∈ build us s r, u ∈ us ∨ u = ⟨s, r⟩ := by
  intro u hu
  cases h : (put us s r us.length).2
  · rw [build_no h] at hu
    rcases List.mem_append.1 hu with h' | h'
    · exact put_mem us s r _ (Nat.le_refl _) u h'
    · exact .inr (List.mem_singleton.1 h')
  · rw [build_yes h] at hu; exact put_mem us s r _ (Nat.le_refl _) u hu

/-- what setting gives -/
def set (us : List G) (s : ByteArray) (r : Int) : List G × Bool :=
  if (aclOk us && Nm.nameOk s.data.toList && decide (0 ≤ r ∧ r ≤ 63)) = true then
    if aclOk (build us s r) = true then (build us s r, true) else (us, false)
  else ([], false)
theorem set_no1 {us : List G} {s : ByteArray} {r : Int} (h : aclOk us = false) : set us s r = ([], false) := by unfold set; rw [h]; rfl
theorem set_no2 {us : List G} {s : ByteArray} {r : Int} (h : Nm.nameOk s.data.toList = false) : set us s r = ([], false) := by unfold set; rw [h]; simp
theorem set_no3 {us : List G} {s : ByteArray} {r : Int} (h : ¬ (0 ≤ r ∧ r ≤ 63)) : set us s r = ([], false) := by unfold set; rw [decide_eq_false h]; simp
theorem set_full {us : List G} {s : ByteArray} {r : Int} (h1 : aclOk us = true) (h2 : Nm.nameOk s.data.toList = true) (h3 : 0 ≤ r ∧ r ≤ 63) (h : aclOk (build us s r) = false) : set us s r = (us, false) := by
  unfold set; rw [h1, h2, decide_eq_true h3, h]; rfl
theorem set_yes {us : List G} {s : ByteArray} {r : Int} (h1 : aclOk us = true) (h2 : Nm.nameOk s.data.toList = true) (h3 : 0 ≤ r ∧ r ≤ 63) (h : aclOk (build us s r) = true) : set us s r = (build us s r, true) := by
  unfold set; rw [h1, h2, decide_eq_true h3, h]; rfl

/-! The list that is built is the list without the name, with the new grant in its place. -/
theorem ins_all {us : List G} {s : ByteArray} {r : Int} (h : ∀ u ∈ us, slt u.user s = true) : ins us s r = us ++ [⟨s, r⟩] := by
  induction us with
  | nil => rfl
  | cons u us ih =>
    rw [ins, if_pos (h u (List.mem_cons_self ..)), ih fun v hv => h v (List.mem_cons_of_mem _ hv)]; rfl
theorem ins_snoc {us : List G} {s : ByteArray} {r : Int} {u : G} (h : slt u.user s = false) : ins (us ++ [u]) s r = ins us s r ++ [u] := by
  induction us with
  | nil => simp [ins, h]
  | cons v us ih =>
    rw [List.cons_append, ins, ins]
    split
    · rw [ih]; rfl
    · rfl
theorem drop_snoc (us : List G) (s : ByteArray) (u : G) : drop (us ++ [u]) s = drop us s ++ if same u.user s = true then [] else [u] := by
  unfold drop
  rw [List.filter_append]
  cases h : same u.user s <;> simp [h]
theorem drop_all {us : List G} {s : ByteArray} (h : ∀ u ∈ us, same u.user s = false) : drop us s = us := by
  unfold drop
  rw [List.filter_eq_self]
  intro u hu
  rw [h u hu]; rfl
theorem slt_not_same {a b : ByteArray} (h : slt a b = true) : same a b = false := same_no.2 (slt_ne h)
theorem put_zero (us : List G) (s : ByteArray) : ∀ k, k ≤ us.length → put us s 0 k = (drop (us.take k) s, true)
  | 0, _ => rfl
  | k + 1, h => by
    have hu := List.getElem?_eq_getElem (by omega : k < us.length)
    rw [put_succ hu, put_zero us s k (by omega), List.take_add_one, hu, Option.toList_some, drop_snoc]
    cases hs : same us[k].user s
    · rw [step_keep_new rfl hs]; rfl
    · rw [step_keep_same rfl hs]; simp
theorem put_pos {us : List G} {s : ByteArray} {r : Int} (hr : r ≠ 0) (hp : us.Pairwise (fun a b => slt a.user b.user = true)) : ∀ k, k ≤ us.length →
    ((put us s r k).2 = false ∧ (∀ u ∈ us.take k, slt u.user s = true) ∧ (put us s r k).1 = us.take k) ∨
    ((put us s r k).2 = true ∧ (∃ u ∈ us.take k, slt u.user s = false) ∧ (put us s r k).1 = ins (drop (us.take k) s) s r)
  | 0, _ => .inl ⟨by show (r == 0) = false; simpa using hr, by simp, rfl⟩
  | k + 1, h => by
    have hk : k < us.length := by omega
    have hu := List.getElem?_eq_getElem hk
    have ht : us.take (k + 1) = us.take k ++ [us[k]] := by rw [List.take_add_one, hu]; rfl
    rw [put_succ hu, ht]
    rcases put_pos (s := s) hr hp k (by omega) with ⟨h1, h2, h3⟩ | ⟨h1, h2, h3⟩
    · generalize put us s r k = x at h1 h3 ⊢
      obtain ⟨l, p⟩ := x
      simp only at h1 h3
      subst h1 h3
      have hd : drop (us.take k) s = us.take k := drop_all fun u hu => slt_not_same (h2 u hu)
      cases hc : slt us[k].user s
      · right
        have hcc : (!(false : Bool) && !(slt us[k].user s)) = true := by rw [hc]; rfl
        cases hs : same us[k].user s
        · rw [step_put_new hcc hs]
          refine ⟨rfl, ⟨us[k], List.mem_append_right _ (List.mem_singleton.2 rfl), hc⟩, ?_⟩
          rw [drop_snoc, hs, if_neg (by decide), ins_snoc hc, hd, ins_all h2]
        · rw [step_put_same hcc hs]
          refine ⟨rfl, ⟨us[k], List.mem_append_right _ (List.mem_singleton.2 rfl), hc⟩, ?_⟩
          rw [drop_snoc, hs, if_pos rfl, List.append_nil, hd, ins_all h2]
      · left
        have hcc : (!(false : Bool) && !(slt us[k].user s)) = false := by rw [hc]; rfl
        rw [step_keep_new hcc (slt_not_same hc)]
        refine ⟨rfl, fun u hu => ?_, rfl⟩
        rcases List.mem_append.1 hu with h' | h'
        · exact h2 u h'
        · rw [List.mem_singleton] at h'; subst h'; exact hc
    · generalize put us s r k = x at h1 h3 ⊢
      obtain ⟨l, p⟩ := x
      simp only at h1 h3
      subst h1 h3
      obtain ⟨v, hv, hvs⟩ := h2
      have hvu : slt v.user us[k].user = true := by
        rw [List.pairwise_iff_getElem] at hp
        obtain ⟨i, hi, rfl⟩ := List.mem_take_iff_getElem.1 hv
        exact hp i k (by omega) hk (by omega)
      have hc : slt us[k].user s = false := by
        cases hq : slt us[k].user s
        · rfl
        · rw [slt_trans hvu hq] at hvs; cases hvs
      have hns : same us[k].user s = false := by
        cases hq : same us[k].user s
        · rfl
        · rw [same_iff.1 hq, hvs] at hvu; cases hvu
      right
      rw [step_keep_new rfl hns]
      refine ⟨rfl, ⟨v, List.mem_append_left _ hv, hvs⟩, ?_⟩
      rw [drop_snoc, hns, if_neg (by decide), ins_snoc hc]
theorem build_zero (us : List G) (s : ByteArray) : build us s 0 = drop us s := by
  have := put_zero us s us.length (Nat.le_refl _)
  rw [List.take_length] at this
  rw [build_yes (by rw [this]), this]
theorem build_pos {us : List G} {s : ByteArray} {r : Int} (hr : r ≠ 0) (hp : us.Pairwise (fun a b => slt a.user b.user = true)) : build us s r = ins (drop us s) s r := by
  rcases put_pos (s := s) hr hp us.length (Nat.le_refl _) with ⟨h1, h2, h3⟩ | ⟨h1, h2, h3⟩
  · rw [build_no h1, h3]
    rw [List.take_length] at h2 ⊢
    rw [drop_all fun u hu => slt_not_same (h2 u hu), ins_all h2]
  · rw [build_yes h1, h3, List.take_length]
theorem ins_mem (us : List G) (s : ByteArray) (r : Int) (u : G) : u ∈ ins us s r ↔ u ∈ us ∨ u = ⟨s, r⟩ := by
  induction us with
  | nil => simp [ins]
  | cons v us ih =>
    rw [ins]
    split
    · rw [List.mem_cons, ih, List.mem_cons]
      exact ⟨fun h => by rcases h with h | h | h <;> simp [h], fun h => by rcases h with (h | h) | h <;> simp [h]⟩
    · rw [List.mem_cons, List.mem_cons]
      exact ⟨fun h => by rcases h with h | h | h <;> simp [h], fun h => by rcases h with (h | h) | h <;> simp [h]⟩
theorem ins_len (us : List G) (s : ByteArray) (r : Int) : (ins us s r).length = us.length + 1 := by
  induction us with
  | nil => rfl
  | cons v us ih => rw [ins]; split <;> simp [ih]
theorem drop_mem (us : List G) (s : ByteArray) (u : G) : u ∈ drop us s ↔ u ∈ us ∧ u.user ≠ s := by
  unfold drop
  rw [List.mem_filter]
  cases h : same u.user s
  · simp [same_no.1 h]
  · simp [same_iff.1 h]
theorem drop_sub (us : List G) (s : ByteArray) : (drop us s).Sublist us := List.filter_sublist
theorem ins_sorted {us : List G} {s : ByteArray} {r : Int} (hp : us.Pairwise (fun a b => slt a.user b.user = true)) (hn : ∀ u ∈ us, u.user ≠ s) : (ins us s r).Pairwise (fun a b => slt a.user b.user = true) := by
  induction us with
  | nil => rw [ins]; exact List.pairwise_singleton _ _
  | cons v us ih =>
    rw [List.pairwise_cons] at hp
    rw [ins]
    split
    · rename_i h
      rw [List.pairwise_cons]
      refine ⟨fun u hu => ?_, ih hp.2 fun u hu => hn u (List.mem_cons_of_mem _ hu)⟩
      rcases (ins_mem us s r u).1 hu with h' | h'
      · exact hp.1 u h'
      · subst h'; exact h
    · rename_i h
      have hsv : slt s v.user = true := by
        rcases slt_tri s v.user with h' | h' | h'
        · exact h'
        · exact absurd h'.symm (hn v (List.mem_cons_self ..))
        · exact absurd h' h
      rw [List.pairwise_cons]
      refine ⟨fun u hu => ?_, List.pairwise_cons.2 hp⟩
      rcases List.mem_cons.1 hu with h' | h'
      · subst h'; exact hsv
      · exact slt_trans hsv (hp.1 u h')
/-- what is built is in order -/
theorem build_sorted {us : List G} {s : ByteArray} {r : Int} (hp : us.Pairwise (fun a b => slt a.user b.user = true)) : (build us s r).Pairwise (fun a b => slt a.user b.user = true) := by
  by_cases hr : r = 0
  · subst hr; rw [build_zero]; exact hp.sublist (drop_sub us s)
  · rw [build_pos hr hp]
    exact ins_sorted (hp.sublist (drop_sub us s)) fun u hu => ((drop_mem us s u).1 hu).2
theorem build_iff {us : List G} {s : ByteArray} {r : Int} (hp : us.Pairwise (fun a b => slt a.user b.user = true)) (u : G) : u ∈ build us s r ↔ (u ∈ us ∧ u.user ≠ s) ∨ (r ≠ 0 ∧ u = ⟨s, r⟩) := by
  by_cases hr : r = 0
  · subst hr; rw [build_zero, drop_mem]; simp
  · rw [build_pos hr hp, ins_mem, drop_mem]; simp [hr]
theorem build_ok {us : List G} {s : ByteArray} {r : Int} (h : aclOk us = true) (hs : Nm.nameOk s.data.toList = true) (hr : 0 ≤ r ∧ r ≤ 63) : aclOk (build us s r) = decide ((build us s r).length ≤ 4) := by
  obtain ⟨h1, h2, h3⟩ := (aclOk_iff us).1 h
  by_cases hl : (build us s r).length ≤ 4
  · rw [decide_eq_true hl]
    refine (aclOk_iff _).2 ⟨hl, fun u hu => ?_, build_sorted h3⟩
    rcases (build_iff h3 u).1 hu with ⟨h4, _⟩ | ⟨h4, rfl⟩
    · exact h2 u h4
    · exact valid_of hs (by show 1 ≤ r ∧ r ≤ 63; omega)
  · rw [decide_eq_false hl]; exact aclOk_size hl
/-- two lists in order with the same grants are one -/
theorem sorted_eq : ∀ {us vs : List G}, us.Pairwise (fun a b => slt a.user b.user = true) → vs.Pairwise (fun a b => slt a.user b.user = true) → (∀ u, u ∈ us ↔ u ∈ vs) → us = vs
  | [], [], _, _, _ => rfl
  | [], v :: vs, _, _, h => absurd ((h v).2 (List.mem_cons_self ..)) (by simp)
  | u :: us, [], _, _, h => absurd ((h u).1 (List.mem_cons_self ..)) (by simp)
  | u :: us, v :: vs, hu, hv, h => by
    rw [List.pairwise_cons] at hu hv
    have e : u = v := by
      rcases List.mem_cons.1 ((h u).1 (List.mem_cons_self ..)) with h1 | h1
      · exact h1
      · rcases List.mem_cons.1 ((h v).2 (List.mem_cons_self ..)) with h2 | h2
        · exact h2.symm
        · exact absurd (slt_trans (hv.1 u h1) (hu.1 v h2)) (by rw [slt_irrefl]; decide)
    subst e
    congr 1
    refine sorted_eq hu.2 hv.2 fun x => ⟨fun hx => ?_, fun hx => ?_⟩
    · rcases List.mem_cons.1 ((h x).1 (List.mem_cons_of_mem _ hx)) with h1 | h1
      · subst h1; exact absurd (hu.1 x hx) (by rw [slt_irrefl]; decide)
      · exact h1
    · rcases List.mem_cons.1 ((h x).2 (List.mem_cons_of_mem _ hx)) with h1 | h1
      · subst h1; exact absurd (hv.1 x hx) (by rw [slt_irrefl]; decide)
      · exact h1

end Go.Proofs.Ytkmaandeljancaa.Ac
