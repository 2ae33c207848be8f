/- A region that draws its order and ends in one store: what must hold between its operations need hold only ahead of that store. What the store waits for, by a chain of waits, is taken first where that holds; what yields in every world is taken first anywhere. -/
import Derived.Test.YtmlmdpdboigojaaGreatDoorRows
import Derived.OrdersHeld
import Derived.StillTail
import Derived.Deep.RegionHeld3
namespace Go.Proofs.YtmlmdpdboigojaaGreatDoor
set_option linter.unusedVariables false

section
variable {P : Program} {ops : Array Oper} {Q : Exit → Act → World → Prop} {S : World → Prop}

/-- does j wait for i, by a chain of at most f waits? -/
def waitsBy (ops : Array Oper) (i : Nat) : Nat → Nat → Bool
  | 0, _ => false
  | f + 1, j => match ops[j]? with
    | some oj => oj.after.any fun e => Region.binds .any e && (e.on == i || waitsBy ops i f e.on)
    | none => false
/-- what a listed one waits for is listed -/
structure Drawn (ops : Array Oper) (listed : Array Bool) : Prop where
  size : listed.size = ops.size
  closed : ∀ j oj, ops[j]? = some oj → listed.getD j false = true → ∀ e ∈ oj.after, Region.binds .any e = true → listed.getD e.on false = true
theorem waits_listed {listed : Array Bool} {i : Nat} (hc : ∀ j oj, ops[j]? = some oj → listed.getD j false = true → ∀ e ∈ oj.after, Region.binds .any e = true → listed.getD e.on false = true) :
    ∀ (f j : Nat), waitsBy ops i f j = true → (∀ oj, ops[j]? = some oj → ∀ e ∈ oj.after, Region.binds .any e = true → listed.getD e.on false = true) → listed.getD i false = true
  | 0, _, h, _ => by cases h
  | f + 1, j, h, hj => by
    unfold waitsBy at h
    split at h
    · rename_i oj ho
      obtain ⟨e, he, hb⟩ := Array.any_eq_true'.1 h
      simp only [Bool.and_eq_true, Bool.or_eq_true, beq_iff_eq] at hb
      have h1 := hj oj ho e he hb.1
      rcases hb.2 with h2 | h2
      · rw [← h2]; exact h1
      · exact waits_listed hc f e.on h2 (fun ok hk e2 he2 hb2 => hc e.on ok hk h1 e2 he2 hb2)
    · cases h
/-- number n does not come up while i, for which it waits by a chain, has not -/
theorem Drawn.not_ready {listed : Array Bool} {i n f : Nat} (inv : Drawn ops listed) (h : waitsBy ops i f n = true) (hun : listed.getD i true = false) : n ∉ Region.ready .any ops listed := fun hr => by
  obtain ⟨_, o, ho, hall⟩ := mem_ready.1 hr
  have h1 := waits_listed inv.closed f n h (fun oj hj e he hb => by rw [ho] at hj; injection hj with hj; subst hj; exact hall e he hb)
  rw [getD_both hun] at h1
  cases h1
/-- nor has it come up -/
theorem Drawn.not_listed {listed : Array Bool} {i n f : Nat} (inv : Drawn ops listed) (h : waitsBy ops i f n = true) (hun : listed.getD i true = false) : listed.getD n false = false := by
  cases hl : listed.getD n false with
  | false => rfl
  | true =>
    have h1 := waits_listed inv.closed f n h (fun oj hj e he hb => inv.closed n oj hj hl e he hb)
    rw [getD_both hun] at h1
    cases h1
theorem Drawn.set {listed : Array Bool} {i : Nat} (h : Drawn ops listed) (hi : i ∈ Region.ready .any ops listed) : Drawn ops (listed.setIfInBounds i true) := by
  obtain ⟨_, oi, hoi, hall⟩ := mem_ready.1 hi
  refine ⟨by simp [h.size], fun j oj hj hl e he hb => ?_⟩
  by_cases hij : i = j
  · subst hij
    have ho : oj = oi := Option.some.inj (hj.symm.trans hoi)
    subst ho
    exact getD_set_true (hall e he hb)
  · rw [getD_set_ne false hij] at hl
    exact getD_set_true (h.closed j oj hj hl e he hb)
theorem Drawn.start : Drawn ops (Array.replicate ops.size false) := ⟨by simp, fun j oj _ hl => (by rw [getD_replicate_false] at hl; cases hl)⟩

/-- whatever order is drawn; as long as number n has not come up, S holds -/
def TailAny (P : Program) (ops : Array Oper) (Q : Exit → Act → World → Prop) (S : World → Prop) (n : Nat) : Nat → Array Bool → Act → World → Prop
  | 0, listed, a, w => Region.ready .any ops listed = [] ∧ Q .normal a w
  | f + 1, listed, a, w =>
    (Region.ready .any ops listed = [] → Q .normal a w) ∧
    ∀ i ∈ Region.ready .any ops listed, wpOp P ops Q i (fun a' w' => ((listed.setIfInBounds i true).getD n false = false → S w') ∧ TailAny P ops Q S n f (listed.setIfInBounds i true) a' w') a w
theorem any_of_tail {n : Nat} : ∀ (f : Nat) (listed : Array Bool) (a : Act) (w : World), TailAny P ops Q S n f listed a w → wpAny P .any ops Q f listed a w
  | 0, _, _, _, h => h
  | f + 1, _, _, _, h => ⟨h.1, fun i hi => wpOp_mono (fun a' w' h' => any_of_tail f _ a' w' h'.2) (h.2 i hi)⟩
/-- an operation that yields while S' holds may be taken first; S' holds behind whatever comes up ahead of it -/
theorem tail_first {S' : World → Prop} {n i : Nat} {oi : Oper} {v : Value} (hi : ops[i]? = some oi) (hsel : ∀ (j : Nat) (o : Oper) cs b, ops[j]? = some o → o.op ≠ .select cs b)
    (hQ : ∀ c a w, Q (.panic c) (a.put oi.dst v) w → Q (.panic c) a w) (hin : i ≠ n)
    (hkeep : ∀ (listed : Array Bool) (w : World), Drawn ops listed → listed.getD i true = false → (listed.getD n false = false → S w) → S' w) :
    ∀ (f : Nat) (listed : Array Bool) (a : Act) (w : World), Drawn ops listed →
      (∀ j oj, ops[j]? = some oj → j ≠ i → listed.getD j true = false → (∀ e ∈ oj.after, Region.binds .any e = true → e.on ≠ i) → oi.apart ops oj = true) →
      i ∈ Region.ready .any ops listed → YieldsIf P ops S' oi v a → (listed.getD n false = false → S w) →
      TailAny P ops Q S n f (listed.setIfInBounds i true) (a.put oi.dst v) w → TailAny P ops Q S n (f + 1) listed a w := by
  intro f
  induction f with
  | zero =>
    intro listed a w inv hfree hr hy hS H
    refine ⟨fun h0 => (by rw [h0] at hr; cases hr), fun j hj => ?_⟩
    by_cases hji : j = i
    · subst hji
      exact hy.wpOp hi (hkeep listed w inv (mem_ready.1 hr).1 hS) ⟨fun h => hS (by rwa [getD_set_ne false hin] at h), H⟩
    · have h0 := ready_mono hj hji
      rw [H.1] at h0
      cases h0
  | succ f ih =>
    intro listed a w inv hfree hr hy hS H
    have hun := (mem_ready.1 hr).1
    refine ⟨fun h0 => (by rw [h0] at hr; cases hr), fun j hj => ?_⟩
    by_cases hji : j = i
    · subst hji
      exact hy.wpOp hi (hkeep listed w inv hun hS) ⟨fun h => hS (by rwa [getD_set_ne false hin] at h), H⟩
    · obtain ⟨hjun, oj, hoj, hall⟩ := mem_ready.1 hj
      have hno : ∀ e ∈ oj.after, Region.binds .any e = true → e.on ≠ i := fun e he hb heq => by
        have h1 := hall e he hb
        rw [heq, getD_both hun] at h1
        cases h1
      have h2 := wpOp_putIf hoj (hfree j oj hoj hji hjun hno) (fun cs b => hsel i oi cs b hi) (fun cs b => hsel j oj cs b hoj) hQ hy (H.2 j (ready_mono hj hji))
      have hS2 : ∀ w' : World, (((listed.setIfInBounds i true).setIfInBounds j true).getD n false = false → S w') → (listed.setIfInBounds j true).getD n false = false → S w' := fun w' h h' => h (by
        rw [Array.setIfInBounds_comm _ _ (Ne.symm hji), getD_set_ne false hin]; exact h')
      refine wpOp_mono (fun a' w' h3 => ⟨hS2 w' h3.2.1, ?_⟩) h2
      refine ih (listed.setIfInBounds j true) a' w' (inv.set hj) (fun k ok hk hki hku hke => ?_) (ready_mono hr (Ne.symm hji)) h3.1 (hS2 w' h3.2.1) ?_
      · refine hfree k ok hk hki ?_ hke
        by_cases hjk : j = k
        · rw [← hjk]; exact hjun
        · rwa [getD_set_ne true hjk] at hku
      · rw [Array.setIfInBounds_comm _ _ hji]
        exact h3.2.2
/-- the same, with what is known of what has come up -/
def TailAt (P : Program) (ops : Array Oper) (Q : Exit → Act → World → Prop) (S : World → Prop) (n f : Nat) (listed : Array Bool) (a : Act) (w : World) : Prop := Drawn ops listed → TailAny P ops Q S n f listed a w
/-- one for which number n waits is taken first -/
theorem tail_take {n : Nat} (i : Nat) {v : Value} {f : Nat} {listed : Array Bool} {a : Act} {w : World} (hi : i < ops.size) (hin : i ≠ n)
    (hg : (Region.noSelect ops && waitsBy ops i ops.size n && Region.free .any ops listed i && (Region.ready .any ops listed).contains i) = true)
    (hQ : ∀ c a w, Q (.panic c) (a.put ops[i].dst v) w → Q (.panic c) a w) (hy : YieldsIf P ops S ops[i] v a) (hS : S w)
    (h : TailAt P ops Q S n f (listed.setIfInBounds i true) (a.put ops[i].dst v) w) : TailAt P ops Q S n (f + 1) listed a w := fun inv => by
  simp only [Bool.and_eq_true] at hg
  obtain ⟨⟨⟨h1, h2⟩, h5⟩, h6⟩ := hg
  have hi' : ops[i]? = some ops[i] := Array.getElem?_eq_getElem hi
  have hr : i ∈ Region.ready .any ops listed := by simpa using h6
  exact tail_first (S' := S) hi' (Region.noSelect_spec h1) hQ hin (fun l w inv hun hS => hS (inv.not_listed h2 hun)) f listed a w inv (Region.free_spec hi' h5) hr hy (fun _ => hS) (h (inv.set hr))
/-- one that yields in every world is taken first -/
theorem tail_free {n : Nat} (i : Nat) {v : Value} {f : Nat} {listed : Array Bool} {a : Act} {w : World} (hi : i < ops.size) (hin : i ≠ n)
    (hg : (Region.noSelect ops && Region.free .any ops listed i && (Region.ready .any ops listed).contains i) = true)
    (hQ : ∀ c a w, Q (.panic c) (a.put ops[i].dst v) w → Q (.panic c) a w) (hy : YieldsIf P ops (fun _ => True) ops[i] v a) (hS : S w)
    (h : TailAt P ops Q S n f (listed.setIfInBounds i true) (a.put ops[i].dst v) w) : TailAt P ops Q S n (f + 1) listed a w := fun inv => by
  simp only [Bool.and_eq_true] at hg
  obtain ⟨⟨h1, h5⟩, h6⟩ := hg
  have hi' : ops[i]? = some ops[i] := Array.getElem?_eq_getElem hi
  have hr : i ∈ Region.ready .any ops listed := by simpa using h6
  exact tail_first (S' := fun _ => True) hi' (Region.noSelect_spec h1) hQ hin (fun l w inv hun hS => trivial) f listed a w inv (Region.free_spec hi' h5) hr hy (fun _ => hS) (h (inv.set hr))
/-- one that comes up is carried out -/
def TailOp (P : Program) (ops : Array Oper) (Q : Exit → Act → World → Prop) (S : World → Prop) (n f : Nat) (listed : Array Bool) (i : Nat) (a : Act) (w : World) : Prop :=
  ∀ hi : i < ops.size, ∀ K : Act → World → Prop, (∀ a' w', S w' → (S w' → TailAt P ops Q S n f (listed.setIfInBounds i true) a' w') → K a' w') →
    if Region.wanted ops[i] (yielded ops a.tmps) = true then Oper.wp P ops[i] a w K Q else K (a.put ops[i].dst undef) w
theorem tail_ready {n : Nat} (rs : List Nat) {f : Nat} {listed : Array Bool} {a : Act} {w : World} (hr : Region.ready .any ops listed = rs) (hne : rs ≠ [])
    (h : ∀ i ∈ rs, TailOp P ops Q S n f listed i a w) : TailAt P ops Q S n (f + 1) listed a w := fun inv => by
  refine ⟨fun h0 => absurd (hr ▸ h0) hne, fun i hi => ?_⟩
  have hi2 : i ∈ rs := hr ▸ hi
  obtain ⟨_, o, ho, _⟩ := mem_ready.1 hi
  obtain ⟨hsz, hoe⟩ := Array.getElem?_eq_some_iff.1 ho
  refine wpOp_step ho (fun K hK => ?_)
  have h1 := h i hi2 hsz K (fun a' w' hS hW => hK a' w' ⟨fun _ => hS, hW hS (inv.set hi)⟩)
  rw [hoe] at h1
  exact h1
theorem tail_one {n : Nat} (i : Nat) {f : Nat} {listed : Array Bool} {a : Act} {w : World} (hr : Region.ready .any ops listed = [i]) (h : TailOp P ops Q S n f listed i a w) : TailAt P ops Q S n (f + 1) listed a w :=
  tail_ready [i] hr (by simp) (fun j hj => by rw [List.mem_singleton] at hj; subst hj; exact h)
theorem tail_two {n : Nat} (i j : Nat) {f : Nat} {listed : Array Bool} {a : Act} {w : World} (hr : Region.ready .any ops listed = [i, j]) (h : TailOp P ops Q S n f listed i a w) (h' : TailOp P ops Q S n f listed j a w) : TailAt P ops Q S n (f + 1) listed a w :=
  tail_ready [i, j] hr (by simp) (fun k hk => by
    rcases List.mem_cons.1 hk with rfl | hk
    · exact h
    · rw [List.mem_singleton] at hk; subst hk; exact h')
/-- the last one -/
theorem tail_last {n : Nat} {f : Nat} {listed : Array Bool} {a : Act} {w : World} (hn : n < ops.size) (hr : Region.ready .any ops listed = [n]) (hd : Region.ready .any ops (listed.setIfInBounds n true) = [])
    (h : ∀ K : Act → World → Prop, (∀ a' w', Q .normal a' w' → K a' w') → if Region.wanted ops[n] (yielded ops a.tmps) = true then Oper.wp P ops[n] a w K Q else K (a.put ops[n].dst undef) w) : TailAt P ops Q S n (f + 1) listed a w := fun inv => by
  refine ⟨fun h0 => (by rw [hr] at h0; cases h0), fun i hi => ?_⟩
  rw [hr] at hi
  have hin : i = n := by simpa using hi
  subst hin
  have hset : (listed.setIfInBounds i true).getD i false = true := by
    have : i < listed.size := by rw [inv.size]; exact hn
    simp [this]
  refine wpOp_step (Array.getElem?_eq_getElem hn) (fun K hK => h K (fun a' w' hq => hK a' w' ⟨fun h0 => (by rw [hset] at h0; cases h0), ?_⟩))
  cases f with
  | zero => exact ⟨hd, hq⟩
  | succ f => exact ⟨fun _ => hq, fun j hj => (by rw [hd] at hj; cases hj)⟩
/-- the beginning -/
theorem wp_region_tail {id : Nat} {a : Act} {w : World} (n : Nat) (hm : P.follows .mixedOrders = true)
    (h : TailAt P ops Q S n ops.size (Array.replicate ops.size false) a w.drew) : (Code.region id ops true).wp P Q a w :=
  wp_region_any hm (any_of_tail (n := n) (S := S) _ _ _ _ (h Drawn.start))
end
end Go.Proofs.YtmlmdpdboigojaaGreatDoor
