/- One element, or a whole slice, appended onto a slice of the call's own: elements of any number of cells. -/
import Derived.Test.YtjoohmokjliecaaSeq
namespace Go.Proofs.Ytjoohmokjliecaa
set_option linter.unusedVariables false
open Go.RowKit

/-- a slice of the call's own, from block B on, that holds these elements -/
def OwnL {α : Type} (E : TypeId) (size : Nat) (f : α → List Value) (w : World) (B : Nat) (v : Value) (us : List α) : Prop := w.ownsRow B E size v us.length (us.flatMap f)
section
variable {α : Type} {E : TypeId} {size : Nat} {f : α → List Value} {w w' : World} {B : Nat} {v : Value} {us : List α}
theorem OwnL.form (h : OwnL E size f w B v us) : ∃ A c, v = .slice A us.length c ∧ us.length ≤ c ∧ c ≤ maxLen := by
  obtain ⟨A, c, rfl⟩ := own_form h
  exact ⟨A, c, rfl, (own_cap h).1, (own_cap h).2⟩
theorem OwnL.form' (h : OwnL E size f w B v us) (hl : 0 < us.length) : ∃ g c, v = .slice (some ⟨g, 0, none⟩) us.length c ∧ B ≤ g ∧ us.length ≤ c := by
  obtain ⟨g, c, rfl, hb, _⟩ := World.ownsRow.form h hl
  exact ⟨g, c, rfl, hb, (own_cap h).1⟩
theorem OwnL.at_ {A : Option Addr} {c n : Nat} (h : OwnL E size f w B (.slice A n c) us) (hf : ∀ u, (f u).length = size) (hn : us.length = n) : At w w.heap.size size f A us := by
  subst hn
  exact at_of_own hf h rfl
theorem OwnL.blk {q : Nat} (h : OwnL E size f w B v us) (hq : v.ownBlock = some q) : B ≤ q := (h.lt q hq).1
theorem OwnL.blt {q : Nat} (h : OwnL E size f w B v us) (hq : v.ownBlock = some q) : q < w.heap.size := (h.lt q hq).2
theorem OwnL.below (h : OwnL E size f w B v us) (hb : Below w.heap.size w w') : OwnL E size f w' B v us :=
  h.kept (row := none) ⟨hb.os, hb.tape, hb.output, hb.size, fun i hi _ => hb.block i hi⟩ (by cases hq : v.ownBlock <;> simp)
theorem OwnL.alloc (h : OwnL E size f w B v us) (o : Obj) : OwnL E size f (w.alloc o) B v us := World.ownsRow.alloc h o
/-- the base may be lowered -/
theorem OwnL.base {B' : Nat} (h : OwnL E size f w B v us) (hB : B' ≤ B) : OwnL E size f w B' v us := by
  refine ⟨h.1, ?_⟩
  rcases h.2 with h1 | ⟨g, cap, cur, h2, h3, h4⟩
  · exact .inl h1
  · exact .inr ⟨g, cap, cur, h2, Nat.le_trans hB h3, h4⟩
theorem ownL_nil (w : World) (hB : B ≤ w.heap.size) : OwnL E size f (w.alloc (.cells #[] E)) B (.slice (some ⟨w.heap.size, 0, none⟩) 0 0) ([] : List α) := by
  have := World.ownsRow_lit (base := w.heap.size) (e := E) (size := size) w #[] 0 (Nat.le_refl _) (Nat.zero_le _) (by simp)
  exact OwnL.base (f := f) (us := ([] : List α)) this hB
end

section
variable {α : Type} {P : Program} (w : World)
theorem run_snoc (T ty E : TypeId) (i : TypeInfo) (z : Value) (size bytes : Nat) (ht : P.underlying T = some (.slice E)) (hi : P.info? E = some i) (hz : i.zero = some z)
    (hsize : i.size = size) (hby : i.bytes = bytes) (hzs : z.cells.size = size) (hsz : 0 < size) (f : α → List Value) (hf : ∀ u, (f u).length = size) (h1 : ∀ u, ∀ v ∈ f u, v.oneCell' = true)
    (B : Nat) (v : Value) (us : List α) (u : α) (hown : OwnL E size f w B v us) (cs : Array Value) (hcs : cs.toList = f u)
    (hl : us.length + 1 ≤ maxLen) (hb : (us.length + 1) * bytes ≤ 140737488355328) (hB : B ≤ w.heap.size) :
    ∃ v' w', (Builtin.append_ #[T, T] ty #[v, .slice (some ⟨w.heap.size, 0, none⟩) 1 1]).run P (w.alloc (.cells cs E)) = .ok v' w' ∧ OwnL E size f w' B v' (us ++ [u]) ∧ Below B w w' ∧ (w.alloc (.cells cs E)).grownBy w' v.ownBlock ∧ (v'.ownBlock = v.ownBlock ∨ v'.ownBlock = some (w.heap.size + 1)) := by
  have hr : Reads (w.alloc (.cells cs E)) (w.heap.size + 1) size (some ⟨w.heap.size, 0, none⟩) 1 (f u) := by
    have := reads_of_at hsz hf (at_lit (us := [u]) (B := w.heap.size + 1) (f := f) hf (heap_alloc_new w (.cells cs E)) (by rw [hcs]; simp) (by omega))
    simpa using this
  obtain ⟨v', w', hrun, hown', hg, hbk⟩ := run_append_any (P := P) (w.alloc (.cells cs E)) B T ty E i z size bytes ht hi hz hsize hby hzs hsz v us.length _ (OwnL.alloc hown _) _ _ 1 1 _ hr (h1 u) hl hb (Nat.le_trans hB (by simp))
  refine ⟨v', w', hrun, ?_, ?_, hg, by simpa using hbk⟩
  · unfold OwnL
    rw [List.length_append, List.flatMap_append]
    simpa using hown'
  · exact ((Below.refl B w).alloc hB _).grown hg (Nat.le_trans hB (by simp)) (fun q hq => OwnL.blk hown hq)

theorem wpList_snoc {ops : Array Oper} {rest : List Oper} {o : Oper} {a : Act} {Q : Exit → Act → World → Prop} (hgd : o.guard = none) (s x : Operand) (T : TypeId)
    (ho : o.op = .call { callee := .builtin .append, args := #[s, x], argTypes := #[T, T] })
    (E : TypeId) (i : TypeInfo) (z : Value) (size bytes : Nat) (ht : P.underlying T = some (.slice E)) (hi : P.info? E = some i) (hz : i.zero = some z)
    (hsize : i.size = size) (hby : i.bytes = bytes) (hzs : z.cells.size = size) (hsz : 0 < size) (f : α → List Value) (hf : ∀ u, (f u).length = size) (h1 : ∀ u, ∀ v ∈ f u, v.oneCell' = true)
    (B : Nat) (v : Value) (us : List α) (u : α) (hs : a.eval s = v) (hown : OwnL E size f w B v us) (cs : Array Value) (hcs : cs.toList = f u) (hx : a.eval x = .slice (some ⟨w.heap.size, 0, none⟩) 1 1)
    (hl : us.length + 1 ≤ maxLen) (hb : (us.length + 1) * bytes ≤ 140737488355328) (hB : B ≤ w.heap.size)
    (h : ∀ v' w', OwnL E size f w' B v' (us ++ [u]) → Below B w w' → (w.alloc (.cells cs E)).grownBy w' v.ownBlock → wpList P ops Q rest (a.put o.dst v') w') : wpList P ops Q (o :: rest) a (w.alloc (.cells cs E)) := by
  refine wpList_plain hgd fun _ hK => ?_
  obtain ⟨v', w', hrun, h2, h3, h4, _⟩ := run_snoc (P := P) w T o.type E i z size bytes ht hi hz hsize hby hzs hsz f hf h1 B v us u hown cs hcs hl hb hB
  unfold Oper.wp execOp
  simp only [ho, resolve, invoke, builtin, Sem.run_bind, Sem.run_pure, Result.andThen_ok, List.map_toArray, List.map_cons, List.map_nil, hs, hx, hrun]
  exact hK _ _ (h v' w' h2 h3 h4)

/-- the same, and where the new slice lies -/
theorem wpList_snocAt {ops : Array Oper} {rest : List Oper} {o : Oper} {a : Act} {Q : Exit → Act → World → Prop} (hgd : o.guard = none) (s x : Operand) (T : TypeId)
    (ho : o.op = .call { callee := .builtin .append, args := #[s, x], argTypes := #[T, T] })
    (E : TypeId) (i : TypeInfo) (z : Value) (size bytes : Nat) (ht : P.underlying T = some (.slice E)) (hi : P.info? E = some i) (hz : i.zero = some z)
    (hsize : i.size = size) (hby : i.bytes = bytes) (hzs : z.cells.size = size) (hsz : 0 < size) (f : α → List Value) (hf : ∀ u, (f u).length = size) (h1 : ∀ u, ∀ v ∈ f u, v.oneCell' = true)
    (B : Nat) (v : Value) (us : List α) (u : α) (hs : a.eval s = v) (hown : OwnL E size f w B v us) (cs : Array Value) (hcs : cs.toList = f u) (hx : a.eval x = .slice (some ⟨w.heap.size, 0, none⟩) 1 1)
    (hl : us.length + 1 ≤ maxLen) (hb : (us.length + 1) * bytes ≤ 140737488355328) (hB : B ≤ w.heap.size)
    (h : ∀ v' w', OwnL E size f w' B v' (us ++ [u]) → Below B w w' → (w.alloc (.cells cs E)).grownBy w' v.ownBlock → (v'.ownBlock = v.ownBlock ∨ v'.ownBlock = some (w.heap.size + 1)) → wpList P ops Q rest (a.put o.dst v') w') : wpList P ops Q (o :: rest) a (w.alloc (.cells cs E)) := by
  refine wpList_plain hgd fun _ hK => ?_
  obtain ⟨v', w', hrun, h2, h3, h4, h5⟩ := run_snoc (P := P) w T o.type E i z size bytes ht hi hz hsize hby hzs hsz f hf h1 B v us u hown cs hcs hl hb hB
  unfold Oper.wp execOp
  simp only [ho, resolve, invoke, builtin, Sem.run_bind, Sem.run_pure, Result.andThen_ok, List.map_toArray, List.map_cons, List.map_nil, hs, hx, hrun]
  exact hK _ _ (h v' w' h2 h3 h4 h5)

/-- a whole slice, wherever it lies, appended onto a slice of the call's own -/
theorem wpList_join {ops : Array Oper} {rest : List Oper} {o : Oper} {a : Act} {Q : Exit → Act → World → Prop} (hgd : o.guard = none) (s x : Operand) (T : TypeId)
    (ho : o.op = .call { callee := .builtin .append, args := #[s, x], argTypes := #[T, T] })
    (E : TypeId) (i : TypeInfo) (z : Value) (size bytes : Nat) (ht : P.underlying T = some (.slice E)) (hi : P.info? E = some i) (hz : i.zero = some z)
    (hsize : i.size = size) (hby : i.bytes = bytes) (hzs : z.cells.size = size) (hsz : 0 < size) (f : α → List Value) (hf : ∀ u, (f u).length = size) (h1 : ∀ u, ∀ v ∈ f u, v.oneCell' = true)
    (B : Nat) (v : Value) (us : List α) (hs : a.eval s = v) (hown : OwnL E size f w B v us) (B2 : Nat) (A : Option Addr) (vs : List α) (m c : Nat) (hm : vs.length = m) (hx : a.eval x = .slice A m c) (hat : At w B2 size f A vs)
    (hl : us.length + m ≤ maxLen) (hb : (us.length + m) * bytes ≤ 140737488355328) (hB : B ≤ w.heap.size)
    (h : ∀ v' w', OwnL E size f w' B v' (us ++ vs) → Below B w w' → w.grownBy w' v.ownBlock → wpList P ops Q rest (a.put o.dst v') w') : wpList P ops Q (o :: rest) a w := by
  subst hm
  refine wpList_append_any w hgd s x T ho B E i z size bytes ht hi hz hsize hby hzs hsz v us.length _ hs hown B2 A vs.length c _ hx (reads_of_at hsz hf hat) ?_ hl hb hB ?_
  · intro x hx
    obtain ⟨u, _, hu⟩ := List.mem_flatMap.1 hx
    exact h1 u x hu
  · intro v' w' h2 h3 _
    refine h v' w' ?_ ((Below.refl B w).grown h3 hB (fun q hq => OwnL.blk hown hq)) h3
    unfold OwnL
    rw [List.length_append, List.flatMap_append]
    exact h2
end

end Go.Proofs.Ytjoohmokjliecaa
