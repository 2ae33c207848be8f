/- Slices that read as lists: of rows of any number of cells; append onto a row of the call's own. (The parts 'Reads' and '.._append_any' are the lemmas that the kit's page on words for memory gives to copy.) -/
import Derived.Below
import Derived.Laws.OwnMore
import Derived.Deep.AppendLies
import Derived.Deep.Draws
import Derived.Maps.AppendAt
import Derived.RegionTactic
import Derived.OwnWalk
namespace Go.Proofs.Ytjoohmokjliecaa
set_option linter.unusedVariables false
open Go.RowKit

theorem block_of_add (a : Addr) (n : Nat) : (a.add n).block = a.block := by unfold Addr.add; split <;> rfl
theorem add_of_add (a : Addr) (i j : Nat) : (a.add i).add j = a.add (i + j) := by
  unfold Addr.add
  by_cases hi : i = 0 <;> by_cases hj : j = 0 <;> simp [hi, hj, Nat.add_assoc]

def Reads (w : World) (B size : Nat) (A : Option Addr) (n : Nat) (xs : List Value) : Prop :=
  xs.length = n * size ∧ (0 < n → ∃ ad, A = some ad ∧ ad.block < B ∧ ∀ j u, xs[j]? = some u → w.cell? (ad.add j) = some u)

section
variable {w w' : World} {B B' size n : Nat} {A : Option Addr} {xs : List Value}
theorem Reads.none_ : Reads w B size A 0 [] := ⟨by simp, fun h => absurd h (by omega)⟩
theorem Reads.at_ {k : Nat} (h : Reads w B 1 A n xs) (hk : k < n) : ∃ ad u, A = some ad ∧ ad.block < B ∧ xs[k]? = some u ∧ w.cell? (ad.add k) = some u := by
  obtain ⟨ad, e, hb, hc⟩ := h.2 (by omega)
  have hl : k < xs.length := by have := h.1; omega
  exact ⟨ad, xs[k], e, hb, List.getElem?_eq_getElem hl, hc k _ (List.getElem?_eq_getElem hl)⟩
theorem Reads.keep (h : Reads w B size A n xs) (hk : ∀ p : Addr, p.block < B → w'.cell? p = w.cell? p) : Reads w' B size A n xs :=
  ⟨h.1, fun hn => by
    obtain ⟨ad, e, hb, hc⟩ := h.2 hn
    exact ⟨ad, e, hb, fun j u hu => (hk _ (by rw [block_of_add]; exact hb)).trans (hc j u hu)⟩⟩
theorem Reads.more (h : Reads w B size A n xs) (hB : B ≤ B') : Reads w B' size A n xs :=
  ⟨h.1, fun hn => by
    obtain ⟨ad, e, hb, hc⟩ := h.2 hn
    exact ⟨ad, e, by omega, hc⟩⟩
theorem Reads.below (h : Reads w B size A n xs) (hb : Below B w w') : Reads w' B size A n xs := h.keep fun _ hp => hb.cell hp
theorem Reads.drew (h : Reads w B size A n xs) : Reads w.drew B size A n xs := h
theorem Reads.drewN (h : Reads w B size A n xs) (k : Nat) : Reads (w.drewN k) B size A n xs := h
theorem Reads.alloc (h : Reads w B size A n xs) (hB : B ≤ w.heap.size) (o : Obj) : Reads (w.alloc o) B size A n xs := h.keep fun p hp => World.cell?_alloc_lt w o p (by omega)
theorem Reads.setCell (h : Reads w B size A n xs) {p : Addr} (hB : B ≤ p.block) (u : Value) : Reads (w.setCell p u) B size A n xs :=
  h.keep fun q hq => World.cell?_setCell_other w p q u (fun e => by subst e; omega)
theorem Reads.grown (h : Reads w B size A n xs) {row : Option Nat} (hg : w.grownBy w' row) (hB : B ≤ w.heap.size) (hr : ∀ g, row = some g → B ≤ g) : Reads w' B size A n xs :=
  h.keep fun p hp => World.cell?_of_block (hg.block p.block (by omega) (fun e => by have := hr _ e.symm; omega))
theorem Reads.cut (h : Reads w B size A n xs) {k cap : Nat} (hk : k ≤ n) (hc : n ≤ cap) :
    Reads w B size (if cap = k then A else A.map (·.add (k * size))) (n - k) (xs.drop (k * size)) := by
  refine ⟨by rw [List.length_drop, h.1, Nat.sub_mul], fun hn => ?_⟩
  obtain ⟨ad, rfl, hb, hcell⟩ := h.2 (by omega)
  rw [if_neg (by omega)]
  refine ⟨ad.add (k * size), rfl, by rw [block_of_add]; exact hb, fun j u hu => ?_⟩
  rw [add_of_add]
  exact hcell _ u (by rw [← hu, List.getElem?_drop])
theorem Reads.of_own {base : Nat} {e : TypeId} {c : Nat} (h : w.ownsRow base e size (.slice A n c) n xs) : Reads w w.heap.size size A n xs := by
  refine ⟨h.1, fun hn => ?_⟩
  obtain ⟨g, cap, hv, _, hlt⟩ := h.form hn
  have hA : A = some ⟨g, 0, none⟩ := by injection hv
  subst hA
  exact ⟨_, rfl, hlt, h.cells (g := g) rfl⟩
end

section
variable {P : Program} (w : World)

theorem run_append_of_nil (base : Nat) (t ty e : TypeId) (i : TypeInfo) (size : Nat) (ht : P.underlying t = some (.slice e)) (hi : P.info? e = some i)
    (v : Value) (n : Nat) (xs : List Value) (hown : w.ownsRow base e size v n xs) (c : Nat) : (Builtin.append_ #[t, t] ty #[v, .slice none 0 c]).run P w = .ok v w := by
  rcases hown.2 with ⟨rfl, rfl⟩ | ⟨g, cap, cur, rfl, _, _, hnc, _⟩
  · simp [Builtin.append_, run_underlying ht, sizeOf, typeInfo, hi, Builtin.lenOf, Builtin.firstCells]
  · simp [Builtin.append_, run_underlying ht, sizeOf, typeInfo, hi, Builtin.lenOf, Builtin.firstCells, hnc, storeCells]

theorem run_append_any (base : Nat) (t ty e : TypeId) (i : TypeInfo) (z : Value) (size bytes : Nat) (ht : P.underlying t = some (.slice e)) (hi : P.info? e = some i) (hz : i.zero = some z)
    (hsize : i.size = size) (hby : i.bytes = bytes) (hzs : z.cells.size = size) (hsz : 0 < size)
    (v : Value) (n : Nat) (xs : List Value) (hown : w.ownsRow base e size v n xs)
    (B : Nat) (A : Option Addr) (m c : Nat) (news : List Value) (hr : Reads w B size A m news) (h1 : ∀ u ∈ news, u.oneCell' = true)
    (h63 : n + m ≤ maxLen) (hbytes : (n + m) * bytes ≤ 140737488355328) (hbase : base ≤ w.heap.size) :
    ∃ v' w', (Builtin.append_ #[t, t] ty #[v, .slice A m c]).run P w = .ok v' w' ∧ w'.ownsRow base e size v' (n + m) (xs ++ news) ∧ w.grownBy w' v.ownBlock ∧
      (v'.ownBlock = v.ownBlock ∨ v'.ownBlock = some w.heap.size) := by
  rcases A with _ | ad
  · have hm : m = 0 := by
      rcases Nat.eq_zero_or_pos m with h0 | h0
      · exact h0
      · obtain ⟨ad, h, _⟩ := hr.2 h0
        cases h
    subst hm
    have hn : news = [] := List.eq_nil_of_length_eq_zero (by simpa using hr.1)
    subst hn
    exact ⟨v, w, run_append_of_nil w base t ty e i size ht hi v n xs hown c, by simpa using hown, World.grownBy.refl w _, .inl rfl⟩
  · have hcells : ∀ j u, news[j]? = some u → w.cell? (ad.add j) = some u := by
      intro j u hu
      rcases Nat.eq_zero_or_pos m with h0 | h0
      · subst h0
        have hn : news = [] := List.eq_nil_of_length_eq_zero (by simpa using hr.1)
        subst hn
        simp at hu
      · obtain ⟨ad', h, _, hc⟩ := hr.2 h0
        injection h with h
        subst h
        exact hc j u hu
    obtain ⟨v', w', hrun, h2, h3, _, h5⟩ := run_append_own_at (P := P) w base t ty e i z size bytes ht hi hz hsize hby hzs hsz v n xs hown ad m c news hr.1 hcells h1 h63 hbytes hbase
    exact ⟨v', w', hrun, h2, h3, h5⟩

theorem wp_append_any {o : Oper} {a : Act} {K : Act → World → Prop} {Q : Exit → Act → World → Prop} (s x : Operand) (t : TypeId)
    (ho : o.op = .call { callee := .builtin .append, args := #[s, x], argTypes := #[t, t] })
    (base : Nat) (e : TypeId) (i : TypeInfo) (z : Value) (size bytes : Nat) (ht : P.underlying t = some (.slice e)) (hi : P.info? e = some i) (hz : i.zero = some z)
    (hsize : i.size = size) (hby : i.bytes = bytes) (hzs : z.cells.size = size) (hsz : 0 < size)
    (v : Value) (n : Nat) (xs : List Value) (hs : a.eval s = v) (hown : w.ownsRow base e size v n xs)
    (B : Nat) (A : Option Addr) (m c : Nat) (news : List Value) (hx : a.eval x = .slice A m c) (hr : Reads w B size A m news) (h1 : ∀ u ∈ news, u.oneCell' = true)
    (h63 : n + m ≤ maxLen) (hbytes : (n + m) * bytes ≤ 140737488355328) (hbase : base ≤ w.heap.size)
    (h : ∀ v' w', w'.ownsRow base e size v' (n + m) (xs ++ news) → w.grownBy w' v.ownBlock → (v'.ownBlock = v.ownBlock ∨ v'.ownBlock = some w.heap.size) → K (a.put o.dst v') w') : o.wp P a w K Q := by
  obtain ⟨v', w', hrun, h2, h3, h4⟩ := run_append_any (P := P) w base t o.type e i z size bytes ht hi hz hsize hby hzs hsz v n xs hown B A m c news hr h1 h63 hbytes hbase
  unfold Oper.wp execOp
  simp only [ho, resolve, invoke, builtin, Sem.run_bind, Sem.run_pure, Result.andThen_ok, List.map_toArray, List.map_cons, List.map_nil, hs, hx, hrun]
  exact h v' w' h2 h3 h4

theorem wpList_append_any {ops : Array Oper} {rest : List Oper} {o : Oper} {a : Act} {Q : Exit → Act → World → Prop} (hgd : o.guard = none) (s x : Operand) (t : TypeId)
    (ho : o.op = .call { callee := .builtin .append, args := #[s, x], argTypes := #[t, t] })
    (base : Nat) (e : TypeId) (i : TypeInfo) (z : Value) (size bytes : Nat) (ht : P.underlying t = some (.slice e)) (hi : P.info? e = some i) (hz : i.zero = some z)
    (hsize : i.size = size) (hby : i.bytes = bytes) (hzs : z.cells.size = size) (hsz : 0 < size)
    (v : Value) (n : Nat) (xs : List Value) (hs : a.eval s = v) (hown : w.ownsRow base e size v n xs)
    (B : Nat) (A : Option Addr) (m c : Nat) (news : List Value) (hx : a.eval x = .slice A m c) (hr : Reads w B size A m news) (h1 : ∀ u ∈ news, u.oneCell' = true)
    (h63 : n + m ≤ maxLen) (hbytes : (n + m) * bytes ≤ 140737488355328) (hbase : base ≤ w.heap.size)
    (h : ∀ v' w', w'.ownsRow base e size v' (n + m) (xs ++ news) → w.grownBy w' v.ownBlock → (v'.ownBlock = v.ownBlock ∨ v'.ownBlock = some w.heap.size) → wpList P ops Q rest (a.put o.dst v') w') : wpList P ops Q (o :: rest) a w :=
  wpList_plain hgd fun _ hK => wp_append_any w s x t ho base e i z size bytes ht hi hz hsize hby hzs hsz v n xs hs hown B A m c news hx hr h1 h63 hbytes hbase fun v' w' h2 h3 h4 => hK _ _ (h v' w' h2 h3 h4)

theorem step_append_any {ops : Array Oper} {o : Oper} {a : Act} {K : Act → World → Prop} {Q : Exit → Act → World → Prop} {E : Prop} (hgd : o.guard = none) (s x : Operand) (t : TypeId)
    (ho : o.op = .call { callee := .builtin .append, args := #[s, x], argTypes := #[t, t] })
    (base : Nat) (e : TypeId) (i : TypeInfo) (z : Value) (size bytes : Nat) (ht : P.underlying t = some (.slice e)) (hi : P.info? e = some i) (hz : i.zero = some z)
    (hsize : i.size = size) (hby : i.bytes = bytes) (hzs : z.cells.size = size) (hsz : 0 < size)
    (v : Value) (n : Nat) (xs : List Value) (hs : a.eval s = v) (hown : w.ownsRow base e size v n xs)
    (B : Nat) (A : Option Addr) (m c : Nat) (news : List Value) (hx : a.eval x = .slice A m c) (hr : Reads w B size A m news) (h1 : ∀ u ∈ news, u.oneCell' = true)
    (h63 : n + m ≤ maxLen) (hbytes : (n + m) * bytes ≤ 140737488355328) (hbase : base ≤ w.heap.size)
    (h : ∀ v' w', w'.ownsRow base e size v' (n + m) (xs ++ news) → w.grownBy w' v.ownBlock → (v'.ownBlock = v.ownBlock ∨ v'.ownBlock = some w.heap.size) → K (a.put o.dst v') w') :
    if Region.wanted o (yielded ops a.tmps) = true then Oper.wp P o a w K Q else E := by
  have hw : Region.wanted o (yielded ops a.tmps) = true := by simp [Region.wanted, hgd]
  rw [if_pos hw]
  exact wp_append_any w s x t ho base e i z size bytes ht hi hz hsize hby hzs hsz v n xs hs hown B A m c news hx hr h1 h63 hbytes hbase h
end

theorem add_none (g o j : Nat) : (⟨g, o, none⟩ : Addr).add j = ⟨g, o + j, none⟩ := by
  unfold Addr.add
  by_cases h : j = 0 <;> simp [h]
/-- a slice of rows of c cells that reads as a list, below block B -/
def At {α : Type} (w : World) (B c : Nat) (f : α → List Value) (A : Option Addr) (us : List α) : Prop :=
  0 < us.length → ∃ g off, A = some ⟨g, off, none⟩ ∧ g < B ∧ ∀ i u, us[i]? = some u → ∀ j v, (f u)[j]? = some v → w.cell? ⟨g, off + i * c + j, none⟩ = some v
section
variable {α : Type} {w w' : World} {B B' c : Nat} {f : α → List Value} {A : Option Addr} {us : List α}
theorem At.nil : At w B c f A ([] : List α) := fun h => absurd h (by simp)
theorem At.keep (h : At w B c f A us) (hB : ∀ i, i < B → w'.heap[i]? = w.heap[i]?) : At w' B c f A us := fun hl => by
  obtain ⟨g, off, ha, hlt, hc⟩ := h hl
  exact ⟨g, off, ha, hlt, fun i u hu j v hv => by rw [World.cell?_of_block (hB g hlt)]; exact hc i u hu j v hv⟩
theorem At.below (h : At w B c f A us) (k : Below B w w') : At w' B c f A us := h.keep k.block
theorem At.mono (h : At w B c f A us) (hB : B ≤ B') : At w B' c f A us := fun hl => by
  obtain ⟨g, off, ha, hlt, hc⟩ := h hl
  exact ⟨g, off, ha, by omega, hc⟩
theorem flat_get (hf : ∀ u, (f u).length = c) : ∀ (us : List α) (i j : Nat), j < c → (us.flatMap f)[i * c + j]? = (us[i]?).bind fun u => (f u)[j]?
  | [], i, j, hj => by simp
  | u :: us, 0, j, hj => by
    simp only [List.flatMap_cons, Nat.zero_mul, Nat.zero_add, List.getElem?_cons_zero, Option.bind_some]
    rw [List.getElem?_append_left (by rw [hf]; exact hj)]
  | u :: us, i + 1, j, hj => by
    simp only [List.flatMap_cons, List.getElem?_cons_succ]
    rw [List.getElem?_append_right (by rw [hf, Nat.add_mul]; omega), hf, ← flat_get hf us i j hj]
    congr 1
    rw [Nat.add_mul]; omega
theorem flat_len (hf : ∀ u, (f u).length = c) (us : List α) : (us.flatMap f).length = us.length * c := by
  induction us with
  | nil => simp
  | cons u us ih => rw [List.flatMap_cons, List.length_append, hf, ih, List.length_cons, Nat.add_mul]; omega
theorem at_of_own {base n cap : Nat} {e : TypeId} (hf : ∀ u, (f u).length = c) (h : w.ownsRow base e c (.slice A n cap) n (us.flatMap f)) (hn : us.length = n) : At w w.heap.size c f A us := fun hl => by
  obtain ⟨g, cap', hv, hlt, hg⟩ := h.form (by omega)
  have hA : A = some ⟨g, 0, none⟩ := by injection hv
  subst hA
  refine ⟨g, 0, rfl, by omega, fun i u hu j v hv => ?_⟩
  have hj : j < c := by have := (List.getElem?_eq_some_iff.1 hv).1; rw [hf] at this; exact this
  have := h.cells (g := g) rfl (i * c + j) v (by rw [flat_get hf us i j hj, hu]; exact hv)
  rw [add_none, ← Nat.add_assoc] at this
  exact this
theorem reads_of_at (hc : 0 < c) (hf : ∀ u, (f u).length = c) (h : At w B c f A us) : Reads w B c A us.length (us.flatMap f) := by
  refine ⟨flat_len hf us, fun hl => ?_⟩
  obtain ⟨g, off, ha, hlt, hcell⟩ := h hl
  refine ⟨⟨g, off, none⟩, ha, hlt, fun j u hu => ?_⟩
  have hj : j < us.length * c := by have := (List.getElem?_eq_some_iff.1 hu).1; rwa [flat_len hf] at this
  have hi : j / c < us.length := Nat.div_lt_of_lt_mul (by rwa [Nat.mul_comm])
  have hm : j % c < c := Nat.mod_lt _ hc
  have e : j / c * c + j % c = j := by rw [Nat.mul_comm]; exact Nat.div_add_mod j c
  have hu' : (us.flatMap f)[j / c * c + j % c]? = some u := by rw [e]; exact hu
  rw [flat_get hf us _ _ hm, List.getElem?_eq_getElem hi] at hu'
  have := hcell (j / c) us[j / c] (List.getElem?_eq_getElem hi) (j % c) u hu'
  rw [show off + j / c * c + j % c = off + j from by omega] at this
  rw [add_none]
  exact this
theorem at_lit {g : Nat} {cs : Array Value} {t : TypeId} (hf : ∀ u, (f u).length = c) (h : w.heap[g]? = some (.cells cs t (0, 0))) (hcs : cs.toList = us.flatMap f) (hg : g < B) : At w B c f (some ⟨g, 0, none⟩) us := fun hl => by
  refine ⟨g, 0, rfl, hg, fun i u hu j v hv => ?_⟩
  have hj : j < c := by have := (List.getElem?_eq_some_iff.1 hv).1; rw [hf] at this; exact this
  have h1 : cs.toList[i * c + j]? = some v := by rw [hcs, flat_get hf us i j hj, hu]; exact hv
  rw [Nat.zero_add]
  simp only [World.cell?, h]
  rw [Array.getElem?_toList] at h1
  simpa using h1
theorem set_flat (hf : ∀ u, (f u).length = c) : ∀ (us : List α) (i j : Nat) (u u' : α) (v : Value), us[i]? = some u → j < c → f u' = (f u).set j v → (us.set i u').flatMap f = (us.flatMap f).set (i * c + j) v
  | [], i, j, u, u', v, h, hj, hu => by simp at h
  | x :: us, 0, j, u, u', v, h, hj, hu => by
    simp at h; subst h
    simp only [List.set_cons_zero, List.flatMap_cons, Nat.zero_mul, Nat.zero_add, hu]
    rw [List.set_append_left _ _ (by rw [hf]; exact hj)]
  | x :: us, i + 1, j, u, u', v, h, hj, hu => by
    simp only [List.getElem?_cons_succ] at h
    simp only [List.set_cons_succ, List.flatMap_cons]
    rw [set_flat hf us i j u u' v h hj hu, List.set_append_right _ _ (by rw [hf, Nat.add_mul]; omega)]
    congr 2
    rw [hf, Nat.add_mul]; omega
theorem own_set {base n cap g i j : Nat} {e : TypeId} {u u' : α} {v : Value} (hf : ∀ u, (f u).length = c) (h : w.ownsRow base e c (.slice (some ⟨g, 0, none⟩) n cap) n (us.flatMap f))
    (hu : us[i]? = some u) (hj : j < c) (hv : f u' = (f u).set j v) : (w.setCell ⟨g, i * c + j, none⟩ v).ownsRow base e c (.slice (some ⟨g, 0, none⟩) n cap) n ((us.set i u').flatMap f) := by
  rw [set_flat hf us i j u u' v hu hj hv]
  exact (h.stored _ _).1
theorem own_cell {base n cap g i j : Nat} {e : TypeId} {u : α} {v : Value} (hf : ∀ u, (f u).length = c) (h : w.ownsRow base e c (.slice (some ⟨g, 0, none⟩) n cap) n (us.flatMap f))
    (hu : us[i]? = some u) (hv : (f u)[j]? = some v) : w.cell? ⟨g, i * c + j, none⟩ = some v := by
  have hj : j < c := by have := (List.getElem?_eq_some_iff.1 hv).1; rw [hf] at this; exact this
  have hi : i < us.length := (List.getElem?_eq_some_iff.1 hu).1
  have hl : us.length * c = n * c := by rw [← flat_len hf]; exact h.1
  have : i * c + j < us.length * c := by
    have h1 : i * c + c ≤ us.length * c := by rw [← Nat.succ_mul]; exact Nat.mul_le_mul_right c hi
    omega
  rw [h.cellAt _ (by omega), flat_get hf us i j hj, hu]; exact hv
theorem own_take {base n n' cap g : Nat} {e : TypeId} (hf : ∀ u, (f u).length = c) (h : w.ownsRow base e c (.slice (some ⟨g, 0, none⟩) n cap) n (us.flatMap f)) (hn : n' ≤ n) (hl : us.length = n) :
    w.ownsRow base e c (.slice (some ⟨g, 0, none⟩) n' cap) n' ((us.take n').flatMap f) := by
  obtain ⟨h1, h2⟩ := h
  refine ⟨by rw [flat_len hf, List.length_take, Nat.min_eq_left (by omega)], .inr ?_⟩
  rcases h2 with ⟨hv, _⟩ | ⟨g', cap', cur, hv, hb, hh, hnc, hcm, hcs, htk⟩
  · cases hv
  · injection hv with hv1 hv2 hv3
    injection hv1 with hv1
    injection hv1 with hv1
    subst hv1; subst hv3
    refine ⟨g, cap, cur, rfl, hb, hh, by omega, hcm, hcs, ?_⟩
    have h3 : us.flatMap f = (us.take n').flatMap f ++ (us.drop n').flatMap f := by rw [← List.flatMap_append, List.take_append_drop]
    have h4 : cur.toList.take (n' * c) = (cur.toList.take (n * c)).take (n' * c) := by
      rw [List.take_take, Nat.min_eq_left (Nat.mul_le_mul_right c hn)]
    rw [h4, htk, h3, List.take_append_of_le_length (by rw [flat_len hf, List.length_take, Nat.min_eq_left (by omega)]; exact Nat.le_refl _)]
    exact List.take_of_length_le (by rw [flat_len hf, List.length_take, Nat.min_eq_left (by omega)]; exact Nat.le_refl _)
theorem own_cap {base n cap : Nat} {e : TypeId} {xs : List Value} (h : w.ownsRow base e c (.slice A n cap) n xs) : n ≤ cap ∧ cap ≤ maxLen := by
  rcases h.2 with ⟨hv, hn⟩ | ⟨g, cap', cur, hv, _, _, h1, h2, _⟩
  · injection hv with _ h1 h2
    rw [h1, h2]; exact ⟨Nat.le_refl _, Nat.zero_le _⟩
  · injection hv with _ _ hc
    subst hc; exact ⟨h1, h2⟩
theorem own_below {base n cap g : Nat} {e : TypeId} {xs : List Value} (h : w.ownsRow base e c (.slice (some ⟨g, 0, none⟩) n cap) n xs) (k : Below B w w') (hg : g < B) : w'.ownsRow base e c (.slice (some ⟨g, 0, none⟩) n cap) n xs := by
  refine ⟨h.1, ?_⟩
  rcases h.2 with h1 | ⟨g', cap', cur, hv, hb, hh, h2⟩
  · exact .inl h1
  · refine .inr ⟨g', cap', cur, hv, hb, ?_, h2⟩
    injection hv with hv
    injection hv with hv
    injection hv with hv
    subst hv
    rw [k.block g hg]; exact hh
theorem copy_below {o : Obj} (hg : (w.alloc o).grownBy w' (some w.heap.size)) : Below w.heap.size w w' :=
  ((Below.refl w.heap.size w).alloc (Nat.le_refl _) o).grown hg (by simp) (by intro q hq; injection hq with hq; omega)
theorem copied {base n : Nat} {e : TypeId} {v : Value} {xs : List Value} (h : w.ownsRow base e c v (0 + n) ([] ++ xs)) (hn : 0 < n) :
    ∃ g cap, v = .slice (some ⟨g, 0, none⟩) n cap ∧ base ≤ g ∧ n ≤ cap ∧ w.ownsRow base e c (.slice (some ⟨g, 0, none⟩) n cap) n xs := by
  rw [Nat.zero_add, List.nil_append] at h
  obtain ⟨g, cap, hv, hb, _⟩ := h.form hn
  subst hv
  exact ⟨g, cap, rfl, hb, (own_cap h).1, h⟩
theorem own_form {base n : Nat} {e : TypeId} {v : Value} {xs : List Value} (h : w.ownsRow base e c v n xs) : ∃ A cap, v = .slice A n cap := by
  rcases h.2 with ⟨hv, hn⟩ | ⟨g, cap, cur, hv, _⟩
  · exact ⟨none, 0, by rw [hv, hn]⟩
  · exact ⟨_, _, hv⟩
end

end Go.Proofs.Ytjoohmokjliecaa
