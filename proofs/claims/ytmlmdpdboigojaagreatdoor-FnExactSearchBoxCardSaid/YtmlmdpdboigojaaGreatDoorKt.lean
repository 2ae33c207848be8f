/- Kt: Seq Own OpenK Szd, in one text. -/
import Derived.Below
import Derived.Laws.OwnMore
import Derived.Deep.AppendLies
import Derived.Deep.Draws
import Derived.Maps.AppendAt
import Derived.RegionTactic
import Derived.OwnWalk
import Derived.Deep.Slices
import Derived.Deep.Fields
import Derived.ChangeSame
import Derived.Laws.MakeOwn
import Derived.Laws.Entries
import Derived.ProofKit
import Derived.Calls
namespace Go.Proofs.YtmlmdpdboigojaaGreatDoor
set_option linter.unusedVariables false
open Go.RowKit

theorem block_of_add (a : Addr) (n : Nat) : (a.add n).block = a.block := by unfold Addr.add; split <;> rfl
theorem add_of_add (a : Addr) (i j : Nat) : (a.add i).add j = a.add (i + j) := by
  unfold Addr.add
  by_cases hi : i = 0 <;> by_cases hj : j = 0 <;> simp [hi, hj, Nat.add_assoc]

def Reads (w : World) (B size : Nat) (A : Option Addr) (n : Nat) (xs : List Value) : Prop :=
  xs.length = n * size ∧ (0 < n → ∃ ad, A = some ad ∧ ad.block < B ∧ ∀ j u, xs[j]? = some u → w.cell? (ad.add j) = some u)

section
variable {w w' : World} {B B' size n : Nat} {A : Option Addr} {xs : List Value}
theorem Reads.none_ : Reads w B size A 0 [] := ⟨by simp, fun h => absurd h (by omega)⟩
theorem Reads.at_ {k : Nat} (h : Reads w B 1 A n xs) (hk : k < n) : ∃ ad u, A = some ad ∧ ad.block < B ∧ xs[k]? = some u ∧ w.cell? (ad.add k) = some u := by
  obtain ⟨ad, e, hb, hc⟩ := h.2 (by omega)
  have hl : k < xs.length := by have := h.1; omega
  exact ⟨ad, xs[k], e, hb, List.getElem?_eq_getElem hl, hc k _ (List.getElem?_eq_getElem hl)⟩
theorem Reads.keep (h : Reads w B size A n xs) (hk : ∀ p : Addr, p.block < B → w'.cell? p = w.cell? p) : Reads w' B size A n xs :=
  ⟨h.1, fun hn => by
    obtain ⟨ad, e, hb, hc⟩ := h.2 hn
    exact ⟨ad, e, hb, fun j u hu => (hk _ (by rw [block_of_add]; exact hb)).trans (hc j u hu)⟩⟩
theorem Reads.more (h : Reads w B size A n xs) (hB : B ≤ B') : Reads w B' size A n xs :=
  ⟨h.1, fun hn => by
    obtain ⟨ad, e, hb, hc⟩ := h.2 hn
    exact ⟨ad, e, by omega, hc⟩⟩
theorem Reads.below (h : Reads w B size A n xs) (hb : Below B w w') : Reads w' B size A n xs := h.keep fun _ hp => hb.cell hp
theorem Reads.drew (h : Reads w B size A n xs) : Reads w.drew B size A n xs := h
theorem Reads.drewN (h : Reads w B size A n xs) (k : Nat) : Reads (w.drewN k) B size A n xs := h
theorem Reads.alloc (h : Reads w B size A n xs) (hB : B ≤ w.heap.size) (o : Obj) : Reads (w.alloc o) B size A n xs := h.keep fun p hp => World.cell?_alloc_lt w o p (by omega)
theorem Reads.setCell (h : Reads w B size A n xs) {p : Addr} (hB : B ≤ p.block) (u : Value) : Reads (w.setCell p u) B size A n xs :=
  h.keep fun q hq => World.cell?_setCell_other w p q u (fun e => by subst e; omega)
theorem Reads.grown (h : Reads w B size A n xs) {row : Option Nat} (hg : w.grownBy w' row) (hB : B ≤ w.heap.size) (hr : ∀ g, row = some g → B ≤ g) : Reads w' B size A n xs :=
  h.keep fun p hp => World.cell?_of_block (hg.block p.block (by omega) (fun e => by have := hr _ e.symm; omega))
theorem Reads.cut (h : Reads w B size A n xs) {k cap : Nat} (hk : k ≤ n) (hc : n ≤ cap) :
    Reads w B size (if cap = k then A else A.map (·.add (k * size))) (n - k) (xs.drop (k * size)) := by
  refine ⟨by rw [List.length_drop, h.1, Nat.sub_mul], fun hn => ?_⟩
  obtain ⟨ad, rfl, hb, hcell⟩ := h.2 (by omega)
  rw [if_neg (by omega)]
  refine ⟨ad.add (k * size), rfl, by rw [block_of_add]; exact hb, fun j u hu => ?_⟩
  rw [add_of_add]
  exact hcell _ u (by rw [← hu, List.getElem?_drop])
theorem Reads.of_own {base : Nat} {e : TypeId} {c : Nat} (h : w.ownsRow base e size (.slice A n c) n xs) : Reads w w.heap.size size A n xs := by
  refine ⟨h.1, fun hn => ?_⟩
  obtain ⟨g, cap, hv, _, hlt⟩ := h.form hn
  have hA : A = some ⟨g, 0, none⟩ := by injection hv
  subst hA
  exact ⟨_, rfl, hlt, h.cells (g := g) rfl⟩
end

section
variable {P : Program} (w : World)

theorem run_append_of_nil (base : Nat) (t ty e : TypeId) (i : TypeInfo) (size : Nat) (ht : P.underlying t = some (.slice e)) (hi : P.info? e = some i)
    (v : Value) (n : Nat) (xs : List Value) (hown : w.ownsRow base e size v n xs) (c : Nat) : (Builtin.append_ #[t, t] ty #[v, .slice none 0 c]).run P w = .ok v w := by
  rcases hown.2 with ⟨rfl, rfl⟩ | ⟨g, cap, cur, rfl, _, _, hnc, _⟩
  · simp [Builtin.append_, run_underlying ht, sizeOf, typeInfo, hi, Builtin.lenOf, Builtin.firstCells]
  · simp [Builtin.append_, run_underlying ht, sizeOf, typeInfo, hi, Builtin.lenOf, Builtin.firstCells, hnc, storeCells]

theorem run_append_any (base : Nat) (t ty e : TypeId) (i : TypeInfo) (z : Value) (size bytes : Nat) (ht : P.underlying t = some (.slice e)) (hi : P.info? e = some i) (hz : i.zero = some z)
    (hsize : i.size = size) (hby : i.bytes = bytes) (hzs : z.cells.size = size) (hsz : 0 < size)
    (v : Value) (n : Nat) (xs : List Value) (hown : w.ownsRow base e size v n xs)
    (B : Nat) (A : Option Addr) (m c : Nat) (news : List Value) (hr : Reads w B size A m news) (h1 : ∀ u ∈ news, u.oneCell' = true)
    (h63 : n + m ≤ maxLen) (hbytes : (n + m) * bytes ≤ 140737488355328) (hbase : base ≤ w.heap.size) :
    ∃ v' w', (Builtin.append_ #[t, t] ty #[v, .slice A m c]).run P w = .ok v' w' ∧ w'.ownsRow base e size v' (n + m) (xs ++ news) ∧ w.grownBy w' v.ownBlock ∧
      (v'.ownBlock = v.ownBlock ∨ v'.ownBlock = some w.heap.size) := by
  rcases A with _ | ad
  · have hm : m = 0 := by
      rcases Nat.eq_zero_or_pos m with h0 | h0
      · exact h0
      · obtain ⟨ad, h, _⟩ := hr.2 h0
        cases h
    subst hm
    have hn : news = [] := List.eq_nil_of_length_eq_zero (by simpa using hr.1)
    subst hn
    exact ⟨v, w, run_append_of_nil w base t ty e i size ht hi v n xs hown c, by simpa using hown, World.grownBy.refl w _, .inl rfl⟩
  · have hcells : ∀ j u, news[j]? = some u → w.cell? (ad.add j) = some u := by
      intro j u hu
      rcases Nat.eq_zero_or_pos m with h0 | h0
      · subst h0
        have hn : news = [] := List.eq_nil_of_length_eq_zero (by simpa using hr.1)
        subst hn
        simp at hu
      · obtain ⟨ad', h, _, hc⟩ := hr.2 h0
        injection h with h
        subst h
        exact hc j u hu
    obtain ⟨v', w', hrun, h2, h3, _, h5⟩ := run_append_own_at (P := P) w base t ty e i z size bytes ht hi hz hsize hby hzs hsz v n xs hown ad m c news hr.1 hcells h1 h63 hbytes hbase
    exact ⟨v', w', hrun, h2, h3, h5⟩

theorem wp_append_any {o : Oper} {a : Act} {K : Act → World → Prop} {Q : Exit → Act → World → Prop} (s x : Operand) (t : TypeId)
    (ho : o.op = .call { callee := .builtin .append, args := #[s, x], argTypes := #[t, t] })
    (base : Nat) (e : TypeId) (i : TypeInfo) (z : Value) (size bytes : Nat) (ht : P.underlying t = some (.slice e)) (hi : P.info? e = some i) (hz : i.zero = some z)
    (hsize : i.size = size) (hby : i.bytes = bytes) (hzs : z.cells.size = size) (hsz : 0 < size)
    (v : Value) (n : Nat) (xs : List Value) (hs : a.eval s = v) (hown : w.ownsRow base e size v n xs)
    (B : Nat) (A : Option Addr) (m c : Nat) (news : List Value) (hx : a.eval x = .slice A m c) (hr : Reads w B size A m news) (h1 : ∀ u ∈ news, u.oneCell' = true)
    (h63 : n + m ≤ maxLen) (hbytes : (n + m) * bytes ≤ 140737488355328) (hbase : base ≤ w.heap.size)
    (h : ∀ v' w', w'.ownsRow base e size v' (n + m) (xs ++ news) → w.grownBy w' v.ownBlock → (v'.ownBlock = v.ownBlock ∨ v'.ownBlock = some w.heap.size) → K (a.put o.dst v') w') : o.wp P a w K Q := by
  obtain ⟨v', w', hrun, h2, h3, h4⟩ := run_append_any (P := P) w base t o.type e i z size bytes ht hi hz hsize hby hzs hsz v n xs hown B A m c news hr h1 h63 hbytes hbase
  unfold Oper.wp execOp
  simp only [ho, resolve, invoke, builtin, Sem.run_bind, Sem.run_pure, Result.andThen_ok, List.map_toArray, List.map_cons, List.map_nil, hs, hx, hrun]
  exact h v' w' h2 h3 h4

theorem wpList_append_any {ops : Array Oper} {rest : List Oper} {o : Oper} {a : Act} {Q : Exit → Act → World → Prop} (hgd : o.guard = none) (s x : Operand) (t : TypeId)
    (ho : o.op = .call { callee := .builtin .append, args := #[s, x], argTypes := #[t, t] })
    (base : Nat) (e : TypeId) (i : TypeInfo) (z : Value) (size bytes : Nat) (ht : P.underlying t = some (.slice e)) (hi : P.info? e = some i) (hz : i.zero = some z)
    (hsize : i.size = size) (hby : i.bytes = bytes) (hzs : z.cells.size = size) (hsz : 0 < size)
    (v : Value) (n : Nat) (xs : List Value) (hs : a.eval s = v) (hown : w.ownsRow base e size v n xs)
    (B : Nat) (A : Option Addr) (m c : Nat) (news : List Value) (hx : a.eval x = .slice A m c) (hr : Reads w B size A m news) (h1 : ∀ u ∈ news, u.oneCell' = true)
    (h63 : n + m ≤ maxLen) (hbytes : (n + m) * bytes ≤ 140737488355328) (hbase : base ≤ w.heap.size)
    (h : ∀ v' w', w'.ownsRow base e size v' (n + m) (xs ++ news) → w.grownBy w' v.ownBlock → (v'.ownBlock = v.ownBlock ∨ v'.ownBlock = some w.heap.size) → wpList P ops Q rest (a.put o.dst v') w') : wpList P ops Q (o :: rest) a w :=
  wpList_plain hgd fun _ hK => wp_append_any w s x t ho base e i z size bytes ht hi hz hsize hby hzs hsz v n xs hs hown B A m c news hx hr h1 h63 hbytes hbase fun v' w' h2 h3 h4 => hK _ _ (h v' w' h2 h3 h4)

theorem step_append_any {ops : Array Oper} {o : Oper} {a : Act} {K : Act → World → Prop} {Q : Exit → Act → World → Prop} {E : Prop} (hgd : o.guard = none) (s x : Operand) (t : TypeId)
    (ho : o.op = .call { callee := .builtin .append, args := #[s, x], argTypes := #[t, t] })
    (base : Nat) (e : TypeId) (i : TypeInfo) (z : Value) (size bytes : Nat) (ht : P.underlying t = some (.slice e)) (hi : P.info? e = some i) (hz : i.zero = some z)
    (hsize : i.size = size) (hby : i.bytes = bytes) (hzs : z.cells.size = size) (hsz : 0 < size)
    (v : Value) (n : Nat) (xs : List Value) (hs : a.eval s = v) (hown : w.ownsRow base e size v n xs)
    (B : Nat) (A : Option Addr) (m c : Nat) (news : List Value) (hx : a.eval x = .slice A m c) (hr : Reads w B size A m news) (h1 : ∀ u ∈ news, u.oneCell' = true)
    (h63 : n + m ≤ maxLen) (hbytes : (n + m) * bytes ≤ 140737488355328) (hbase : base ≤ w.heap.size)
    (h : ∀ v' w', w'.ownsRow base e size v' (n + m) (xs ++ news) → w.grownBy w' v.ownBlock → (v'.ownBlock = v.ownBlock ∨ v'.ownBlock = some w.heap.size) → K (a.put o.dst v') w') :
    if Region.wanted o (yielded ops a.tmps) = true then Oper.wp P o a w K Q else E := by
  have hw : Region.wanted o (yielded ops a.tmps) = true := by simp [Region.wanted, hgd]
  rw [if_pos hw]
  exact wp_append_any w s x t ho base e i z size bytes ht hi hz hsize hby hzs hsz v n xs hs hown B A m c news hx hr h1 h63 hbytes hbase h
end

theorem add_none (g o j : Nat) : (⟨g, o, none⟩ : Addr).add j = ⟨g, o + j, none⟩ := by
  unfold Addr.add
  by_cases h : j = 0 <;> simp [h]
/-- a slice of rows of c cells that reads as a list, below block B -/
def At {α : Type} (w : World) (B c : Nat) (f : α → List Value) (A : Option Addr) (us : List α) : Prop :=
  0 < us.length → ∃ g off, A = some ⟨g, off, none⟩ ∧ g < B ∧ ∀ i u, us[i]? = some u → ∀ j v, (f u)[j]? = some v → w.cell? ⟨g, off + i * c + j, none⟩ = some v
section
variable {α : Type} {w w' : World} {B B' c : Nat} {f : α → List Value} {A : Option Addr} {us : List α}
theorem At.nil : At w B c f A ([] : List α) := fun h => absurd h (by simp)
theorem At.keep (h : At w B c f A us) (hB : ∀ i, i < B → w'.heap[i]? = w.heap[i]?) : At w' B c f A us := fun hl => by
  obtain ⟨g, off, ha, hlt, hc⟩ := h hl
  exact ⟨g, off, ha, hlt, fun i u hu j v hv => by rw [World.cell?_of_block (hB g hlt)]; exact hc i u hu j v hv⟩
theorem At.below (h : At w B c f A us) (k : Below B w w') : At w' B c f A us := h.keep k.block
theorem At.mono (h : At w B c f A us) (hB : B ≤ B') : At w B' c f A us := fun hl => by
  obtain ⟨g, off, ha, hlt, hc⟩ := h hl
  exact ⟨g, off, ha, by omega, hc⟩
theorem flat_get (hf : ∀ u, (f u).length = c) : ∀ (us : List α) (i j : Nat), j < c → (us.flatMap f)[i * c + j]? = (us[i]?).bind fun u => (f u)[j]?
  | [], i, j, hj => by simp
  | u :: us, 0, j, hj => by
    simp only [List.flatMap_cons, Nat.zero_mul, Nat.zero_add, List.getElem?_cons_zero, Option.bind_some]
    rw [List.getElem?_append_left (by rw [hf]; exact hj)]
  | u :: us, i + 1, j, hj => by
    simp only [List.flatMap_cons, List.getElem?_cons_succ]
    rw [List.getElem?_append_right (by rw [hf, Nat.add_mul]; omega), hf, ← flat_get hf us i j hj]
    congr 1
    rw [Nat.add_mul]; omega
theorem flat_len (hf : ∀ u, (f u).length = c) (us : List α) : (us.flatMap f).length = us.length * c := by
  induction us with
  | nil => simp
  | cons u us ih => rw [List.flatMap_cons, List.length_append, hf, ih, List.length_cons, Nat.add_mul]; omega
theorem at_of_own {base n cap : Nat} {e : TypeId} (hf : ∀ u, (f u).length = c) (h : w.ownsRow base e c (.slice A n cap) n (us.flatMap f)) (hn : us.length = n) : At w w.heap.size c f A us := fun hl => by
  obtain ⟨g, cap', hv, hlt, hg⟩ := h.form (by omega)
  have hA : A = some ⟨g, 0, none⟩ := by injection hv
  subst hA
  refine ⟨g, 0, rfl, by omega, fun i u hu j v hv => ?_⟩
  have hj : j < c := by have := (List.getElem?_eq_some_iff.1 hv).1; rw [hf] at this; exact this
  have := h.cells (g := g) rfl (i * c + j) v (by rw [flat_get hf us i j hj, hu]; exact hv)
  rw [add_none, ← Nat.add_assoc] at this
  exact this
theorem reads_of_at (hc : 0 < c) (hf : ∀ u, (f u).length = c) (h : At w B c f A us) : Reads w B c A us.length (us.flatMap f) := by
  refine ⟨flat_len hf us, fun hl => ?_⟩
  obtain ⟨g, off, ha, hlt, hcell⟩ := h hl
  refine ⟨⟨g, off, none⟩, ha, hlt, fun j u hu => ?_⟩
  have hj : j < us.length * c := by have := (List.getElem?_eq_some_iff.1 hu).1; rwa [flat_len hf] at this
  have hi : j / c < us.length := Nat.div_lt_of_lt_mul (by rwa [Nat.mul_comm])
  have hm : j % c < c := Nat.mod_lt _ hc
  have e : j / c * c + j % c = j := by rw [Nat.mul_comm]; exact Nat.div_add_mod j c
  have hu' : (us.flatMap f)[j / c * c + j % c]? = some u := by rw [e]; exact hu
  rw [flat_get hf us _ _ hm, List.getElem?_eq_getElem hi] at hu'
  have := hcell (j / c) us[j / c] (List.getElem?_eq_getElem hi) (j % c) u hu'
  rw [show off + j / c * c + j % c = off + j from by omega] at this
  rw [add_none]
  exact this
theorem at_lit {g : Nat} {cs : Array Value} {t : TypeId} (hf : ∀ u, (f u).length = c) (h : w.heap[g]? = some (.cells cs t (0, 0))) (hcs : cs.toList = us.flatMap f) (hg : g < B) : At w B c f (some ⟨g, 0, none⟩) us := fun hl => by
  refine ⟨g, 0, rfl, hg, fun i u hu j v hv => ?_⟩
  have hj : j < c := by have := (List.getElem?_eq_some_iff.1 hv).1; rw [hf] at this; exact this
  have h1 : cs.toList[i * c + j]? = some v := by rw [hcs, flat_get hf us i j hj, hu]; exact hv
  rw [Nat.zero_add]
  simp only [World.cell?, h]
  rw [Array.getElem?_toList] at h1
  simpa using h1
theorem set_flat (hf : ∀ u, (f u).length = c) : ∀ (us : List α) (i j : Nat) (u u' : α) (v : Value), us[i]? = some u → j < c → f u' = (f u).set j v → (us.set i u').flatMap f = (us.flatMap f).set (i * c + j) v
  | [], i, j, u, u', v, h, hj, hu => by simp at h
  | x :: us, 0, j, u, u', v, h, hj, hu => by
    simp at h; subst h
    simp only [List.set_cons_zero, List.flatMap_cons, Nat.zero_mul, Nat.zero_add, hu]
    rw [List.set_append_left _ _ (by rw [hf]; exact hj)]
  | x :: us, i + 1, j, u, u', v, h, hj, hu => by
    simp only [List.getElem?_cons_succ] at h
    simp only [List.set_cons_succ, List.flatMap_cons]
    rw [set_flat hf us i j u u' v h hj hu, List.set_append_right _ _ (by rw [hf, Nat.add_mul]; omega)]
    congr 2
    rw [hf, Nat.add_mul]; omega
theorem own_set {base n cap g i j : Nat} {e : TypeId} {u u' : α} {v : Value} (hf : ∀ u, (f u).length = c) (h : w.ownsRow base e c (.slice (some ⟨g, 0, none⟩) n cap) n (us.flatMap f))
    (hu : us[i]? = some u) (hj : j < c) (hv : f u' = (f u).set j v) : (w.setCell ⟨g, i * c + j, none⟩ v).ownsRow base e c (.slice (some ⟨g, 0, none⟩) n cap) n ((us.set i u').flatMap f) := by
  rw [set_flat hf us i j u u' v hu hj hv]
  exact (h.stored _ _).1
theorem own_cell {base n cap g i j : Nat} {e : TypeId} {u : α} {v : Value} (hf : ∀ u, (f u).length = c) (h : w.ownsRow base e c (.slice (some ⟨g, 0, none⟩) n cap) n (us.flatMap f))
    (hu : us[i]? = some u) (hv : (f u)[j]? = some v) : w.cell? ⟨g, i * c + j, none⟩ = some v := by
  have hj : j < c := by have := (List.getElem?_eq_some_iff.1 hv).1; rw [hf] at this; exact this
  have hi : i < us.length := (List.getElem?_eq_some_iff.1 hu).1
  have hl : us.length * c = n * c := by rw [← flat_len hf]; exact h.1
  have : i * c + j < us.length * c := by
    have h1 : i * c + c ≤ us.length * c := by rw [← Nat.succ_mul]; exact Nat.mul_le_mul_right c hi
    omega
  rw [h.cellAt _ (by omega), flat_get hf us i j hj, hu]; exact hv
theorem own_take {base n n' cap g : Nat} {e : TypeId} (hf : ∀ u, (f u).length = c) (h : w.ownsRow base e c (.slice (some ⟨g, 0, none⟩) n cap) n (us.flatMap f)) (hn : n' ≤ n) (hl : us.length = n) :
    w.ownsRow base e c (.slice (some ⟨g, 0, none⟩) n' cap) n' ((us.take n').flatMap f) := by
  obtain ⟨h1, h2⟩ := h
  refine ⟨by rw [flat_len hf, List.length_take, Nat.min_eq_left (by omega)], .inr ?_⟩
  rcases h2 with ⟨hv, _⟩ | ⟨g', cap', cur, hv, hb, hh, hnc, hcm, hcs, htk⟩
  · cases hv
  · injection hv with hv1 hv2 hv3
    injection hv1 with hv1
    injection hv1 with hv1
    subst hv1; subst hv3
    refine ⟨g, cap, cur, rfl, hb, hh, by omega, hcm, hcs, ?_⟩
    have h3 : us.flatMap f = (us.take n').flatMap f ++ (us.drop n').flatMap f := by rw [← List.flatMap_append, List.take_append_drop]
    have h4 : cur.toList.take (n' * c) = (cur.toList.take (n * c)).take (n' * c) := by
      rw [List.take_take, Nat.min_eq_left (Nat.mul_le_mul_right c hn)]
    rw [h4, htk, h3, List.take_append_of_le_length (by rw [flat_len hf, List.length_take, Nat.min_eq_left (by omega)]; exact Nat.le_refl _)]
    exact List.take_of_length_le (by rw [flat_len hf, List.length_take, Nat.min_eq_left (by omega)]; exact Nat.le_refl _)
theorem own_cap {base n cap : Nat} {e : TypeId} {xs : List Value} (h : w.ownsRow base e c (.slice A n cap) n xs) : n ≤ cap ∧ cap ≤ maxLen := by
  rcases h.2 with ⟨hv, hn⟩ | ⟨g, cap', cur, hv, _, _, h1, h2, _⟩
  · injection hv with _ h1 h2
    rw [h1, h2]; exact ⟨Nat.le_refl _, Nat.zero_le _⟩
  · injection hv with _ _ hc
    subst hc; exact ⟨h1, h2⟩
theorem own_below {base n cap g : Nat} {e : TypeId} {xs : List Value} (h : w.ownsRow base e c (.slice (some ⟨g, 0, none⟩) n cap) n xs) (k : Below B w w') (hg : g < B) : w'.ownsRow base e c (.slice (some ⟨g, 0, none⟩) n cap) n xs := by
  refine ⟨h.1, ?_⟩
  rcases h.2 with h1 | ⟨g', cap', cur, hv, hb, hh, h2⟩
  · exact .inl h1
  · refine .inr ⟨g', cap', cur, hv, hb, ?_, h2⟩
    injection hv with hv
    injection hv with hv
    injection hv with hv
    subst hv
    rw [k.block g hg]; exact hh
theorem copy_below {o : Obj} (hg : (w.alloc o).grownBy w' (some w.heap.size)) : Below w.heap.size w w' :=
  ((Below.refl w.heap.size w).alloc (Nat.le_refl _) o).grown hg (by simp) (by intro q hq; injection hq with hq; omega)
theorem copied {base n : Nat} {e : TypeId} {v : Value} {xs : List Value} (h : w.ownsRow base e c v (0 + n) ([] ++ xs)) (hn : 0 < n) :
    ∃ g cap, v = .slice (some ⟨g, 0, none⟩) n cap ∧ base ≤ g ∧ n ≤ cap ∧ w.ownsRow base e c (.slice (some ⟨g, 0, none⟩) n cap) n xs := by
  rw [Nat.zero_add, List.nil_append] at h
  obtain ⟨g, cap, hv, hb, _⟩ := h.form hn
  subst hv
  exact ⟨g, cap, rfl, hb, (own_cap h).1, h⟩
theorem own_form {base n : Nat} {e : TypeId} {v : Value} {xs : List Value} (h : w.ownsRow base e c v n xs) : ∃ A cap, v = .slice A n cap := by
  rcases h.2 with ⟨hv, hn⟩ | ⟨g, cap, cur, hv, _⟩
  · exact ⟨none, 0, by rw [hv, hn]⟩
  · exact ⟨_, _, hv⟩
end

end Go.Proofs.YtmlmdpdboigojaaGreatDoor

namespace Go.Proofs.YtmlmdpdboigojaaGreatDoor
set_option linter.unusedVariables false
open Go.RowKit

/-- a slice of the call's own, from block B on, that holds these elements -/
def OwnL {α : Type} (E : TypeId) (size : Nat) (f : α → List Value) (w : World) (B : Nat) (v : Value) (us : List α) : Prop := w.ownsRow B E size v us.length (us.flatMap f)
section
variable {α : Type} {E : TypeId} {size : Nat} {f : α → List Value} {w w' : World} {B : Nat} {v : Value} {us : List α}
theorem OwnL.form (h : OwnL E size f w B v us) : ∃ A c, v = .slice A us.length c ∧ us.length ≤ c ∧ c ≤ maxLen := by
  obtain ⟨A, c, rfl⟩ := own_form h
  exact ⟨A, c, rfl, (own_cap h).1, (own_cap h).2⟩
theorem OwnL.form' (h : OwnL E size f w B v us) (hl : 0 < us.length) : ∃ g c, v = .slice (some ⟨g, 0, none⟩) us.length c ∧ B ≤ g ∧ us.length ≤ c := by
  obtain ⟨g, c, rfl, hb, _⟩ := World.ownsRow.form h hl
  exact ⟨g, c, rfl, hb, (own_cap h).1⟩
theorem OwnL.at_ {A : Option Addr} {c n : Nat} (h : OwnL E size f w B (.slice A n c) us) (hf : ∀ u, (f u).length = size) (hn : us.length = n) : At w w.heap.size size f A us := by
  subst hn
  exact at_of_own hf h rfl
theorem OwnL.blk {q : Nat} (h : OwnL E size f w B v us) (hq : v.ownBlock = some q) : B ≤ q := (h.lt q hq).1
theorem OwnL.blt {q : Nat} (h : OwnL E size f w B v us) (hq : v.ownBlock = some q) : q < w.heap.size := (h.lt q hq).2
theorem OwnL.below (h : OwnL E size f w B v us) (hb : Below w.heap.size w w') : OwnL E size f w' B v us :=
  h.kept (row := none) ⟨hb.os, hb.tape, hb.output, hb.size, fun i hi _ => hb.block i hi⟩ (by cases hq : v.ownBlock <;> simp)
theorem OwnL.alloc (h : OwnL E size f w B v us) (o : Obj) : OwnL E size f (w.alloc o) B v us := World.ownsRow.alloc h o
/-- the base may be lowered -/
theorem OwnL.base {B' : Nat} (h : OwnL E size f w B v us) (hB : B' ≤ B) : OwnL E size f w B' v us := by
  refine ⟨h.1, ?_⟩
  rcases h.2 with h1 | ⟨g, cap, cur, h2, h3, h4⟩
  · exact .inl h1
  · exact .inr ⟨g, cap, cur, h2, Nat.le_trans hB h3, h4⟩
theorem ownL_nil (w : World) (hB : B ≤ w.heap.size) : OwnL E size f (w.alloc (.cells #[] E)) B (.slice (some ⟨w.heap.size, 0, none⟩) 0 0) ([] : List α) := by
  have := World.ownsRow_lit (base := w.heap.size) (e := E) (size := size) w #[] 0 (Nat.le_refl _) (Nat.zero_le _) (by simp)
  exact OwnL.base (f := f) (us := ([] : List α)) this hB
end

section
variable {α : Type} {P : Program} (w : World)
theorem run_snoc (T ty E : TypeId) (i : TypeInfo) (z : Value) (size bytes : Nat) (ht : P.underlying T = some (.slice E)) (hi : P.info? E = some i) (hz : i.zero = some z)
    (hsize : i.size = size) (hby : i.bytes = bytes) (hzs : z.cells.size = size) (hsz : 0 < size) (f : α → List Value) (hf : ∀ u, (f u).length = size) (h1 : ∀ u, ∀ v ∈ f u, v.oneCell' = true)
    (B : Nat) (v : Value) (us : List α) (u : α) (hown : OwnL E size f w B v us) (cs : Array Value) (hcs : cs.toList = f u)
    (hl : us.length + 1 ≤ maxLen) (hb : (us.length + 1) * bytes ≤ 140737488355328) (hB : B ≤ w.heap.size) :
    ∃ v' w', (Builtin.append_ #[T, T] ty #[v, .slice (some ⟨w.heap.size, 0, none⟩) 1 1]).run P (w.alloc (.cells cs E)) = .ok v' w' ∧ OwnL E size f w' B v' (us ++ [u]) ∧ Below B w w' ∧ (w.alloc (.cells cs E)).grownBy w' v.ownBlock ∧ (v'.ownBlock = v.ownBlock ∨ v'.ownBlock = some (w.heap.size + 1)) := by
  have hr : Reads (w.alloc (.cells cs E)) (w.heap.size + 1) size (some ⟨w.heap.size, 0, none⟩) 1 (f u) := by
    have := reads_of_at hsz hf (at_lit (us := [u]) (B := w.heap.size + 1) (f := f) hf (heap_alloc_new w (.cells cs E)) (by rw [hcs]; simp) (by omega))
    simpa using this
  obtain ⟨v', w', hrun, hown', hg, hbk⟩ := run_append_any (P := P) (w.alloc (.cells cs E)) B T ty E i z size bytes ht hi hz hsize hby hzs hsz v us.length _ (OwnL.alloc hown _) _ _ 1 1 _ hr (h1 u) hl hb (Nat.le_trans hB (by simp))
  refine ⟨v', w', hrun, ?_, ?_, hg, by simpa using hbk⟩
  · unfold OwnL
    rw [List.length_append, List.flatMap_append]
    simpa using hown'
  · exact ((Below.refl B w).alloc hB _).grown hg (Nat.le_trans hB (by simp)) (fun q hq => OwnL.blk hown hq)

theorem wpList_snoc {ops : Array Oper} {rest : List Oper} {o : Oper} {a : Act} {Q : Exit → Act → World → Prop} (hgd : o.guard = none) (s x : Operand) (T : TypeId)
    (ho : o.op = .call { callee := .builtin .append, args := #[s, x], argTypes := #[T, T] })
    (E : TypeId) (i : TypeInfo) (z : Value) (size bytes : Nat) (ht : P.underlying T = some (.slice E)) (hi : P.info? E = some i) (hz : i.zero = some z)
    (hsize : i.size = size) (hby : i.bytes = bytes) (hzs : z.cells.size = size) (hsz : 0 < size) (f : α → List Value) (hf : ∀ u, (f u).length = size) (h1 : ∀ u, ∀ v ∈ f u, v.oneCell' = true)
    (B : Nat) (v : Value) (us : List α) (u : α) (hs : a.eval s = v) (hown : OwnL E size f w B v us) (cs : Array Value) (hcs : cs.toList = f u) (hx : a.eval x = .slice (some ⟨w.heap.size, 0, none⟩) 1 1)
    (hl : us.length + 1 ≤ maxLen) (hb : (us.length + 1) * bytes ≤ 140737488355328) (hB : B ≤ w.heap.size)
    (h : ∀ v' w', OwnL E size f w' B v' (us ++ [u]) → Below B w w' → (w.alloc (.cells cs E)).grownBy w' v.ownBlock → wpList P ops Q rest (a.put o.dst v') w') : wpList P ops Q (o :: rest) a (w.alloc (.cells cs E)) := by
  refine wpList_plain hgd fun _ hK => ?_
  obtain ⟨v', w', hrun, h2, h3, h4, _⟩ := run_snoc (P := P) w T o.type E i z size bytes ht hi hz hsize hby hzs hsz f hf h1 B v us u hown cs hcs hl hb hB
  unfold Oper.wp execOp
  simp only [ho, resolve, invoke, builtin, Sem.run_bind, Sem.run_pure, Result.andThen_ok, List.map_toArray, List.map_cons, List.map_nil, hs, hx, hrun]
  exact hK _ _ (h v' w' h2 h3 h4)

/-- the same, and where the new slice lies -/
theorem wpList_snocAt {ops : Array Oper} {rest : List Oper} {o : Oper} {a : Act} {Q : Exit → Act → World → Prop} (hgd : o.guard = none) (s x : Operand) (T : TypeId)
    (ho : o.op = .call { callee := .builtin .append, args := #[s, x], argTypes := #[T, T] })
    (E : TypeId) (i : TypeInfo) (z : Value) (size bytes : Nat) (ht : P.underlying T = some (.slice E)) (hi : P.info? E = some i) (hz : i.zero = some z)
    (hsize : i.size = size) (hby : i.bytes = bytes) (hzs : z.cells.size = size) (hsz : 0 < size) (f : α → List Value) (hf : ∀ u, (f u).length = size) (h1 : ∀ u, ∀ v ∈ f u, v.oneCell' = true)
    (B : Nat) (v : Value) (us : List α) (u : α) (hs : a.eval s = v) (hown : OwnL E size f w B v us) (cs : Array Value) (hcs : cs.toList = f u) (hx : a.eval x = .slice (some ⟨w.heap.size, 0, none⟩) 1 1)
    (hl : us.length + 1 ≤ maxLen) (hb : (us.length + 1) * bytes ≤ 140737488355328) (hB : B ≤ w.heap.size)
    (h : ∀ v' w', OwnL E size f w' B v' (us ++ [u]) → Below B w w' → (w.alloc (.cells cs E)).grownBy w' v.ownBlock → (v'.ownBlock = v.ownBlock ∨ v'.ownBlock = some (w.heap.size + 1)) → wpList P ops Q rest (a.put o.dst v') w') : wpList P ops Q (o :: rest) a (w.alloc (.cells cs E)) := by
  refine wpList_plain hgd fun _ hK => ?_
  obtain ⟨v', w', hrun, h2, h3, h4, h5⟩ := run_snoc (P := P) w T o.type E i z size bytes ht hi hz hsize hby hzs hsz f hf h1 B v us u hown cs hcs hl hb hB
  unfold Oper.wp execOp
  simp only [ho, resolve, invoke, builtin, Sem.run_bind, Sem.run_pure, Result.andThen_ok, List.map_toArray, List.map_cons, List.map_nil, hs, hx, hrun]
  exact hK _ _ (h v' w' h2 h3 h4 h5)

/-- a whole slice, wherever it lies, appended onto a slice of the call's own -/
theorem wpList_join {ops : Array Oper} {rest : List Oper} {o : Oper} {a : Act} {Q : Exit → Act → World → Prop} (hgd : o.guard = none) (s x : Operand) (T : TypeId)
    (ho : o.op = .call { callee := .builtin .append, args := #[s, x], argTypes := #[T, T] })
    (E : TypeId) (i : TypeInfo) (z : Value) (size bytes : Nat) (ht : P.underlying T = some (.slice E)) (hi : P.info? E = some i) (hz : i.zero = some z)
    (hsize : i.size = size) (hby : i.bytes = bytes) (hzs : z.cells.size = size) (hsz : 0 < size) (f : α → List Value) (hf : ∀ u, (f u).length = size) (h1 : ∀ u, ∀ v ∈ f u, v.oneCell' = true)
    (B : Nat) (v : Value) (us : List α) (hs : a.eval s = v) (hown : OwnL E size f w B v us) (B2 : Nat) (A : Option Addr) (vs : List α) (m c : Nat) (hm : vs.length = m) (hx : a.eval x = .slice A m c) (hat : At w B2 size f A vs)
    (hl : us.length + m ≤ maxLen) (hb : (us.length + m) * bytes ≤ 140737488355328) (hB : B ≤ w.heap.size)
    (h : ∀ v' w', OwnL E size f w' B v' (us ++ vs) → Below B w w' → w.grownBy w' v.ownBlock → wpList P ops Q rest (a.put o.dst v') w') : wpList P ops Q (o :: rest) a w := by
  subst hm
  refine wpList_append_any w hgd s x T ho B E i z size bytes ht hi hz hsize hby hzs hsz v us.length _ hs hown B2 A vs.length c _ hx (reads_of_at hsz hf hat) ?_ hl hb hB ?_
  · intro x hx
    obtain ⟨u, _, hu⟩ := List.mem_flatMap.1 hx
    exact h1 u x hu
  · intro v' w' h2 h3 _
    refine h v' w' ?_ ((Below.refl B w).grown h3 hB (fun q hq => OwnL.blk hown hq)) h3
    unfold OwnL
    rw [List.length_append, List.flatMap_append]
    exact h2
end

end Go.Proofs.YtmlmdpdboigojaaGreatDoor

namespace Go.Proofs.YtmlmdpdboigojaaGreatDoor
set_option linter.unusedVariables false
open Go.RowKit Go.ChangeShapes Go.WideShapes Go.Deep

section
variable {H : Type} {enc : TypeId × Value → H} {P : Program} {w : World} {base : Nat} {spare : Nat → Bool} {held : Bool}
theorem open_slice_fields {t e : TypeId} {fs : Array Field} {fuel : Nat} {cs : List Value} {x : DataW H × List MemPlace} (ht : P.underlying t = some (.slice e)) (he : P.underlying e = some (.struct fs))
    (hone : oneCellFields P fs = true) (hC : P.cellsOf e = fs.size) (h : DataW.trod enc P w base spare held fuel t cs = some x) :
    (cs = [.slice none 0 0] ∧ x = (.nil, [])) ∨
    ∃ (a : Addr) (len cap m : Nat) (D : Nat → DataW H) (Pl : Nat → List MemPlace), cs = [.slice (some a) len cap] ∧ base ≤ a.block ∧ len ≤ cap ∧ cap ≤ maxLen ∧ m = (if spare a.block then cap else len) ∧
      x = (.slice ((List.range len).map D) ((List.range (m - len)).map fun j => D (len + j)), MemPlace.row a (m * fs.size) ++ (List.range m).flatMap Pl) ∧
      ∀ i, i < m → ∃ (ys : List (DataW H × List MemPlace)) (n : Nat), D i = .agg (ys.map (·.1)) ∧ Pl i = ys.flatMap (·.2) ∧ ys.length = fs.size ∧
        ∀ (j : Nat) (f : Field), fs[j]? = some f → ∃ (v : Value) (y : DataW H × List MemPlace), w.cell? (a.add (i * fs.size + j)) = some v ∧ ys[j]? = some y ∧ DataW.trod enc P w base spare held n f.type [v] = some y := by
  rcases open_slice ht h with h0 | ⟨a, len, cap, m, n, D, Pl, hcs, hb, hl, hm, hmm, hx, hi⟩
  · exact .inl h0
  · refine .inr ⟨a, len, cap, m, D, Pl, hcs, hb, hl, hm, hmm, by rw [hC] at hx; exact hx, fun i him => ?_⟩
    obtain ⟨cs', hc, ht'⟩ := hi i him
    rw [hC] at hc
    obtain ⟨ys, n', hn', hy, hlen, hyl, hf⟩ := DataW.trod_struct he ht'
    obtain ⟨_, hcl, hat⟩ := World.cells?_some hc
    simp only [Prod.mk.injEq] at hy
    refine ⟨ys, n', hy.1, hy.2, hyl, fun j f hj => ?_⟩
    obtain ⟨ho, hk⟩ := hone_of hone j f hj
    have hjl : j < fs.size := (Array.getElem?_eq_some_iff.1 hj).1
    have hcell := hat j hjl
    have hv : cs'[j]? = some (cs'[j]'(by omega)) := List.getElem?_eq_getElem (by omega)
    have h1 := hf j f hj
    rw [ho, hk] at h1
    have hone' : (cs'.drop j).take 1 = [cs'[j]'(by omega)] := by
      rw [List.drop_eq_getElem_cons (by omega)]
      rfl
    rw [hone'] at h1
    have hys : ys[j]? = some (ys[j]'(by omega)) := List.getElem?_eq_getElem (by omega)
    refine ⟨_, _, ?_, hys, h1.trans hys⟩
    rw [← Go.Deep.add_add, hcell, hv]
end
theorem run_make_rowN {P : Program} (t e : TypeId) (i : TypeInfo) (z : Value) (ht : P.underlying t = some (.slice e)) (hi : P.info? e = some i) (hz : i.zero = some z)
    (kl kc : IntKind) (n c : Nat) (hnc : n ≤ c) (hbytes : i.bytes * c ≤ 281474976710656) (h63 : c ≤ 9223372036854775807) (w : World) :
    (Instr.makeSlice t (.int kl (n : Int)) (.int kc (c : Int))).run P w = .ok (.slice (some ⟨w.heap.size, 0, none⟩) n c) (w.alloc (.cells (madeCells z.cells (c * i.size)) e)) := by
  have hb : (i.bytes : Int) * (c : Int) ≤ 281474976710656 := by
    have h : ((i.bytes * c : Nat) : Int) ≤ 281474976710656 := by omega
    rwa [Int.natCast_mul] at h
  have hr := run_make (P := P) w t e i z ht hi hz kl kc n c (by omega) (by omega) hb (by omega)
  simp only [Int.toNat_natCast] at hr
  exact hr

theorem choose_list {α : Type} {Q : Nat → α → Prop} : ∀ n, (∀ i, i < n → ∃ u, Q i u) → ∃ us : List α, us.length = n ∧ ∀ i u, us[i]? = some u → Q i u
  | 0, _ => ⟨[], rfl, fun i u h => by simp at h⟩
  | n + 1, h => by
    obtain ⟨us, hl, hq⟩ := choose_list n (fun i hi => h i (by omega))
    obtain ⟨u, hu⟩ := h n (by omega)
    refine ⟨us ++ [u], by simp [hl], fun i v hv => ?_⟩
    rcases Nat.lt_or_ge i n with hi | hi
    · rw [List.getElem?_append_left (by omega)] at hv
      exact hq i v hv
    · rw [List.getElem?_append_right (by omega)] at hv
      have : i - us.length < 1 := by
        have := (List.getElem?_eq_some_iff.1 hv).1
        simpa using this
      have e : i = n := by omega
      subst e
      rw [hl, Nat.sub_self] at hv
      simp at hv
      subst hv; exact hu

theorem made_flat {α : Type} {c n : Nat} {f : α → List Value} {z : Array Value} {u : α} (hc : 0 < c) (hf : ∀ u, (f u).length = c) (hz : z.toList = f u) : (madeCells z (n * c)).toList = (List.replicate n u).flatMap f := by
  have hzs : z.size = c := by rw [← Array.length_toList, hz, hf]
  apply List.ext_getElem?
  intro j
  rcases Nat.lt_or_ge j (n * c) with hj | hj
  · have hi : j / c < n := Nat.div_lt_of_lt_mul (by rwa [Nat.mul_comm])
    have hm : j % c < c := Nat.mod_lt _ hc
    have e : j / c * c + j % c = j := by rw [Nat.mul_comm]; exact Nat.div_add_mod j c
    have h1 : ((List.replicate n u).flatMap f)[j]? = (f u)[j % c]? := by
      conv => lhs; rw [← e]
      rw [flat_get hf _ _ _ hm, List.getElem?_replicate, if_pos hi]; rfl
    rw [h1, ← hz]
    simp only [madeCells, Array.toList_map, Array.toList_range, List.getElem?_map, List.getElem?_range hj, Option.map_some, Array.getElem?_toList]
    rw [hzs, Array.getElem?_eq_getElem (by omega : j % c < z.size), getElem!_pos z (j % c) (by omega)]
  · rw [List.getElem?_eq_none (by rw [Array.length_toList, size_madeCells]; exact hj), List.getElem?_eq_none (by rw [flat_len hf, List.length_replicate]; exact hj)]

end Go.Proofs.YtmlmdpdboigojaaGreatDoor

namespace Go.Proofs.YtmlmdpdboigojaaGreatDoor
set_option linter.unusedVariables false
open Go.RowKit

/-- what counting gives: a number not above what was left; where it is not negative, Q holds -/
def Szd (left : Int) (Q : Prop) (w : World) (e : Ending) (w' : World) : Prop :=
  ∃ r : Int, e = .returned (.int .i64 r) ∧ -1 ≤ r ∧ r ≤ left ∧ (0 ≤ r → Q) ∧ Below w.heap.size w w'

end Go.Proofs.YtmlmdpdboigojaaGreatDoor
