/- slices.Backward over items; queueLink of the program. -/
import Derived.RangeFuncNested
import Derived.RangeFuncBound
import Derived.RangeFuncCalls
import Derived.RangeFuncLeaves
import Derived.RangeFuncFrom
import Derived.RangeFuncOwn
import Derived.Shelf.Abstract
import Derived.Shelf.RegionOpen
import Derived.WalkKit
import Derived.OwnWalkIn
import Derived.TacticsInMore
import Derived.LoopNIn
import Derived.LoopIn
import Derived.Stop.RegionWithIn
import Derived.Test.YtpbaimofffcnaaaQlW
namespace Go.Proofs.Ytpbaimofffcnaaa
set_option linter.unusedVariables false
open Go.RowKit Go.Shelf
attribute [local go_sem] Oper.semAt_some

theorem obj_kept {W W' : World} {row : Option Nat} {q : Nat} {o : Obj} (h : W.heap[q]? = some o) (ho : o.isCells = true) (hg : W.grownBy W' row) (hr : ∀ r, row = some r → ∃ o : Obj, W.heap[r]? = some o ∧ o.isCells = false) : W'.heap[q]? = some o := by
  refine (hg.block q (Array.getElem?_eq_some_iff.1 h).1 ?_).trans h
  intro e
  obtain ⟨o', h1, h2⟩ := hr q e.symm
  rw [h] at h1; injection h1 with h1; subst h1
  rw [ho] at h2; cases h2

/-- an item that is yielded, with its place -/
abbrev Bk.E (ls : List Qi.L) := {x : Qi.L // x ∈ ls} × Nat
def Bk.all (ls : List Qi.L) : List (Bk.E ls) := ls.attach.zipIdx.reverse
theorem Bk.all_len (ls : List Qi.L) : (Bk.all ls).length = ls.length := by unfold Bk.all; simp
theorem Bk.all_get {ls : List Qi.L} {k i : Nat} (h : k + i + 1 = ls.length) {u : Qi.L} (hu : ls[i]? = some u) : ∃ x : Bk.E ls, (Bk.all ls)[k]? = some x ∧ x.1.1 = u ∧ x.2 = i := by
  have hi : i < ls.length := by omega
  have e : ls[i] = u := (List.getElem?_eq_some_iff.1 hu).2
  refine ⟨(⟨ls[i], List.getElem_mem hi⟩, i), ?_, e, rfl⟩
  unfold Bk.all
  rw [List.getElem?_reverse (by simp; omega)]
  simp only [List.length_zipIdx, List.length_attach]
  rw [show ls.length - 1 - k = i by omega]
  rw [List.getElem?_zipIdx]
  rw [List.getElem?_eq_getElem (by simpa using hi)]
  simp
theorem Bk.all_vals (ls : List Qi.L) : (Bk.all ls).reverse.map (fun x => x.1.1) = ls := by
  unfold Bk.all
  rw [List.reverse_reverse]
  have h1 : (ls.attach.zipIdx.map (fun x : Bk.E ls => x.1.1)) = (ls.attach.zipIdx.map Prod.fst).map Subtype.val := by rw [List.map_map]; rfl
  rw [h1, List.zipIdx_map_fst, List.attach_map_subtype_val]
def Bk.enc (ls : List Qi.L) (x : Bk.E ls) : Array Value := #[.int .i64 (x.2 : Int), .agg #[.int .i64 x.1.1.id, .string x.1.1.f, .string x.1.1.t, .slice x.1.1.A x.1.1.us.length x.1.1.c]]
/-- the arguments and one variable lie as they lay -/
def Bk.Kp (B Bs : Nat) (W W' : World) : Prop := Below B W W' ∧ W'.heap[Bs]? = W.heap[Bs]?
theorem Bk.Kp.refl (B Bs : Nat) (W : World) : Bk.Kp B Bs W W := ⟨Below.refl _ _, rfl⟩
theorem Bk.Kp.trans {B Bs : Nat} {W W' W'' : World} (h : Bk.Kp B Bs W W') (k : Bk.Kp B Bs W' W'') : Bk.Kp B Bs W W'' := ⟨h.1.trans k.1, k.2.trans h.2⟩
def Bk.Ran {ls : List Qi.L} (J Jx : List (Bk.E ls) → World → Prop) (e : Ending) (W' : World) : Prop :=
  (∃ v, e = .returned v) ∧ ((∃ ys, ys = Bk.all ls ∧ J ys W') ∨ (∃ pre, True ∧ Jx pre W'))

set_option maxRecDepth 100000 in
set_option maxHeartbeats 2000000 in
theorem backward_in (F : Fence) (n : Nat) (hf : F.fn 58) (hro : F.round = none) (hn : 1 ≤ n) (l B Bs : Nat) (A : Option Addr) (ls : List Qi.L) (c : Nat) (hl6 : ls.length ≤ 1000) (J Jx : List (Bk.E ls) → World → Prop)
    (hY : ∀ pre x W, J pre W → pre.length < ls.length → YieldAt F (n - 1) Try.prog l (Bk.enc ls x) W fun e W' =>
      (e = .returned (.bool true) ∧ J (pre ++ [x]) W' ∧ Bk.Kp B Bs W W') ∨ (e = .returned (.bool false) ∧ Jx (pre ++ [x]) W'))
    (W : World) (hs : W.cell? ⟨Bs, 0, none⟩ = some (.slice A ls.length c)) (ha : AtItems W B A ls) (h0 : J [] W) :
    CallsIn F n Try.prog 58 #[.func (.yield l) #[] #[], .pointer (some ⟨Bs, 0, none⟩)] W (Bk.Ran J Jx) := by
  refine callsIn_of_wp Try.func58 rfl hf ?_ hro
  simp only [Try.ntmps58, List.size_toArray, List.length_cons, List.length_nil, Nat.reduceAdd, Nat.reduceSub, Array.replicate_succ, Array.replicate_zero, List.push_toArray, List.append_toArray, List.nil_append, List.cons_append]
  have HY := Lib.hid hY
  have HA := Lib.hid ha
  clear hY ha
  gi_wp2
  gi_loopw [3] (fun i wr => ∃ k : Nat, k ≤ ls.length ∧ i = .int .i64 ((ls.length : Int) - 1 - (k : Int)) ∧ Hid (J ((Bk.all ls).take k) wr) ∧ Bk.Kp B Bs W wr)
    (fun i _ => (intOf i + 1).toNat)
  case atStart => exact ⟨0, Nat.zero_le _, by simp, Lib.hid h0, Bk.Kp.refl _ _ _⟩
  case round =>
    obtain ⟨k, hkn, rfl, HJ, hnx⟩ := hrel
    have hs' : wr.cell? ⟨Bs, 0, none⟩ = some (.slice A ls.length c) := (World.cell?_of_block hnx.2).trans hs
    by_cases hlt : k < ls.length
    · obtain ⟨i, hi⟩ : ∃ i, k + i + 1 = ls.length := ⟨ls.length - 1 - k, by omega⟩
      have hil : i < ls.length := by omega
      have hic : (ls.length : Int) - 1 - (k : Int) = (i : Int) := by omega
      obtain ⟨u, hu⟩ : ∃ u, ls[i]? = some u := ⟨_, List.getElem?_eq_getElem hil⟩
      obtain ⟨x, hx, hxu, hxi⟩ := Bk.all_get hi hu
      obtain ⟨g, off, hA, hg, hc⟩ := (HA.out.below hnx.1).row (by omega)
      obtain ⟨d0, d1, d2, d3⟩ := hc i u hu
      have HTK : Hid ((Bk.all ls).take (k + 1) = (Bk.all ls).take k ++ [x]) := Lib.hid (by rw [List.take_add_one, hx]; rfl)
      obtain ⟨fn, tmps, assign, body, hy, hR⟩ := HY.out _ x wr HJ.out (by rw [List.length_take, Bk.all_len]; omega)
      have henc : Bk.enc ls x = #[.int .i64 (i : Int), .agg #[.int .i64 u.id, .string u.f, .string u.t, .slice u.A u.us.length u.c]] := by unfold Bk.enc; rw [hxu, hxi]
      rw [henc] at hy
      rw [hic]
      subst hA
      clear hc hu hx hxu hxi henc
      have hcn : (i : Int) < (ls.length : Int) := by omega
      gi_wp2
      refine hR.mono ?_
      rintro e W3 (⟨rfl, hJ3, hk3⟩ | ⟨rfl, hJx3⟩)
      · have HJ3 := Lib.hid hJ3
        clear hJ3 hy hR
        gi_wp2
        go_roundw
        case rel => exact ⟨k + 1, by omega, by first | (simp; done) | (simp; omega), Lib.hid (by rw [HTK.out]; exact HJ3.out), hnx.trans hk3⟩
        case measure => first | (simp [intOf]; done) | (simp [intOf]; omega)
      · gi_wp2
        refine bodyPost_ret (results_none rfl _ _ _) rfl ?_
        exact ⟨⟨_, rfl⟩, .inr ⟨_, trivial, hJx3⟩⟩
    · obtain rfl : k = ls.length := by omega
      have hic : (ls.length : Int) - 1 - (ls.length : Int) = -1 := by omega
      rw [hic]
      gi_wp2
      go_end0
      exact ⟨⟨_, rfl⟩, .inl ⟨_, by rw [← Bk.all_len, List.take_length], HJ.out⟩⟩

theorem backward_mk (F : Fence) (n : Nat) (hf : F.fn 44) (hro : F.round = none) (A : Option Addr) (m c : Nat) (w : World) :
    CallsIn F n Try.prog 44 #[.slice A m c] w fun e w' => e = .returned (.func (.func 58) #[] #[.pointer (some ⟨w.heap.size, 0, none⟩)]) ∧ w' = w.alloc (.cells #[.slice A m c] 27) := by
  refine callsIn_of_wp Try.func44 rfl hf ?_ hro
  simp only [Try.ntmps44, List.size_toArray, List.length_cons, List.length_nil, Nat.reduceAdd, Nat.reduceSub, Array.replicate_succ, Array.replicate_zero, List.push_toArray, List.append_toArray, List.nil_append, List.cons_append]
  gi_wp2
  go_ret
  exact ⟨rfl, rfl⟩
theorem backward_stops (F : Fence) (n : Nat) (hf : F.fn 58) (hro : F.round = none) (hn : 1 ≤ n) (B Bs : Nat) (A : Option Addr) (ls : List Qi.L) (c : Nat) (hl6 : ls.length ≤ 1000) (w : World) (hBs : Bs < w.heap.size)
    (hs : w.cell? ⟨Bs, 0, none⟩ = some (.slice A ls.length c)) (ha : AtItems w B A ls) (hB : B ≤ w.heap.size) :
    SeqStopsK F n Try.prog 58 #[.pointer (some ⟨Bs, 0, none⟩)] (Bk.enc ls) (Bk.Kp B Bs) (fun ys => ys = Bk.all ls) (fun _ => True) ls.length w := fun l J Jx W hW _ _ hY h0 =>
  backward_in F n hf hro hn l B Bs A ls c hl6 J Jx hY W ((hW.cell (p := ⟨Bs, 0, none⟩) hBs).trans hs) (ha.below (hW.mono hB)) h0

/-- a list of nodes: each with an item whose names are a list of the call's own -/
def Lk (W : World) (B : Nat) : Value → List (List ByteArray) → Prop
  | v, [] => v = .pointer none
  | v, us :: r => ∃ (g : Nat) (id : Int) (f t : ByteArray) (A : Option Addr) (c : Nat) (nx : Value), v = .pointer (some ⟨g, 0, none⟩) ∧ W.heap[g]? = some (.cells #[.int .i64 id, .string f, .string t, .slice A us.length c, nx] 59 (0, 0)) ∧ B ≤ g ∧ St.Own W B (.slice A us.length c) us ∧ (∀ u ∈ us, u.size ≤ maxLen) ∧ us.length ≤ maxLen ∧ Lk W B nx r
def Lk.Same (W W' : World) : Prop := ∀ (q : Nat) (cs : Array Value) (T : TypeId), T = 9 ∨ T = 59 → W.heap[q]? = some (.cells cs T (0, 0)) → W'.heap[q]? = some (.cells cs T (0, 0))
theorem Lk.own_same {W W' : World} {B : Nat} {v : Value} {us : List ByteArray} (h : St.Own W B v us) (hk : Lk.Same W W') : St.Own W' B v us := by
  refine ⟨h.1, ?_⟩
  rcases h.2 with h1 | ⟨g, cap, cur, hv, hB, hx, hr⟩
  · exact .inl h1
  · exact .inr ⟨g, cap, cur, hv, hB, hk g cur _ (.inl rfl) hx, hr⟩
theorem Lk.keep {W W' : World} {B : Nat} (hk : Lk.Same W W') : ∀ {l : List (List ByteArray)} {v : Value}, Lk W B v l → Lk W' B v l
  | [], v, h => h
  | us :: r, v, ⟨g, id, f, t, A, c, nx, h1, h2, h3, h4, h5, h6, h7⟩ => ⟨g, id, f, t, A, c, nx, h1, hk g _ _ (.inr rfl) h2, h3, Lk.own_same h4 hk, h5, h6, Lk.keep hk h7⟩
theorem Lk.same_below {W W' : World} (h : Below W.heap.size W W') : Lk.Same W W' := fun q cs T _ hq => (h.block q (Array.getElem?_eq_some_iff.1 hq).1).trans hq
theorem Lk.same_set {W : World} {b : Nat} {cs : Array Value} {T : TypeId} (hb : W.heap[b]? = some (.cells cs T (0, 0))) (h1 : T ≠ 9) (h2 : T ≠ 59) (i : Nat) (v : Value) : Lk.Same W (W.setCell ⟨b, i, none⟩ v) := fun q cs' T' hT hq => by
  refine (Below.heap_setCell _ _ _ _ (fun e => ?_)).trans hq
  subst e
  rw [hb] at hq
  injection hq with hq; injection hq with _ hq _
  rcases hT with hT | hT
  · exact h1 (hq.trans hT)
  · exact h2 (hq.trans hT)
theorem Lk.same_trans {a b c : World} (h : Lk.Same a b) (k : Lk.Same b c) : Lk.Same a c := fun q cs T hT hq => k q cs T hT (h q cs T hT hq)
/-- the variable that holds the first node -/
def Lk.Var (B b : Nat) (l : List (List ByteArray)) (W : World) : Prop := ∃ v, W.heap[b]? = some (.cells #[v] 56 (0, 0)) ∧ Lk W B v l
def Lk.I (w : World) (ls : List Qi.L) (b Bs : Nat) (x0 : Value) (pre : List (Bk.E ls)) (W : World) : Prop :=
  (Lk.Var w.heap.size b (pre.reverse.map (fun x => x.1.1.us)) W ∧ W.heap[Bs]? = some (.cells #[x0] 27 (0, 0))) ∧ Below w.heap.size w W

theorem Lk.below_putObj {W : World} {B l : Nat} {o : Obj} (hl : B ≤ l) : Below B W (W.putObj l o) := ⟨rfl, rfl, rfl, by simp [World.putObj], fun i hi => World.putObj_heap_other (by omega)⟩
theorem Lk.same_put {W : World} {D : Nat} {o o' : Obj} (h : W.heap[D]? = some o) (hn : ∀ (cs : Array Value) (T : TypeId) (fr : Nat × Nat), o ≠ .cells cs T fr) : Lk.Same W (W.putObj D o') := fun q cs T _ hq => (World.putObj_heap_other (fun e => by subst e; rw [h] at hq; injection hq with hq; exact hn _ _ _ hq)).trans hq
theorem Lk.others_below {W W' : World} (h : Below W.heap.size W W') : KeepsOthers W W' := ⟨h.size, fun k o hk _ => (h.block k (Array.getElem?_eq_some_iff.1 hk).1).trans hk⟩
theorem Lk.ptr {W : World} {B : Nat} {v : Value} : ∀ {l : List (List ByteArray)}, Lk W B v l → ∃ q, v = .pointer q
  | [], h => ⟨_, h⟩
  | us :: r, ⟨g, _, _, _, _, _, _, h, _⟩ => ⟨_, h⟩
theorem Lk.I.below {w W W' : World} {ls : List Qi.L} {b Bs : Nat} {x0 : Value} {pre : List (Bk.E ls)} (h : Lk.I w ls b Bs x0 pre W) (hb : Below W.heap.size W W') : Lk.I w ls b Bs x0 pre W' := by
  obtain ⟨⟨⟨v, hv, hl⟩, hx⟩, hB⟩ := h
  exact ⟨⟨⟨v, (hb.block b (Array.getElem?_eq_some_iff.1 hv).1).trans hv, Lk.keep (Lk.same_below hb) hl⟩, (hb.block Bs (Array.getElem?_eq_some_iff.1 hx).1).trans hx⟩, hB.trans (hb.mono hB.size)⟩
theorem Lk.same_obj {A C : World} {row : Option Nat} (hg : A.grownBy C row) (hr : ∀ r, row = some r → ∃ o : Obj, A.heap[r]? = some o ∧ o.isCells = false) : Lk.Same A C := fun q cs T _ hq => obj_kept hq rfl hg hr
theorem Lk.I.own {w : World} {ls : List Qi.L} {b Bs : Nat} {x0 : Value} {B : Nat} (hB : w.heap.size ≤ B) : OwnFrom B (Lk.I w ls b Bs x0) :=
  OwnFrom.and (Own.from (fun s A C row hs hg hr => by
    obtain ⟨⟨v, hv, hl⟩, hx⟩ := hs
    exact ⟨⟨v, obj_kept hv rfl hg hr, Lk.keep (Lk.same_obj hg hr) hl⟩, obj_kept hx rfl hg hr⟩) _) (ownFrom_below (Nat.le_refl _) hB)
/-- an item is put ahead -/
theorem Lk.I.cons {w W W1 : World} {ls : List Qi.L} {b Bs : Nat} {x0 : Value} {pre : List (Bk.E ls)} {x : Bk.E ls} {A : Option Addr} {c : Nat} {v : Value} (hbB : w.heap.size ≤ b) (hbs : b ≠ Bs)
    (hi : Lk.I w ls b Bs x0 pre W) (hv : W.heap[b]? = some (.cells #[v] 56 (0, 0))) (hb : Below W.heap.size W W1) (ho : St.Own W1 W.heap.size (.slice A x.1.1.us.length c) x.1.1.us) (hz : (∀ u ∈ x.1.1.us, u.size ≤ maxLen) ∧ x.1.1.us.length ≤ maxLen) :
    Lk.I w ls b Bs x0 (pre ++ [x]) ((W1.setCell ⟨b, 0, none⟩ (.pointer (some ⟨W1.heap.size, 0, none⟩))).alloc (.cells #[.int .i64 x.1.1.id, .string x.1.1.f, .string x.1.1.t, .slice A x.1.1.us.length c, v] 59)) := by
  obtain ⟨⟨⟨v', hv', hl⟩, hx⟩, hB⟩ := hi.below hb
  have hvv : v' = v := by
    have h3 := (hb.block b (Array.getElem?_eq_some_iff.1 hv).1).trans hv
    rw [hv'] at h3
    injection h3 with h3; injection h3 with h3 _ _; simpa using h3
  subst hvv
  have hs := Lk.same_set hv' (by decide) (by decide) 0 (.pointer (some ⟨W1.heap.size, 0, none⟩))
  have hv2 := ow_set1 hv' (.pointer (some ⟨W1.heap.size, 0, none⟩))
  have hx2 := ow_setOther (i := 0) (v := .pointer (some ⟨W1.heap.size, 0, none⟩)) hx hbs
  have hl2 := Lk.keep hs hl
  have ho2 := Lk.own_same ho hs
  have hB2 := hB.setCell (p := ⟨b, 0, none⟩) hbB (.pointer (some ⟨W1.heap.size, 0, none⟩))
  have hsz : (W1.setCell ⟨b, 0, none⟩ (.pointer (some ⟨W1.heap.size, 0, none⟩))).heap.size = W1.heap.size := by simp
  have hbz := hB.size
  have hwz := hi.2.size
  generalize W1.setCell ⟨b, 0, none⟩ (.pointer (some ⟨W1.heap.size, 0, none⟩)) = W2 at hv2 hx2 hl2 ho2 hB2 hsz ⊢
  have hal : Below W2.heap.size W2 (W2.alloc (.cells #[.int .i64 x.1.1.id, .string x.1.1.f, .string x.1.1.t, .slice A x.1.1.us.length c, v'] 59)) := Below.alloc (Below.refl _ _) (Nat.le_refl _) _
  have hnew := heap_alloc_new W2 (.cells #[.int .i64 x.1.1.id, .string x.1.1.f, .string x.1.1.t, .slice A x.1.1.us.length c, v'] 59)
  refine ⟨⟨⟨_, (hal.block b (Array.getElem?_eq_some_iff.1 hv2).1).trans hv2, ?_⟩, (hal.block Bs (Array.getElem?_eq_some_iff.1 hx2).1).trans hx2⟩, hB2.trans (hal.mono hB2.size)⟩
  rw [List.reverse_append, List.map_append]
  rw [hsz] at hnew
  exact ⟨W1.heap.size, x.1.1.id, x.1.1.f, x.1.1.t, A, c, v', rfl, hnew, hbz, OwnL.base (OwnL.below ho2 hal) hwz, hz.1, hz.2, Lk.keep (Lk.same_below hal) hl2⟩
def Lk.Ax (w : World) (nx : Int) (A : Option Addr) (n c : Nat) (ls : List Qi.L) (x : Bk.E ls) (a : Act) (W : World) : Prop :=
  ∃ p, a = { tmps := #[.agg #[.int .i64 nx, .slice A n c], .pointer (some ⟨w.heap.size, 0, none⟩), .pointer none, .pointer (some ⟨w.heap.size + 1, 0, none⟩), undef, .pointer (some ⟨p, 0, none⟩), .pointer (some ⟨w.heap.size, 1, none⟩), .slice A n c, .func (.func 58) #[] #[.pointer (some ⟨w.heap.size + 1 + 1, 0, none⟩)], .int .i64 (x.2 : Int), .agg #[.int .i64 x.1.1.id, .string x.1.1.f, .string x.1.1.t, .slice x.1.1.A x.1.1.us.length x.1.1.c], undef, undef, undef, undef, undef, undef], defers := [] } ∧
    W.heap[p]? = some (.cells #[.int .i64 x.1.1.id, .string x.1.1.f, .string x.1.1.t, .slice x.1.1.A x.1.1.us.length x.1.1.c] 43 (0, 0))

set_option maxRecDepth 100000 in
set_option maxHeartbeats 4000000 in
theorem queueLink_any (nx : Int) (A : Option Addr) (ls : List Qi.L) (c : Nat) (w : World) (h : AtItems w w.heap.size A ls) (hn : ls.length ≤ 6) (hx3 : ∀ x ∈ ls, x.us.length ≤ 3) :
    Calls Try.prog 27 #[.agg #[.int .i64 nx, .slice A ls.length c]] w fun e w' => ∃ v, e = .returned v ∧ Lk w' w.heap.size v (ls.map (·.us)) ∧ Below w.heap.size w w' := by
  refine (callsIn_wide (n := 6)).1 ?_
  refine callsIn_of_wp_marks Try.func27 rfl trivial ?_ rfl
  simp only [Try.ntmps27, List.size_toArray, List.length_cons, List.length_nil, Nat.reduceAdd, Nat.reduceSub, Array.replicate_succ, Array.replicate_zero, List.push_toArray, List.append_toArray, List.nil_append, List.cons_append]
  gi_wp2_with (refine ⟨trivial, ?_⟩; gi_at_call 44; refine (backward_mk Fence.wide _ trivial rfl A ls.length c _).mono ?_; rintro e w' ⟨rfl, rfl⟩)
  have hx1 : (((w.alloc (.cells #[.int .i64 nx, .slice A ls.length c] 29)).alloc (.cells #[.pointer none] 56)).alloc (.cells #[.slice A ls.length c] 27)).heap[w.heap.size + 1]? = some (.cells #[.pointer none] 56 (0, 0)) := by
    refine (Below.heap_alloc _ _ _ (by simp)).trans ?_
    simpa using heap_alloc_new (w.alloc (.cells #[.int .i64 nx, .slice A ls.length c] 29)) (.cells #[.pointer none] 56)
  have hx2 : (((w.alloc (.cells #[.int .i64 nx, .slice A ls.length c] 29)).alloc (.cells #[.pointer none] 56)).alloc (.cells #[.slice A ls.length c] 27)).heap[w.heap.size + 1 + 1]? = some (.cells #[.slice A ls.length c] 27 (0, 0)) := by
    simpa using heap_alloc_new ((w.alloc (.cells #[.int .i64 nx, .slice A ls.length c] 29)).alloc (.cells #[.pointer none] 56)) (.cells #[.slice A ls.length c] 27)
  have hB0 : Below w.heap.size w (((w.alloc (.cells #[.int .i64 nx, .slice A ls.length c] 29)).alloc (.cells #[.pointer none] 56)).alloc (.cells #[.slice A ls.length c] 27)) := (((Below.refl _ w).alloc (Nat.le_refl _) _).alloc (by simp) _).alloc (by simp; omega) _
  have hz : (((w.alloc (.cells #[.int .i64 nx, .slice A ls.length c] 29)).alloc (.cells #[.pointer none] 56)).alloc (.cells #[.slice A ls.length c] 27)).heap.size = w.heap.size + 3 := by simp
  generalize (((w.alloc (.cells #[.int .i64 nx, .slice A ls.length c] 29)).alloc (.cells #[.pointer none] 56)).alloc (.cells #[.slice A ls.length c] 27)) = W0 at hx1 hx2 hB0 hz ⊢
  refine wpIn_rangeFunc_ownH rfl (by omega) (gf := 58) (lb := #[.pointer (some ⟨w.heap.size + 1 + 1, 0, none⟩)]) rfl trivial (enters_of Try.func58 (by kernel_rfl) rfl)
    (backward_stops Fence.wide _ trivial rfl (by omega) w.heap.size (w.heap.size + 1 + 1) A ls c (by omega) W0 (by omega) (cell_at hx2 0 _ rfl) (h.below hB0) (by omega)) (fun h k => h.trans k) (fun W l o o' hl _ _ _ => ⟨Lk.below_putObj (by omega), World.putObj_heap_other (by omega)⟩) (Below.refl _ _) (fun _ => rfl)
    (Lk.I w ls (w.heap.size + 1) (w.heap.size + 1 + 1) (.slice A ls.length c)) (fun _ _ _ => False)
    (Lk.I.own (by omega))
    (fun _ _ _ _ _ hs _ _ => hs)
    ⟨⟨⟨_, hx1, rfl⟩, hx2⟩, hB0⟩
    (Lk.Ax w nx A ls.length c ls)
    (fun x a' _ X Y row hs hg hr => by
      obtain ⟨p, e, hp⟩ := hs
      exact ⟨p, e, obj_kept hp rfl hg (fun r er => (hr r er).2)⟩)
    ?assign ?body ?done ?stop
  case assign =>
    intro l pre x W K hi hK
    have hE := Below.alloc (Below.refl W.heap.size W) (Nat.le_refl _) (.cells #[.int .i64 x.1.1.id, .string x.1.1.f, .string x.1.1.t, .slice x.1.1.A x.1.1.us.length x.1.1.c] 43)
    have hnew := heap_alloc_new W (.cells #[.int .i64 x.1.1.id, .string x.1.1.f, .string x.1.1.t, .slice x.1.1.A x.1.1.us.length x.1.1.c] 43)
    have hK2 := hK _ _ ((KeepsOthers.alloc W (.cells #[.int .i64 x.1.1.id, .string x.1.1.f, .string x.1.1.t, .slice x.1.1.A x.1.1.us.length x.1.1.c] 43)).from _) ⟨hE.mono hi.2.size, hE.block _ (Array.getElem?_eq_some_iff.1 hi.1.2).1⟩ (hi.below hE) ⟨_, rfl, hnew⟩
    clear hK hE hnew
    simp only [Bk.enc]
    gi_wp2
    exact hK2
  case body =>
    rintro l pre x a' W hle hloop hi ⟨p, rfl, hp⟩ hlen
    obtain ⟨⟨v, hv, hlk⟩, _⟩ := hi.1
    obtain ⟨q, hq⟩ := Lk.ptr hlk
    subst hq
    have hxm := x.1.2
    have hat : Qi.At1 W W.heap.size x.1.1 := ((h.2 _ hxm).below hi.2).mono hi.2.size
    have HI := Lib.hid hi
    have HV := Lib.hid hv
    have HP := Lib.hid hp
    have hs1 : w.heap.size + 1 < W.heap.size := (Array.getElem?_eq_some_iff.1 hv).1
    have hpl : p < W.heap.size := (Array.getElem?_eq_some_iff.1 hp).1
    have HC : Hid (∀ W' : World, W'.heap = W.heap → Calls Try.prog 45 #[.agg #[.int .i64 x.1.1.id, .string x.1.1.f, .string x.1.1.t, .slice x.1.1.A x.1.1.us.length x.1.1.c]] W' fun e w' => ∃ A' c', e = .returned (.agg #[.int .i64 x.1.1.id, .string x.1.1.f, .string x.1.1.t, .slice A' x.1.1.us.length c']) ∧ St.Own w' W'.heap.size (.slice A' x.1.1.us.length c') x.1.1.us ∧ Below W'.heap.size W' w') := Lib.hid (fun W' hW => itemClone_any x.1.1 W' (by
      rw [hW]
      exact ⟨hat.1.keep (fun i _ => by rw [hW]), hat.2⟩) (by have := hx3 _ hxm; omega))
    have hzz : Hid ((∀ u ∈ x.1.1.us, u.size ≤ maxLen) ∧ x.1.1.us.length ≤ maxLen) := Lib.hid ⟨hat.1.2, Nat.le_trans hat.2.1 hat.2.2.1⟩
    have x0 : W.cell? ⟨p, 0, none⟩ = some (.int .i64 x.1.1.id) := cell_at hp 0 _ rfl
    have x1 : W.cell? ⟨p, 1, none⟩ = some (.string x.1.1.f) := cell_at hp 1 _ rfl
    have x2 : W.cell? ⟨p, 2, none⟩ = some (.string x.1.1.t) := cell_at hp 2 _ rfl
    have x3 : W.cell? ⟨p, 3, none⟩ = some (.slice x.1.1.A x.1.1.us.length x.1.1.c) := cell_at hp 3 _ rfl
    have y0 : W.cell? ⟨w.heap.size + 1, 0, none⟩ = some (.pointer q) := cell_at hv 0 _ rfl
    have g0 : W.frozen? ⟨w.heap.size + 1, 0, none⟩ = false := free_at hv 0
    clear hi hv hp hat hlk
    gi_wp2
    gi_region_with ((first | (refine ⟨trivial, ?_⟩; gi_at_call 45; refine (CallsIn.inRound l (callsIn_wide.2 (HC.out W.drew rfl))).mono ?_; rintro e w1 ⟨A1, c1, rfl, ho1, hb1⟩; have hb1' : Below W.heap.size W w1 := ⟨hb1.os, hb1.tape, hb1.output, hb1.size, hb1.block⟩; have HB1 := Lib.hid hb1'; have HO1 := Lib.hid ho1; have hv1 := (hb1'.block (w.heap.size + 1) hs1).trans HV.out; have y0 := cell_at hv1 0 _ rfl; have g0 := free_at hv1 0; have hs2 : w.heap.size + 1 < w1.heap.size := Nat.lt_of_lt_of_le hs1 hb1'.size; clear hv1 hb1 hb1' ho1)))
    all_goals
      gi_wp2
      refine ⟨?_, ?_, Lk.I.cons (by omega) (by omega) HI.out HV.out HB1.out HO1.out hzz.out⟩
      · exact ((Lk.others_below HB1.out).trans ((KeepsOthers.setCell _ _ _).trans (KeepsOthers.alloc _ _))).from _
      · have hbs := (Array.getElem?_eq_some_iff.1 HI.out.1.2).1
        have h1 := HB1.out.size
        refine ⟨((HB1.out.mono HI.out.2.size).setCell (p := ⟨w.heap.size + 1, 0, none⟩) (by simp) _).alloc (by simp; have := HI.out.2.size; omega) _, ?_⟩
        refine (Below.heap_alloc _ _ _ (by simp; omega)).trans ((Below.heap_setCell _ _ _ _ (by simp)).trans (HB1.out.block _ hbs))
  case done =>
    rintro D ys W hD rfl ⟨⟨⟨v, hv, hlk⟩, hx⟩, hB⟩ hK
    have hvals : (Bk.all ls).reverse.map (fun x => x.1.1.us) = ls.map (·.us) := by
      conv => rhs; rw [← Bk.all_vals ls]
      rw [List.map_map]; rfl
    rw [hvals] at hlk
    obtain ⟨q, hq⟩ := Lk.ptr hlk
    subst hq
    have y0 : W.cell? ⟨w.heap.size + 1, 0, none⟩ = some (.pointer q) := cell_at hv 0 _ rfl
    have HLK := Lib.hid hlk
    have HB := Lib.hid hB
    clear hlk hv hx hB
    gi_wp2
    refine ⟨by simp, .inl ⟨_, _, rfl, run_takeDeferred hK, ?_⟩⟩
    refine ⟨_, results_tmp rfl _ _ _, .pointer q, rfl, Lk.keep (Lk.same_put hK (fun _ _ _ => by simp)) HLK.out, HB.out.trans (Lk.below_putObj (by omega))⟩
  case stop =>
    rintro D c pre W _ _ h _
    exact h.elim
end Go.Proofs.Ytpbaimofffcnaaa
