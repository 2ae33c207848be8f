/- Queues of the call's own: l22Copy, l22Without, l22Take, QueueTake of the specification. -/
import Derived.Test.YtpbaimofffcnaaaQlW
import Derived.Test.YtpbaimofffcnaaaLtDraw
namespace Go.Proofs.Ytpbaimofffcnaaa
set_option linter.unusedVariables false
open Go.RowKit

/-- an item whose texts are no longer than may be -/
def Qi.Sz (x : Qi.L) : Prop := x.us.length ≤ 3 ∧ (∀ u ∈ x.us, u.size ≤ maxLen) ∧ x.f.size ≤ maxLen ∧ x.t.size ≤ maxLen
/-- items in a row of the call's own, each with a list of the call's own -/
structure Qo (w : World) (B : Nat) (v : Value) (ls : List Qi.L) : Prop where
  row : OwnL 43 4 Qi.cells w B v ls
  own : ∀ x ∈ ls, St.Own w B (.slice x.A x.us.length x.c) x.us
  siz : ∀ x ∈ ls, Qi.Sz x
namespace Qo
variable {w w' : World} {B : Nat} {v : Value} {ls : List Qi.L}
theorem below (h : Qo w B v ls) (hb : Below w.heap.size w w') : Qo w' B v ls := ⟨OwnL.below h.row hb, fun x hx => OwnL.below (h.own x hx) hb, h.siz⟩
theorem setTo (h : Qo w B v ls) {b : Nat} {cs : Array Value} {T : TypeId} (hb : w.heap[b]? = some (.cells cs T (0, 0))) (h1 : 43 ≠ T) (h2 : 9 ≠ T) (i : Nat) (x : Value) : Qo (w.setCell ⟨b, i, none⟩ x) B v ls :=
  ⟨ow_setTo h.row hb h1 i x, fun y hy => ow_setTo (h.own y hy) hb h2 i x, h.siz⟩
theorem base (h : Qo w B v ls) {B' : Nat} (hB : B' ≤ B) : Qo w B' v ls := ⟨OwnL.base h.row hB, fun x hx => OwnL.base (h.own x hx) hB, h.siz⟩
theorem grown (h : Qo w B v ls) {b : Nat} (hg : w.grownBy w' (some b)) (hb : b < B) : Qo w' B v ls := ⟨own_grown h.row hg hb, fun x hx => own_grown (h.own x hx) hg hb, h.siz⟩
theorem form (h : Qo w B v ls) : ∃ A c, v = .slice A ls.length c ∧ ls.length ≤ c ∧ c ≤ maxLen := OwnL.form h.row
theorem at1 (h : Qo w B v ls) {x : Qi.L} (hx : x ∈ ls) : Qi.At1 w w.heap.size x :=
  ⟨at_strs (OwnL.at_ (h.own x hx) St.cells_len rfl) (h.siz x hx).2.1, (own_cap (h.own x hx)).1, (own_cap (h.own x hx)).2, (h.siz x hx).2.2⟩
theorem items {A : Option Addr} {n c : Nat} (h : Qo w B (.slice A n c) ls) (hn : ls.length = n) : AtItems w w.heap.size A ls := ⟨OwnL.at_ h.row Qi.cells_len hn, fun x hx => h.at1 hx⟩
theorem nil (w : World) (B : Nat) : Qo w B (.slice none 0 0) [] := ⟨⟨rfl, .inl ⟨rfl, rfl⟩⟩, fun x hx => (by cases hx), fun x hx => (by cases hx)⟩
theorem fresh (w : World) (hB : B ≤ w.heap.size) : Qo (w.alloc (.cells #[] 43)) B (.slice (some ⟨w.heap.size, 0, none⟩) 0 0) [] := ⟨ownL_nil w hB, fun x hx => (by cases hx), fun x hx => (by cases hx)⟩
/-- the row of items turns -/
theorem turn {ls' : List Qi.L} {v' : Value} (h : Qo w B v ls) (hg : w.grownBy w' v.ownBlock) (ho : OwnL 43 4 Qi.cells w' B v' ls') (hs : ∀ x ∈ ls', x ∈ ls ∨ (St.Own w B (.slice x.A x.us.length x.c) x.us ∧ Qi.Sz x)) : Qo w' B v' ls' :=
  ⟨ho, fun x hx => by
    rcases hs x hx with hx | hx
    · exact ow_keptBy (h.own x hx) h.row (by decide) hg
    · exact ow_keptBy hx.1 h.row (by decide) hg, fun x hx => by
    rcases hs x hx with hx | hx
    · exact h.siz x hx
    · exact hx.2⟩
/-- an item is appended, and the slice is stored into a queue's variable -/
theorem push {w5 : World} {v' : Value} {x : Qi.L} {p : Nat} {nx : Int} {o : Obj} (h : Qo w B v ls) (hp : w.heap[p]? = some (.cells #[.int .i64 nx, v] 29 (0, 0))) (hpB : B ≤ p) (hB : B ≤ w.heap.size)
    (hx : St.Own w B (.slice x.A x.us.length x.c) x.us) (hz : Qi.Sz x) (ho : OwnL 43 4 Qi.cells w5 B v' (ls ++ [x])) (hg : (w.alloc o).grownBy w5 v.ownBlock) :
    Qo (w5.setCell ⟨p, 1, none⟩ v') B v' (ls ++ [x]) ∧ (w5.setCell ⟨p, 1, none⟩ v').heap[p]? = some (.cells #[.int .i64 nx, v'] 29 (0, 0)) ∧
      (∀ (q : Nat) (cs : Array Value) (T : TypeId), q ≠ p → 43 ≠ T → w.heap[q]? = some (.cells cs T (0, 0)) → (w5.setCell ⟨p, 1, none⟩ v').heap[q]? = some (.cells cs T (0, 0))) ∧ Below B w (w5.setCell ⟨p, 1, none⟩ v') ∧
      w5.heap[p]? = some (.cells #[.int .i64 nx, v] 29 (0, 0)) := by
  have ha : Below w.heap.size w (w.alloc o) := Below.alloc (Below.refl _ _) (Nat.le_refl _) _
  have h' := h.below ha
  have hp' := (ha.block p (Array.getElem?_eq_some_iff.1 hp).1).trans hp
  have hp5 := (ow_block h'.row hp' (by decide) hg).trans hp'
  have h5 : Qo w5 B v' (ls ++ [x]) := h'.turn hg ho (fun y hy => by
    rcases List.mem_append.1 hy with hy | hy
    · exact .inl hy
    · rw [List.mem_singleton] at hy; subst hy; exact .inr ⟨OwnL.below hx ha, hz⟩)
  refine ⟨h5.setTo hp5 (by decide) (by decide) 1 v', ?_, fun q cs T hq hT hc => ?_, ?_, hp5⟩
  · rw [ow_setHeap hp5]; rfl
  · have hc' := (ha.block q (Array.getElem?_eq_some_iff.1 hc).1).trans hc
    exact ow_setOther ((ow_block h'.row hc' hT hg).trans hc') (Ne.symm hq)
  · exact ((ha.mono hB).grown hg (Nat.le_trans hB ha.size) (fun q hq => OwnL.blk h'.row hq)).setCell (p := ⟨p, 1, none⟩) hpB _
end Qo
/-- how a copy of a queue begins -/
theorem Qo.start (w : World) (nx : Int) (A : Option Addr) (n c : Nat) {W : World} (hW : ((((w.alloc (.cells #[.int .i64 nx, .slice A n c] 29)).alloc (.cells #[.int .i64 0, .slice none 0 0] 29)).alloc (.cells #[] 43)).alloc (.cells #[.int .i64 nx, .slice (some ⟨w.heap.size + 1 + 1, 0, none⟩) 0 0] 29)) = W) :
    W.heap[w.heap.size]? = some (.cells #[.int .i64 nx, .slice A n c] 29 (0, 0)) ∧ W.heap[w.heap.size + 1]? = some (.cells #[.int .i64 0, .slice none 0 0] 29 (0, 0)) ∧ W.heap[w.heap.size + 1 + 1 + 1]? = some (.cells #[.int .i64 nx, .slice (some ⟨w.heap.size + 1 + 1, 0, none⟩) 0 0] 29 (0, 0)) ∧
      Qo W w.heap.size (.slice (some ⟨w.heap.size + 1 + 1, 0, none⟩) 0 0) [] ∧ Below w.heap.size w W := by
  have a1 := heap_alloc_new w (.cells #[.int .i64 nx, .slice A n c] 29)
  have s1 : (w.alloc (.cells #[.int .i64 nx, .slice A n c] 29)).heap.size = w.heap.size + 1 := by simp
  have b1 : Below w.heap.size w (w.alloc (.cells #[.int .i64 nx, .slice A n c] 29)) := Below.alloc (Below.refl _ _) (Nat.le_refl _) _
  generalize w.alloc (.cells #[.int .i64 nx, .slice A n c] 29) = w1 at a1 s1 b1 hW
  have a2 := heap_alloc_new w1 (.cells #[.int .i64 0, .slice none 0 0] 29)
  have a1' := (Below.heap_alloc w1 (.cells #[.int .i64 0, .slice none 0 0] 29) w.heap.size (by omega)).trans a1
  have s2 : (w1.alloc (.cells #[.int .i64 0, .slice none 0 0] 29)).heap.size = w.heap.size + 1 + 1 := by simp [s1]
  have b2 := b1.alloc b1.size (.cells #[.int .i64 0, .slice none 0 0] 29)
  rw [s1] at a2
  clear a1 s1 b1
  generalize w1.alloc (.cells #[.int .i64 0, .slice none 0 0] 29) = w2 at a2 a1' s2 b2 hW
  have q3 := Qo.fresh w2 b2.size
  have a1'' := (Below.heap_alloc w2 (.cells #[] 43) w.heap.size (by omega)).trans a1'
  have a2' := (Below.heap_alloc w2 (.cells #[] 43) (w.heap.size + 1) (by omega)).trans a2
  have s3 : (w2.alloc (.cells #[] 43)).heap.size = w.heap.size + 1 + 1 + 1 := by simp [s2]
  have b3 := b2.alloc b2.size (.cells #[] 43)
  rw [s2] at q3
  clear a1' a2 s2 b2
  generalize w2.alloc (.cells #[] 43) = w3 at a1'' a2' s3 b3 q3 hW
  have e4 : Below w3.heap.size w3 (w3.alloc (.cells #[.int .i64 nx, .slice (some ⟨w.heap.size + 1 + 1, 0, none⟩) 0 0] 29)) := Below.alloc (Below.refl _ _) (Nat.le_refl _) _
  have a4 := heap_alloc_new w3 (.cells #[.int .i64 nx, .slice (some ⟨w.heap.size + 1 + 1, 0, none⟩) 0 0] 29)
  rw [s3] at a4
  rw [hW] at e4 a4
  exact ⟨(e4.block _ (by omega)).trans a1'', (e4.block _ (by omega)).trans a2', a4, q3.below e4, b3.trans (e4.mono b3.size)⟩
theorem Qi.cells_arr (x : Qi.L) : (#[.int .i64 x.id, .string x.f, .string x.t, .slice x.A x.us.length x.c] : Array Value).toList = Qi.cells x := rfl

/-- what a copy is -/
def Qo.Copied (nx : Int) (ls : List Qi.L) (w : World) (e : Ending) (w' : World) : Prop := ∃ v ms, e = .returned (.agg #[.int .i64 nx, v]) ∧ Qo w' w.heap.size v ms ∧ ms.map Qi.v = ls.map Qi.v ∧ Below w.heap.size w w'
set_option maxRecDepth 100000 in
set_option maxHeartbeats 3200000 in
theorem l22Copy_any (nx : Int) (A : Option Addr) (ls : List Qi.L) (c : Nat) (w : World) (h : AtItems w w.heap.size A ls) (hn : ls.length ≤ 6) (hz : ∀ x ∈ ls, Qi.Sz x) :
    Calls Try.prog 54 #[.agg #[.int .i64 nx, .slice A ls.length c]] w (Qo.Copied nx ls w) := by
  obtain ⟨i0, hi, hz0, hz1, hz2⟩ := info_parts str_info
  obtain ⟨j0, hj, hy0, hy1, hy2⟩ := info_parts item_info
  have HA : Hid (∀ w', Below w.heap.size w w' → AtItems w' w'.heap.size A ls) := Lib.hid fun w' hb' => (h.below hb').mono hb'.size
  have HZ := Lib.hid hz
  clear h hz
  go_enter Try.func54, Try.ntmps54
  go_upto_region 2 with fail
  generalize hW : ((((w.alloc (.cells #[.int .i64 nx, .slice A ls.length c] 29)).alloc (.cells #[.int .i64 0, .slice none 0 0] 29)).alloc (.cells #[] 43)).alloc (.cells #[.int .i64 nx, .slice (some ⟨w.heap.size + 1 + 1, 0, none⟩) 0 0] 29)) = w0
  obtain ⟨hs0, hr0, hp0, hq0, hb0⟩ := Qo.start w nx A ls.length c hW
  clear hW
  obtain ⟨s, hs⟩ : ∃ s, s = w.heap.size := ⟨_, rfl⟩
  have HSE := Lib.hid hs
  obtain ⟨p, hp⟩ : ∃ p, p = w.heap.size + 1 + 1 + 1 := ⟨_, rfl⟩
  obtain ⟨r, hr⟩ : ∃ r, r = w.heap.size + 1 := ⟨_, rfl⟩
  have hsp : s ≠ p := by omega
  have hrp : r ≠ p := by omega
  have hwp : w.heap.size ≤ p := by omega
  have hwr : w.heap.size ≤ r := by omega
  have hws : w.heap.size ≤ s := by omega
  rw [← hp, ← hr, ← hs]
  rw [← hs] at hs0
  rw [← hp] at hp0
  rw [← hr] at hr0
  have HS0 := Lib.hid hs0
  have HR0 := Lib.hid hr0
  have HP0 := Lib.hid hp0
  have HQ0 := Lib.hid hq0
  have HB0 := Lib.hid hb0
  clear hs0 hr0 hp0 hq0 hb0 hp hr hs
  go_wp2_with fail
  go_loopg [4] ls.length (fun g i wr => ∃ (k : Nat) (ms : List Qi.L) (v : Value), k ≤ ls.length ∧ Hid (g = ls.length - k) ∧ i = .int .i64 k ∧ Hid (ms.map Qi.v = (ls.map Qi.v).take k) ∧ Hid (Qo wr w.heap.size v ms) ∧ Hid (wr.heap[s]? = some (.cells #[.int .i64 nx, .slice A ls.length c] 29 (0, 0))) ∧ Hid (wr.heap[r]? = some (.cells #[.int .i64 0, .slice none 0 0] 29 (0, 0))) ∧ Hid (wr.heap[p]? = some (.cells #[.int .i64 nx, v] 29 (0, 0))) ∧ Hid (Below w.heap.size w wr))
  case atStart => exact ⟨0, [], _, Nat.zero_le _, Lib.hid rfl, rfl, Lib.hid rfl, HQ0, HS0, HR0, HP0, HB0⟩
  case round =>
    obtain ⟨k, ms, v, hk, HG, rfl, HMV, HQ, HS, HR, HP, HB⟩ := hrel
    have b1 : wr.cell? ⟨s, 1, none⟩ = some (.slice A ls.length c) := cell_at HS.out 1 _ rfl
    by_cases hlt : k < ls.length
    · have hki : (k : Int) < (ls.length : Int) := by omega
      have HI := Lib.hid (HA.out wr HB.out)
      obtain ⟨g, off, hA, hg, hc⟩ := HI.out.row (by omega)
      obtain ⟨u, hu⟩ : ∃ u, ls[k]? = some u := ⟨_, List.getElem?_eq_getElem hlt⟩
      obtain ⟨d0, d1, d2, d3⟩ := hc k u hu
      have HTV := Lib.hid (Qu.take_v hu)
      have HU := Lib.hid (HI.out.2 u (List.mem_of_getElem? hu))
      have HUZ := Lib.hid (HZ.out u (List.mem_of_getElem? hu))
      subst hA
      clear hc hu
      obtain ⟨id, f, t, A1, us, c1⟩ := u
      dsimp only at d0 d1 d2 d3
      have hE := Below.alloc (Below.refl wr.heap.size wr) (Nat.le_refl _) (.cells #[.int .i64 id, .string f, .string t, .slice A1 us.length c1] 43)
      have hx := heap_alloc_new wr (.cells #[.int .i64 id, .string f, .string t, .slice A1 us.length c1] 43)
      go_upto_region 6 with fail
      generalize wr.alloc (.cells #[.int .i64 id, .string f, .string t, .slice A1 us.length c1] 43) = w2 at hE hx ⊢
      obtain ⟨q, hq⟩ : ∃ q, q = wr.heap.size := ⟨_, rfl⟩
      have hqw : wr.heap.size ≤ q := by omega
      rw [← hq] at hx ⊢
      clear hq d0 d1 d2 d3 b1
      have hql := (Array.getElem?_eq_some_iff.1 hx).1
      have HX2 := Lib.hid hx
      have HE2 := Lib.hid hE
      have x3 : w2.cell? ⟨q, 3, none⟩ = some (.slice A1 us.length c1) := cell_at hx 3 _ rfl
      have HO : Hid (St.Own (w2.alloc (.cells #[] 9)) w2.heap.size (.slice (some ⟨w2.heap.size, 0, none⟩) 0 0) ([] : List ByteArray)) := Lib.hid (ownL_nil w2 (Nat.le_refl _))
      have hE3 : Below w2.heap.size w2 (w2.alloc (.cells #[] 9)) := Below.alloc (Below.refl _ _) (Nat.le_refl _) _
      have HAT := Lib.hid (At.strs_of (((HU.out.1.below hE).mono hE.size).below hE3))
      have HM1 : Hid (([] : List ByteArray).length + us.length ≤ maxLen) := Lib.hid (by have := HUZ.out.1; dsimp only at this; unfold maxLen; simp; omega)
      have HM2 : Hid ((([] : List ByteArray).length + us.length) * 16 ≤ 140737488355328) := Lib.hid (by have := HUZ.out.1; dsimp only at this; simp; omega)
      have HM3 : Hid (w2.heap.size ≤ (w2.alloc (.cells #[] 9)).heap.size) := Lib.hid hE3.size
      have HE3 := Lib.hid hE3
      clear hx hE hE3
      go_upto_region 7 with (first | (at_builtin; refine wpList_join _ rfl (.tmp 22) (.tmp 24) _ rfl 9 i0 _ 1 16 Try.underlying41 hi hz0 hz1 hz2 rfl (by omega) St.cells St.cells_len Qi.one_str w2.heap.size _ [] rfl HO.out _ A1 us us.length c1 rfl rfl HAT.out HM1.out HM2.out HM3.out ?_; intro v5 w5 hown5 hb5 hg5; obtain ⟨A5, c5, rfl, _, _⟩ := OwnL.form hown5; have HO5 := Lib.hid hown5; have HB5 := Lib.hid (HE3.out.trans hb5); have hx5 := (HB5.out.block q hql).trans HX2.out; have y3 := cell_at hx5 3 _ rfl; have f3 := free_at hx5 3; clear hown5 hb5 hg5 hx5))
      have hx5 := (HB5.out.block q hql).trans HX2.out
      have hq5 : q < w5.heap.size := Nat.lt_of_lt_of_le hql HB5.out.size
      have hw6 := (HE2.out.trans (HB5.out.mono HE2.out.size)).setCell (p := ⟨q, 3, none⟩) hqw (.slice A5 us.length c5)
      have hl6 := ow_setTo HO5.out hx5 (by decide) 3 (.slice A5 us.length c5)
      have hx6 := ow_setHeap (i := 3) (v := .slice A5 us.length c5) hx5
      clear y3 f3
      generalize w5.setCell ⟨q, 3, none⟩ (.slice A5 us.length c5) = w6 at hw6 hl6 hx6 ⊢
      have hB26 := HE2.out.size
      have HL6 : Hid (St.Own w6 w.heap.size (.slice A5 us.length c5) us) := Lib.hid (OwnL.base hl6 (Nat.le_trans HB.out.size hB26))
      have HQ6 := Lib.hid (HQ.out.below hw6)
      have HS6 := Lib.hid ((hw6.block s (Array.getElem?_eq_some_iff.1 HS.out).1).trans HS.out)
      have HR6 := Lib.hid ((hw6.block r (Array.getElem?_eq_some_iff.1 HR.out).1).trans HR.out)
      have HP6 := Lib.hid ((hw6.block p (Array.getElem?_eq_some_iff.1 HP.out).1).trans HP.out)
      have HB6 := Lib.hid (HB.out.trans (hw6.mono HB.out.size))
      have x0 := cell_at hx6 0 _ rfl
      have x1 := cell_at hx6 1 _ rfl
      have x2 := cell_at hx6 2 _ rfl
      have x3 := cell_at hx6 3 _ rfl
      obtain ⟨A9, c9, hv, _, _⟩ := HQ6.out.form
      subst hv
      have p1 := cell_at HP6.out 1 _ rfl
      have hml : ms.length ≤ 6 := by have e := congrArg List.length HMV.out; rw [List.length_map, List.length_take, List.length_map] at e; omega
      have HN1 : Hid (ms.length + 1 ≤ maxLen) := Lib.hid (by unfold maxLen; omega)
      have HN2 : Hid ((ms.length + 1) * 64 ≤ 140737488355328) := Lib.hid (by omega)
      have hBw : w.heap.size ≤ w6.heap.size := HB6.out.size
      have hpl6 : p < w6.heap.size := (Array.getElem?_eq_some_iff.1 HP6.out).1
      clear hx5 hw6 hl6 hx6 hB26 HQ HS HR HP HB HO HAT HM1 HM2 HM3 HE2 HE3 HX2 HO5 HB5
      go_wp2_with (first | (at_builtin; refine wpList_snoc _ rfl (.tmp 28) (.tmp 30) _ rfl 43 j0 _ 4 64 Try.underlying27 hj hy0 hy1 hy2 rfl (by omega) Qi.cells Qi.cells_len Qi.one1 w.heap.size _ ms (⟨id, f, t, A5, us, c5⟩ : Qi.L) rfl HQ6.out.row _ rfl rfl HN1.out HN2.out hBw ?_; intro v7 w7 hown7 hb7 hg7; obtain ⟨A7, c7, rfl, _, _⟩ := OwnL.form hown7; have HPU := Lib.hid (HQ6.out.push (x := ⟨id, f, t, A5, us, c5⟩) HP6.out hwp hBw HL6.out HUZ.out hown7 hg7); have p7 := cell_at HPU.out.2.2.2.2 1 _ rfl; have f7 := free_at HPU.out.2.2.2.2 1; clear hown7 hb7 hg7))
      have HQ8 := Lib.hid HPU.out.1
      have HP8 := Lib.hid HPU.out.2.1
      have HS8 := Lib.hid (HPU.out.2.2.1 s _ _ hsp (by decide) HS6.out)
      have HR8 := Lib.hid (HPU.out.2.2.1 r _ _ hrp (by decide) HR6.out)
      have HB8 := Lib.hid (HB6.out.trans HPU.out.2.2.2.1)
      rw [show (ms ++ [(⟨id, f, t, A5, us, c5⟩ : Qi.L)]).length = ms.length + 1 by simp] at HQ8 HP8 HS8 HR8 HB8
      go_roundg (ls.length - (k + 1))
      case measure => have := HG.out; omega
      case rel => exact ⟨k + 1, _, _, by omega, Lib.hid rfl, by go_num, Lib.hid (by rw [HTV.out, List.map_append, HMV.out]; rfl), HQ8, HS8, HR8, HP8, HB8⟩
    · obtain rfl : k = ls.length := by omega
      have hki : ¬ (ls.length : Int) < (ls.length : Int) := by omega
      obtain ⟨A9, c9, hv, _, _⟩ := HQ.out.form
      subst hv
      have p0 := cell_at HP.out 0 _ rfl
      have p1 := cell_at HP.out 1 _ rfl
      have r0 := cell_at HR.out 0 _ rfl
      have r1 := cell_at HR.out 1 _ rfl
      have f0 := free_at HR.out 0
      have f1 := free_at HR.out 1
      go_wp2_with fail
      refine bodyPost_ret (v := .agg #[.int .i64 nx, .slice A9 ms.length c9]) (by simp [results, Try.results54, go_sem, r0, r1]) rfl ?_
      refine ⟨.slice A9 ms.length c9, ms, rfl, ?_, ?_, ?_⟩
      · exact (HQ.out.setTo HR.out (by decide) (by decide) 0 _).setTo (ow_setHeap HR.out) (by decide) (by decide) 1 _
      · have := HMV.out; rw [List.take_of_length_le (by rw [List.length_map]; exact Nat.le_refl _)] at this; exact this
      · exact (HB.out.setCell (p := ⟨r, 0, none⟩) hwr _).setCell (p := ⟨r, 1, none⟩) hwr _
end Go.Proofs.Ytpbaimofffcnaaa
