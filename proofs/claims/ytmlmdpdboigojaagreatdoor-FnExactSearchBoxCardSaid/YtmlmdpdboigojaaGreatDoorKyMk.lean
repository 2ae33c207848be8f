/- Marks written into copies of mailboxes and keys (markBox, markKey of the laws): what they leave alone. -/
import Derived.Test.YtmlmdpdboigojaaGreatDoorKyTk
import Derived.Test.YtmlmdpdboigojaaGreatDoorKyIn
namespace Go.Proofs.YtmlmdpdboigojaaGreatDoor
set_option linter.unusedVariables false
open Go.RowKit

/-- marks in rows of messages, spans and keys from block B on: other rows, and the slices that keys hold, lie as they lay -/
structure MRel (B : Nat) (w w' : World) : Prop where
  size : w.heap.size ≤ w'.heap.size
  below : Below B w w'
  rows : ∀ (g : Nat) (cs : Array Value) (E : TypeId), w.heap[g]? = some (.cells cs E (0, 0)) → ∃ cs' : Array Value, w'.heap[g]? = some (.cells cs' E (0, 0)) ∧ cs'.size = cs.size ∧ (E = 40 → ∀ i, cs'[i * 5 + 3]? = cs[i * 5 + 3]? ∧ cs'[i * 5 + 4]? = cs[i * 5 + 4]?) ∧ (E ≠ 40 → E ≠ 81 → E ≠ 74 → cs' = cs)
namespace MRel
variable {B : Nat} {w w1 w2 : World}
theorem refl (B : Nat) (w : World) : MRel B w w := ⟨Nat.le_refl _, Below.refl _ _, fun g cs E h => ⟨cs, h, rfl, fun _ _ => ⟨rfl, rfl⟩, fun _ _ _ => rfl⟩⟩
theorem trans (h : MRel B w w1) (k : MRel B w1 w2) : MRel B w w2 := by
  refine ⟨Nat.le_trans h.size k.size, h.below.trans k.below, fun g cs E hg => ?_⟩
  obtain ⟨cs1, h1, h2, h3, h4⟩ := h.rows g cs E hg
  obtain ⟨cs2, k1, k2, k3, k4⟩ := k.rows g cs1 E h1
  exact ⟨cs2, k1, k2.trans h2, fun e i => ⟨(k3 e i).1.trans (h3 e i).1, (k3 e i).2.trans (h3 e i).2⟩, fun a b c => (k4 a b c).trans (h4 a b c)⟩
theorem of_below (hB : B ≤ w.heap.size) (h : Below w.heap.size w w1) : MRel B w w1 :=
  ⟨h.size, h.mono hB, fun g cs E hg => ⟨cs, (h.block g (Array.getElem?_eq_some_iff.1 hg).1).trans hg, rfl, fun _ _ => ⟨rfl, rfl⟩, fun _ _ _ => rfl⟩⟩
theorem set {g i : Nat} {cs : Array Value} {E : TypeId} (hg : w.heap[g]? = some (.cells cs E (0, 0))) (hB : B ≤ g) (hE : E = 81 ∨ E = 74 ∨ (E = 40 ∧ i % 5 < 3)) (v : Value) : MRel B w (w.setCell ⟨g, i, none⟩ v) := by
  refine ⟨by simp, (Below.refl B w).setCell (p := ⟨g, i, none⟩) hB v, fun g' cs' E' hg' => ?_⟩
  by_cases he : g = g'
  · subst he
    rw [hg] at hg'
    injection hg' with hg'
    injection hg' with h1 h2
    subst h1 h2
    refine ⟨cs.setIfInBounds i v, ow_setHeap hg, by simp, fun hk j => ?_, fun h1 h2 h3 => ?_⟩
    · have hi : i % 5 < 3 := by
        rcases hE with h | h | ⟨_, h⟩
        · rw [h] at hk; exact absurd hk (by decide)
        · rw [h] at hk; exact absurd hk (by decide)
        · exact h
      constructor
      · rw [Array.getElem?_setIfInBounds_ne (by omega)]
      · rw [Array.getElem?_setIfInBounds_ne (by omega)]
    · rcases hE with h | h | ⟨h, _⟩
      · exact absurd h h2
      · exact absurd h h3
      · exact absurd h h1
  · exact ⟨cs', ow_setOther hg' he, rfl, fun _ _ => ⟨rfl, rfl⟩, fun _ _ _ => rfl⟩
theorem own {B2 : Nat} {α : Type} {E : TypeId} {n : Nat} {f : α → List Value} {v : Value} {us : List α} (h : MRel B w w1) (ho : OwnL E n f w B2 v us) (h1 : E ≠ 40) (h2 : E ≠ 81) (h3 : E ≠ 74) : OwnL E n f w1 B2 v us := by
  refine ⟨ho.1, ?_⟩
  rcases ho.2 with e1 | ⟨g, cap, cur, e2, e3, e4, e5⟩
  · exact .inl e1
  · obtain ⟨cs', k1, _, _, k4⟩ := h.rows g cur E e4
    rw [k4 h1 h2 h3] at k1
    exact .inr ⟨g, cap, cur, e2, e3, k1, e5⟩
end MRel
/-- blocks of other types than E lie as they lay -/
def KeepT (E : TypeId) (w w' : World) : Prop := ∀ (b : Nat) (cs : Array Value) (T : TypeId), w.heap[b]? = some (.cells cs T (0, 0)) → T ≠ E → w'.heap[b]? = some (.cells cs T (0, 0))
theorem KeepT.refl (E : TypeId) (w : World) : KeepT E w w := fun _ _ _ h _ => h
theorem KeepT.trans {E : TypeId} {a b c : World} (h : KeepT E a b) (k : KeepT E b c) : KeepT E a c := fun g cs T hg hT => k g cs T (h g cs T hg hT) hT
theorem KeepT.below {E : TypeId} {w w' : World} (hb : Below w.heap.size w w') : KeepT E w w' := fun b cs T h _ => (hb.block b (Array.getElem?_eq_some_iff.1 h).1).trans h
theorem KeepT.set {E : TypeId} {w : World} {g i : Nat} {cs : Array Value} (hg : w.heap[g]? = some (.cells cs E (0, 0))) (v : Value) : KeepT E w (w.setCell ⟨g, i, none⟩ v) := fun b cs2 T h hT => by
  refine ow_setOther h (fun e => ?_)
  subst e
  rw [hg] at h
  injection h with h
  injection h with _ h2
  exact hT h2.symm
theorem OwnL.keepT {α : Type} {E E2 : TypeId} {n : Nat} {f : α → List Value} {w w' : World} {B : Nat} {v : Value} {us : List α} (h : OwnL E n f w B v us) (hk : KeepT E2 w w') (hE : E ≠ E2) : OwnL E n f w' B v us := by
  refine ⟨h.1, ?_⟩
  rcases h.2 with h1 | ⟨g, cap, cur, h2, h3, h4, h5⟩
  · exact .inl h1
  · exact .inr ⟨g, cap, cur, h2, h3, hk g cur E h4 hE, h5⟩
theorem Kx.Own.keepT {w w' : World} {B : Nat} (hk : KeepT 74 w w') : ∀ {d : Nat} {x : Kx}, Kx.Own d w B x → Kx.Own d w' B x
  | 0, _, h => h
  | d + 1, x, h => ⟨h.1, OwnL.keepT h.2.1 hk (by decide), OwnL.keepT h.2.2.1 hk (by decide), fun y hy => Kx.Own.keepT hk (h.2.2.2 y hy)⟩
/-- a row's place -/
def RowSh (E : TypeId) (size : Nat) (w : World) (B : Nat) (A : Option Addr) (n : Nat) : Prop :=
  0 < n → ∃ (g : Nat) (cs : Array Value), A = some ⟨g, 0, none⟩ ∧ B ≤ g ∧ w.heap[g]? = some (.cells cs E (0, 0)) ∧ n * size ≤ cs.size
theorem RowSh.marked {E : TypeId} {size B A n} {w w1 : World} (h : RowSh E size w B A n) (hm : MRel B w w1) : RowSh E size w1 B A n := fun hn => by
  obtain ⟨g, cs, h1, h2, h3, h4⟩ := h hn
  obtain ⟨cs', k1, k2, _⟩ := hm.rows g cs E h3
  exact ⟨g, cs', h1, h2, k1, by rw [k2]; exact h4⟩
theorem RowSh.of_own {α : Type} {E : TypeId} {size : Nat} {f : α → List Value} {w : World} {B c n : Nat} {A : Option Addr} {us : List α} (h : OwnL E size f w B (.slice A n c) us) (hn : us.length = n) : RowSh E size w B A n := fun hl => by
  rcases h.2 with ⟨h1, h2⟩ | ⟨g, cap, cur, h2, h3, h4, h5, h6, h7, h8⟩
  · omega
  · injection h2 with e1 e2 e3
    subst e1
    exact ⟨g, cur, rfl, h3, h4, by rw [h7, e2]; exact Nat.mul_le_mul_right _ h5⟩
/-- keys' places -/
def KeysSh : Nat → World → Nat → Option Addr → List Kx → Prop
  | 0, _, _, _, ks => ks = []
  | d + 1, w, B, A, ks => (0 < ks.length → ∃ (g : Nat) (cs : Array Value), A = some ⟨g, 0, none⟩ ∧ B ≤ g ∧ w.heap[g]? = some (.cells cs 40 (0, 0)) ∧ ∀ (k : Nat) (y : Kx), ks[k]? = some y → k * 5 + 4 < cs.size ∧ cs[k * 5 + 3]? = some (.slice y.A y.set.length y.c) ∧ cs[k * 5 + 4]? = some (.slice y.KA y.keys.length y.kc)) ∧
      ∀ y ∈ ks, RowSh 81 2 w B y.A y.set.length ∧ KeysSh d w B y.KA y.keys
theorem KeysSh.marked {B : Nat} {w w1 : World} (hm : MRel B w w1) : ∀ {d : Nat} {A : Option Addr} {ks : List Kx}, KeysSh d w B A ks → KeysSh d w1 B A ks
  | 0, _, _, h => h
  | d + 1, A, ks, h => by
    refine ⟨fun hl => ?_, fun y hy => ⟨(h.2 y hy).1.marked hm, KeysSh.marked hm (h.2 y hy).2⟩⟩
    obtain ⟨g, cs, h1, h2, h3, h4⟩ := h.1 hl
    obtain ⟨cs', k1, k2, k3, _⟩ := hm.rows g cs _ h3
    refine ⟨g, cs', h1, h2, k1, fun k y hy => ?_⟩
    obtain ⟨e1, e2, e3⟩ := h4 k y hy
    exact ⟨by rw [k2]; exact e1, (k3 rfl k).1.trans e2, (k3 rfl k).2.trans e3⟩
theorem KeysSh.of_own {w : World} {B : Nat} : ∀ {d : Nat} {A : Option Addr} {c n : Nat} {ks : List Kx}, OwnL 40 5 Kx.cells w B (.slice A n c) ks → ks.length = n → (∀ y ∈ ks, Kx.Own d w B y) → KeysSh d w B A ks
  | 0, _, _, _, [], _, _, _ => rfl
  | 0, _, _, _, y :: _, _, _, h => absurd (h y (List.mem_cons_self ..)) id
  | d + 1, A, c, n, ks, ho, hn, h => by
    refine ⟨fun hl => ?_, fun y hy => ⟨RowSh.of_own (h y hy).2.1 rfl, KeysSh.of_own (h y hy).2.2.1 rfl (h y hy).2.2.2⟩⟩
    rcases ho.2 with ⟨h1, h2⟩ | ⟨g, cap, cur, h2, h3, h4, h5, h6, h7, h8⟩
    · omega
    · injection h2 with e1 e2 e3
      subst e1
      refine ⟨g, cur, rfl, h3, h4, fun k y hy => ?_⟩
      have hk : k < ks.length := (List.getElem?_eq_some_iff.1 hy).1
      have hsz : k * 5 + 4 < ks.length * 5 := by omega
      have hget : ∀ j v, j < 5 → (Kx.cells y)[j]? = some v → cur[k * 5 + j]? = some v := fun j v hj hv => by
        have h9 : (ks.flatMap Kx.cells)[k * 5 + j]? = some v := by rw [flat_get Kx.cells_len ks k j hj, hy]; exact hv
        rw [← h8, List.getElem?_take_of_lt (by omega)] at h9
        rwa [Array.getElem?_toList] at h9
      refine ⟨?_, hget 3 _ (by omega) rfl, hget 4 _ (by omega) rfl⟩
      have := (Array.getElem?_eq_some_iff.1 (hget 4 _ (by omega) rfl)).1
      exact this
/-- how many marks a key of a row takes -/
def Kx.mkn : Nat → Kx → Nat
  | 0, _ => 0
  | d + 1, x => 3 + 2 * x.set.length + (x.keys.map (Kx.mkn d)).sum
theorem Ky.sum_mono {α : Type} {f g : α → Nat} {l : List α} (h : ∀ x ∈ l, f x ≤ 3 + 3 * g x) : (l.map f).sum ≤ 3 * l.length + 3 * (l.map g).sum := by
  induction l with
  | nil => simp
  | cons a r ih =>
    have h1 := h a (List.mem_cons_self ..)
    have h2 := ih (fun x hx => h x (List.mem_cons_of_mem _ hx))
    simp only [List.map_cons, List.sum_cons, List.length_cons]
    omega
theorem Kx.mkn_le : ∀ (d : Nat) (x : Kx), Kx.mkn d x ≤ 3 + 3 * Kx.sz d x
  | 0, _ => Nat.zero_le _
  | d + 1, x => by
    have := Ky.sum_mono (l := x.keys) (fun y _ => Kx.mkn_le d y)
    rw [Kx.sz_succ]
    show 3 + 2 * x.set.length + (x.keys.map (Kx.mkn d)).sum ≤ _
    omega

theorem Kx.mkn_len (d : Nat) (ks : List Kx) : ks.length ≤ (ks.map (Kx.mkn (d + 1))).sum := by
  induction ks with
  | nil => exact Nat.zero_le _
  | cons a r ih =>
    have : 3 + 2 * a.set.length + (a.keys.map (Kx.mkn d)).sum = Kx.mkn (d + 1) a := rfl
    simp only [List.map_cons, List.sum_cons, List.length_cons]
    omega

theorem cell_some {w : World} {g i : Nat} {cs : Array Value} {E : TypeId} (h : w.heap[g]? = some (.cells cs E (0, 0))) (hi : i < cs.size) : ∃ v, w.cell? ⟨g, i, none⟩ = some v := ⟨_, cell_at h i _ (Array.getElem?_eq_getElem hi)⟩

set_option maxHeartbeats 1600000 in
theorem markSpanS_any (A : Option Addr) (n c B q : Nat) (w : World) (h : RowSh 81 2 w B A n) (hB : B ≤ w.heap.size) (hq : 0 < q) (hn : q + 2 * n ≤ 100000000) :
    Calls Tryz.prog 33 #[.slice A n c, .int .i64 (q : Int)] w fun e w' => e = .returned (.int .i64 ((q + 2 * n : Nat) : Int)) ∧ MRel B w w' := by
  have hn1 : n ≤ 100000000 := by omega
  go_enter Tryz.func33, Tryz.ntmps33
  go_wp2_with fail
  go_loopg [1, 5] n (fun g m i wr => ∃ k : Nat, k ≤ n ∧ Hid (g = n - k) ∧ i = .int .i64 k ∧ m = .int .i64 ((q + 2 * k : Nat) : Int) ∧ Hid (MRel B w wr))
  case atStart => exact ⟨0, Nat.zero_le _, Lib.hid rfl, rfl, rfl, Lib.hid (MRel.refl _ _)⟩
  case round =>
    obtain ⟨k, hk, HG, rfl, rfl, HM⟩ := hrel
    by_cases hlt : k < n
    · obtain ⟨g, cs, rfl, hgB, hg, hsz⟩ := (h.marked HM.out) (by omega)
      obtain ⟨v0, e0⟩ := cell_some (i := k * 2) hg (by omega)
      obtain ⟨v1, e1⟩ := cell_some (i := k * 2 + 1) hg (by omega)
      have f0 := free_at hg (k * 2)
      have f1 := free_at hg (k * 2 + 1)
      obtain ⟨x, hx⟩ : ∃ x : Nat, x = q + 2 * k := ⟨_, rfl⟩
      have HX := Lib.hid hx
      have hxb : (x : Int) ≤ 100000000 := by omega
      have hx0 : (0 : Int) ≤ (x : Int) := by omega
      rw [← hx]
      have HM2 : ∀ a b : Value, MRel B w ((wr.setCell ⟨g, k * 2, none⟩ a).setCell ⟨g, k * 2 + 1, none⟩ b) := fun a b => (HM.out.trans (MRel.set hg hgB (.inl rfl) a)).trans (MRel.set (ow_setHeap hg) hgB (.inl rfl) b)
      have HM3 := Lib.hid HM2
      clear hx hg HM2
      go_wp2_with fail
      go_roundg (n - (k + 1))
      case measure => have := HG.out; omega
      case rel => exact ⟨k + 1, by omega, Lib.hid rfl, by go_num, by have := HX.out; go_num, Lib.hid (HM3.out _ _)⟩
    · obtain rfl : k = n := by omega
      go_wp2_with fail
      go_ret
      exact ⟨rfl, HM.out⟩

set_option maxHeartbeats 1600000 in
theorem markMailS_any (A : Option Addr) (n c B q : Nat) (w : World) (h : RowSh 74 3 w B A n) (hB : B ≤ w.heap.size) (hq : 0 < q) (hn : q + 3 * n ≤ 100000000) :
    Calls Tryz.prog 32 #[.slice A n c, .int .i64 (q : Int)] w fun e w' => e = .returned (.int .i64 ((q + 3 * n : Nat) : Int)) ∧ MRel B w w' ∧ KeepT 74 w w' := by
  have hn1 : n ≤ 100000000 := by omega
  go_enter Tryz.func32, Tryz.ntmps32
  go_wp2_with fail
  go_loopg [1, 5] n (fun g m i wr => ∃ k : Nat, k ≤ n ∧ Hid (g = n - k) ∧ i = .int .i64 k ∧ m = .int .i64 ((q + 3 * k : Nat) : Int) ∧ Hid (MRel B w wr) ∧ Hid (KeepT 74 w wr))
  case atStart => exact ⟨0, Nat.zero_le _, Lib.hid rfl, rfl, rfl, Lib.hid (MRel.refl _ _), Lib.hid (KeepT.refl _ _)⟩
  case round =>
    obtain ⟨k, hk, HG, rfl, rfl, HM, HKT⟩ := hrel
    by_cases hlt : k < n
    · obtain ⟨g, cs, rfl, hgB, hg, hsz⟩ := (h.marked HM.out) (by omega)
      obtain ⟨v0, e0⟩ := cell_some (i := k * 3) hg (by omega)
      obtain ⟨v1, e1⟩ := cell_some (i := k * 3 + 1) hg (by omega)
      have f0 := free_at hg (k * 3)
      have f1 := free_at hg (k * 3 + 1)
      obtain ⟨x, hx⟩ : ∃ x : Nat, x = q + 3 * k := ⟨_, rfl⟩
      have HX := Lib.hid hx
      have HMT := Lib.hid (markText_any (x + 2) (by omega) (by omega))
      have hxb : (x : Int) ≤ 100000000 := by omega
      have hx0 : (0 : Int) ≤ (x : Int) := by omega
      have hx1 : ((x + 2 : Nat) : Int) = (x : Int) + 1 + 1 := by omega
      rw [hx1] at HMT
      rw [← hx]
      have HM2 : Hid (∀ a b : Value, MRel B w ((wr.setCell ⟨g, k * 3, none⟩ a).setCell ⟨g, k * 3 + 1, none⟩ b)) := Lib.hid fun a b => (HM.out.trans (MRel.set hg hgB (.inr (.inl rfl)) a)).trans (MRel.set (ow_setHeap hg) hgB (.inr (.inl rfl)) b)
      have HKT2 : Hid (∀ a b : Value, KeepT 74 w ((wr.setCell ⟨g, k * 3, none⟩ a).setCell ⟨g, k * 3 + 1, none⟩ b)) := Lib.hid fun a b => (HKT.out.trans (KeepT.set hg a)).trans (KeepT.set (ow_setHeap hg) b)
      clear hx hg hx1
      go_wp2_with fail
      refine Calls.mono (HMT.out _) ?_
      rintro e w1 ⟨rfl, hb1⟩
      have hm1 := (HM2.out _ _).trans (MRel.of_below (Nat.le_trans hB (HM2.out _ _).size) hb1)
      have hkt1 := (HKT2.out _ _).trans (KeepT.below hb1)
      obtain ⟨g2, cs2, eg, hgB2, hg2, hsz2⟩ := (h.marked hm1) (by omega)
      injection eg with eg
      injection eg with eg
      subst eg
      obtain ⟨v2, e2⟩ := cell_some (i := k * 3 + 2) hg2 (by omega)
      have f2 := free_at hg2 (k * 3 + 2)
      have HM3 : Hid (∀ a : Value, MRel B w (w1.setCell ⟨g, k * 3 + 2, none⟩ a)) := Lib.hid fun a => hm1.trans (MRel.set hg2 hgB2 (.inr (.inl rfl)) a)
      have HKT3 : Hid (∀ a : Value, KeepT 74 w (w1.setCell ⟨g, k * 3 + 2, none⟩ a)) := Lib.hid fun a => hkt1.trans (KeepT.set hg2 a)
      clear hg2 hm1 hb1 hkt1 e0 e1 f0 f1
      go_wp2_with fail
      go_roundg (n - (k + 1))
      case measure => have := HG.out; omega
      case rel => exact ⟨k + 1, by omega, Lib.hid rfl, by go_num, by have := HX.out; go_num, Lib.hid (HM3.out _), Lib.hid (HKT3.out _)⟩
    · obtain rfl : k = n := by omega
      go_wp2_with fail
      go_ret
      exact ⟨rfl, HM.out, HKT.out⟩

set_option maxHeartbeats 1600000 in
theorem markBox_any (nx : Int) (A : Option Addr) (n c B q : Nat) (w : World) (h : RowSh 74 3 w B A n) (hB : B ≤ w.heap.size) (hq : 0 < q) (hn : q + 3 * n ≤ 100000000) :
    Calls Tryz.prog 13 #[.agg #[.int .i64 nx, .slice A n c], .int .i64 (q : Int)] w fun e w' => e = .returned (.int .i64 ((q + 3 * n : Nat) : Int)) ∧ MRel B w w' ∧ KeepT 74 w w' := by
  have hm0 : MRel B w (w.alloc (.cells #[.int .i64 nx, .slice A n c] 35)) := MRel.of_below hB ((Below.refl _ _).alloc (Nat.le_refl _) _)
  have HM := Lib.hid hm0
  have HK0 : Hid (KeepT 74 w (w.alloc (.cells #[.int .i64 nx, .slice A n c] 35))) := Lib.hid (KeepT.below ((Below.refl _ _).alloc (Nat.le_refl _) _))
  clear hm0
  go_enter Tryz.func13, Tryz.ntmps13
  go_wp2_with fail
  refine (markMailS_any A n c B q _ (h.marked HM.out) (Nat.le_trans hB HM.out.size) hq hn).mono ?_
  rintro e w1 ⟨rfl, hm1, hk1⟩
  have HM1 := Lib.hid (HM.out.trans hm1)
  have HK1 := Lib.hid (HK0.out.trans hk1)
  clear hm1 hk1
  go_wp2_with fail
  go_ret
  exact ⟨rfl, HM1.out, HK1.out⟩

set_option maxHeartbeats 3200000 in
theorem markKeyS_any (d : Nat) : ∀ (A : Option Addr) (ks : List Kx) (c B q : Nat) (w : World), KeysSh d w B A ks → B ≤ w.heap.size → 0 < q → q + (ks.map (Kx.mkn d)).sum ≤ 100000000 →
    Calls Tryz.prog 34 #[.slice A ks.length c, .int .i64 (q : Int)] w fun e w' => e = .returned (.int .i64 ((q + (ks.map (Kx.mkn d)).sum : Nat) : Int)) ∧ MRel B w w' := by
  induction d with
  | zero =>
    intro A ks c B q w h hB hq hn
    obtain rfl : ks = [] := h
    go_enter Tryz.func34, Tryz.ntmps34
    go_wp2_with fail
    go_loopg [1, 5] 0 (fun g m i wr => g = 0 ∧ m = .int .i64 (q : Int) ∧ i = .int .i64 ((0 : Nat) : Int) ∧ Hid (MRel B w wr))
    case atStart => exact ⟨rfl, rfl, rfl, Lib.hid (MRel.refl _ _)⟩
    case round =>
      obtain ⟨hg0, rfl, rfl, HM⟩ := hrel
      go_wp2_with fail
      go_ret
      exact ⟨rfl, HM.out⟩
  | succ d ih =>
    intro A ks c B q w h hB hq hn
    have hn1 : ks.length ≤ 100000000 := by have := Kx.mkn_len d ks; omega
    have HS : Hid (∀ k y, ks[k]? = some y → ((ks.take (k + 1)).map (Kx.mkn (d + 1))).sum = ((ks.take k).map (Kx.mkn (d + 1))).sum + (3 + 2 * y.set.length + (y.keys.map (Kx.mkn d)).sum) ∧ ((ks.take (k + 1)).map (Kx.mkn (d + 1))).sum ≤ (ks.map (Kx.mkn (d + 1))).sum) := Lib.hid fun k y hy => ⟨Ky.sum_snoc (Kx.mkn (d + 1)) hy, Ky.sum_le _⟩
    have HN := Lib.hid hn
    clear hn
    go_enter Tryz.func34, Tryz.ntmps34
    go_wp2_with fail
    go_loopg [1, 5] ks.length (fun g m i wr => ∃ k : Nat, k ≤ ks.length ∧ Hid (g = ks.length - k) ∧ i = .int .i64 k ∧ m = .int .i64 ((q + ((ks.take k).map (Kx.mkn (d + 1))).sum : Nat) : Int) ∧ Hid (MRel B w wr))
    case atStart => exact ⟨0, Nat.zero_le _, Lib.hid rfl, rfl, rfl, Lib.hid (MRel.refl _ _)⟩
    case round =>
      obtain ⟨k, hk, HG, rfl, rfl, HM⟩ := hrel
      by_cases hlt : k < ks.length
      · obtain ⟨u, hu⟩ : ∃ u, ks[k]? = some u := ⟨_, List.getElem?_eq_getElem hlt⟩
        have hum := List.mem_of_getElem? hu
        obtain ⟨g, cs, rfl, hgB, hg, hcs⟩ := (h.marked HM.out).1 (by omega)
        obtain ⟨hsz, c3, c4⟩ := hcs k u hu
        obtain ⟨v0, e0⟩ := cell_some (i := k * 5) hg (by omega)
        obtain ⟨v1, e1⟩ := cell_some (i := k * 5 + 1) hg (by omega)
        have f0 := free_at hg (k * 5)
        have f1 := free_at hg (k * 5 + 1)
        obtain ⟨s1, s2⟩ := HS.out k u hu
        have hn := HN.out
        obtain ⟨x, hx⟩ : ∃ x : Nat, x = q + ((ks.take k).map (Kx.mkn (d + 1))).sum := ⟨_, rfl⟩
        obtain ⟨mu, hmu⟩ : ∃ mu : Nat, mu = (u.keys.map (Kx.mkn d)).sum := ⟨_, rfl⟩
        rw [← hmu] at s1
        have hxs : x + (3 + 2 * u.set.length + mu) ≤ 100000000 := by omega
        have HX : Hid (x = q + ((ks.take k).map (Kx.mkn (d + 1))).sum) := Lib.hid hx
        have HX1 : Hid (x + (3 + 2 * u.set.length + mu) = q + ((ks.take (k + 1)).map (Kx.mkn (d + 1))).sum) := Lib.hid (by omega)
        have HMU := Lib.hid hmu
        have HMT := Lib.hid (markText_any (x + 2) (by omega) (by omega))
        have hxb : (x : Int) ≤ 100000000 := by omega
        have hx0 : (0 : Int) ≤ (x : Int) := by omega
        have hx1 : ((x + 2 : Nat) : Int) = (x : Int) + 1 + 1 := by omega
        rw [hx1] at HMT
        rw [← hx]
        have HU := Lib.hid hu
        have HUM := Lib.hid hum
        have HM2 : Hid (∀ a b : Value, MRel B w ((wr.setCell ⟨g, k * 5, none⟩ a).setCell ⟨g, k * 5 + 1, none⟩ b)) := Lib.hid fun a b => (HM.out.trans (MRel.set hg hgB (.inr (.inr ⟨rfl, by omega⟩)) a)).trans (MRel.set (ow_setHeap hg) hgB (.inr (.inr ⟨rfl, by omega⟩)) b)
        have HXS := Lib.hid hxs
        clear hx hg hx1 hcs c3 c4 hu hum s1 s2 hn hmu hxs
        go_wp2_with fail
        refine Calls.mono (HMT.out _) ?_
        rintro e w1 ⟨rfl, hb1⟩
        have hm1 := (HM2.out _ _).trans (MRel.of_below (Nat.le_trans hB (HM2.out _ _).size) hb1)
        obtain ⟨g2, cs2, eg, hgB2, hg2, hcs2⟩ := (h.marked hm1).1 (by omega)
        injection eg with eg
        injection eg with eg
        subst eg
        obtain ⟨hsz2, c3, c4⟩ := hcs2 k u HU.out
        obtain ⟨v2, e2⟩ := cell_some (i := k * 5 + 2) hg2 (by omega)
        have e3 := cell_at hg2 _ _ c3
        have f2 := free_at hg2 (k * 5 + 2)
        have HM3 : Hid (∀ a : Value, MRel B w (w1.setCell ⟨g, k * 5 + 2, none⟩ a)) := Lib.hid fun a => hm1.trans (MRel.set hg2 hgB2 (.inr (.inr ⟨rfl, by omega⟩)) a)
        clear hg2 hm1 hb1 e0 e1 f0 f1 c3 c4 hcs2 HMT
        go_wp2_with fail
        have hx3 : (x : Int) + 1 + 1 + 1 = ((x + 3 : Nat) : Int) := by omega
        rw [hx3]
        refine (markSpanS_any u.A u.set.length u.c B (x + 3) _ (((h.2 u HUM.out).1).marked (HM3.out _)) (Nat.le_trans hB (HM3.out _).size) (by omega) (by have := HXS.out; omega)).mono ?_
        rintro e w2 ⟨rfl, hm2⟩
        have hm2' := (HM3.out _).trans hm2
        obtain ⟨g3, cs3, eg, hgB3, hg3, hcs3⟩ := (h.marked hm2').1 (by omega)
        injection eg with eg
        injection eg with eg
        subst eg
        obtain ⟨hsz3, c3, c4⟩ := hcs3 k u HU.out
        have e4 := cell_at hg3 _ _ c4
        have HM4 := Lib.hid hm2'
        clear hg3 hcs3 c3 c4 hm2 hm2' e2 e3 f2 HM3 HM2 hx3
        go_wp2_with fail
        refine (ih u.KA u.keys u.kc B (x + 3 + 2 * u.set.length) _ (((h.2 u HUM.out).2).marked HM4.out) (Nat.le_trans hB HM4.out.size) (by omega) ?_).mono ?_
        · have h1 := HXS.out
          have h2 := HMU.out
          rw [← h2]
          omega
        rintro e w3 ⟨rfl, hm3⟩
        have HM5 := Lib.hid (HM4.out.trans hm3)
        clear hm3 HM4 e4
        go_wp2_with fail
        go_roundg (ks.length - (k + 1))
        case measure => have := HG.out; omega
        case rel => exact ⟨k + 1, by omega, Lib.hid rfl, by go_num, by have h1 := HX1.out; have h2 := HMU.out; rw [← h2]; go_num, HM5⟩
      · obtain rfl : k = ks.length := by omega
        rw [List.take_length]
        go_wp2_with fail
        go_ret
        exact ⟨rfl, HM.out⟩

set_option maxHeartbeats 1600000 in
theorem markKey_any (d : Nat) (x : Kx) (B q : Nat) (w : World) (h : Kx.Own (d + 1) w B x) (hB : B ≤ w.heap.size) (hq : 0 < q) (hn : q + Kx.mkn (d + 1) x ≤ 100000000) :
    Calls Tryz.prog 14 #[x.val, .int .i64 (q : Int)] w fun e w' => (∃ r : Nat, e = .returned (.int .i64 (r : Int))) ∧ MRel B w w' := by
  obtain ⟨kind, flag, text, A, set, c, KA, keys, kc⟩ := x
  obtain ⟨ht, hs, hk, hin⟩ := h
  have hmk : Kx.mkn (d + 1) (Kx.mk kind flag text A set c KA keys kc) = 3 + 2 * set.length + (keys.map (Kx.mkn d)).sum := rfl
  rw [hmk] at hn
  simp only [Kx.set, Kx.keys, Kx.A, Kx.KA, Kx.c, Kx.kc] at hs hk hin
  simp only [Kx.val, Kx.kind, Kx.flag, Kx.text, Kx.set, Kx.keys, Kx.A, Kx.KA, Kx.c, Kx.kc]
  have hm0 : MRel B w (w.alloc (.cells #[.int .i64 kind, .int .i64 flag, .string text, .slice A set.length c, .slice KA keys.length kc] 40)) := MRel.of_below hB ((Below.refl _ _).alloc (Nat.le_refl _) _)
  have hrs : RowSh 81 2 w B A set.length := RowSh.of_own hs rfl
  have hks : KeysSh d w B KA keys := KeysSh.of_own hk rfl hin
  have HM := Lib.hid hm0
  have HN := Lib.hid hn
  have HK := Lib.hid hks
  clear hm0 hs hk hin hks hn hmk
  go_enter Tryz.func14, Tryz.ntmps14
  go_wp2_with fail
  refine (markSpanS_any A set.length c B q _ (hrs.marked HM.out) (Nat.le_trans hB HM.out.size) hq (by have := HN.out; omega)).mono ?_
  rintro e w1 ⟨rfl, hm1⟩
  have HM1 := Lib.hid (HM.out.trans hm1)
  obtain ⟨cs1, k1, _, k3, _⟩ := hm1.rows w.heap.size _ _ (heap_alloc_new w _)
  have x4 := cell_at k1 4 _ ((k3 rfl 0).2.trans rfl)
  clear hm1 k1 k3
  go_wp2_with fail
  refine (markKeyS_any d KA keys kc B (q + 2 * set.length) _ (KeysSh.marked HM1.out HK.out) (Nat.le_trans hB HM1.out.size) (by omega) (by have := HN.out; omega)).mono ?_
  rintro e w2 ⟨rfl, hm2⟩
  have HM2 := Lib.hid (HM1.out.trans hm2)
  clear hm2 x4
  go_wp2_with fail
  go_ret
  exact ⟨⟨_, rfl⟩, HM2.out⟩
end Go.Proofs.YtmlmdpdboigojaaGreatDoor
