/- The draw of a queue: l92Queue of the specification. -/
import Derived.Test.YtpbaimofffcnaaaQoW3
import Derived.Test.YtpbaimofffcnaaaTlW
import Derived.Deep.CutRange
namespace Go.Proofs.Ytpbaimofffcnaaa
set_option linter.unusedVariables false
open Go.RowKit

/-- a queue's variable in a draw -/
structure Qd (w : World) (B b r p m : Nat) (nx : Int) (v : Value) (ls : List Qi.L) (w1 : World) : Prop where
  own : Qo w1 w.heap.size v ls
  len : ls.length ≤ 6
  q : w1.heap[p]? = some (.cells #[.int .i64 nx, v] 29 (0, 0))
  res : w1.heap[r]? = some (.cells #[.int .i64 0, .slice none 0 0] 29 (0, 0))
  rd : Rd w1 B b m
  gr : w.grownBy w1 (some b)
namespace Qd
variable {w w1 w2 : World} {B b r p m : Nat} {nx : Int} {v : Value} {ls : List Qi.L}
theorem pl (h : Qd w B b r p m nx v ls w1) : p < w1.heap.size := (Array.getElem?_eq_some_iff.1 h.q).1
theorem rl (h : Qd w B b r p m nx v ls w1) : r < w1.heap.size := (Array.getElem?_eq_some_iff.1 h.res).1
theorem below (h : Qd w B b r p m nx v ls w1) (hb : Below w1.heap.size w1 w2) : Qd w B b r p m nx v ls w2 :=
  ⟨h.own.below hb, h.len, (hb.block _ h.pl).trans h.q, (hb.block _ h.rl).trans h.res, h.rd.below hb, grown_trans h.gr (grown_below hb)⟩
theorem mono (h : Qd w B b r p m nx v ls w1) {m' : Nat} (hm : m ≤ m') : Qd w B b r p m' nx v ls w1 := ⟨h.own, h.len, h.q, h.res, h.rd.mono hm, h.gr⟩
theorem grown (h : Qd w B b r p m nx v ls w1) (hg : w1.grownBy w2 (some b)) {m' : Nat} (hr : Rd w2 B b m') (hb : b < w.heap.size) (h1 : w.heap.size ≤ r) (h2 : w.heap.size ≤ p) : Qd w B b r p m' nx v ls w2 :=
  ⟨h.own.grown hg hb, h.len, (hg.block p h.pl (by intro e; injection e with e; omega)).trans h.q, (hg.block r h.rl (by intro e; injection e with e; omega)).trans h.res, hr, grown_trans h.gr hg⟩
theorem laid (h : Qd w B b r p m nx v ls w1) (o : Obj) : Qd w B b r p m nx v ls (w1.alloc o) := h.below (Below.alloc (Below.refl _ _) (Nat.le_refl _) o)
theorem drew (h : Qd w B b r p m nx v ls w1) : Qd w B b r p m nx v ls w1.drew := h.below (below_drewN (Below.refl _ _) 1)
/-- another queue is stored into the variable -/
theorem put (h : Qd w B b r p m nx v ls w1) {nx' : Int} {v' : Value} {ls' : List Qi.L} (ho : Qo w1 w.heap.size v' ls') (hl : ls'.length ≤ 6) (hb : b < w.heap.size) (h1 : w.heap.size ≤ r) (h2 : w.heap.size ≤ p) (hrp : r ≠ p) :
    Qd w B b r p m nx' v' ls' ((w1.setCell ⟨p, 0, none⟩ (.int .i64 nx')).setCell ⟨p, 1, none⟩ v') := by
  have e1 := ow_setHeap (i := 0) (v := .int .i64 nx') h.q
  refine ⟨(ho.setTo h.q (by decide) (by decide) 0 _).setTo e1 (by decide) (by decide) 1 _, hl, ?_, ?_, (h.rd.set (p := ⟨p, 0, none⟩) (by simp; omega) _).set (p := ⟨p, 1, none⟩) (by simp; omega) _, grown_setNew (grown_setNew h.gr (p := ⟨p, 0, none⟩) h2 _) (p := ⟨p, 1, none⟩) h2 _⟩
  · rw [ow_setHeap e1]; rfl
  · exact ow_setOther (ow_setOther h.res (Ne.symm hrp)) (Ne.symm hrp)
theorem other (h : Qd w B b r p m nx v ls w1) {q : Nat} {cs : Array Value} (hx : w1.heap[q]? = some (.cells cs 29 (0, 0))) (hb : b < w.heap.size) (hq : w.heap.size ≤ q) (qp : q ≠ p) (qr : q ≠ r) (i : Nat) (x : Value) : Qd w B b r p m nx v ls (w1.setCell ⟨q, i, none⟩ x) :=
  ⟨h.own.setTo hx (by decide) (by decide) i x, h.len, ow_setOther h.q qp, ow_setOther h.res qr, h.rd.set (p := ⟨q, i, none⟩) (by simp; omega) _, grown_setNew h.gr (p := ⟨q, i, none⟩) hq _⟩
theorem filled (h : Qd w B b r p m nx v ls w1) {q : Nat} {nx4 : Int} {v4 : Value} {ms : List Qi.L} (hx : w1.heap[q]? = some (.cells #[.int .i64 0, .slice none 0 0] 29 (0, 0))) (ho : Qo w1 w.heap.size v4 ms) (hb : b < w.heap.size) (hq : w.heap.size ≤ q) (qp : q ≠ p) (qr : q ≠ r) {ww : World} (hw : ww = (w1.setCell ⟨q, 0, none⟩ (.int .i64 nx4)).setCell ⟨q, 1, none⟩ v4) :
    ww.heap[q]? = some (.cells #[.int .i64 nx4, v4] 29 (0, 0)) ∧ Qo ww w.heap.size v4 ms ∧ Qd w B b r p m nx v ls ww := by
  subst hw
  have e1 := ow_setHeap (i := 0) (v := .int .i64 nx4) hx
  exact ⟨by rw [ow_setHeap e1]; rfl, (ho.setTo hx (by decide) (by decide) 0 _).setTo e1 (by decide) (by decide) 1 _, (h.other hx hb hq qp qr 0 _).other e1 hb hq qp qr 1 _⟩
/-- the number is stored -/
theorem num (h : Qd w B b r p m nx v ls w1) {nx' : Int} (hb : b < w.heap.size) (h1 : w.heap.size ≤ r) (h2 : w.heap.size ≤ p) (hrp : r ≠ p) : Qd w B b r p m nx' v ls (w1.setCell ⟨p, 0, none⟩ (.int .i64 nx')) :=
  ⟨h.own.setTo h.q (by decide) (by decide) 0 _, h.len, by rw [ow_setHeap h.q]; rfl, ow_setOther h.res (Ne.symm hrp), h.rd.set (p := ⟨p, 0, none⟩) (by simp; omega) _, grown_setNew h.gr (p := ⟨p, 0, none⟩) h2 _⟩
end Qd
/-- the number of item k -/
def Qi.idAt (ls : List Qi.L) (k : Nat) : Int := (ls[k]?.map Qi.L.id).getD 0
theorem Qi.flat_set (u : Value) (A : Option Addr) (c : Nat) (hu : u = .slice A 0 c) : ∀ (ls : List Qi.L) (k : Nat) (x : Qi.L), ls[k]? = some x → (ls.flatMap Qi.cells).set (k * 4 + 3) u = (ls.set k ⟨x.id, x.f, x.t, A, [], c⟩).flatMap Qi.cells := by
  intro ls
  induction ls with
  | nil => intro k x h; simp at h
  | cons y ls ih =>
    intro k x h
    cases k with
    | zero =>
      simp at h
      subst h
      subst hu
      rfl
    | succ k =>
      have h' : ls[k]? = some x := by simpa using h
      have := ih k x h'
      rw [show (k + 1) * 4 + 3 = (k * 4 + 3) + 4 by omega]
      show Qi.cells y ++ (ls.flatMap Qi.cells).set (k * 4 + 3) u = Qi.cells y ++ (ls.set k _).flatMap Qi.cells
      rw [this]
theorem Qo.cell0 {w : World} {B n c : Nat} {A : Option Addr} {ls : List Qi.L} (h : Qo w B (.slice A n c) ls) (hn : ls.length = n) (hl : 0 < n) :
    ∃ g cur, A = some ⟨g, 0, none⟩ ∧ B ≤ g ∧ w.heap[g]? = some (.cells cur 43 (0, 0)) ∧ (∀ (k : Nat), k < n → w.cell? ⟨g, k * 4, none⟩ = some (.int .i64 (Qi.idAt ls k)) ∧ ∃ u, w.cell? ⟨g, k * 4 + 3, none⟩ = some u) := by
  obtain ⟨h1, h2 | ⟨g, cap, cur, hv, hB, hg, _⟩⟩ := h.row
  · obtain ⟨hv, h0⟩ := h2
    omega
  · obtain ⟨g2, off, hA, _, hc⟩ := (h.items hn).row (by omega)
    injection hv with hA' _ _
    subst hA'
    injection hA with hA
    injection hA with e1 e2 e3
    subst e1 e2
    refine ⟨g, cur, rfl, hB, hg, fun k hk => ?_⟩
    obtain ⟨x, hx⟩ : ∃ x, ls[k]? = some x := ⟨_, List.getElem?_eq_getElem (by omega)⟩
    obtain ⟨d0, _, _, d3⟩ := hc k x hx
    rw [Nat.zero_add] at d0 d3
    exact ⟨by rw [d0]; simp [Qi.idAt, hx], _, d3⟩
theorem Qd.ret {w w1 : World} {B b r p m m' : Nat} {nx : Int} {v : Value} {ls : List Qi.L} (h : Qd w B b r p m' nx v ls w1) (hb : b < w.heap.size) (hr : w.heap.size ≤ r) (hm : m' ≤ m + 130) {ww : World} (hw : ww = (w1.setCell ⟨r, 0, none⟩ (.int .i64 nx)).setCell ⟨r, 1, none⟩ v) :
    ∃ nx' v' ls', Ending.returned (.agg #[.int .i64 nx, v]) = .returned (.agg #[.int .i64 nx', v']) ∧ Qo ww w.heap.size v' ls' ∧ ls'.length ≤ 6 ∧ Rd ww B b (m + 130) ∧ w.grownBy ww (some b) := by
  subst hw
  exact ⟨nx, v, ls, rfl, (h.own.setTo h.res (by decide) (by decide) 0 _).setTo (ow_setHeap h.res) (by decide) (by decide) 1 _, h.len, ((h.rd.set (p := ⟨r, 0, none⟩) (by simp; omega) _).set (p := ⟨r, 1, none⟩) (by simp; omega) _).mono hm, grown_setNew (grown_setNew h.gr (p := ⟨r, 0, none⟩) hr _) (p := ⟨r, 1, none⟩) hr _⟩
/-- a list of an item is emptied -/
theorem Qo.empty {w : World} {B n c g : Nat} {ls : List Qi.L} (h : Qo w B (.slice (some ⟨g, 0, none⟩) n c) ls) (hn : ls.length = n) {k q : Nat} (hk : k < n) (hq : w.heap[q]? = some (.cells #[] 9 (0, 0))) (hqB : B ≤ q) :
    ∃ ms, ms.length = n ∧ Qo (w.setCell ⟨g, k * 4 + 3, none⟩ (.slice (some ⟨q, 0, none⟩) 0 0)) B (.slice (some ⟨g, 0, none⟩) n c) ms := by
  obtain ⟨x, hx⟩ : ∃ x, ls[k]? = some x := ⟨_, List.getElem?_eq_getElem (by omega)⟩
  obtain ⟨h1, h2 | ⟨g2, cap, cur, hv, hB, hg, h3, h4, h5, h6⟩⟩ := h.row
  · obtain ⟨hv, h0⟩ := h2
    omega
  · injection hv with hA _ hc
    injection hA with hA
    injection hA with e1
    subst e1 hc
    have hml : (ls.set k ⟨x.id, x.f, x.t, some ⟨q, 0, none⟩, [], 0⟩).length = n := by rw [List.length_set]; exact hn
    have he : St.Own w B (.slice (some ⟨q, 0, none⟩) 0 0) ([] : List ByteArray) := ⟨rfl, .inr ⟨q, 0, #[], rfl, hqB, hq, Nat.le_refl _, Nat.zero_le _, rfl, rfl⟩⟩
    refine ⟨ls.set k ⟨x.id, x.f, x.t, some ⟨q, 0, none⟩, [], 0⟩, hml, ?_, fun y hy => ?_, fun y hy => ?_⟩
    · refine ⟨?_, .inr ⟨g, c, cur.setIfInBounds (k * 4 + 3) (.slice (some ⟨q, 0, none⟩) 0 0), by rw [hml], hB, ow_setHeap hg, by rw [hml]; omega, h4, by rw [Array.size_setIfInBounds]; exact h5, ?_⟩⟩
      · rw [← Qi.flat_set (.slice (some ⟨q, 0, none⟩) 0 0) (some ⟨q, 0, none⟩) 0 rfl ls k x hx, List.length_set, List.length_set]
        exact h1
      · rw [hml, Array.toList_setIfInBounds, List.take_set, ← Qi.flat_set (.slice (some ⟨q, 0, none⟩) 0 0) (some ⟨q, 0, none⟩) 0 rfl ls k x hx]
        rw [hn] at h6
        rw [h6]
    · rcases List.mem_or_eq_of_mem_set hy with hy | rfl
      · exact ow_setTo (h.own y hy) hg (by decide) _ _
      · exact ow_setTo he hg (by decide) _ _
    · rcases List.mem_or_eq_of_mem_set hy with hy | rfl
      · exact h.siz y hy
      · have := h.siz x (List.mem_of_getElem? hx)
        exact ⟨Nat.zero_le _, (fun u hu => absurd hu (by simp)), this.2.2.1, this.2.2.2⟩
theorem Qd.empty {w w1 : World} {B b r p m n c g : Nat} {nx : Int} {ls : List Qi.L} (h : Qd w B b r p m nx (.slice (some ⟨g, 0, none⟩) n c) ls w1) (hn : ls.length = n) {k q : Nat} (hk : k < n) (hq : w1.heap[q]? = some (.cells #[] 9 (0, 0))) (hqB : w.heap.size ≤ q) (hgB : w.heap.size ≤ g) (gp : g ≠ p) (gr : g ≠ r) (hb : b < w.heap.size) :
    ∃ ms, ms.length = n ∧ Qd w B b r p m nx (.slice (some ⟨g, 0, none⟩) n c) ms (w1.setCell ⟨g, k * 4 + 3, none⟩ (.slice (some ⟨q, 0, none⟩) 0 0)) := by
  obtain ⟨ms, hm, ho⟩ := h.own.empty hn hk hq hqB
  exact ⟨ms, hm, ho, by rw [hm, ← hn]; exact h.len, ow_setOther h.q gp, ow_setOther h.res gr, h.rd.set (p := ⟨g, k * 4 + 3, none⟩) (by simp; omega) _, grown_setNew h.gr (p := ⟨g, k * 4 + 3, none⟩) hgB _⟩
theorem five_at {w : World} {g : Nat} {T : TypeId} (h : w.heap[g]? = some (.cells #[.int .i64 0, .int .i64 1, .int .i64 99, .int .i64 100, .int .i64 101] T (0, 0))) {k : Nat} (hk : (k : Int) < 5) : ∃ z : Int, w.cell? ⟨g, k, none⟩ = some (.int .i64 z) := by
  have : k = 0 ∨ k = 1 ∨ k = 2 ∨ k = 3 ∨ k = 4 := by omega
  rcases this with rfl | rfl | rfl | rfl | rfl
  · exact ⟨_, cell_at h 0 _ rfl⟩
  · exact ⟨_, cell_at h 1 _ rfl⟩
  · exact ⟨_, cell_at h 2 _ rfl⟩
  · exact ⟨_, cell_at h 3 _ rfl⟩
  · exact ⟨_, cell_at h 4 _ rfl⟩
theorem cell_of_block {w w' : World} {g : Nat} (h : w'.heap[g]? = w.heap[g]?) (i : Nat) : w'.cell? ⟨g, i, none⟩ = w.cell? ⟨g, i, none⟩ := by
  simp only [World.cell?, h]
/-- what drawing a queue gives -/
def Qo.Picked (n : Nat) (w : World) (B b m : Nat) (e : Ending) (w' : World) : Prop :=
  ∃ nx v ls, e = .returned (.agg #[.int .i64 nx, v]) ∧ Qo w' w.heap.size v ls ∧ ls.length ≤ 6 ∧ Rd w' B b (m + n) ∧ w.grownBy w' (some b)

set_option maxRecDepth 100000 in
set_option maxHeartbeats 40000000 in
theorem l92Queue_any (w : World) (B b m : Nat) (hm : m ≤ 999970000) (h : Rd w B b m) :
    Calls Try.prog 24 #[.pointer (some ⟨b, 0, none⟩)] w (Qo.Picked 130 w B b m) := by
  have hbl := h.lt
  have hx0 := heap_alloc_new w (.cells #[.int .i64 0, .slice none 0 0] 29)
  have H0 := h.laid (.cells #[.int .i64 0, .slice none 0 0] 29)
  have G0 := grown_laid (grown_refl b w) (.cells #[.int .i64 0, .slice none 0 0] 29)
  have z0 : (w.alloc (.cells #[.int .i64 0, .slice none 0 0] 29)).heap.size = w.heap.size + 1 := by simp
  go_enter Try.func24, Try.ntmps24
  go_upto_region 1 with fail
  generalize w.alloc (.cells #[.int .i64 0, .slice none 0 0] 29) = w1 at hx0 H0 G0 z0 ⊢
  obtain ⟨r, hr⟩ : ∃ r, r = w.heap.size := ⟨_, rfl⟩
  rw [← hr] at hx0 ⊢
  have hwr : w.heap.size ≤ r := by omega
  have HR := Lib.hid hr
  clear hr
  go_wp2_with fail
  refine Calls.mono (pick_any _ (by omega) _ B b _ (by omega) H0) ?_
  rintro e w2 ⟨n0, hn0, rfl, h2, hg2⟩
  have hrr := HR.out
  have hx2 := (hg2.block r (by omega) (by intro e; injection e with e; omega)).trans hx0
  have G2 := grown_trans G0 hg2
  have hs2 := hg2.size
  have hQ2 := Qo.fresh (B := w.heap.size) w2 (by omega)
  have A2 := heap_alloc_new (w2.alloc (.cells #[] 43)) (.cells #[.int .i64 (1 + (n0 : Int)), .slice (some ⟨w2.heap.size, 0, none⟩) 0 0] 29)
  have hbe : Below w2.heap.size w2 ((w2.alloc (.cells #[] 43)).alloc (.cells #[.int .i64 (1 + (n0 : Int)), .slice (some ⟨w2.heap.size, 0, none⟩) 0 0] 29)) := (Below.alloc (Below.refl _ _) (Nat.le_refl _) _).alloc (by simp) _
  have hbf : Below (w2.alloc (.cells #[] 43)).heap.size (w2.alloc (.cells #[] 43)) ((w2.alloc (.cells #[] 43)).alloc (.cells #[.int .i64 (1 + (n0 : Int)), .slice (some ⟨w2.heap.size, 0, none⟩) 0 0] 29)) := Below.alloc (Below.refl _ _) (Nat.le_refl _) _
  have ew : IntKind.i64.wrap (1 + (n0 : Int)) = 1 + (n0 : Int) := by rw [IntKind.wrap_i64]; omega
  have HQD : Hid (∀ p, p = w2.heap.size + 1 → Qd w B b r p (m + 1) (1 + (n0 : Int)) (.slice (some ⟨w2.heap.size, 0, none⟩) 0 0) [] ((w2.alloc (.cells #[] 43)).alloc (.cells #[.int .i64 (1 + (n0 : Int)), .slice (some ⟨w2.heap.size, 0, none⟩) 0 0] 29)) ∧ w.heap.size ≤ p ∧ r ≠ p) := Lib.hid (by
    intro p hp
    refine ⟨⟨hQ2.below hbf, by simp, ?_, (hbe.block r (by omega)).trans hx2, h2.below hbe, grown_trans G2 (grown_below hbe)⟩, by omega, by omega⟩
    rw [show (w2.alloc (.cells #[] 43)).heap.size = p by simp [hp]] at A2
    exact A2)
  clear hrr HR hx0 H0 G0 z0 hx2 G2 hQ2 A2 hbe hbf h2 hg2
  go_upto_region 2 with fail
  generalize ((w2.alloc (.cells #[] 43)).alloc (.cells #[.int .i64 (1 + (n0 : Int)), .slice (some ⟨w2.heap.size, 0, none⟩) 0 0] 29)) = w3 at HQD ⊢
  obtain ⟨p, hp⟩ : ∃ p, p = w2.heap.size + 1 := ⟨_, rfl⟩
  rw [← hp] at ⊢
  obtain ⟨hQD, hwp, hrp⟩ := HQD.out p hp
  have HQ3 := Lib.hid hQD
  clear HQD hp hQD hs2 ew hn0
  generalize (1 + (n0 : Int)) = nx0 at HQ3 ⊢
  generalize (Value.slice (some ⟨w2.heap.size, 0, none⟩) 0 0) = v0 at HQ3 ⊢
  go_wp2_with fail
  refine Calls.mono (pick_any _ (by omega) _ B b _ (by omega) HQ3.out.rd) ?_
  rintro e w4 ⟨n, hn, rfl, h4, hg4⟩
  have HQ4 := Lib.hid (HQ3.out.grown hg4 h4 hbl hwr hwp)
  clear HQ3 h4 hg4
  go_wp2_with fail
  go_loopg [5] n (fun g i wr => ∃ (k : Nat) (nx : Int) (v : Value) (ls : List Qi.L), k ≤ n ∧ Hid (g = n - k) ∧ i = .int .i64 k ∧ Hid (Qd w B b r p (m + 2 + 14 * k) nx v ls wr))
  case atStart => exact ⟨0, _, _, _, Nat.zero_le _, Lib.hid rfl, rfl, HQ4⟩
  case round =>
    obtain ⟨k, nx, v, ls, hk, HG, rfl, HQ⟩ := hrel
    have hk7 : k ≤ 7 := by omega
    by_cases hlt : k < n
    · have hlti : (k : Int) < (n : Int) := by omega
      obtain ⟨A, c, hv, hc1, hc2⟩ := HQ.out.own.form
      subst hv
      have hl6 := HQ.out.len
      have b0 := cell_at HQ.out.q 0 _ rfl
      have b1 := cell_at HQ.out.q 1 _ rfl
      go_upto_region 6 with fail
      have HMK : Hid (m + 2 + 14 * k ≤ 999980000) := Lib.hid (by omega)
      have HRD := Lib.hid HQ.out.drew.rd
      have HQA := Lib.hid (HQ.out.drew.laid (.cells #[.int .i64 0, .slice none 0 0] 29))
      have HRDA := Lib.hid HQA.out.rd
      have HXA : Hid ((wr.drew.alloc (.cells #[.int .i64 0, .slice none 0 0] 29)).heap[wr.heap.size]? = some (.cells #[.int .i64 0, .slice none 0 0] 29 (0, 0))) := Lib.hid (heap_alloc_new wr.drew (.cells #[.int .i64 0, .slice none 0 0] 29))
      have hplr := HQ.out.pl
      have hrlr := HQ.out.rl
      have hnr : p ≠ wr.heap.size := by omega
      have hnr' : wr.heap.size ≠ p := by omega
      go_cut [6, 7] (fun v6 v7 wx => ∃ (q : Nat) (fd : Bool) (nx4 : Int) (A4 : Option Addr) (c4 : Nat) (ms : List Qi.L), v6 = .pointer (some ⟨q, 0, none⟩) ∧ v7 = .bool fd ∧ q ≠ p ∧ ms.length ≤ 6 ∧ Hid (wx.heap[q]? = some (.cells #[.int .i64 nx4, .slice A4 ms.length c4] 29 (0, 0))) ∧ Hid (Qo wx w.heap.size (.slice A4 ms.length c4) ms) ∧ Hid (Qd w B b r p (m + 2 + 14 * k + 11) nx (.slice A ls.length c) ls wx))
      case first =>
        go_region_held3 (fun w' => w'.cell? ⟨p, 0, none⟩ = some (.int .i64 nx) ∧ w'.cell? ⟨p, 1, none⟩ = some (.slice A ls.length c))
          (first | exact ⟨b0, b1⟩ | exact ⟨e0, e1⟩ | exact ⟨g0, g1⟩ | go_keep | (refine ⟨?_, ?_⟩ <;> (simp [go_sem, *]; done)) | (refine ⟨?_, ?_⟩ <;> (simp [go_sem]; first | exact g0 | exact g1)))
          (first
            | (go_at_call 41; refine Calls.mono (l92Letter_any _ B b _ HMK.out HRD.out) ?_; rintro e w5 ⟨f, us, A2, c2, t, hf, hul, hus, ht, rfl, ho5, h5, hg5⟩; have HQ5 := Lib.hid (HQ.out.drew.grown hg5 h5 hbl hwr hwp); have e0 := cell_at HQ5.out.q 0 _ rfl; have e1 := cell_at HQ5.out.q 1 _ rfl; have HIT : Hid (∀ W, Below w5.heap.size w5 W → AtItems W W.heap.size A ls) := Lib.hid (fun W hW => (HQ5.out.below hW).own.items rfl); have HSL : Hid (∀ W, Below w5.heap.size w5 W → AtStrs W W.heap.size A2 us) := Lib.hid (fun W hW => at_strs (OwnL.at_ (OwnL.below ho5 hW) St.cells_len rfl) (fun u hu => by have := hus u hu; unfold maxLen; omega)); have HBA : Hid (Below w5.heap.size w5 (w5.alloc (.cells #[.int .i64 0, .slice none 0 0] 29))) := Lib.hid (Below.alloc (Below.refl _ _) (Nat.le_refl _) _); have HNA := Lib.hid (heap_alloc_new w5 (.cells #[.int .i64 0, .slice none 0 0] 29)); have hpl5 := HQ5.out.pl; have hrl5 := HQ5.out.rl; have hnp5 : p ≠ w5.heap.size := (by omega); have hnp5' : w5.heap.size ≠ p := (by omega); have hcc := own_cap ho5; have hfm : f.size ≤ maxLen := (by unfold maxLen; omega); have htm : t.size ≤ maxLen := (by unfold maxLen; omega); clear ho5 h5 hg5 hus)
            | (go_at_call 41; refine Calls.mono (l92Letter_any _ B b _ HMK.out HRDA.out) ?_; rintro e w5 ⟨f, us, A2, c2, t, hf, hul, hus, ht, rfl, ho5, h5, hg5⟩; have HQ5 := Lib.hid (HQA.out.grown hg5 h5 hbl hwr hwp); have HXZ := Lib.hid ((hg5.block wr.heap.size (by simp) (by intro e; injection e with e; omega)).trans HXA.out); have e0 := cell_at HQ5.out.q 0 _ rfl; have e1 := cell_at HQ5.out.q 1 _ rfl; have HIT : Hid (∀ W, Below w5.heap.size w5 W → AtItems W W.heap.size A ls) := Lib.hid (fun W hW => (HQ5.out.below hW).own.items rfl); have HSL : Hid (∀ W, Below w5.heap.size w5 W → AtStrs W W.heap.size A2 us) := Lib.hid (fun W hW => at_strs (OwnL.at_ (OwnL.below ho5 hW) St.cells_len rfl) (fun u hu => by have := hus u hu; unfold maxLen; omega)); have HBA : Hid (Below w5.heap.size w5 (w5.alloc (.cells #[.int .i64 0, .slice none 0 0] 29))) := Lib.hid (Below.alloc (Below.refl _ _) (Nat.le_refl _) _); have HNA := Lib.hid (heap_alloc_new w5 (.cells #[.int .i64 0, .slice none 0 0] 29)); have hpl5 := HQ5.out.pl; have hrl5 := HQ5.out.rl; have hnp5 : p ≠ w5.heap.size := (by omega); have hnp5' : w5.heap.size ≠ p := (by omega); have hcc := own_cap ho5; have hfm : f.size ≤ maxLen := (by unfold maxLen; omega); have htm : t.size ≤ maxLen := (by unfold maxLen; omega); clear ho5 h5 hg5 hus)
            | (go_at_call 40; refine Calls.mono (sQueueAdd_any nx A ls c f t A2 us c2 _ (HIT.out _ HBA.out) hl6 (HSL.out _ HBA.out) hcc.1 hcc.2 hfm htm) ?_; rintro e w6 ⟨nx4, v4, ms, fd, rfl, hq6, hml, hb6⟩; obtain ⟨A4, c4, hv4, _, _⟩ := hq6.form; subst hv4; have HQ6 := Lib.hid ((HQ5.out.below HBA.out).below hb6); have HO6 := Lib.hid (hq6.base (HQ5.out.below HBA.out).gr.size); have g0 := cell_at HQ6.out.q 0 _ rfl; have g1 := cell_at HQ6.out.q 1 _ rfl; have hpl6 := HQ6.out.pl; have HXB := Lib.hid ((hb6.block w5.heap.size (by simp)).trans HNA.out); have x0 := cell_at HXB.out 0 _ rfl; have x1 := cell_at HXB.out 1 _ rfl; have y0 := free_at HXB.out 0; have y1 := free_at HXB.out 1; clear hq6 hb6)
            | (go_at_call 40; refine Calls.mono (sQueueAdd_any nx A ls c f t A2 us c2 _ (HIT.out _ (Below.refl _ _)) hl6 (HSL.out _ (Below.refl _ _)) hcc.1 hcc.2 hfm htm) ?_; rintro e w6 ⟨nx4, v4, ms, fd, rfl, hq6, hml, hb6⟩; obtain ⟨A4, c4, hv4, _, _⟩ := hq6.form; subst hv4; have HQ6 := Lib.hid ((HQ5.out.below (Below.refl _ _)).below hb6); have HO6 := Lib.hid (hq6.base (HQ5.out.below (Below.refl _ _)).gr.size); have g0 := cell_at HQ6.out.q 0 _ rfl; have g1 := cell_at HQ6.out.q 1 _ rfl; have hpl6 := HQ6.out.pl; have HXC := Lib.hid ((hb6.block wr.heap.size (Array.getElem?_eq_some_iff.1 HXZ.out).1).trans HXZ.out); have x0 := cell_at HXC.out 0 _ rfl; have x1 := cell_at HXC.out 1 _ rfl; have y0 := free_at HXC.out 0; have y1 := free_at HXC.out 1; clear hq6 hb6)
            | (go_at_call 40; refine Calls.mono (sQueueAdd_any nx A ls c f t A2 us c2 _ (HIT.out _ (Below.refl _ _)) hl6 (HSL.out _ (Below.refl _ _)) hcc.1 hcc.2 hfm htm) ?_; rintro e w6 ⟨nx4, v4, ms, fd, rfl, hq6, hml, hb6⟩; obtain ⟨A4, c4, hv4, _, _⟩ := hq6.form; subst hv4; have HQ6 := Lib.hid ((HQ5.out.below (Below.refl _ _)).below hb6); have HO6 := Lib.hid (hq6.base (HQ5.out.below (Below.refl _ _)).gr.size); have g0 := cell_at HQ6.out.q 0 _ rfl; have g1 := cell_at HQ6.out.q 1 _ rfl; have hpl6 := HQ6.out.pl; have hnp : p ≠ w6.heap.size := (by omega); have hnp' : w6.heap.size ≠ p := (by omega); have HQ7 := Lib.hid (HQ6.out.laid (.cells #[.int .i64 nx4, .slice A4 ms.length c4] 29)); have HO7 := Lib.hid (HO6.out.below (Below.alloc (Below.refl _ _) (Nat.le_refl _) (.cells #[.int .i64 nx4, .slice A4 ms.length c4] 29))); have HX7 := Lib.hid (heap_alloc_new w6 (.cells #[.int .i64 nx4, .slice A4 ms.length c4] 29)); clear hq6 hb6))
        all_goals
          go_wp2_with fail
          go_meet
          first
          | exact ⟨w6.heap.size, fd, nx4, A4, c4, ms, rfl, rfl, hnp', hml, HX7, HO7, HQ7⟩
          | exact ⟨w5.heap.size, fd, nx4, A4, c4, ms, rfl, rfl, hnp5', hml, Lib.hid (HQ6.out.filled HXB.out HO6.out hbl (HQ5.out.gr.size) hnp5' (by omega) rfl).1, Lib.hid (HQ6.out.filled HXB.out HO6.out hbl (HQ5.out.gr.size) hnp5' (by omega) rfl).2.1, Lib.hid (HQ6.out.filled HXB.out HO6.out hbl (HQ5.out.gr.size) hnp5' (by omega) rfl).2.2⟩
          | exact ⟨wr.heap.size, fd, nx4, A4, c4, ms, rfl, rfl, hnr', hml, Lib.hid (HQ6.out.filled HXC.out HO6.out hbl (HQ.out.gr.size) hnr' (by omega) rfl).1, Lib.hid (HQ6.out.filled HXC.out HO6.out hbl (HQ.out.gr.size) hnr' (by omega) rfl).2.1, Lib.hid (HQ6.out.filled HXC.out HO6.out hbl (HQ.out.gr.size) hnr' (by omega) rfl).2.2⟩
      obtain ⟨q, fd, nx4, A4, c4, ms, rfl, rfl, hqp, hml, HX, HO, HD⟩ := hcut
      obtain ⟨w6, hwm⟩ : ∃ wm, wm = wc := ⟨_, rfl⟩
      subst hwm
      clear HQ b0 b1 HRD HQA HRDA HXA hplr hrlr hnr hnr' hl6
      go_upto_if 27 with fail
      go_cut [] (fun wx => ∃ (nx5 : Int) (v5 : Value) (ls5 : List Qi.L), Hid (Qd w B b r p (m + 2 + 14 * k + 11) nx5 v5 ls5 wx))
      case first =>
        have x0 := cell_at HX.out 0 _ rfl
        have x1 := cell_at HX.out 1 _ rfl
        have k0 := cell_at HD.out.q 0 _ rfl
        have k1 := cell_at HD.out.q 1 _ rfl
        have f0 := free_at HD.out.q 0
        have f1 := free_at HD.out.q 1
        cases fd
        · go_wp2_with fail
          go_meet
          exact ⟨nx, _, ls, HD⟩
        · go_wp2_with fail
          go_meet
          exact ⟨nx4, _, ms, Lib.hid (HD.out.put HO.out hml hbl hwr hwp hrp)⟩
      obtain ⟨nx5, v5, ls5, HD5⟩ := hcut
      obtain ⟨w7, hwm⟩ : ∃ wm, wm = wc := ⟨_, rfl⟩
      subst hwm
      clear HX HO HD
      obtain ⟨A5, c5, hv5, _, _⟩ := HD5.out.own.form
      subst hv5
      have l1 := cell_at HD5.out.q 1 _ rfl
      by_cases hl0 : 0 < ls5.length
      · have hl0i : (0 : Int) < (ls5.length : Int) := by omega
        go_wp2_with fail
        refine Calls.mono (pick_any _ (by omega) _ B b _ (by omega) HD5.out.rd) ?_
        rintro e w8 ⟨r8, hr8, rfl, h8, hg8⟩
        have HD8 := Lib.hid (HD5.out.grown hg8 h8 hbl hwr hwp)
        clear l1 h8 hg8 HD5
        by_cases hz : r8 = 0
        · subst hz
          go_upto_region 10 with fail
          obtain ⟨g, cur, hA, hgB, hgc, hids⟩ := HD8.out.own.cell0 rfl hl0
          subst hA
          have hgl : g < w8.heap.size := (Array.getElem?_eq_some_iff.1 hgc).1
          have hgb : g ≠ b := by omega
          have HGP : Hid (g ≠ p) := Lib.hid (by intro e; rw [e, HD8.out.q] at hgc; injection hgc with hgc; injection hgc with _ e2; exact absurd e2 (by decide))
          have HSB : Hid (∀ W : World, W.heap[g]? = w8.heap[g]? → ∀ j : Nat, j < ls5.length → W.cell? ⟨g, j * 4, none⟩ = some (.int .i64 (Qi.idAt ls5 j))) := Lib.hid (fun W hW j hj => (cell_of_block hW _).trans (hids j hj).1)
          have HPL := Lib.hid (Nat.lt_of_lt_of_le hbl HD8.out.gr.size)
          have k0 := cell_at HD8.out.q 0 _ rfl
          have k1 := cell_at HD8.out.q 1 _ rfl
          have hp8 := HD8.out.pl
          have hs8 := HD8.out.gr.size
          have hs8b : w8.heap.size ≠ b := by omega
          have HQ0 := Lib.hid HD8.out.drew
          have HQ1 := Lib.hid (HD8.out.drew.laid (.cells #[.string ⟨#[97, 109, 121]⟩, .string ⟨#[98, 111, 98]⟩, .string ⟨#[99, 121, 100]⟩] 9))
          have HG1 : Hid (g < (w8.drew.alloc (.cells #[.string ⟨#[97, 109, 121]⟩, .string ⟨#[98, 111, 98]⟩, .string ⟨#[99, 121, 100]⟩] 9)).heap.size) := Lib.hid (Nat.lt_of_lt_of_le hgl (Nat.le_of_lt (by simp)))
          have HL1 : Hid ((w8.drew.alloc (.cells #[.string ⟨#[97, 109, 121]⟩, .string ⟨#[98, 111, 98]⟩, .string ⟨#[99, 121, 100]⟩] 9)).heap[g]? = w8.heap[g]?) := Lib.hid (Below.heap_alloc w8.drew _ g hgl)
          have HC1 : Hid (∀ j, j < 3 → ∃ u : ByteArray, decide (u.size ≤ 9) = true ∧ (w8.drew.alloc (.cells #[.string ⟨#[97, 109, 121]⟩, .string ⟨#[98, 111, 98]⟩, .string ⟨#[99, 121, 100]⟩] 9)).cell? ⟨w8.heap.size, j, none⟩ = some (.string u)) := Lib.hid (laid_of (fun u => decide (u.size ≤ 9)) #[.string ⟨#[97, 109, 121]⟩, .string ⟨#[98, 111, 98]⟩, .string ⟨#[99, 121, 100]⟩] 9 w8.drew 3 rfl (by decide))
          clear hids hgc
          have HB81 : Hid (Below w8.heap.size w8 (w8.drew.alloc (.cells #[.string ⟨#[97, 109, 121]⟩, .string ⟨#[98, 111, 98]⟩, .string ⟨#[99, 121, 100]⟩] 9))) := Lib.hid ((below_drewN (Below.refl _ _) 1).alloc (Nat.le_refl _) _)
          refine wp_region_noPanic ?_
          refine wp_region_tail (S := (fun w' => (w'.cell? ⟨p, 0, none⟩ = some (.int .i64 nx5) ∧ w'.cell? ⟨p, 1, none⟩ = some (.slice (some ⟨g, 0, none⟩) ls5.length c5)) ∧ ∀ j : Nat, j < ls5.length → w'.cell? ⟨g, j * 4, none⟩ = some (.int .i64 (Qi.idAt ls5 j)))) 19 (by kernel_rfl) ?_
          have hHeld : (fun w' => (w'.cell? ⟨p, 0, none⟩ = some (.int .i64 nx5) ∧ w'.cell? ⟨p, 1, none⟩ = some (.slice (some ⟨g, 0, none⟩) ls5.length c5)) ∧ ∀ j : Nat, j < ls5.length → w'.cell? ⟨g, j * 4, none⟩ = some (.int .i64 (Qi.idAt ls5 j))) w8.drew := ⟨⟨k0, k1⟩, HSB.out _ rfl⟩
          try dsimp only at hHeld
          refine tail_take 0 (v := ?_) (by decide) (by decide) (by kernel_rfl) (fun _ _ _ h => h) (Or.inl ⟨by rfl, ?_⟩) hHeld ?_
          rotate_left
          · intro w hSw; (try dsimp only at hSw); simp only [List.getElem_toArray, List.getElem_cons_zero]; go_simp; all_goals with_reducible rfl
          try simp only [List.getElem_toArray, List.getElem_cons_zero, Act.put, List.setIfInBounds_toArray, List.set_cons_zero, List.set_cons_succ]
          refine tail_take 1 (v := ?_) (by decide) (by decide) (by kernel_rfl) (fun _ _ _ h => h) (Or.inl ⟨by rfl, ?_⟩) hHeld ?_
          rotate_left
          · intro w hSw; (try dsimp only at hSw); simp only [List.getElem_toArray, List.getElem_cons_succ, List.getElem_cons_zero]; go_simp; all_goals with_reducible rfl
          try simp only [List.getElem_toArray, List.getElem_cons_succ, List.getElem_cons_zero, Act.put, List.setIfInBounds_toArray, List.set_cons_zero, List.set_cons_succ]
          refine tail_take 2 (v := ?_) (by decide) (by decide) (by kernel_rfl) (fun _ _ _ h => h) (Or.inl ⟨by rfl, ?_⟩) hHeld ?_
          rotate_left
          · intro w hSw; (try dsimp only at hSw); simp only [List.getElem_toArray, List.getElem_cons_succ, List.getElem_cons_zero]; go_simp; all_goals with_reducible rfl
          try simp only [List.getElem_toArray, List.getElem_cons_succ, List.getElem_cons_zero, Act.put, List.setIfInBounds_toArray, List.set_cons_zero, List.set_cons_succ]
          refine tail_take 3 (v := ?_) (by decide) (by decide) (by kernel_rfl) (fun _ _ _ h => h) (Or.inl ⟨by rfl, ?_⟩) hHeld ?_
          rotate_left
          · intro w hSw; (try dsimp only at hSw); simp only [List.getElem_toArray, List.getElem_cons_succ, List.getElem_cons_zero]; go_simp; all_goals with_reducible rfl
          try simp only [List.getElem_toArray, List.getElem_cons_succ, List.getElem_cons_zero, Act.put, List.setIfInBounds_toArray, List.set_cons_zero, List.set_cons_succ]
          refine tail_take 4 (v := ?_) (by decide) (by decide) (by kernel_rfl) (fun _ _ _ h => h) (Or.inl ⟨by rfl, ?_⟩) hHeld ?_
          rotate_left
          · intro w hSw; (try dsimp only at hSw); simp only [List.getElem_toArray, List.getElem_cons_succ, List.getElem_cons_zero]; go_simp; all_goals with_reducible rfl
          try simp only [List.getElem_toArray, List.getElem_cons_succ, List.getElem_cons_zero, Act.put, List.setIfInBounds_toArray, List.set_cons_zero, List.set_cons_succ]
          refine tail_take 5 (v := ?_) (by decide) (by decide) (by kernel_rfl) (fun _ _ _ h => h) (Or.inl ⟨by rfl, ?_⟩) hHeld ?_
          rotate_left
          · intro w hSw; (try dsimp only at hSw); simp only [List.getElem_toArray, List.getElem_cons_succ, List.getElem_cons_zero]; go_simp; all_goals with_reducible rfl
          try simp only [List.getElem_toArray, List.getElem_cons_succ, List.getElem_cons_zero, Act.put, List.setIfInBounds_toArray, List.set_cons_zero, List.set_cons_succ]
          refine tail_take 6 (v := ?_) (by decide) (by decide) (by kernel_rfl) (fun _ _ _ h => h) (Or.inl ⟨by rfl, ?_⟩) hHeld ?_
          rotate_left
          · intro w hSw; (try dsimp only at hSw); simp only [List.getElem_toArray, List.getElem_cons_succ, List.getElem_cons_zero]; go_simp; all_goals with_reducible rfl
          try simp only [List.getElem_toArray, List.getElem_cons_succ, List.getElem_cons_zero, Act.put, List.setIfInBounds_toArray, List.set_cons_zero, List.set_cons_succ]
          refine tail_take 11 (v := ?_) (by decide) (by decide) (by kernel_rfl) (fun _ _ _ h => h) (Or.inl ⟨by rfl, ?_⟩) hHeld ?_
          rotate_left
          · intro w hSw; (try dsimp only at hSw); simp only [List.getElem_toArray, List.getElem_cons_succ, List.getElem_cons_zero]; go_simp; all_goals with_reducible rfl
          try simp only [List.getElem_toArray, List.getElem_cons_succ, List.getElem_cons_zero, Act.put, List.setIfInBounds_toArray, List.set_cons_zero, List.set_cons_succ]
          refine tail_two 7 12 (by kernel_rfl) ?_ ?_
          · intro hi K hK
            simp only [List.getElem_toArray, List.getElem_cons_succ, List.getElem_cons_zero]
            go_simp
            refine Calls.mono (pick_any _ (by omega) _ B b _ (by omega) HQ0.out.rd) ?_
            rintro e w5 ⟨r5, hr5, rfl, h5, hg5⟩
            have HQ5 := Lib.hid (HQ0.out.grown hg5 h5 hbl hwr hwp)
            have hr5n : r5 < ls5.length := (by omega)
            have hr50 : (0 : Int) ≤ (r5 : Int) := (by omega)
            have hgb5 : w5.heap[g]? = w8.heap[g]? := (hg5.block g hgl (by intro e; injection e with e; exact hgb e))
            have hgl5 : g < w5.heap.size := (Nat.lt_of_lt_of_le hgl hg5.size)
            have e0 := cell_at HQ5.out.q 0 _ rfl
            have e1 := cell_at HQ5.out.q 1 _ rfl
            have hp5 := HQ5.out.pl
            have HQ5A := Lib.hid (HQ5.out.laid (.cells #[.string ⟨#[97, 109, 121]⟩, .string ⟨#[98, 111, 98]⟩, .string ⟨#[99, 121, 100]⟩] 9))
            have HC5 := Lib.hid (laid_of (fun u => decide (u.size ≤ 9)) #[.string ⟨#[97, 109, 121]⟩, .string ⟨#[98, 111, 98]⟩, .string ⟨#[99, 121, 100]⟩] 9 w5 3 rfl (by decide))
            have hs5 := HQ5.out.gr.size
            clear h5 hg5
            refine hK _ _ ?_ (fun hHeld => ?_)
            · exact ⟨⟨e0, e1⟩, HSB.out _ hgb5⟩
            clear hK K
            try simp only [List.getElem_toArray, List.getElem_cons_succ, List.getElem_cons_zero, Act.put, List.setIfInBounds_toArray, List.set_cons_zero, List.set_cons_succ]
            refine tail_take 8 (v := ?_) (by decide) (by decide) (by kernel_rfl) (fun _ _ _ h => h) (Or.inl ⟨by rfl, ?_⟩) hHeld ?_
            rotate_left
            · intro w hSw; (try dsimp only at hSw); simp only [List.getElem_toArray, List.getElem_cons_succ, List.getElem_cons_zero]; go_simp; all_goals with_reducible rfl
            try simp only [List.getElem_toArray, List.getElem_cons_succ, List.getElem_cons_zero, Act.put, List.setIfInBounds_toArray, List.set_cons_zero, List.set_cons_succ]
            refine tail_take 9 (v := ?_) (by decide) (by decide) (by kernel_rfl) (fun _ _ _ h => h) (Or.inl ⟨by rfl, ?_⟩) hHeld ?_
            rotate_left
            · intro w hSw; (try dsimp only at hSw); simp only [List.getElem_toArray, List.getElem_cons_succ, List.getElem_cons_zero]; go_simp; all_goals with_reducible rfl
            try simp only [List.getElem_toArray, List.getElem_cons_succ, List.getElem_cons_zero, Act.put, List.setIfInBounds_toArray, List.set_cons_zero, List.set_cons_succ]
            refine tail_take 10 (v := ?_) (by decide) (by decide) (by kernel_rfl) (fun _ _ _ h => h) (Or.inl ⟨by rfl, ?_⟩) hHeld ?_
            rotate_left
            · intro w hSw; (try dsimp only at hSw); simp only [List.getElem_toArray, List.getElem_cons_succ, List.getElem_cons_zero]; go_simp; all_goals with_reducible rfl
            try simp only [List.getElem_toArray, List.getElem_cons_succ, List.getElem_cons_zero, Act.put, List.setIfInBounds_toArray, List.set_cons_zero, List.set_cons_succ]
            have HBE : Hid (Below w5.heap.size w5 (w5.alloc (.cells #[.string ⟨#[97, 109, 121]⟩, .string ⟨#[98, 111, 98]⟩, .string ⟨#[99, 121, 100]⟩] 9))) := Lib.hid (Below.alloc (Below.refl _ _) (Nat.le_refl _) _)
            refine tail_one 12 (by kernel_rfl) ?_
            intro hi K hK
            simp only [List.getElem_toArray, List.getElem_cons_succ, List.getElem_cons_zero]
            go_simp
            refine hK _ _ ?_ (fun hHeld => ?_)
            · exact ⟨⟨(HBE.out.cell (p := ⟨p, 0, none⟩) hp5).trans e0, (HBE.out.cell (p := ⟨p, 1, none⟩) hp5).trans e1⟩, HSB.out _ ((Below.heap_alloc w5 _ g hgl5).trans hgb5)⟩
            clear hK K
            try simp only [List.getElem_toArray, List.getElem_cons_succ, List.getElem_cons_zero, Act.put, List.setIfInBounds_toArray, List.set_cons_zero, List.set_cons_succ]
            refine tail_one 13 (by kernel_rfl) ?_
            intro hi K hK
            simp only [List.getElem_toArray, List.getElem_cons_succ, List.getElem_cons_zero]
            go_simp
            refine Calls.mono (of_any (fun u => decide (u.size ≤ 9) = true) 3 w5.heap.size (by omega) _ B b _ (by omega) (by omega) HQ5A.out.rd HC5.out) ?_
            rintro e w6 ⟨nm, _, rfl, h6, hg6⟩
            have HQ6 := Lib.hid (HQ5A.out.grown hg6 h6 hbl hwr hwp)
            have hgb6 : w6.heap[g]? = w8.heap[g]? := ((hg6.block g (by simp; omega) (by intro e; injection e with e; exact hgb e)).trans ((Below.heap_alloc w5 _ g hgl5).trans hgb5))
            have g0 := cell_at HQ6.out.q 0 _ rfl
            have g1 := cell_at HQ6.out.q 1 _ rfl
            have hgl6 : g < w6.heap.size := (Nat.lt_of_lt_of_le hgl5 (Nat.le_trans (by simp) hg6.size))
            clear h6 hg6
            refine hK _ _ ?_ (fun hHeld => ?_)
            · exact ⟨⟨g0, g1⟩, HSB.out _ hgb6⟩
            clear hK K
            try simp only [List.getElem_toArray, List.getElem_cons_succ, List.getElem_cons_zero, Act.put, List.setIfInBounds_toArray, List.set_cons_zero, List.set_cons_succ]
            refine tail_one 14 (by kernel_rfl) ?_
            intro hi K hK
            simp only [List.getElem_toArray, List.getElem_cons_succ, List.getElem_cons_zero]
            go_simp
            refine Calls.mono (sQueueTake_any nx5 (some ⟨g, 0, none⟩) ls5 c5 (Qi.idAt ls5 r5) nm _ (HQ6.out.own.items rfl) HQ6.out.len HQ6.out.own.siz) ?_
            rintro e wt ⟨nt, vt, mt, txt, fd, rfl, hqt, hmt, hbt⟩
            obtain ⟨At, ct, hvt, _, _⟩ := hqt.form
            subst hvt
            have HQ7 := Lib.hid (HQ6.out.below hbt)
            have HO7 := Lib.hid (hqt.base HQ6.out.gr.size)
            have hgb7 : wt.heap[g]? = w8.heap[g]? := ((hbt.block g hgl6).trans hgb6)
            have t0 := cell_at HQ7.out.q 0 _ rfl
            have t1 := cell_at HQ7.out.q 1 _ rfl
            have ft0 := free_at HQ7.out.q 0
            have ft1 := free_at HQ7.out.q 1
            have HGS : Hid (((wt.setCell ⟨p, 0, none⟩ (.int .i64 nt)).setCell ⟨p, 1, none⟩ (.slice At mt.length ct)).heap[g]? = w8.heap[g]?) := (Lib.hid ((Below.heap_setCell _ _ _ _ HGP.out).trans ((Below.heap_setCell _ _ _ _ HGP.out).trans hgb7)))
            clear hqt hbt
            refine hK _ _ ?_ (fun hHeld => ?_)
            · exact ⟨⟨t0, t1⟩, HSB.out _ hgb7⟩
            clear hK K
            try simp only [List.getElem_toArray, List.getElem_cons_succ, List.getElem_cons_zero, Act.put, List.setIfInBounds_toArray, List.set_cons_zero, List.set_cons_succ]
            refine tail_take 15 (v := ?_) (by decide) (by decide) (by kernel_rfl) (fun _ _ _ h => h) (Or.inl ⟨by rfl, ?_⟩) hHeld ?_
            rotate_left
            · intro w hSw; (try dsimp only at hSw); simp only [List.getElem_toArray, List.getElem_cons_succ, List.getElem_cons_zero]; go_simp; all_goals with_reducible rfl
            try simp only [List.getElem_toArray, List.getElem_cons_succ, List.getElem_cons_zero, Act.put, List.setIfInBounds_toArray, List.set_cons_zero, List.set_cons_succ]
            refine tail_take 16 (v := ?_) (by decide) (by decide) (by kernel_rfl) (fun _ _ _ h => h) (Or.inl ⟨by rfl, ?_⟩) hHeld ?_
            rotate_left
            · intro w hSw; (try dsimp only at hSw); simp only [List.getElem_toArray, List.getElem_cons_succ, List.getElem_cons_zero]; go_simp; all_goals with_reducible rfl
            try simp only [List.getElem_toArray, List.getElem_cons_succ, List.getElem_cons_zero, Act.put, List.setIfInBounds_toArray, List.set_cons_zero, List.set_cons_succ]
            refine tail_free 17 (v := ?_) (by decide) (by decide) (by kernel_rfl) (fun _ _ _ h => h) (Or.inl ⟨by rfl, ?_⟩) hHeld ?_
            rotate_left
            · intro w _; simp only [List.getElem_toArray, List.getElem_cons_succ, List.getElem_cons_zero]; go_simp; all_goals with_reducible rfl
            try simp only [List.getElem_toArray, List.getElem_cons_succ, List.getElem_cons_zero, Act.put, List.setIfInBounds_toArray, List.set_cons_zero, List.set_cons_succ]
            refine tail_free 18 (v := ?_) (by decide) (by decide) (by kernel_rfl) (fun _ _ _ h => h) (Or.inl ⟨by rfl, ?_⟩) hHeld ?_
            rotate_left
            · intro w _; simp only [List.getElem_toArray, List.getElem_cons_succ, List.getElem_cons_zero]; go_simp; all_goals with_reducible rfl
            try simp only [List.getElem_toArray, List.getElem_cons_succ, List.getElem_cons_zero, Act.put, List.setIfInBounds_toArray, List.set_cons_zero, List.set_cons_succ]
            refine tail_last (by decide) (by kernel_rfl) (by kernel_rfl) ?_
            intro K hK
            simp only [List.getElem_toArray, List.getElem_cons_succ, List.getElem_cons_zero]
            go_simp
            refine hK _ _ ?_
            clear hK K
            try simp only [List.getElem_toArray, List.getElem_cons_succ, List.getElem_cons_zero, Act.put, List.setIfInBounds_toArray, List.set_cons_zero, List.set_cons_succ]
            refine NoPanic.normal ?_
            go_wp2_with fail
            go_roundg (n - (k + 1))
            case measure => have := HG.out; omega
            case rel => exact ⟨k + 1, nt, _, mt, by omega, Lib.hid rfl, by go_num, Lib.hid ((HQ7.out.put HO7.out hmt hbl hwr hwp hrp).mono (by omega))⟩
          · intro hi K hK
            simp only [List.getElem_toArray, List.getElem_cons_succ, List.getElem_cons_zero]
            go_simp
            refine hK _ _ ?_ (fun hHeld => ?_)
            · exact ⟨⟨(HB81.out.cell (p := ⟨p, 0, none⟩) hp8).trans k0, (HB81.out.cell (p := ⟨p, 1, none⟩) hp8).trans k1⟩, HSB.out _ HL1.out⟩
            clear hK K
            try simp only [List.getElem_toArray, List.getElem_cons_succ, List.getElem_cons_zero, Act.put, List.setIfInBounds_toArray, List.set_cons_zero, List.set_cons_succ]
            refine tail_one 7 (by kernel_rfl) ?_
            intro hi K hK
            simp only [List.getElem_toArray, List.getElem_cons_succ, List.getElem_cons_zero]
            go_simp
            refine Calls.mono (pick_any _ (by omega) _ B b _ (by omega) HQ1.out.rd) ?_
            rintro e w5 ⟨r5, hr5, rfl, h5, hg5⟩
            have HQ5 := Lib.hid (HQ1.out.grown hg5 h5 hbl hwr hwp)
            have hr5n : r5 < ls5.length := (by omega)
            have hr50 : (0 : Int) ≤ (r5 : Int) := (by omega)
            have hgb5 : w5.heap[g]? = w8.heap[g]? := ((hg5.block g HG1.out (by intro e; injection e with e; exact hgb e)).trans HL1.out)
            have hgl5 : g < w5.heap.size := (Nat.lt_of_lt_of_le HG1.out hg5.size)
            have e0 := cell_at HQ5.out.q 0 _ rfl
            have e1 := cell_at HQ5.out.q 1 _ rfl
            have hp5 := HQ5.out.pl
            have HCB : Hid (∀ j, j < 3 → ∃ u : ByteArray, decide (u.size ≤ 9) = true ∧ w5.cell? ⟨w8.heap.size, j, none⟩ = some (.string u)) := (Lib.hid (fun j hj => by obtain ⟨u, hu, hc⟩ := HC1.out j hj; exact ⟨u, hu, hg5.cell hc (by intro e; injection e with e; exact hs8b e)⟩))
            clear h5 hg5
            refine hK _ _ ?_ (fun hHeld => ?_)
            · exact ⟨⟨e0, e1⟩, HSB.out _ hgb5⟩
            clear hK K
            try simp only [List.getElem_toArray, List.getElem_cons_succ, List.getElem_cons_zero, Act.put, List.setIfInBounds_toArray, List.set_cons_zero, List.set_cons_succ]
            refine tail_take 8 (v := ?_) (by decide) (by decide) (by kernel_rfl) (fun _ _ _ h => h) (Or.inl ⟨by rfl, ?_⟩) hHeld ?_
            rotate_left
            · intro w hSw; (try dsimp only at hSw); simp only [List.getElem_toArray, List.getElem_cons_succ, List.getElem_cons_zero]; go_simp; all_goals with_reducible rfl
            try simp only [List.getElem_toArray, List.getElem_cons_succ, List.getElem_cons_zero, Act.put, List.setIfInBounds_toArray, List.set_cons_zero, List.set_cons_succ]
            refine tail_take 9 (v := ?_) (by decide) (by decide) (by kernel_rfl) (fun _ _ _ h => h) (Or.inl ⟨by rfl, ?_⟩) hHeld ?_
            rotate_left
            · intro w hSw; (try dsimp only at hSw); simp only [List.getElem_toArray, List.getElem_cons_succ, List.getElem_cons_zero]; go_simp; all_goals with_reducible rfl
            try simp only [List.getElem_toArray, List.getElem_cons_succ, List.getElem_cons_zero, Act.put, List.setIfInBounds_toArray, List.set_cons_zero, List.set_cons_succ]
            refine tail_take 10 (v := ?_) (by decide) (by decide) (by kernel_rfl) (fun _ _ _ h => h) (Or.inl ⟨by rfl, ?_⟩) hHeld ?_
            rotate_left
            · intro w hSw; (try dsimp only at hSw); simp only [List.getElem_toArray, List.getElem_cons_succ, List.getElem_cons_zero]; go_simp; all_goals with_reducible rfl
            try simp only [List.getElem_toArray, List.getElem_cons_succ, List.getElem_cons_zero, Act.put, List.setIfInBounds_toArray, List.set_cons_zero, List.set_cons_succ]
            refine tail_one 13 (by kernel_rfl) ?_
            intro hi K hK
            simp only [List.getElem_toArray, List.getElem_cons_succ, List.getElem_cons_zero]
            go_simp
            refine Calls.mono (of_any (fun u => decide (u.size ≤ 9) = true) 3 w8.heap.size (by omega) _ B b _ (by omega) (by omega) HQ5.out.rd HCB.out) ?_
            rintro e w6 ⟨nm, _, rfl, h6, hg6⟩
            have HQ6 := Lib.hid (HQ5.out.grown hg6 h6 hbl hwr hwp)
            have hgb6 : w6.heap[g]? = w8.heap[g]? := ((hg6.block g hgl5 (by intro e; injection e with e; exact hgb e)).trans hgb5)
            have g0 := cell_at HQ6.out.q 0 _ rfl
            have g1 := cell_at HQ6.out.q 1 _ rfl
            have hgl6 : g < w6.heap.size := (Nat.lt_of_lt_of_le hgl5 hg6.size)
            clear h6 hg6
            refine hK _ _ ?_ (fun hHeld => ?_)
            · exact ⟨⟨g0, g1⟩, HSB.out _ hgb6⟩
            clear hK K
            try simp only [List.getElem_toArray, List.getElem_cons_succ, List.getElem_cons_zero, Act.put, List.setIfInBounds_toArray, List.set_cons_zero, List.set_cons_succ]
            refine tail_one 14 (by kernel_rfl) ?_
            intro hi K hK
            simp only [List.getElem_toArray, List.getElem_cons_succ, List.getElem_cons_zero]
            go_simp
            refine Calls.mono (sQueueTake_any nx5 (some ⟨g, 0, none⟩) ls5 c5 (Qi.idAt ls5 r5) nm _ (HQ6.out.own.items rfl) HQ6.out.len HQ6.out.own.siz) ?_
            rintro e wt ⟨nt, vt, mt, txt, fd, rfl, hqt, hmt, hbt⟩
            obtain ⟨At, ct, hvt, _, _⟩ := hqt.form
            subst hvt
            have HQ7 := Lib.hid (HQ6.out.below hbt)
            have HO7 := Lib.hid (hqt.base HQ6.out.gr.size)
            have hgb7 : wt.heap[g]? = w8.heap[g]? := ((hbt.block g hgl6).trans hgb6)
            have t0 := cell_at HQ7.out.q 0 _ rfl
            have t1 := cell_at HQ7.out.q 1 _ rfl
            have ft0 := free_at HQ7.out.q 0
            have ft1 := free_at HQ7.out.q 1
            have HGS : Hid (((wt.setCell ⟨p, 0, none⟩ (.int .i64 nt)).setCell ⟨p, 1, none⟩ (.slice At mt.length ct)).heap[g]? = w8.heap[g]?) := (Lib.hid ((Below.heap_setCell _ _ _ _ HGP.out).trans ((Below.heap_setCell _ _ _ _ HGP.out).trans hgb7)))
            clear hqt hbt
            refine hK _ _ ?_ (fun hHeld => ?_)
            · exact ⟨⟨t0, t1⟩, HSB.out _ hgb7⟩
            clear hK K
            try simp only [List.getElem_toArray, List.getElem_cons_succ, List.getElem_cons_zero, Act.put, List.setIfInBounds_toArray, List.set_cons_zero, List.set_cons_succ]
            refine tail_take 15 (v := ?_) (by decide) (by decide) (by kernel_rfl) (fun _ _ _ h => h) (Or.inl ⟨by rfl, ?_⟩) hHeld ?_
            rotate_left
            · intro w hSw; (try dsimp only at hSw); simp only [List.getElem_toArray, List.getElem_cons_succ, List.getElem_cons_zero]; go_simp; all_goals with_reducible rfl
            try simp only [List.getElem_toArray, List.getElem_cons_succ, List.getElem_cons_zero, Act.put, List.setIfInBounds_toArray, List.set_cons_zero, List.set_cons_succ]
            refine tail_take 16 (v := ?_) (by decide) (by decide) (by kernel_rfl) (fun _ _ _ h => h) (Or.inl ⟨by rfl, ?_⟩) hHeld ?_
            rotate_left
            · intro w hSw; (try dsimp only at hSw); simp only [List.getElem_toArray, List.getElem_cons_succ, List.getElem_cons_zero]; go_simp; all_goals with_reducible rfl
            try simp only [List.getElem_toArray, List.getElem_cons_succ, List.getElem_cons_zero, Act.put, List.setIfInBounds_toArray, List.set_cons_zero, List.set_cons_succ]
            refine tail_free 17 (v := ?_) (by decide) (by decide) (by kernel_rfl) (fun _ _ _ h => h) (Or.inl ⟨by rfl, ?_⟩) hHeld ?_
            rotate_left
            · intro w _; simp only [List.getElem_toArray, List.getElem_cons_succ, List.getElem_cons_zero]; go_simp; all_goals with_reducible rfl
            try simp only [List.getElem_toArray, List.getElem_cons_succ, List.getElem_cons_zero, Act.put, List.setIfInBounds_toArray, List.set_cons_zero, List.set_cons_succ]
            refine tail_free 18 (v := ?_) (by decide) (by decide) (by kernel_rfl) (fun _ _ _ h => h) (Or.inl ⟨by rfl, ?_⟩) hHeld ?_
            rotate_left
            · intro w _; simp only [List.getElem_toArray, List.getElem_cons_succ, List.getElem_cons_zero]; go_simp; all_goals with_reducible rfl
            try simp only [List.getElem_toArray, List.getElem_cons_succ, List.getElem_cons_zero, Act.put, List.setIfInBounds_toArray, List.set_cons_zero, List.set_cons_succ]
            refine tail_last (by decide) (by kernel_rfl) (by kernel_rfl) ?_
            intro K hK
            simp only [List.getElem_toArray, List.getElem_cons_succ, List.getElem_cons_zero]
            go_simp
            refine hK _ _ ?_
            clear hK K
            try simp only [List.getElem_toArray, List.getElem_cons_succ, List.getElem_cons_zero, Act.put, List.setIfInBounds_toArray, List.set_cons_zero, List.set_cons_succ]
            refine NoPanic.normal ?_
            go_wp2_with fail
            go_roundg (n - (k + 1))
            case measure => have := HG.out; omega
            case rel => exact ⟨k + 1, nt, _, mt, by omega, Lib.hid rfl, by go_num, Lib.hid ((HQ7.out.put HO7.out hmt hbl hwr hwp hrp).mono (by omega))⟩
        · have hzb : ((r8 : Int) == 0) = false := by simp; omega
          go_wp2_with fail
          go_roundg (n - (k + 1))
          case measure => have := HG.out; omega
          case rel => exact ⟨k + 1, nx5, _, ls5, by omega, Lib.hid rfl, by go_num, Lib.hid (HD8.out.mono (by omega))⟩
      · have hl0i : ¬ (0 : Int) < (ls5.length : Int) := by omega
        go_wp2_with fail
        go_roundg (n - (k + 1))
        case measure => have := HG.out; omega
        case rel => exact ⟨k + 1, nx5, _, ls5, by omega, Lib.hid rfl, by go_num, Lib.hid (HD5.out.mono (by omega))⟩
    · obtain rfl : k = n := by omega
      have hlti : ¬ (k : Int) < (k : Int) := by omega
      go_wp2_with fail
      refine Calls.mono (pick_any _ (by omega) _ B b _ (by omega) HQ.out.rd) ?_
      rintro e w2 ⟨sw, hsw, rfl, h2, hg2⟩
      have HQ2 := Lib.hid (HQ.out.grown hg2 h2 hbl hwr hwp)
      clear HQ h2 hg2
      by_cases hs0 : sw = 0
      · subst hs0
        have HLA := Lib.hid (HQ2.out.laid (.cells #[.int .i64 0, .int .i64 1, .int .i64 99, .int .i64 100, .int .i64 101] 3))
        have HNA := Lib.hid (heap_alloc_new w2 (.cells #[.int .i64 0, .int .i64 1, .int .i64 99, .int .i64 100, .int .i64 101] 3))
        have hs2 := HQ2.out.gr.size
        go_wp2_with fail
        refine Calls.mono (pick_any _ (by omega) _ B b _ (by omega) HLA.out.rd) ?_
        rintro e w3 ⟨r3, hr3, rfl, h3, hg3⟩
        have HQ3 := Lib.hid (HLA.out.grown hg3 h3 hbl hwr hwp)
        obtain ⟨z, hz⟩ := five_at ((hg3.block w2.heap.size (by simp) (by intro e; injection e with e; omega)).trans HNA.out) hr3
        have hr30 : (0 : Int) ≤ (r3 : Int) := by omega
        have k0 := cell_at HQ3.out.q 0 _ rfl
        have f0 := free_at HQ3.out.q 0
        obtain ⟨A3, c3, hv3, _, _⟩ := HQ3.out.own.form
        subst hv3
        have HF := Lib.hid (HQ3.out.num (nx' := z) hbl hwr hwp hrp)
        have k1 := cell_at HQ3.out.q 1 _ rfl
        have q0 := cell_at HF.out.q 0 _ rfl
        have q1 := cell_at HF.out.q 1 _ rfl
        have r0 := cell_at HF.out.res 0 _ rfl
        have r1 := cell_at HF.out.res 1 _ rfl
        have fr0 := free_at HF.out.res 0
        have fr1 := free_at HF.out.res 1
        clear h3 hg3 HLA HNA
        go_wp2_with fail
        refine bodyPost_ret (v := .agg #[.int .i64 z, .slice A3 ls.length c3]) (by simp [results, Try.results24, go_sem, r0, r1]) rfl ?_
        exact HF.out.ret hbl hwr (by omega) rfl
      · have hs0b : ((sw : Int) == 0) = false := by simp; omega
        obtain ⟨A3, c3, hv3, _, _⟩ := HQ2.out.own.form
        subst hv3
        by_cases hs1 : sw = 1
        · subst hs1
          by_cases hl0 : 0 < ls.length
          · have hl0i : (0 : Int) < (ls.length : Int) := by omega
            have l1 := cell_at HQ2.out.q 1 _ rfl
            go_upto_region 16 with fail
            obtain ⟨g, cur, hA, hgB, hgc, hids⟩ := HQ2.out.own.cell0 rfl hl0
            subst hA
            have hgl : g < w2.heap.size := (Array.getElem?_eq_some_iff.1 hgc).1
            have hgb : g ≠ b := by omega
            have hgp : g ≠ p := by intro e; rw [e, HQ2.out.q] at hgc; injection hgc with hgc; injection hgc with _ e2; exact absurd e2 (by decide)
            have hpg : p ≠ g := Ne.symm hgp
            have hgr : g ≠ r := by intro e; rw [e, HQ2.out.res] at hgc; injection hgc with hgc; injection hgc with _ e2; exact absurd e2 (by decide)
            have HGC := Lib.hid hgc
            have HIDS : Hid (∀ j : Nat, j < ls.length → ∃ u, w2.cell? ⟨g, j * 4 + 3, none⟩ = some u) := Lib.hid (fun j hj => (hids j hj).2)
            have hs2 := HQ2.out.gr.size
            have hs2b : w2.heap.size ≠ b := by omega
            have hp2 := HQ2.out.pl
            have HQ0 := Lib.hid HQ2.out.drew
            have HQ1 := Lib.hid (HQ2.out.drew.laid (.cells #[] 9))
            have HE1 := Lib.hid (heap_alloc_new w2.drew (.cells #[] 9))
            have HG1 : Hid ((w2.drew.alloc (.cells #[] 9)).heap[g]? = w2.heap[g]?) := Lib.hid (Below.heap_alloc w2.drew _ g hgl)
            clear hids hgc
            go_region_held3 (fun w' => w'.cell? ⟨p, 1, none⟩ = some (.slice (some ⟨g, 0, none⟩) ls.length c3))
              (first | exact l1 | exact e1 | go_keep | exact q1)
              (first
                | (go_at_call 39; refine Calls.mono (pick_any _ (by omega) _ B b _ (by omega) HQ0.out.rd) ?_; rintro e w5 ⟨r5, hr5, rfl, h5, hg5⟩; have HQ5 := Lib.hid (HQ0.out.grown hg5 h5 hbl hwr hwp); have hr5n : r5 < ls.length := (by omega); have hr50 : (0 : Int) ≤ (r5 : Int) := (by omega); have hgb5 := (hg5.block g hgl (by intro e; injection e with e; exact hgb e)).trans HGC.out; have hgl5 : g < w5.heap.size := (Nat.lt_of_lt_of_le hgl hg5.size); have e1 := cell_at HQ5.out.q 1 _ rfl; have hp5 := HQ5.out.pl; have HQ5A := Lib.hid (HQ5.out.laid (.cells #[] 9)); obtain ⟨u0, hu0⟩ := HIDS.out r5 hr5n; have d3 := (cell_of_block (hgb5.trans HGC.out.symm) _).trans hu0; have fg := free_at hgb5 (r5 * 4 + 3); have hgbA := (Below.heap_alloc w5 (.cells #[] 9) g hgl5).trans hgb5; have d3a := (cell_of_block (hgbA.trans HGC.out.symm) _).trans hu0; have fga := free_at hgbA (r5 * 4 + 3); obtain ⟨ms, hms, hQE⟩ := HQ5A.out.empty rfl hr5n (heap_alloc_new w5 (.cells #[] 9)) HQ5.out.gr.size hgB hgp hgr hbl; rw [World.setCell_alloc_past _ _ _ _ hgl5] at hQE; have HF := Lib.hid hQE; have q0 := cell_at HF.out.q 0 _ rfl; have q1 := cell_at HF.out.q 1 _ rfl; have r0 := cell_at HF.out.res 0 _ rfl; have r1 := cell_at HF.out.res 1 _ rfl; have fr0 := free_at HF.out.res 0; have fr1 := free_at HF.out.res 1; clear h5 hg5 hQE hu0 hgb5 hgbA)
                | (go_at_call 39; refine Calls.mono (pick_any _ (by omega) _ B b _ (by omega) HQ1.out.rd) ?_; rintro e w5 ⟨r5, hr5, rfl, h5, hg5⟩; have HQ5 := Lib.hid (HQ1.out.grown hg5 h5 hbl hwr hwp); have hr5n : r5 < ls.length := (by omega); have hr50 : (0 : Int) ≤ (r5 : Int) := (by omega); have hgb5 := ((hg5.block g (Nat.lt_of_lt_of_le hgl (Nat.le_of_lt (by simp))) (by intro e; injection e with e; exact hgb e)).trans HG1.out).trans HGC.out; have hgl5 := (Array.getElem?_eq_some_iff.1 hgb5).1; have e1 := cell_at HQ5.out.q 1 _ rfl; have hp5 := HQ5.out.pl; obtain ⟨u0, hu0⟩ := HIDS.out r5 hr5n; have d3 := (cell_of_block (hgb5.trans HGC.out.symm) _).trans hu0; have fg := free_at hgb5 (r5 * 4 + 3); obtain ⟨ms, hms, hQE⟩ := HQ5.out.empty rfl hr5n ((hg5.block w2.heap.size (by simp) (by intro e; injection e with e; exact hs2b e)).trans HE1.out) hs2 hgB hgp hgr hbl; have HF := Lib.hid hQE; have q0 := cell_at HF.out.q 0 _ rfl; have q1 := cell_at HF.out.q 1 _ rfl; have r0 := cell_at HF.out.res 0 _ rfl; have r1 := cell_at HF.out.res 1 _ rfl; have fr0 := free_at HF.out.res 0; have fr1 := free_at HF.out.res 1; clear h5 hg5 hQE hu0 hgb5))
            all_goals
              go_wp2_with fail
              refine bodyPost_ret (v := .agg #[.int .i64 nx, .slice (some ⟨g, 0, none⟩) ls.length c3]) (by simp [results, Try.results24, go_sem, r0, r1]) rfl ?_
              exact HF.out.ret hbl hwr (by omega) rfl
          · have hl0i : ¬ (0 : Int) < (ls.length : Int) := by omega
            have HF := HQ2
            have q0 := cell_at HF.out.q 0 _ rfl
            have q1 := cell_at HF.out.q 1 _ rfl
            have r0 := cell_at HF.out.res 0 _ rfl
            have r1 := cell_at HF.out.res 1 _ rfl
            have fr0 := free_at HF.out.res 0
            have fr1 := free_at HF.out.res 1
            go_wp2_with fail
            refine bodyPost_ret (v := .agg #[.int .i64 nx, .slice A3 ls.length c3]) (by simp [results, Try.results24, go_sem, r0, r1]) rfl ?_
            exact HF.out.ret hbl hwr (by omega) rfl
        · have hs1b : ((sw : Int) == 1) = false := by simp; omega
          have HF := HQ2
          have q0 := cell_at HF.out.q 0 _ rfl
          have q1 := cell_at HF.out.q 1 _ rfl
          have r0 := cell_at HF.out.res 0 _ rfl
          have r1 := cell_at HF.out.res 1 _ rfl
          have fr0 := free_at HF.out.res 0
          have fr1 := free_at HF.out.res 1
          go_wp2_with fail
          refine bodyPost_ret (v := .agg #[.int .i64 nx, .slice A3 ls.length c3]) (by simp [results, Try.results24, go_sem, r0, r1]) rfl ?_
          exact HF.out.ret hbl hwr (by omega) rfl
end Go.Proofs.Ytpbaimofffcnaaa
