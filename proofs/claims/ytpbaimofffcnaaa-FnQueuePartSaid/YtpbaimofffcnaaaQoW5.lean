/- The draws of the laws on queues: DrawQueueValid, DrawQueueLeft of the specification. -/
import Derived.Test.YtpbaimofffcnaaaQoW4
namespace Go.Proofs.Ytpbaimofffcnaaa
set_option linter.unusedVariables false
open Go.RowKit

theorem Bytes.laid {w : World} {a : Option Addr} {len cap : Nat} (h : Bytes w a len cap) (o : Obj) : Bytes (w.alloc o) a len cap := by
  obtain ⟨b1, b2, b3⟩ := h
  refine ⟨b1, b2, fun hl => ?_⟩
  obtain ⟨ab, off, e1, e2, e3⟩ := b3 hl
  refine ⟨ab, off, e1, by simp; omega, fun j hj => ?_⟩
  obtain ⟨v, hv, hc⟩ := e3 j hj
  exact ⟨v, hv, (World.cell?_alloc_lt w _ _ e2).trans hc⟩
/-- what the draw of a queue gives -/
def Qo.Drawn (w : World) (e : Ending) (w' : World) : Prop :=
  ∃ nx A c ls, e = .returned (.agg #[.int .i64 nx, .slice A ls.length c]) ∧ Qo w' w.heap.size (.slice A ls.length c) ls ∧ ls.length ≤ 6 ∧ Below w.heap.size w w'
set_option maxRecDepth 100000 in
set_option maxHeartbeats 1600000 in
theorem drawQueueValid_any (a : Option Addr) (len cap : Nat) (w : World) (h : Bytes w a len cap) :
    Calls Try.prog 12 #[.slice a len cap] w (Qo.Drawn w) := by
  have h' := h.laid (.cells #[.int .i64 0, .slice none 0 0] 29)
  have hx0 := heap_alloc_new w (.cells #[.int .i64 0, .slice none 0 0] 29)
  have z0 : (w.alloc (.cells #[.int .i64 0, .slice none 0 0] 29)).heap.size = w.heap.size + 1 := by simp
  have B0 : Below w.heap.size w (w.alloc (.cells #[.int .i64 0, .slice none 0 0] 29)) := Below.alloc (Below.refl _ _) (Nat.le_refl _) _
  go_enter Try.func12, Try.ntmps12
  go_upto_region 1 with fail
  generalize w.alloc (.cells #[.int .i64 0, .slice none 0 0] 29) = w0 at h' hx0 z0 B0 ⊢
  obtain ⟨r, hr⟩ : ∃ r, r = w.heap.size := ⟨_, rfl⟩
  rw [← hr] at hx0 ⊢
  have hwr : w.heap.size ≤ r := by omega
  have hr0 : r < w0.heap.size := by omega
  clear hr z0
  go_wp2_with fail
  refine Calls.mono (l6Open_any a len cap _ h') ?_
  rintro e w1 ⟨rfl, h1, hb1⟩
  have hx1 := (hb1.block r hr0).trans hx0
  have B1 := B0.trans (hb1.mono B0.size)
  clear hb1 hx0
  obtain ⟨b, hbb⟩ : ∃ b, b = w0.heap.size := ⟨_, rfl⟩
  rw [← hbb] at h1 ⊢
  have hrb : r < b := by omega
  have hwb : w.heap.size ≤ b := by omega
  clear hbb
  go_wp2_with fail
  refine Calls.mono (l92Queue_any _ _ _ _ (by omega) h1) ?_
  rintro e w2 ⟨nx, v, ls, rfl, hq, hl, h2, hg2⟩
  have hx2 := (hg2.block r (Nat.lt_trans hrb h1.lt) (by intro e; injection e with e; omega)).trans hx1
  have B2 := B1.trans (grown_to_below hg2 hwb B1.size)
  obtain ⟨A, c, hv, _, _⟩ := hq.form
  subst hv
  have HQ := Lib.hid (hq.base B1.size)
  have r0 := cell_at hx2 0 _ rfl
  have r1 := cell_at hx2 1 _ rfl
  have f0 := free_at hx2 0
  have f1 := free_at hx2 1
  have HX := Lib.hid hx2
  have HB := Lib.hid B2
  clear hx1 hx2 B1 B2 B0 hq h1 h2 hg2
  go_wp2_with fail
  refine bodyPost_ret (v := .agg #[.int .i64 nx, .slice A ls.length c]) (by simp [results, Try.results12, go_sem, r0, r1]) rfl ?_
  exact ⟨nx, A, c, ls, rfl, (HQ.out.setTo HX.out (by decide) (by decide) 0 _).setTo (ow_setHeap HX.out) (by decide) (by decide) 1 _, hl, (HB.out.setCell (p := ⟨r, 0, none⟩) hwr _).setCell (p := ⟨r, 1, none⟩) hwr _⟩
/-- a queue and a name -/
def Qo.DrawnL (w : World) (e : Ending) (w' : World) : Prop :=
  ∃ nx A c ls nm, e = .returned (.tuple #[.agg #[.int .i64 nx, .slice A ls.length c], .string nm]) ∧ nm.size ≤ 9 ∧ Qo w' w.heap.size (.slice A ls.length c) ls ∧ ls.length ≤ 6 ∧ Below w.heap.size w w'
set_option maxRecDepth 100000 in
set_option maxHeartbeats 1600000 in
theorem drawQueueLeft_any (a : Option Addr) (len cap : Nat) (w : World) (h : Bytes w a len cap) :
    Calls Try.prog 15 #[.slice a len cap] w (Qo.DrawnL w) := by
  have h' := h.laid (.cells #[.int .i64 0, .slice none 0 0] 29)
  have hx0 := heap_alloc_new w (.cells #[.int .i64 0, .slice none 0 0] 29)
  have z0 : (w.alloc (.cells #[.int .i64 0, .slice none 0 0] 29)).heap.size = w.heap.size + 1 := by simp
  have B0 : Below w.heap.size w (w.alloc (.cells #[.int .i64 0, .slice none 0 0] 29)) := Below.alloc (Below.refl _ _) (Nat.le_refl _) _
  go_enter Try.func15, Try.ntmps15
  go_upto_region 1 with fail
  generalize w.alloc (.cells #[.int .i64 0, .slice none 0 0] 29) = w0 at h' hx0 z0 B0 ⊢
  obtain ⟨r, hr⟩ : ∃ r, r = w.heap.size := ⟨_, rfl⟩
  rw [← hr] at hx0 ⊢
  have hwr : w.heap.size ≤ r := by omega
  have hr0 : r < w0.heap.size := by omega
  clear hr z0
  go_wp2_with fail
  refine Calls.mono (l6Open_any a len cap _ h') ?_
  rintro e w1 ⟨rfl, h1, hb1⟩
  have hx1 := (hb1.block r hr0).trans hx0
  have B1 := B0.trans (hb1.mono B0.size)
  clear hb1 hx0
  obtain ⟨b, hbb⟩ : ∃ b, b = w0.heap.size := ⟨_, rfl⟩
  rw [← hbb] at h1 ⊢
  have hrb : r < b := by omega
  have hwb : w.heap.size ≤ b := by omega
  clear hbb
  go_wp2_with fail
  refine Calls.mono (l92Queue_any _ _ _ _ (by omega) h1) ?_
  rintro e w2 ⟨nx, v, ls, rfl, hq, hl, h2, hg2⟩
  have hbl1 := h1.lt
  have hx2 := (hg2.block r (Nat.lt_trans hrb hbl1) (by intro e; injection e with e; omega)).trans hx1
  have B2 := B1.trans (grown_to_below hg2 hwb B1.size)
  obtain ⟨A, c, hv, _, _⟩ := hq.form
  subst hv
  have hp := heap_alloc_new w2 (.cells #[.int .i64 nx, .slice A ls.length c] 29)
  have HBX := Below.alloc (Below.refl w2.heap.size w2) (Nat.le_refl _) (.cells #[.int .i64 nx, .slice A ls.length c] 29)
  have hs2 := hg2.size
  have hbl2 : b < w2.heap.size := Nat.lt_of_lt_of_le hbl1 hs2
  have hrl2 : r < w2.heap.size := by omega
  have HQ := Lib.hid (hq.below HBX)
  have H2 := Lib.hid (h2.below HBX)
  have HX2 := Lib.hid ((HBX.block r hrl2).trans hx2)
  have HB2 := Lib.hid (B2.trans (HBX.mono B2.size))
  have hs1 : b < w1.heap.size := hbl1
  have hws1 : w.heap.size ≤ w1.heap.size := B1.size
  clear hq h1 h2 hg2 hx1 hx2 B0 B1 B2
  go_upto_region 3 with fail
  generalize w2.alloc (.cells #[.int .i64 nx, .slice A ls.length c] 29) = w3 at hp HBX HQ H2 HX2 HB2 ⊢
  obtain ⟨p, hpp⟩ : ∃ p, p = w2.heap.size := ⟨_, rfl⟩
  rw [← hpp] at hp ⊢
  have hpb : p ≠ b := by omega
  have hrp : r ≠ p := by omega
  have hpr : p ≠ r := by omega
  clear hpp HBX
  have hpl := (Array.getElem?_eq_some_iff.1 hp).1
  have hrl := (Array.getElem?_eq_some_iff.1 HX2.out).1
  have HP3 := Lib.hid hp
  have p0 := cell_at hp 0 _ rfl
  have p1 := cell_at hp 1 _ rfl
  have r0 := cell_at HX2.out 0 _ rfl
  have r1 := cell_at HX2.out 1 _ rfl
  have f0 := free_at HX2.out 0
  have f1 := free_at HX2.out 1
  have hrbn : r ≠ b := by omega
  clear hp
  have HRD : Hid (Rd w3.drew b b 130) := Lib.hid (show Rd w3 b b 130 from (H2.out.mono (by omega)))
  have HDR : Hid (Below w3.heap.size w3 w3.drew) := Lib.hid (below_drewN (Below.refl _ _) 1)
  have HQD : Hid (Qo w3.drew w1.heap.size (.slice A ls.length c) ls) := Lib.hid (HQ.out.below HDR.out)
  have HBD : Hid (Below w.heap.size w w3.drew) := Lib.hid (HB2.out.trans (HDR.out.mono HB2.out.size))
  go_region_held3 (fun w' => w'.cell? ⟨p, 0, none⟩ = some (.int .i64 nx) ∧ w'.cell? ⟨p, 1, none⟩ = some (.slice A ls.length c))
    (first | exact ⟨p0, p1⟩ | exact ⟨e0, e1⟩ | go_keep)
    (first
      | (go_at_call 29; refine Calls.mono (Dr.l91Name_any _ b b _ (by omega) HRD.out) ?_; rintro e w4 ⟨nm, hnm, rfl, h4, hg4⟩; have HP4 := Lib.hid ((hg4.block p hpl (by intro e; injection e with e; exact hpb e)).trans HP3.out); have e0 := cell_at HP4.out 0 _ rfl; have e1 := cell_at HP4.out 1 _ rfl; have HX4 := Lib.hid ((hg4.block r hrl (by intro e; injection e with e; exact hrbn e)).trans HX2.out); have s0 := cell_at HX4.out 0 _ rfl; have s1 := cell_at HX4.out 1 _ rfl; have y0 := free_at HX4.out 0; have y1 := free_at HX4.out 1; have HQ4 := Lib.hid ((HQD.out.grown hg4 hs1).base hws1); have HB4 := Lib.hid (HBD.out.trans (grown_to_below hg4 hwb HBD.out.size)); clear h4 hg4))
  all_goals
    go_wp2_with fail
    refine bodyPost_ret (v := .tuple #[.agg #[.int .i64 nx, .slice A ls.length c], .string nm]) (by simp [results, Try.results15, go_sem, s0, s1]) rfl ?_
    exact ⟨nx, A, c, ls, nm, rfl, hnm, (HQ4.out.setTo HX4.out (by decide) (by decide) 0 _).setTo (ow_setHeap HX4.out) (by decide) (by decide) 1 _, hl, (HB4.out.setCell (p := ⟨r, 0, none⟩) hwr _).setCell (p := ⟨r, 1, none⟩) hwr _⟩
end Go.Proofs.Ytpbaimofffcnaaa
