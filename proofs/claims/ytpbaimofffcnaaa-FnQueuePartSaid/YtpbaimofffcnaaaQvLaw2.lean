/- FnQueuePart: the walk. -/
import Derived.Test.YtpbaimofffcnaaaQoW5
import Derived.Deep.CutRange
namespace Go.Proofs.Ytpbaimofffcnaaa
set_option linter.unusedVariables false
open Go.RowKit

theorem Qi.at_drop {w : World} {B g off c : Nat} {us : List Qi.L} (m : Nat) (h : At w B 4 Qi.cells (some ⟨g, off, none⟩) us) (hc : us.length ≤ c) :
    ∃ A2 : Addr, (if c = m then some (⟨g, off, none⟩ : Addr) else some ⟨g, off + m * 4, none⟩) = some A2 ∧ At w B 4 Qi.cells (some A2) (us.drop m) := by
  by_cases hcm : c = m
  · refine ⟨_, if_pos hcm, fun hl => ?_⟩
    rw [List.length_drop] at hl
    omega
  · refine ⟨_, if_neg hcm, fun hl => ?_⟩
    rw [List.length_drop] at hl
    obtain ⟨g', off', ha, hlt, hx⟩ := h (by omega)
    injection ha with ha
    injection ha with ha1 ha2
    subst ha1; subst ha2
    refine ⟨g, off + m * 4, rfl, hlt, fun i u hu j v hv => ?_⟩
    rw [List.getElem?_drop] at hu
    have := hx (m + i) u hu j v hv
    rw [show off + m * 4 + i * 4 + j = off + (m + i) * 4 + j by omega]
    exact this
theorem Qi.at_take {w : World} {B : Nat} {A : Option Addr} {us : List Qi.L} (m : Nat) (h : At w B 4 Qi.cells A us) : At w B 4 Qi.cells A (us.take m) := fun hl => by
  rw [List.length_take] at hl
  obtain ⟨g, off, ha, hlt, hx⟩ := h (by omega)
  refine ⟨g, off, ha, hlt, fun i u hu j v hv => hx i u ?_ j v hv⟩
  rw [List.getElem?_take] at hu
  by_cases him : i < m
  · rwa [if_pos him] at hu
  · rw [if_neg him] at hu; cases hu
theorem Qi.reads_drop {w : World} {B : Nat} {A : Option Addr} {us : List Qi.L} (m : Nat) (h : At w B 4 Qi.cells A (us.drop m)) : Reads w B 4 A (us.length - m) ((us.drop m).flatMap Qi.cells) := by
  have := reads_of_at (by omega) Qi.cells_len h
  rwa [List.length_drop] at this
theorem Qi.reads_take {w : World} {B : Nat} {A : Option Addr} {us : List Qi.L} (m : Nat) (hm : m ≤ us.length) (h : At w B 4 Qi.cells A us) : Reads w B 4 A m ((us.take m).flatMap Qi.cells) := by
  have := reads_of_at (by omega) Qi.cells_len (Qi.at_take m h)
  rwa [List.length_take, Nat.min_eq_left hm] at this
theorem Qi.cells_one (us : List Qi.L) : ∀ v ∈ us.flatMap Qi.cells, v.oneCell' = true := by
  intro v hv
  obtain ⟨u, _, hu⟩ := List.mem_flatMap.1 hv
  exact Qi.one1 u v hu
/-- a block of another type is not the row's -/
theorem own_not {w : World} {B n m q : Nat} {T E2 : TypeId} {v : Value} {xs : List Value} {cs : Array Value} (h : w.ownsRow B T n v m xs) (hE : T ≠ E2) (hx : w.heap[q]? = some (.cells cs E2 (0, 0))) : v.ownBlock ≠ some q := by
  obtain ⟨_, ⟨rfl, _⟩ | ⟨g, cap, cur, rfl, _, hg, _⟩⟩ := h
  · intro e; cases e
  · intro e
    have e : g = q := Option.some.inj e
    subst e
    rw [hg] at hx
    injection hx with hx
    injection hx with _ e2
    exact hE e2
/-- a queue's variable that holds a row of the call's own -/
def Qp (w8 : World) (nx : Int) (ms : List Qi.L) (x : Nat) (A : Option Addr) (c : Nat) (wx : World) : Prop :=
  wx.heap[x]? = some (.cells #[.int .i64 nx, .slice A ms.length c] 29 (0, 0)) ∧ OwnL 43 4 Qi.cells wx w8.heap.size (.slice A ms.length c) ms ∧ Below w8.heap.size w8 wx
theorem Qp.last {w8 wb : World} {nx : Int} {ms : List Qi.L} {A : Option Addr} {c n : Nat} (h : OwnL 43 4 Qi.cells wb w8.heap.size (.slice A ms.length c) ms) (hb : Below w8.heap.size w8 wb) (hn : n = ms.length) : Qp w8 nx ms wb.heap.size A c (wb.alloc (.cells #[.int .i64 nx, .slice A n c] 29)) := by
  subst hn
  exact ⟨heap_alloc_new wb _, OwnL.alloc h _, hb.alloc hb.size _⟩
theorem Qp.set {w8 wb ww : World} {nx : Int} {ms : List Qi.L} {A : Option Addr} {c n x : Nat} (h : OwnL 43 4 Qi.cells wb w8.heap.size (.slice A ms.length c) ms) (hb : Below w8.heap.size w8 wb) (hn : n = ms.length)
    (hx : wb.heap[x]? = some (.cells #[.int .i64 0, .slice none 0 0] 29 (0, 0))) (hs : w8.heap.size ≤ x) (hw : ww = (wb.setCell ⟨x, 0, none⟩ (.int .i64 nx)).setCell ⟨x, 1, none⟩ (.slice A n c)) : Qp w8 nx ms x A c ww := by
  subst hn hw
  have e1 := ow_setHeap (i := 0) (v := .int .i64 nx) hx
  exact ⟨by rw [ow_setHeap e1]; rfl, ow_setTo (ow_setTo h hx (by decide) 0 _) e1 (by decide) 1 _, (hb.setCell (p := ⟨x, 0, none⟩) hs _).setCell (p := ⟨x, 1, none⟩) hs _⟩
theorem Qp.below {w8 wx w' : World} {nx : Int} {ms : List Qi.L} {A : Option Addr} {c x : Nat} (h : Qp w8 nx ms x A c wx) (hb : Below wx.heap.size wx w') : Qp w8 nx ms x A c w' :=
  ⟨(hb.block x (Array.getElem?_eq_some_iff.1 h.1).1).trans h.1, OwnL.below h.2.1 hb, h.2.2.trans (hb.mono h.2.2.size)⟩
theorem Qp.items {w8 wx : World} {nx : Int} {ms ls : List Qi.L} {A A0 : Option Addr} {c x : Nat} (h : Qp w8 nx ms x A c wx) (hi : AtItems wx wx.heap.size A0 ls) (hm : ∀ y ∈ ms, y ∈ ls) : AtItems wx wx.heap.size A ms :=
  ⟨OwnL.at_ h.2.1 Qi.cells_len rfl, fun y hy => hi.2 y (hm y hy)⟩

set_option maxRecDepth 100000 in
set_option maxHeartbeats 6400000 in
theorem walkFnQueuePart (a : Option Addr) (len cap : Nat) (a1 : Option Addr) (len1 cap1 : Nat) (w : World) (h : Bytes w a len cap) (h1 : Bytes w a1 len1 cap1) :
    Calls Try.prog 4 #[.slice a len cap, .slice a1 len1 cap1] w fun e w' => e = .returned (.bool true) ∧ Below w.heap.size w w' := by
  by_cases hbig : len ≤ 1048576
  · have hbi : ¬ (1048576 : Int) < (len : Int) := by omega
    by_cases hbig1 : len1 ≤ 1048576
    · have hbi1 : ¬ (1048576 : Int) < (len1 : Int) := by omega
      go_enter Try.func4, Try.ntmps4
      go_wp2_with fail
      refine Calls.mono (drawQueueValid_any a len cap _ h) ?_
      rintro e w1 ⟨nx, A, c, ls, rfl, hq, hl, hb1⟩
      have hE := Below.alloc (Below.refl w1.heap.size w1) (Nat.le_refl _) (.cells #[.int .i64 nx, .slice A ls.length c] 29)
      have hx := heap_alloc_new w1 (.cells #[.int .i64 nx, .slice A ls.length c] 29)
      go_upto_region 4 with fail
      generalize w1.alloc (.cells #[.int .i64 nx, .slice A ls.length c] 29) = w2 at hE hx ⊢
      obtain ⟨p, hp⟩ : ∃ p, p = w1.heap.size := ⟨_, rfl⟩
      rw [← hp] at hx ⊢
      clear hp
      have hpl := (Array.getElem?_eq_some_iff.1 hx).1
      have HQ := Lib.hid (hq.below hE)
      have HB2 := Lib.hid (hb1.trans (hE.mono hb1.size))
      have H1 : Hid (∀ w', Below w2.heap.size w2 w' → Below w.heap.size w w' ∧ w'.cell? ⟨p, 0, none⟩ = some (.int .i64 nx) ∧ w'.cell? ⟨p, 1, none⟩ = some (.slice A ls.length c)) := Lib.hid fun w' hb' => by
        have hx2 := (hb'.block p hpl).trans hx
        exact ⟨HB2.out.trans (hb'.mono HB2.out.size), cell_at hx2 0 _ rfl, cell_at hx2 1 _ rfl⟩
      have HA : Hid (∀ w', Below w2.heap.size w2 w' → AtItems w' w'.heap.size A ls) := Lib.hid fun w' hb' => (HQ.out.below hb').items rfl
      have hn : ls.length ≤ maxLen := by unfold maxLen; omega
      have hcap : ls.length ≤ c := (own_cap HQ.out.row).1
      have b0 := (H1.out w2 (Below.refl _ _)).2.1
      have b1 := (H1.out w2 (Below.refl _ _)).2.2
      have HI := Lib.hid (iQueueValid_any nx A ls c w2 (HA.out _ (Below.refl _ _)) hn)
      have HS : Hid (∀ w', Below w2.heap.size w2 w' → Calls Try.prog 8 #[.agg #[.int .i64 nx, .slice A ls.length c]] w' fun e w'' => e = .returned (.bool (Qu.ok nx (ls.map Qi.v))) ∧ Below w'.heap.size w' w'') := Lib.hid fun w' hb' => sQueueValid_any nx A ls c w' (HA.out _ hb') hn
      generalize hok : Qu.ok nx (ls.map Qi.v) = ok at HI HS
      have HOK := Lib.hid hok
      clear hok hx hE hq hb1
      go_wp2_with fail
      refine Calls.mono HI.out ?_
      rintro e w3 ⟨rfl, hb3⟩
      have HB3 := Lib.hid hb3
      clear b0 b1 hb3 HI
      have b0 := (H1.out w3 HB3.out).2.1
      have b1 := (H1.out w3 HB3.out).2.2
      go_wp2_with fail
      refine Calls.mono (HS.out _ HB3.out) ?_
      rintro e w4 ⟨rfl, hb4⟩
      have HB4' := Lib.hid (HB3.out.trans (hb4.mono HB3.out.size))
      clear b0 b1 hb4 HS
      have b0 := (H1.out w4 HB4'.out).2.1
      have b1 := (H1.out w4 HB4'.out).2.2
      cases ok
      · go_wp2_with fail
        go_ret
        exact ⟨rfl, (H1.out _ HB4'.out).1⟩
      · by_cases hl0 : 0 < ls.length
        · have hl0b : ¬ ((ls.length : Int) = 0) := by omega
          have hl0c : ((ls.length : Int) == 0) = false := beq_eq_false_iff_ne.2 (by omega)
          obtain ⟨k, hk, hke⟩ : ∃ k : Nat, k < ls.length ∧ (len1 : Int) % ls.length = k := ⟨len1 % ls.length, Nat.mod_lt _ (by omega), by omega⟩
          have HIT := HA.out w4 HB4'.out
          obtain ⟨g, off, hA, hg, _⟩ := HIT.row hl0
          subst hA
          have hatw4 := HIT.1
          obtain ⟨j0, hj, hy0, hy1, hy2⟩ := info_parts item_info
          have hkc : k ≤ c := by omega
          have hkl : k ≤ ls.length := by omega
          have hwr : IntKind.i64.wrap ((k : Int) + 1) = (k : Int) + 1 := by rw [IntKind.wrap_i64]; omega
          have hp0 : (0 : Int) ≤ (k : Int) + 1 := by omega
          have hp1 : (k : Int) + 1 ≤ (ls.length : Int) := by omega
          have hp3 : (k : Int) + 1 ≤ (c : Int) := by omega
          have hp2 : ((k : Int) + 1).toNat = k + 1 := by omega
          have hplw4 : p < w4.heap.size := Nat.lt_of_lt_of_le hpl HB4'.out.size
          have HPC : Hid (∀ W, Below w4.heap.size w4 W → W.cell? ⟨p, 0, none⟩ = some (.int .i64 nx) ∧ W.cell? ⟨p, 1, none⟩ = some (.slice (some ⟨g, off, none⟩) ls.length c)) := Lib.hid fun W hW => (H1.out W (HB4'.out.trans (hW.mono HB4'.out.size))).2
          obtain ⟨ms, hms⟩ : ∃ ms, ms = ls.take k ++ ls.drop (k + 1) := ⟨_, rfl⟩
          obtain ⟨ns, hns⟩ : ∃ ns, ns = ls.take (k + 1) ++ ls.drop k := ⟨_, rfl⟩
          go_upto_region 9 with fail
          rw [hke]
          clear b0 b1
          obtain ⟨A2, hA2, hat2⟩ := Qi.at_drop (k + 1) hatw4 hcap
          have HRT : Hid (∀ W, Below w4.heap.size w4 W → Reads W w4.heap.size 4 (some ⟨g, off, none⟩) (k) ((ls.take (k)).flatMap Qi.cells)) := Lib.hid fun W hW => Qi.reads_take (k) (by omega) (hatw4.below hW)
          have HRD : Hid (∀ W, Below w4.heap.size w4 W → Reads W w4.heap.size 4 (some A2) (ls.length - (k + 1)) ((ls.drop (k + 1)).flatMap Qi.cells)) := Lib.hid fun W hW => Qi.reads_drop (k + 1) (hat2.below hW)
          have K1 := Lib.hid (Qi.cells_one (ls.take (k)))
          have K2 := Lib.hid (Qi.cells_one (ls.drop (k + 1)))
          have K3 : Hid (0 + (k) ≤ maxLen) := Lib.hid (by unfold maxLen; omega)
          have K4 : Hid ((0 + (k)) * 64 ≤ 140737488355328) := Lib.hid (by omega)
          have K6 : Hid ((k) + (ls.length - (k + 1)) ≤ maxLen) := Lib.hid (by unfold maxLen; omega)
          have K7 : Hid (((k) + (ls.length - (k + 1))) * 64 ≤ 140737488355328) := Lib.hid (by omega)
          have HML : Hid (ms.length = (k) + (ls.length - (k + 1))) := Lib.hid (by rw [hms]; simp; omega)
          have HFL : Hid (ms.flatMap Qi.cells = (ls.take (k)).flatMap Qi.cells ++ (ls.drop (k + 1)).flatMap Qi.cells) := Lib.hid (by rw [hms, List.flatMap_append])
          have HB0 : Hid (Below w4.heap.size w4 w4.drew) := Lib.hid (below_drewN (Below.refl _ _) 1)
          have HB1 : Hid (Below w4.heap.size w4 (w4.alloc (.cells #[] 43)).drew) := Lib.hid (below_drewN (Below.alloc (Below.refl _ _) (Nat.le_refl _) _) 1)
          have HB2 : Hid (Below w4.heap.size w4 ((w4.alloc (.cells #[] 43)).alloc (.cells #[.int .i64 0, .slice none 0 0] 29)).drew) := Lib.hid (below_drewN ((Below.alloc (Below.refl _ _) (Nat.le_refl _) _).alloc (by simp) _) 1)
          have HB4 : Hid (Below w4.heap.size w4 (w4.alloc (.cells #[.int .i64 0, .slice none 0 0] 29)).drew) := Lib.hid (below_drewN (Below.alloc (Below.refl _ _) (Nat.le_refl _) _) 1)
          have HB3 : Hid (Below w4.heap.size w4 ((w4.alloc (.cells #[.int .i64 0, .slice none 0 0] 29)).alloc (.cells #[] 43)).drew) := Lib.hid (below_drewN ((Below.alloc (Below.refl _ _) (Nat.le_refl _) _).alloc (by simp) _) 1)
          have H01 : Hid ((w4.alloc (.cells #[] 43)).drew.ownsRow w4.heap.size 43 4 (.slice (some ⟨w4.heap.size, 0, none⟩) 0 0) 0 []) := Lib.hid (ownL_nil (f := Qi.cells) w4 (Nat.le_refl _))
          have H02 : Hid (((w4.alloc (.cells #[] 43)).alloc (.cells #[.int .i64 0, .slice none 0 0] 29)).drew.ownsRow w4.heap.size 43 4 (.slice (some ⟨w4.heap.size, 0, none⟩) 0 0) 0 []) := Lib.hid (OwnL.alloc (ownL_nil (f := Qi.cells) w4 (Nat.le_refl _)) _)
          have H03 : Hid (((w4.alloc (.cells #[.int .i64 0, .slice none 0 0] 29)).alloc (.cells #[] 43)).drew.ownsRow w4.heap.size 43 4 (.slice (some ⟨w4.heap.size + 1, 0, none⟩) 0 0) 0 []) := Lib.hid (by have h := ownL_nil (E := 43) (size := 4) (f := Qi.cells) (B := w4.heap.size) (w4.alloc (.cells #[.int .i64 0, .slice none 0 0] 29)) (by simp); rw [show (w4.alloc (.cells #[.int .i64 0, .slice none 0 0] 29)).heap.size = w4.heap.size + 1 by simp] at h; exact h)
          have HX2 : Hid (((w4.alloc (.cells #[] 43)).alloc (.cells #[.int .i64 0, .slice none 0 0] 29)).drew.heap[w4.heap.size + 1]? = some (.cells #[.int .i64 0, .slice none 0 0] 29 (0, 0))) := Lib.hid (by have h := heap_alloc_new (w4.alloc (.cells #[] 43)) (.cells #[.int .i64 0, .slice none 0 0] 29); rw [show (w4.alloc (.cells #[] 43)).heap.size = w4.heap.size + 1 by simp] at h; exact h)
          have HX3 : Hid (((w4.alloc (.cells #[.int .i64 0, .slice none 0 0] 29)).alloc (.cells #[] 43)).drew.heap[w4.heap.size]? = some (.cells #[.int .i64 0, .slice none 0 0] 29 (0, 0))) := Lib.hid ((Below.heap_alloc (w4.alloc (.cells #[.int .i64 0, .slice none 0 0] 29)) _ w4.heap.size (by simp)).trans (heap_alloc_new w4 _))
          have b0 := (HPC.out w4 (Below.refl _ _)).1
          have b1 := (HPC.out w4 (Below.refl _ _)).2
          clear hat2
          go_cut [9] (fun v9 wx => ∃ (x : Nat) (A9 : Option Addr) (c9 : Nat), v9 = .pointer (some ⟨x, 0, none⟩) ∧ Hid (Qp w4 nx ms x A9 c9 wx))
          case first =>
            go_region_held3 (fun w' => w'.cell? ⟨p, 0, none⟩ = some (.int .i64 nx) ∧ w'.cell? ⟨p, 1, none⟩ = some (.slice (some ⟨g, off, none⟩) ls.length c))
              (first | exact HPC.out _ HB0.out | exact HPC.out _ HB1.out | exact HPC.out _ HB2.out | exact HPC.out _ HB3.out | exact HPC.out _ HB4.out | exact ⟨ca0, ca1⟩ | exact ⟨cb0, cb1⟩ | exact HPC.out _ (hba.alloc hba.size _) | exact HPC.out _ (hbb.alloc hbb.size _) | exact HPC.out _ ((hbb.setCell (p := ⟨w4.heap.size, 0, none⟩) (Nat.le_refl _) _).setCell (p := ⟨w4.heap.size, 1, none⟩) (Nat.le_refl _) _) | exact HPC.out _ ((hbb.setCell (p := ⟨w4.heap.size + 1, 0, none⟩) (Nat.le_succ _) _).setCell (p := ⟨w4.heap.size + 1, 1, none⟩) (Nat.le_succ _) _) | exact HPC.out _ ((hbb.setCell (p := ⟨wa.heap.size, 0, none⟩) hba.size _).setCell (p := ⟨wa.heap.size, 1, none⟩) hba.size _))
              (first
                | (refine step_append_any _ rfl (.tmp 49) (.tmp 53) _ rfl w4.heap.size 43 j0 _ 4 64 Try.underlying27 hj hy0 hy1 hy2 rfl (by omega) _ 0 [] (by simp [Act.eval]) H01.out w4.heap.size (some ⟨g, off, none⟩) (k) c _ (by simp [Act.eval]) (HRT.out _ HB1.out) K1.out K3.out K4.out HB1.out.size ?_; intro va wa hown hgr hbk; have hba : Below w4.heap.size w4 wa := HB1.out.grown hgr HB1.out.size (by intro q hq; have hq : w4.heap.size = q := Option.some.inj hq; omega); have ca0 := (HPC.out _ hba).1; have ca1 := (HPC.out _ hba).2; have hpa : p < wa.heap.size := Nat.lt_of_lt_of_le hplw4 hba.size; have HOA : Hid (wa.ownsRow w4.heap.size 43 4 va (k) ((ls.take (k)).flatMap Qi.cells)) := Lib.hid (by simpa using hown); clear hown hgr hbk)
                | (refine step_append_any _ rfl (.tmp 49) (.tmp 53) _ rfl w4.heap.size 43 j0 _ 4 64 Try.underlying27 hj hy0 hy1 hy2 rfl (by omega) _ 0 [] (by simp [Act.eval]) H02.out w4.heap.size (some ⟨g, off, none⟩) (k) c _ (by simp [Act.eval]) (HRT.out _ HB2.out) K1.out K3.out K4.out HB2.out.size ?_; intro va wa hown hgr hbk; have hba : Below w4.heap.size w4 wa := HB2.out.grown hgr HB2.out.size (by intro q hq; have hq : w4.heap.size = q := Option.some.inj hq; omega); have ca0 := (HPC.out _ hba).1; have ca1 := (HPC.out _ hba).2; have hpa : p < wa.heap.size := Nat.lt_of_lt_of_le hplw4 hba.size; have hxa : wa.heap[(w4.heap.size + 1)]? = some (.cells #[.int .i64 0, .slice none 0 0] 29 (0, 0)) := ((hgr.block (w4.heap.size + 1) (Array.getElem?_eq_some_iff.1 HX2.out).1 (fun e => absurd (show (w4.heap.size + 1) = w4.heap.size from Option.some.inj e) (by omega))).trans HX2.out); have hpx : p ≠ (w4.heap.size + 1) := (by omega); have hxp : (w4.heap.size + 1) ≠ p := (by omega); have HOA : Hid (wa.ownsRow w4.heap.size 43 4 va (k) ((ls.take (k)).flatMap Qi.cells)) := Lib.hid (by simpa using hown); clear hown hgr hbk)
                | (refine step_append_any _ rfl (.tmp 49) (.tmp 53) _ rfl w4.heap.size 43 j0 _ 4 64 Try.underlying27 hj hy0 hy1 hy2 rfl (by omega) _ 0 [] (by simp [Act.eval]) H03.out w4.heap.size (some ⟨g, off, none⟩) (k) c _ (by simp [Act.eval]) (HRT.out _ HB3.out) K1.out K3.out K4.out HB3.out.size ?_; intro va wa hown hgr hbk; have hba : Below w4.heap.size w4 wa := HB3.out.grown hgr HB3.out.size (by intro q hq; have hq : w4.heap.size + 1 = q := Option.some.inj hq; omega); have ca0 := (HPC.out _ hba).1; have ca1 := (HPC.out _ hba).2; have hpa : p < wa.heap.size := Nat.lt_of_lt_of_le hplw4 hba.size; have hxa : wa.heap[w4.heap.size]? = some (.cells #[.int .i64 0, .slice none 0 0] 29 (0, 0)) := ((hgr.block w4.heap.size (Array.getElem?_eq_some_iff.1 HX3.out).1 (fun e => absurd (show w4.heap.size = w4.heap.size + 1 from Option.some.inj e) (by omega))).trans HX3.out); have hpx : p ≠ w4.heap.size := (by omega); have hxp : w4.heap.size ≠ p := (by omega); have HOA : Hid (wa.ownsRow w4.heap.size 43 4 va (k) ((ls.take (k)).flatMap Qi.cells)) := Lib.hid (by simpa using hown); clear hown hgr hbk)
                | (have hcb := hxa; clear hcb; refine step_append_any _ rfl (.tmp 54) (.tmp 59) _ rfl w4.heap.size 43 j0 _ 4 64 Try.underlying27 hj hy0 hy1 hy2 rfl (by omega) _ (k) _ (by simp [Act.eval]) HOA.out w4.heap.size (some A2) (ls.length - (k + 1)) (c - (k + 1)) _ (by simp [Act.eval]) (HRD.out _ hba) K2.out K6.out K7.out (hba).size ?_; intro v2 wb hown2 hgr2 hbk2; obtain ⟨A3, c3, rfl⟩ := own_form hown2; have hbb : Below w4.heap.size w4 wb := (hba).grown hgr2 (hba).size (by intro q hq; exact (World.ownsRow.lt HOA.out q hq).1); have hxb := (hgr2.block _ (Array.getElem?_eq_some_iff.1 hxa).1 (Ne.symm (own_not HOA.out (by decide) hxa))).trans hxa; have x0 := cell_at hxb 0 _ rfl; have x1 := cell_at hxb 1 _ rfl; have y0 := free_at hxb 0; have y1 := free_at hxb 1; have cb0 := (HPC.out _ hbb).1; have cb1 := (HPC.out _ hbb).2; have hpb : p < wb.heap.size := Nat.lt_of_lt_of_le hplw4 hbb.size; have HOB : Hid (OwnL 43 4 Qi.cells wb w4.heap.size (.slice A3 ms.length c3) ms) := Lib.hid (by unfold OwnL; rw [HML.out, HFL.out]; exact hown2); clear hown2 hgr2 hbk2)
                | (refine step_append_any _ rfl (.tmp 54) (.tmp 59) _ rfl w4.heap.size 43 j0 _ 4 64 Try.underlying27 hj hy0 hy1 hy2 rfl (by omega) _ (k) _ (by simp [Act.eval]) HOA.out w4.heap.size (some A2) (ls.length - (k + 1)) (c - (k + 1)) _ (by simp [Act.eval]) (HRD.out _ hba) K2.out K6.out K7.out (hba).size ?_; intro v2 wb hown2 hgr2 hbk2; obtain ⟨A3, c3, rfl⟩ := own_form hown2; have hbb : Below w4.heap.size w4 wb := (hba).grown hgr2 (hba).size (by intro q hq; exact (World.ownsRow.lt HOA.out q hq).1); have cb0 := (HPC.out _ hbb).1; have cb1 := (HPC.out _ hbb).2; have hpb : p < wb.heap.size := Nat.lt_of_lt_of_le hplw4 hbb.size; have HOB : Hid (OwnL 43 4 Qi.cells wb w4.heap.size (.slice A3 ms.length c3) ms) := Lib.hid (by unfold OwnL; rw [HML.out, HFL.out]; exact hown2); clear hown2 hgr2 hbk2)
                | (refine step_append_any _ rfl (.tmp 54) (.tmp 59) _ rfl w4.heap.size 43 j0 _ 4 64 Try.underlying27 hj hy0 hy1 hy2 rfl (by omega) _ (k) _ (by simp [Act.eval]) (show (wa.alloc (.cells #[.int .i64 0, .slice none 0 0] 29)).ownsRow w4.heap.size 43 4 va (k) ((ls.take (k)).flatMap Qi.cells) from World.ownsRow.alloc HOA.out _) w4.heap.size (some A2) (ls.length - (k + 1)) (c - (k + 1)) _ (by simp [Act.eval]) (HRD.out _ (hba.alloc hba.size (.cells #[.int .i64 0, .slice none 0 0] 29))) K2.out K6.out K7.out ((hba.alloc hba.size (.cells #[.int .i64 0, .slice none 0 0] 29))).size ?_; intro v2 wb hown2 hgr2 hbk2; obtain ⟨A3, c3, rfl⟩ := own_form hown2; have hbb : Below w4.heap.size w4 wb := ((hba.alloc hba.size (.cells #[.int .i64 0, .slice none 0 0] 29))).grown hgr2 ((hba.alloc hba.size (.cells #[.int .i64 0, .slice none 0 0] 29))).size (by intro q hq; exact (World.ownsRow.lt (show (wa.alloc (.cells #[.int .i64 0, .slice none 0 0] 29)).ownsRow w4.heap.size 43 4 va (k) ((ls.take (k)).flatMap Qi.cells) from World.ownsRow.alloc HOA.out _) q hq).1); have hxs := hba.size; have hxm := heap_alloc_new wa (.cells #[.int .i64 0, .slice none 0 0] 29); have hxb := (hgr2.block wa.heap.size (Array.getElem?_eq_some_iff.1 hxm).1 (Ne.symm (own_not (show (wa.alloc (.cells #[.int .i64 0, .slice none 0 0] 29)).ownsRow w4.heap.size 43 4 va (k) ((ls.take (k)).flatMap Qi.cells) from World.ownsRow.alloc HOA.out _) (by decide) hxm))).trans hxm; have x0 := cell_at hxb 0 _ rfl; have x1 := cell_at hxb 1 _ rfl; have y0 := free_at hxb 0; have y1 := free_at hxb 1; have hpx : p ≠ wa.heap.size := (by have := hxs; omega); have hxp : wa.heap.size ≠ p := (by have := hxs; omega); have cb0 := (HPC.out _ hbb).1; have cb1 := (HPC.out _ hbb).2; have hpb : p < wb.heap.size := Nat.lt_of_lt_of_le hplw4 hbb.size; have HOB : Hid (OwnL 43 4 Qi.cells wb w4.heap.size (.slice A3 ms.length c3) ms) := Lib.hid (by unfold OwnL; rw [HML.out, HFL.out]; exact hown2); clear hown2 hgr2 hbk2))
            all_goals
              go_wp2_with fail
              go_meet
              first
              | exact ⟨wb.heap.size, A3, c3, rfl, Lib.hid (Qp.last HOB.out hbb HML.out.symm)⟩
              | exact ⟨wa.heap.size, A3, c3, rfl, Lib.hid (Qp.set HOB.out hbb HML.out.symm hxb hba.size rfl)⟩
              | exact ⟨w4.heap.size, A3, c3, rfl, Lib.hid (Qp.set HOB.out hbb HML.out.symm hxb (Nat.le_refl _) rfl)⟩
              | exact ⟨w4.heap.size + 1, A3, c3, rfl, Lib.hid (Qp.set HOB.out hbb HML.out.symm hxb (Nat.le_succ _) rfl)⟩
          obtain ⟨x9, A9, c9, rfl, HQP9⟩ := hcut
          obtain ⟨w9, hwm⟩ : ∃ wm, wm = wc := ⟨_, rfl⟩
          subst hwm
          clear HRT HRD K1 K2 K3 K4 K6 K7 HML HFL HB0 HB1 HB2 HB3 HB4 H01 H02 H03 HX2 HX3 b0 b1 hA2
          have HW9 : Hid (Below w2.heap.size w2 w9) := Lib.hid (HB4'.out.trans (HQP9.out.2.2.mono HB4'.out.size))
          have hatw9 := (HA.out w9 HW9.out).1
          have hplw9 : p < w9.heap.size := Nat.lt_of_lt_of_le hpl HW9.out.size
          clear HPC
          have HPC : Hid (∀ W, Below w9.heap.size w9 W → W.cell? ⟨p, 0, none⟩ = some (.int .i64 nx) ∧ W.cell? ⟨p, 1, none⟩ = some (.slice (some ⟨g, off, none⟩) ls.length c)) := Lib.hid fun W hW => (H1.out W (HW9.out.trans (hW.mono HW9.out.size))).2
          go_upto_region 10 with fail
          obtain ⟨A2, hA2, hat2⟩ := Qi.at_drop (k) hatw9 hcap
          have HRT : Hid (∀ W, Below w9.heap.size w9 W → Reads W w9.heap.size 4 (some ⟨g, off, none⟩) (k + 1) ((ls.take (k + 1)).flatMap Qi.cells)) := Lib.hid fun W hW => Qi.reads_take (k + 1) (by omega) (hatw9.below hW)
          have HRD : Hid (∀ W, Below w9.heap.size w9 W → Reads W w9.heap.size 4 (some A2) (ls.length - (k)) ((ls.drop (k)).flatMap Qi.cells)) := Lib.hid fun W hW => Qi.reads_drop (k) (hat2.below hW)
          have K1 := Lib.hid (Qi.cells_one (ls.take (k + 1)))
          have K2 := Lib.hid (Qi.cells_one (ls.drop (k)))
          have K3 : Hid (0 + (k + 1) ≤ maxLen) := Lib.hid (by unfold maxLen; omega)
          have K4 : Hid ((0 + (k + 1)) * 64 ≤ 140737488355328) := Lib.hid (by omega)
          have K6 : Hid ((k + 1) + (ls.length - (k)) ≤ maxLen) := Lib.hid (by unfold maxLen; omega)
          have K7 : Hid (((k + 1) + (ls.length - (k))) * 64 ≤ 140737488355328) := Lib.hid (by omega)
          have HML : Hid (ns.length = (k + 1) + (ls.length - (k))) := Lib.hid (by rw [hns]; simp; omega)
          have HFL : Hid (ns.flatMap Qi.cells = (ls.take (k + 1)).flatMap Qi.cells ++ (ls.drop (k)).flatMap Qi.cells) := Lib.hid (by rw [hns, List.flatMap_append])
          have HB0 : Hid (Below w9.heap.size w9 w9.drew) := Lib.hid (below_drewN (Below.refl _ _) 1)
          have HB1 : Hid (Below w9.heap.size w9 (w9.alloc (.cells #[] 43)).drew) := Lib.hid (below_drewN (Below.alloc (Below.refl _ _) (Nat.le_refl _) _) 1)
          have HB2 : Hid (Below w9.heap.size w9 ((w9.alloc (.cells #[] 43)).alloc (.cells #[.int .i64 0, .slice none 0 0] 29)).drew) := Lib.hid (below_drewN ((Below.alloc (Below.refl _ _) (Nat.le_refl _) _).alloc (by simp) _) 1)
          have HB4 : Hid (Below w9.heap.size w9 (w9.alloc (.cells #[.int .i64 0, .slice none 0 0] 29)).drew) := Lib.hid (below_drewN (Below.alloc (Below.refl _ _) (Nat.le_refl _) _) 1)
          have HB3 : Hid (Below w9.heap.size w9 ((w9.alloc (.cells #[.int .i64 0, .slice none 0 0] 29)).alloc (.cells #[] 43)).drew) := Lib.hid (below_drewN ((Below.alloc (Below.refl _ _) (Nat.le_refl _) _).alloc (by simp) _) 1)
          have H01 : Hid ((w9.alloc (.cells #[] 43)).drew.ownsRow w9.heap.size 43 4 (.slice (some ⟨w9.heap.size, 0, none⟩) 0 0) 0 []) := Lib.hid (ownL_nil (f := Qi.cells) w9 (Nat.le_refl _))
          have H02 : Hid (((w9.alloc (.cells #[] 43)).alloc (.cells #[.int .i64 0, .slice none 0 0] 29)).drew.ownsRow w9.heap.size 43 4 (.slice (some ⟨w9.heap.size, 0, none⟩) 0 0) 0 []) := Lib.hid (OwnL.alloc (ownL_nil (f := Qi.cells) w9 (Nat.le_refl _)) _)
          have H03 : Hid (((w9.alloc (.cells #[.int .i64 0, .slice none 0 0] 29)).alloc (.cells #[] 43)).drew.ownsRow w9.heap.size 43 4 (.slice (some ⟨w9.heap.size + 1, 0, none⟩) 0 0) 0 []) := Lib.hid (by have h := ownL_nil (E := 43) (size := 4) (f := Qi.cells) (B := w9.heap.size) (w9.alloc (.cells #[.int .i64 0, .slice none 0 0] 29)) (by simp); rw [show (w9.alloc (.cells #[.int .i64 0, .slice none 0 0] 29)).heap.size = w9.heap.size + 1 by simp] at h; exact h)
          have HX2 : Hid (((w9.alloc (.cells #[] 43)).alloc (.cells #[.int .i64 0, .slice none 0 0] 29)).drew.heap[w9.heap.size + 1]? = some (.cells #[.int .i64 0, .slice none 0 0] 29 (0, 0))) := Lib.hid (by have h := heap_alloc_new (w9.alloc (.cells #[] 43)) (.cells #[.int .i64 0, .slice none 0 0] 29); rw [show (w9.alloc (.cells #[] 43)).heap.size = w9.heap.size + 1 by simp] at h; exact h)
          have HX3 : Hid (((w9.alloc (.cells #[.int .i64 0, .slice none 0 0] 29)).alloc (.cells #[] 43)).drew.heap[w9.heap.size]? = some (.cells #[.int .i64 0, .slice none 0 0] 29 (0, 0))) := Lib.hid ((Below.heap_alloc (w9.alloc (.cells #[.int .i64 0, .slice none 0 0] 29)) _ w9.heap.size (by simp)).trans (heap_alloc_new w9 _))
          have b0 := (HPC.out w9 (Below.refl _ _)).1
          have b1 := (HPC.out w9 (Below.refl _ _)).2
          clear hat2
          go_cut [10] (fun v9 wx => ∃ (x : Nat) (A9 : Option Addr) (c9 : Nat), v9 = .pointer (some ⟨x, 0, none⟩) ∧ Hid (Qp w9 nx ns x A9 c9 wx))
          case first =>
            go_region_held3 (fun w' => w'.cell? ⟨p, 0, none⟩ = some (.int .i64 nx) ∧ w'.cell? ⟨p, 1, none⟩ = some (.slice (some ⟨g, off, none⟩) ls.length c))
              (first | exact HPC.out _ HB0.out | exact HPC.out _ HB1.out | exact HPC.out _ HB2.out | exact HPC.out _ HB3.out | exact HPC.out _ HB4.out | exact ⟨ca0, ca1⟩ | exact ⟨cb0, cb1⟩ | exact HPC.out _ (hba.alloc hba.size _) | exact HPC.out _ (hbb.alloc hbb.size _) | exact HPC.out _ ((hbb.setCell (p := ⟨w9.heap.size, 0, none⟩) (Nat.le_refl _) _).setCell (p := ⟨w9.heap.size, 1, none⟩) (Nat.le_refl _) _) | exact HPC.out _ ((hbb.setCell (p := ⟨w9.heap.size + 1, 0, none⟩) (Nat.le_succ _) _).setCell (p := ⟨w9.heap.size + 1, 1, none⟩) (Nat.le_succ _) _) | exact HPC.out _ ((hbb.setCell (p := ⟨wa.heap.size, 0, none⟩) hba.size _).setCell (p := ⟨wa.heap.size, 1, none⟩) hba.size _))
              (first
                | (refine step_append_any _ rfl (.tmp 64) (.tmp 69) _ rfl w9.heap.size 43 j0 _ 4 64 Try.underlying27 hj hy0 hy1 hy2 rfl (by omega) _ 0 [] (by simp [Act.eval]) H01.out w9.heap.size (some ⟨g, off, none⟩) (k + 1) c _ (by simp [Act.eval]) (HRT.out _ HB1.out) K1.out K3.out K4.out HB1.out.size ?_; intro va wa hown hgr hbk; have hba : Below w9.heap.size w9 wa := HB1.out.grown hgr HB1.out.size (by intro q hq; have hq : w9.heap.size = q := Option.some.inj hq; omega); have ca0 := (HPC.out _ hba).1; have ca1 := (HPC.out _ hba).2; have hpa : p < wa.heap.size := Nat.lt_of_lt_of_le hplw9 hba.size; have HOA : Hid (wa.ownsRow w9.heap.size 43 4 va (k + 1) ((ls.take (k + 1)).flatMap Qi.cells)) := Lib.hid (by simpa using hown); clear hown hgr hbk)
                | (refine step_append_any _ rfl (.tmp 64) (.tmp 69) _ rfl w9.heap.size 43 j0 _ 4 64 Try.underlying27 hj hy0 hy1 hy2 rfl (by omega) _ 0 [] (by simp [Act.eval]) H02.out w9.heap.size (some ⟨g, off, none⟩) (k + 1) c _ (by simp [Act.eval]) (HRT.out _ HB2.out) K1.out K3.out K4.out HB2.out.size ?_; intro va wa hown hgr hbk; have hba : Below w9.heap.size w9 wa := HB2.out.grown hgr HB2.out.size (by intro q hq; have hq : w9.heap.size = q := Option.some.inj hq; omega); have ca0 := (HPC.out _ hba).1; have ca1 := (HPC.out _ hba).2; have hpa : p < wa.heap.size := Nat.lt_of_lt_of_le hplw9 hba.size; have hxa : wa.heap[(w9.heap.size + 1)]? = some (.cells #[.int .i64 0, .slice none 0 0] 29 (0, 0)) := ((hgr.block (w9.heap.size + 1) (Array.getElem?_eq_some_iff.1 HX2.out).1 (fun e => absurd (show (w9.heap.size + 1) = w9.heap.size from Option.some.inj e) (by omega))).trans HX2.out); have hpx : p ≠ (w9.heap.size + 1) := (by omega); have hxp : (w9.heap.size + 1) ≠ p := (by omega); have HOA : Hid (wa.ownsRow w9.heap.size 43 4 va (k + 1) ((ls.take (k + 1)).flatMap Qi.cells)) := Lib.hid (by simpa using hown); clear hown hgr hbk)
                | (refine step_append_any _ rfl (.tmp 64) (.tmp 69) _ rfl w9.heap.size 43 j0 _ 4 64 Try.underlying27 hj hy0 hy1 hy2 rfl (by omega) _ 0 [] (by simp [Act.eval]) H03.out w9.heap.size (some ⟨g, off, none⟩) (k + 1) c _ (by simp [Act.eval]) (HRT.out _ HB3.out) K1.out K3.out K4.out HB3.out.size ?_; intro va wa hown hgr hbk; have hba : Below w9.heap.size w9 wa := HB3.out.grown hgr HB3.out.size (by intro q hq; have hq : w9.heap.size + 1 = q := Option.some.inj hq; omega); have ca0 := (HPC.out _ hba).1; have ca1 := (HPC.out _ hba).2; have hpa : p < wa.heap.size := Nat.lt_of_lt_of_le hplw9 hba.size; have hxa : wa.heap[w9.heap.size]? = some (.cells #[.int .i64 0, .slice none 0 0] 29 (0, 0)) := ((hgr.block w9.heap.size (Array.getElem?_eq_some_iff.1 HX3.out).1 (fun e => absurd (show w9.heap.size = w9.heap.size + 1 from Option.some.inj e) (by omega))).trans HX3.out); have hpx : p ≠ w9.heap.size := (by omega); have hxp : w9.heap.size ≠ p := (by omega); have HOA : Hid (wa.ownsRow w9.heap.size 43 4 va (k + 1) ((ls.take (k + 1)).flatMap Qi.cells)) := Lib.hid (by simpa using hown); clear hown hgr hbk)
                | (have hcb := hxa; clear hcb; refine step_append_any _ rfl (.tmp 70) (.tmp 74) _ rfl w9.heap.size 43 j0 _ 4 64 Try.underlying27 hj hy0 hy1 hy2 rfl (by omega) _ (k + 1) _ (by simp [Act.eval]) HOA.out w9.heap.size (some A2) (ls.length - (k)) (c - (k)) _ (by simp [Act.eval]) (HRD.out _ hba) K2.out K6.out K7.out (hba).size ?_; intro v2 wb hown2 hgr2 hbk2; obtain ⟨A3, c3, rfl⟩ := own_form hown2; have hbb : Below w9.heap.size w9 wb := (hba).grown hgr2 (hba).size (by intro q hq; exact (World.ownsRow.lt HOA.out q hq).1); have hxb := (hgr2.block _ (Array.getElem?_eq_some_iff.1 hxa).1 (Ne.symm (own_not HOA.out (by decide) hxa))).trans hxa; have x0 := cell_at hxb 0 _ rfl; have x1 := cell_at hxb 1 _ rfl; have y0 := free_at hxb 0; have y1 := free_at hxb 1; have cb0 := (HPC.out _ hbb).1; have cb1 := (HPC.out _ hbb).2; have hpb : p < wb.heap.size := Nat.lt_of_lt_of_le hplw9 hbb.size; have HOB : Hid (OwnL 43 4 Qi.cells wb w9.heap.size (.slice A3 ns.length c3) ns) := Lib.hid (by unfold OwnL; rw [HML.out, HFL.out]; exact hown2); clear hown2 hgr2 hbk2)
                | (refine step_append_any _ rfl (.tmp 70) (.tmp 74) _ rfl w9.heap.size 43 j0 _ 4 64 Try.underlying27 hj hy0 hy1 hy2 rfl (by omega) _ (k + 1) _ (by simp [Act.eval]) HOA.out w9.heap.size (some A2) (ls.length - (k)) (c - (k)) _ (by simp [Act.eval]) (HRD.out _ hba) K2.out K6.out K7.out (hba).size ?_; intro v2 wb hown2 hgr2 hbk2; obtain ⟨A3, c3, rfl⟩ := own_form hown2; have hbb : Below w9.heap.size w9 wb := (hba).grown hgr2 (hba).size (by intro q hq; exact (World.ownsRow.lt HOA.out q hq).1); have cb0 := (HPC.out _ hbb).1; have cb1 := (HPC.out _ hbb).2; have hpb : p < wb.heap.size := Nat.lt_of_lt_of_le hplw9 hbb.size; have HOB : Hid (OwnL 43 4 Qi.cells wb w9.heap.size (.slice A3 ns.length c3) ns) := Lib.hid (by unfold OwnL; rw [HML.out, HFL.out]; exact hown2); clear hown2 hgr2 hbk2)
                | (refine step_append_any _ rfl (.tmp 70) (.tmp 74) _ rfl w9.heap.size 43 j0 _ 4 64 Try.underlying27 hj hy0 hy1 hy2 rfl (by omega) _ (k + 1) _ (by simp [Act.eval]) (show (wa.alloc (.cells #[.int .i64 0, .slice none 0 0] 29)).ownsRow w9.heap.size 43 4 va (k + 1) ((ls.take (k + 1)).flatMap Qi.cells) from World.ownsRow.alloc HOA.out _) w9.heap.size (some A2) (ls.length - (k)) (c - (k)) _ (by simp [Act.eval]) (HRD.out _ (hba.alloc hba.size (.cells #[.int .i64 0, .slice none 0 0] 29))) K2.out K6.out K7.out ((hba.alloc hba.size (.cells #[.int .i64 0, .slice none 0 0] 29))).size ?_; intro v2 wb hown2 hgr2 hbk2; obtain ⟨A3, c3, rfl⟩ := own_form hown2; have hbb : Below w9.heap.size w9 wb := ((hba.alloc hba.size (.cells #[.int .i64 0, .slice none 0 0] 29))).grown hgr2 ((hba.alloc hba.size (.cells #[.int .i64 0, .slice none 0 0] 29))).size (by intro q hq; exact (World.ownsRow.lt (show (wa.alloc (.cells #[.int .i64 0, .slice none 0 0] 29)).ownsRow w9.heap.size 43 4 va (k + 1) ((ls.take (k + 1)).flatMap Qi.cells) from World.ownsRow.alloc HOA.out _) q hq).1); have hxs := hba.size; have hxm := heap_alloc_new wa (.cells #[.int .i64 0, .slice none 0 0] 29); have hxb := (hgr2.block wa.heap.size (Array.getElem?_eq_some_iff.1 hxm).1 (Ne.symm (own_not (show (wa.alloc (.cells #[.int .i64 0, .slice none 0 0] 29)).ownsRow w9.heap.size 43 4 va (k + 1) ((ls.take (k + 1)).flatMap Qi.cells) from World.ownsRow.alloc HOA.out _) (by decide) hxm))).trans hxm; have x0 := cell_at hxb 0 _ rfl; have x1 := cell_at hxb 1 _ rfl; have y0 := free_at hxb 0; have y1 := free_at hxb 1; have hpx : p ≠ wa.heap.size := (by have := hxs; omega); have hxp : wa.heap.size ≠ p := (by have := hxs; omega); have cb0 := (HPC.out _ hbb).1; have cb1 := (HPC.out _ hbb).2; have hpb : p < wb.heap.size := Nat.lt_of_lt_of_le hplw9 hbb.size; have HOB : Hid (OwnL 43 4 Qi.cells wb w9.heap.size (.slice A3 ns.length c3) ns) := Lib.hid (by unfold OwnL; rw [HML.out, HFL.out]; exact hown2); clear hown2 hgr2 hbk2))
            all_goals
              go_wp2_with fail
              go_meet
              first
              | exact ⟨wb.heap.size, A3, c3, rfl, Lib.hid (Qp.last HOB.out hbb HML.out.symm)⟩
              | exact ⟨wa.heap.size, A3, c3, rfl, Lib.hid (Qp.set HOB.out hbb HML.out.symm hxb hba.size rfl)⟩
              | exact ⟨w9.heap.size, A3, c3, rfl, Lib.hid (Qp.set HOB.out hbb HML.out.symm hxb (Nat.le_refl _) rfl)⟩
              | exact ⟨w9.heap.size + 1, A3, c3, rfl, Lib.hid (Qp.set HOB.out hbb HML.out.symm hxb (Nat.le_succ _) rfl)⟩
          obtain ⟨x10, A10, c10, rfl, HQP10⟩ := hcut
          obtain ⟨w10, hwm⟩ : ∃ wm, wm = wc := ⟨_, rfl⟩
          subst hwm
          clear HRT HRD K1 K2 K3 K4 K6 K7 HML HFL HB0 HB1 HB2 HB3 HB4 H01 H02 H03 HX2 HX3 b0 b1 hA2
          have HW10 : Hid (Below w2.heap.size w2 w10) := Lib.hid (HW9.out.trans (HQP10.out.2.2.mono HW9.out.size))
          have HM1 : Hid (∀ y ∈ ms, y ∈ ls) := Lib.hid (fun y hy => by
            rw [hms] at hy
            rcases List.mem_append.1 hy with h | h
            · exact List.mem_of_mem_take h
            · exact List.mem_of_mem_drop h)
          have HM2 : Hid (∀ y ∈ ns, y ∈ ls) := Lib.hid (fun y hy => by
            rw [hns] at hy
            rcases List.mem_append.1 hy with h | h
            · exact List.mem_of_mem_take h
            · exact List.mem_of_mem_drop h)
          have HO1 : Hid (Qu.ok nx (ms.map Qi.v) = true) := Lib.hid (by rw [hms, List.map_append, List.map_take, List.map_drop]; exact Qu.ok_part HOK.out k)
          have HO2 : Hid (Qu.ok nx (ns.map Qi.v) = false) := Lib.hid (by rw [hns, List.map_append, List.map_take, List.map_drop]; exact Qu.ok_twice (by rw [List.length_map]; exact hk))
          have hml : ms.length ≤ maxLen := by rw [hms]; unfold maxLen; simp; omega
          have hnl : ns.length ≤ maxLen := by rw [hns]; unfold maxLen; simp; omega
          have HQ9 := Lib.hid (HQP9.out.below (HQP10.out.2.2))
          have HC1 : Hid (∀ W, Below w10.heap.size w10 W → Calls Try.prog 10 #[.agg #[.int .i64 nx, .slice A9 ms.length c9]] W fun e w'' => e = .returned (.bool true) ∧ Below W.heap.size W w'') := Lib.hid fun W hW => by
            have := iQueueValid_any nx A9 ms c9 W ((HQ9.out.below hW).items (HA.out W (HW10.out.trans (hW.mono HW10.out.size))) HM1.out) hml
            rwa [HO1.out] at this
          have HC2 : Hid (∀ W, Below w10.heap.size w10 W → Calls Try.prog 10 #[.agg #[.int .i64 nx, .slice A10 ns.length c10]] W fun e w'' => e = .returned (.bool false) ∧ Below W.heap.size W w'') := Lib.hid fun W hW => by
            have := iQueueValid_any nx A10 ns c10 W ((HQP10.out.below hW).items (HA.out W (HW10.out.trans (hW.mono HW10.out.size))) HM2.out) hnl
            rwa [HO2.out] at this
          clear hms hns hatw4 hatw9 HIT
          have d0 := cell_at HQ9.out.1 0 _ rfl
          have d1 := cell_at HQ9.out.1 1 _ rfl
          go_wp2_with fail
          refine Calls.mono (HC1.out _ (Below.refl _ _)) ?_
          rintro e w11 ⟨rfl, hb11⟩
          have HB11 := Lib.hid hb11
          have hx11 := (HQP10.out.below hb11).1
          have e0 := cell_at hx11 0 _ rfl
          have e1 := cell_at hx11 1 _ rfl
          clear d0 d1 hb11 hx11
          go_wp2_with fail
          refine Calls.mono (HC2.out _ HB11.out) ?_
          rintro e w12 ⟨rfl, hb12⟩
          have HB12 := Lib.hid (HB11.out.trans (hb12.mono HB11.out.size))
          clear hb12
          go_wp2_with fail
          go_ret
          exact ⟨rfl, (H1.out _ (HW10.out.trans (HB12.out.mono HW10.out.size))).1⟩
        · obtain rfl : ls = [] := List.eq_nil_of_length_eq_zero (by omega)
          go_wp2_with fail
          go_ret
          exact ⟨rfl, (H1.out _ HB4'.out).1⟩
    · have hbi1 : (1048576 : Int) < (len1 : Int) := by omega
      go_enter Try.func4, Try.ntmps4
      go_wp2_with fail
      go_ret
      exact ⟨rfl, Below.refl _ _⟩
  · have hbi : (1048576 : Int) < (len : Int) := by omega
    go_enter Try.func4, Try.ntmps4
    go_wp2_with fail
    go_ret
    exact ⟨rfl, Below.refl _ _⟩
end Go.Proofs.Ytpbaimofffcnaaa
