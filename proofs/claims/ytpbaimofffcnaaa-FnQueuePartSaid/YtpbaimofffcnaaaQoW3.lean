/- QueueAdd of the specification. -/
import Derived.Test.YtpbaimofffcnaaaQoW2
import Derived.Test.YtpbaimofffcnaaaQlI
import Derived.Deep.RegionHeld3
import Derived.Deep.RegionLaw
import Derived.Deep.DeepCutAuto
import Derived.Deep.CutBlock
namespace Go.Proofs.Ytpbaimofffcnaaa
set_option linter.unusedVariables false
open Go.RowKit

theorem Qo.str_one (us : List ByteArray) : ∀ v ∈ us.flatMap St.cells, v.oneCell' = true := by
  intro v hv
  obtain ⟨u, _, hu⟩ := List.mem_flatMap.1 hv
  exact Qi.one_str u v hu
theorem Qo.sz_of {nx : Int} {w : World} {B : Nat} {A : Option Addr} {ls : List Qi.L} (h : AtItems w B A ls) (hok : Qu.ok nx (ls.map Qi.v) = true) : ∀ x ∈ ls, Qi.Sz x := fun x hx =>
  ⟨(Qu.ok_names hok).2 x hx, (h.2 x hx).1.2, (h.2 x hx).2.2.2⟩
theorem Lt.ok_len {f t : ByteArray} {us : List ByteArray} (h : Lt.ok f us t = true) : us.length ≤ 3 := by
  unfold Lt.ok at h
  simp only [Bool.and_eq_true] at h
  have h5 := h.1.2.1
  unfold St.namesOk at h5
  simp only [Bool.and_eq_true, decide_eq_true_eq] at h5
  exact h5.1
theorem Qo.other {w w5 : World} {B : Nat} {v : Value} {ls : List Qi.L} {o : Obj} {q : Nat} {cs : Array Value} {T : TypeId} (h : Qo w B v ls) (hc : w.heap[q]? = some (.cells cs T (0, 0))) (hT : 43 ≠ T) (hg : (w.alloc o).grownBy w5 v.ownBlock) : w5.heap[q]? = some (.cells cs T (0, 0)) := by
  have ha : Below w.heap.size w (w.alloc o) := Below.alloc (Below.refl _ _) (Nat.le_refl _) _
  have hc' := (ha.block q (Array.getElem?_eq_some_iff.1 hc).1).trans hc
  exact (ow_block (h.below ha).row hc' hT hg).trans hc'
theorem Qo.reads1 (w : World) (x : Qi.L) : Reads (w.alloc (.cells #[.int .i64 x.id, .string x.f, .string x.t, .slice x.A x.us.length x.c] 43)) (w.heap.size + 1) 4 (some ⟨w.heap.size, 0, none⟩) 1 (Qi.cells x) := by
  have := reads_of_at (c := 4) (by omega) Qi.cells_len (at_lit (us := [x]) (B := w.heap.size + 1) (f := Qi.cells) Qi.cells_len (heap_alloc_new w (.cells #[.int .i64 x.id, .string x.f, .string x.t, .slice x.A x.us.length x.c] 43)) (by simp [Qi.cells]) (by omega))
  simpa using this
/-- what adding gives -/
def Qo.Added (w : World) (e : Ending) (w' : World) : Prop := ∃ nx v ms fd, e = .returned (.tuple #[.agg #[.int .i64 nx, v], .bool fd]) ∧ Qo w' w.heap.size v ms ∧ ms.length ≤ 6 ∧ Below w.heap.size w w'
set_option maxRecDepth 100000 in
set_option maxHeartbeats 6400000 in
theorem sQueueAdd_any (nx : Int) (A : Option Addr) (ls : List Qi.L) (c : Nat) (f t : ByteArray) (A2 : Option Addr) (us : List ByteArray) (c2 : Nat) (w : World) (h : AtItems w w.heap.size A ls) (hn : ls.length ≤ 6)
    (h2 : AtStrs w w.heap.size A2 us) (hc2 : us.length ≤ c2) (hm2 : c2 ≤ maxLen) (hf : f.size ≤ maxLen) (ht : t.size ≤ maxLen) :
    Calls Try.prog 40 #[.agg #[.int .i64 nx, .slice A ls.length c], .agg #[.string f, .slice A2 us.length c2, .string t]] w (Qo.Added w) := by
  obtain ⟨i0, hi, hz0, hz1, hz2⟩ := info_parts str_info
  obtain ⟨j0, hj, hy0, hy1, hy2⟩ := info_parts item_info
  have HA : Hid (∀ w', Below w.heap.size w w' → AtItems w' w'.heap.size A ls) := Lib.hid fun w' hb' => (h.below hb').mono hb'.size
  have HL : Hid (∀ w', Below w.heap.size w w' → AtStrs w' w'.heap.size A2 us) := Lib.hid fun w' hb' => (h2.below hb').mono hb'.size
  have HSZ := Lib.hid (fun hok => Qo.sz_of (nx := nx) h hok)
  have hnm : ls.length ≤ maxLen := by unfold maxLen; omega
  have hb0 : Below w.heap.size w (((w.alloc (.cells #[.int .i64 nx, .slice A ls.length c] 29)).alloc (.cells #[.string f, .slice A2 us.length c2, .string t] 49)).alloc (.cells #[.int .i64 0, .slice none 0 0] 29)) := (((Below.refl _ _).alloc (Nat.le_refl _) _).alloc (by simp) _).alloc (by simp; omega) _
  have hx0 : (((w.alloc (.cells #[.int .i64 nx, .slice A ls.length c] 29)).alloc (.cells #[.string f, .slice A2 us.length c2, .string t] 49)).alloc (.cells #[.int .i64 0, .slice none 0 0] 29)).heap[w.heap.size]? = some (.cells #[.int .i64 nx, .slice A ls.length c] 29 (0, 0)) :=
    (Below.heap_alloc _ _ _ (by simp; omega)).trans ((Below.heap_alloc _ _ _ (by simp)).trans (heap_alloc_new w _))
  have hx1 : (((w.alloc (.cells #[.int .i64 nx, .slice A ls.length c] 29)).alloc (.cells #[.string f, .slice A2 us.length c2, .string t] 49)).alloc (.cells #[.int .i64 0, .slice none 0 0] 29)).heap[w.heap.size + 1]? = some (.cells #[.string f, .slice A2 us.length c2, .string t] 49 (0, 0)) := by
    refine (Below.heap_alloc _ _ _ (by simp)).trans ?_
    simpa using heap_alloc_new (w.alloc (.cells #[.int .i64 nx, .slice A ls.length c] 29)) (.cells #[.string f, .slice A2 us.length c2, .string t] 49)
  have hx2 : (((w.alloc (.cells #[.int .i64 nx, .slice A ls.length c] 29)).alloc (.cells #[.string f, .slice A2 us.length c2, .string t] 49)).alloc (.cells #[.int .i64 0, .slice none 0 0] 29)).heap[w.heap.size + 1 + 1]? = some (.cells #[.int .i64 0, .slice none 0 0] 29 (0, 0)) := by
    simpa using heap_alloc_new ((w.alloc (.cells #[.int .i64 nx, .slice A ls.length c] 29)).alloc (.cells #[.string f, .slice A2 us.length c2, .string t] 49)) (.cells #[.int .i64 0, .slice none 0 0] 29)
  clear h h2
  go_enter Try.func40, Try.ntmps40
  go_upto_region 1 with fail
  generalize ((w.alloc (.cells #[.int .i64 nx, .slice A ls.length c] 29)).alloc (.cells #[.string f, .slice A2 us.length c2, .string t] 49)).alloc (.cells #[.int .i64 0, .slice none 0 0] 29) = w1 at hb0 hx0 hx1 hx2 ⊢
  obtain ⟨s, hs⟩ : ∃ s, s = w.heap.size := ⟨_, rfl⟩
  obtain ⟨s1, hs1⟩ : ∃ s, s = w.heap.size + 1 := ⟨_, rfl⟩
  obtain ⟨r, hr⟩ : ∃ r, r = w.heap.size + 1 + 1 := ⟨_, rfl⟩
  have hwr : w.heap.size ≤ r := by omega
  rw [← hr, ← hs1, ← hs]
  rw [← hs] at hx0
  rw [← hs1] at hx1
  rw [← hr] at hx2
  have HSR : Hid (s ≠ r ∧ s1 ≠ r) := Lib.hid (by omega)
  clear hs hs1 hr
  have HX0 := Lib.hid hx0
  have HX1 := Lib.hid hx1
  have HX2 := Lib.hid hx2
  have HB1 := Lib.hid hb0
  have HF : Hid (∀ w', Below w1.heap.size w1 w' → Below w.heap.size w w' ∧ w'.heap[s]? = some (.cells #[.int .i64 nx, .slice A ls.length c] 29 (0, 0)) ∧ w'.heap[s1]? = some (.cells #[.string f, .slice A2 us.length c2, .string t] 49 (0, 0)) ∧ w'.heap[r]? = some (.cells #[.int .i64 0, .slice none 0 0] 29 (0, 0))) := Lib.hid fun w' hb =>
    ⟨HB1.out.trans (hb.mono HB1.out.size), (hb.block _ (Array.getElem?_eq_some_iff.1 HX0.out).1).trans HX0.out, (hb.block _ (Array.getElem?_eq_some_iff.1 HX1.out).1).trans HX1.out, (hb.block _ (Array.getElem?_eq_some_iff.1 HX2.out).1).trans HX2.out⟩
  have b0 := cell_at hx0 0 _ rfl
  have b1 := cell_at hx0 1 _ rfl
  have HQ := Lib.hid (sQueueValid_any nx A ls c w1 (HA.out w1 hb0) hnm)
  clear hx0 hx1 hx2 hb0
  cases hok : Qu.ok nx (ls.map Qi.v)
  · rw [hok] at HQ
    go_wp2_with fail
    refine Calls.mono HQ.out ?_
    rintro e w2 ⟨rfl, hb2⟩
    obtain ⟨hB2, _, _, hr2⟩ := HF.out w2 hb2
    have HB2 := Lib.hid hB2
    have r0 := cell_at hr2 0 _ rfl
    have r1 := cell_at hr2 1 _ rfl
    have f0 := free_at hr2 0
    have f1 := free_at hr2 1
    clear hr2 hb2 hB2
    go_wp2_with fail
    refine bodyPost_ret (v := .tuple #[.agg #[.int .i64 0, .slice none 0 0], .bool false]) (by simp [results, Try.results40, go_sem, r0, r1]) rfl ?_
    exact ⟨0, .slice none 0 0, [], false, rfl, Qo.nil _ _, Nat.zero_le _, (HB2.out.setCell (p := ⟨r, 0, none⟩) hwr _).setCell (p := ⟨r, 1, none⟩) hwr _⟩
  · rw [hok] at HQ
    have HZZ := Lib.hid (HSZ.out hok)
    have hnx : nx ≤ 100 ∧ 1 ≤ nx := by have := (Qu.ok_inv hok).2.1; omega
    clear hok
    go_wp2_with fail
    refine Calls.mono HQ.out ?_
    rintro e w2 ⟨rfl, hb2⟩
    have HW2 := Lib.hid hb2
    obtain ⟨hB2, hs2, hl2, hr2⟩ := HF.out w2 hb2
    have HLV := Lib.hid (sLetterValid_any f t A2 us c2 w2 (HL.out w2 hB2) hc2 hm2 hf ht)
    clear b0 b1
    have y0 := cell_at hl2 0 _ rfl
    have y1 := cell_at hl2 1 _ rfl
    have y2 := cell_at hl2 2 _ rfl
    clear hr2 hb2 hB2 hs2 hl2
    cases hlo : Lt.ok f us t
    · rw [hlo] at HLV
      go_wp2_with fail
      refine Calls.mono HLV.out ?_
      rintro e w3 ⟨rfl, hb3⟩
      obtain ⟨hB3, _, _, hr3⟩ := HF.out w3 (HW2.out.trans (hb3.mono HW2.out.size))
      have HB3 := Lib.hid hB3
      have r0 := cell_at hr3 0 _ rfl
      have r1 := cell_at hr3 1 _ rfl
      have f0 := free_at hr3 0
      have f1 := free_at hr3 1
      clear hr3 hb3 hB3
      go_wp2_with fail
      refine bodyPost_ret (v := .tuple #[.agg #[.int .i64 0, .slice none 0 0], .bool false]) (by simp [results, Try.results40, go_sem, r0, r1]) rfl ?_
      exact ⟨0, .slice none 0 0, [], false, rfl, Qo.nil _ _, Nat.zero_le _, (HB3.out.setCell (p := ⟨r, 0, none⟩) hwr _).setCell (p := ⟨r, 1, none⟩) hwr _⟩
    · rw [hlo] at HLV
      have hul : us.length ≤ 3 := Lt.ok_len hlo
      clear hlo
      go_wp2_with fail
      refine Calls.mono HLV.out ?_
      rintro e w3 ⟨rfl, hb3⟩
      have HW3 := Lib.hid (HW2.out.trans (hb3.mono HW2.out.size))
      obtain ⟨hB3, hs3, hl3, hr3⟩ := HF.out w3 HW3.out
      have b0 := cell_at hs3 0 _ rfl
      have b1 := cell_at hs3 1 _ rfl
      have HC := Lib.hid (l22Copy_any nx A ls c w3 (HA.out w3 hB3) hn HZZ.out)
      clear y0 y1 y2 hb3 hB3 hs3 hl3 hr3 HW2 HLV HQ
      go_wp2_with fail
      refine Calls.mono HC.out ?_
      rintro e w4 ⟨v4, ms, rfl, hq4, hv4, hb4⟩
      obtain ⟨A3, c3, hv, _, _⟩ := hq4.form
      subst hv
      have hml : ms.length ≤ ls.length := by have := congrArg List.length hv4; rw [List.length_map, List.length_map] at this; omega
      have HW4 := Lib.hid (HW3.out.trans (hb4.mono HW3.out.size))
      have HB3 := Lib.hid (HF.out w3 HW3.out).1
      have HQ4 := Lib.hid (hq4.base HB3.out.size)
      have hE := Below.alloc (Below.refl w4.heap.size w4) (Nat.le_refl _) (.cells #[.int .i64 nx, .slice A3 ms.length c3] 29)
      have hx := heap_alloc_new w4 (.cells #[.int .i64 nx, .slice A3 ms.length c3] 29)
      clear b0 b1 hq4 hv4 hb4 HC
      go_upto_region 4 with fail
      generalize w4.alloc (.cells #[.int .i64 nx, .slice A3 ms.length c3] 29) = w5 at hE hx ⊢
      obtain ⟨p, hp⟩ : ∃ p, p = w4.heap.size := ⟨_, rfl⟩
      rw [← hp] at hx ⊢
      have HW5 := Lib.hid (HW4.out.trans (hE.mono HW4.out.size))
      have HQ5 := Lib.hid (HQ4.out.below hE)
      have HP5 := Lib.hid hx
      have h4z := (HF.out w4 HW4.out).1.size
      have HPN : Hid (s ≠ p ∧ s1 ≠ p ∧ r ≠ p ∧ w.heap.size ≤ p) := Lib.hid (by
        have a1 := (Array.getElem?_eq_some_iff.1 (HF.out w4 HW4.out).2.1).1
        have a2 := (Array.getElem?_eq_some_iff.1 (HF.out w4 HW4.out).2.2.1).1
        have a3 := (Array.getElem?_eq_some_iff.1 (HF.out w4 HW4.out).2.2.2).1
        omega)
      clear hp hx hE HQ4 h4z
      obtain ⟨hB5, hs5, hl5, hr5⟩ := HF.out w5 HW5.out
      have HB5 := Lib.hid hB5
      have HS5 := Lib.hid hs5
      have HL5 := Lib.hid hl5
      have HR5 := Lib.hid hr5
      have b0 := cell_at hs5 0 _ rfl
      have b1 := cell_at hs5 1 _ rfl
      clear hB5 hs5 hl5 hr5
      by_cases hfull : 6 ≤ ls.length ∨ 99 < nx
      · have q0 := cell_at HP5.out 0 _ rfl
        have q1 := cell_at HP5.out 1 _ rfl
        have r0 := cell_at HR5.out 0 _ rfl
        have r1 := cell_at HR5.out 1 _ rfl
        have f0 := free_at HR5.out 0
        have f1 := free_at HR5.out 1
        have hrp : r ≠ p := HPN.out.2.2.1
        have HE : Hid (∀ (ww : World), ww = (w5.setCell ⟨r, 0, none⟩ (.int .i64 nx)).setCell ⟨r, 1, none⟩ (.slice A3 ms.length c3) → Qo ww w.heap.size (.slice A3 ms.length c3) ms ∧ Below w.heap.size w ww) := Lib.hid (by
          rintro ww rfl
          exact ⟨(HQ5.out.setTo HR5.out (by decide) (by decide) 0 _).setTo (ow_setHeap HR5.out) (by decide) (by decide) 1 _, (HB5.out.setCell (p := ⟨r, 0, none⟩) hwr _).setCell (p := ⟨r, 1, none⟩) hwr _⟩)
        have hml6 : ms.length ≤ 6 := by omega
        by_cases h6 : 6 ≤ ls.length
        · have h6i : (6 : Int) ≤ (ls.length : Int) := by omega
          go_wp2_with fail
          refine bodyPost_ret (v := .tuple #[.agg #[.int .i64 nx, .slice A3 ms.length c3], .bool false]) (by simp [results, Try.results40, go_sem, r0, r1]) rfl ?_
          exact ⟨nx, _, ms, false, rfl, (HE.out _ rfl).1, hml6, (HE.out _ rfl).2⟩
        · have h6i : ¬ (6 : Int) ≤ (ls.length : Int) := by omega
          have h9i : 99 < nx := by omega
          go_wp2_with fail
          refine bodyPost_ret (v := .tuple #[.agg #[.int .i64 nx, .slice A3 ms.length c3], .bool false]) (by simp [results, Try.results40, go_sem, r0, r1]) rfl ?_
          exact ⟨nx, _, ms, false, rfl, (HE.out _ rfl).1, hml6, (HE.out _ rfl).2⟩
      · have h6i : ¬ (6 : Int) ≤ (ls.length : Int) := by omega
        have h9i : ¬ 99 < nx := by omega
        go_upto_region 6 with fail
        clear b0 b1
        have hp5l : p < w5.heap.size := (Array.getElem?_eq_some_iff.1 HP5.out).1
        have hs5l : s < w5.heap.size := (Array.getElem?_eq_some_iff.1 HS5.out).1
        have hl5l : s1 < w5.heap.size := (Array.getElem?_eq_some_iff.1 HL5.out).1
        have b0 := cell_at HS5.out 0 _ rfl
        have y0 := cell_at HL5.out 0 _ rfl
        have y1 := cell_at HL5.out 1 _ rfl
        have y2 := cell_at HL5.out 2 _ rfl
        have p1 := cell_at HP5.out 1 _ rfl
        have HBS : Hid (Below w5.heap.size w5 (w5.alloc (.cells #[] 9)).drew) := Lib.hid (below_drewN (Below.alloc (Below.refl _ _) (Nat.le_refl _) _) 1)
        have H0 : Hid ((w5.alloc (.cells #[] 9)).drew.ownsRow w5.heap.size 9 1 (.slice (some ⟨w5.heap.size, 0, none⟩) 0 0) 0 (([] : List ByteArray).flatMap St.cells)) := Lib.hid (ownL_nil (f := St.cells) w5 (Nat.le_refl _))
        have HR1 : Hid (Reads (w5.alloc (.cells #[] 9)).drew (w5.alloc (.cells #[] 9)).drew.heap.size 1 A2 us.length (us.flatMap St.cells)) := Lib.hid (reads_of_at (by omega) St.cells_len (At.strs_of (HL.out _ (HB5.out.trans (HBS.out.mono HB5.out.size)))))
        have K1 := Lib.hid (Qo.str_one us)
        have K3 : Hid (0 + us.length ≤ maxLen) := Lib.hid (by unfold maxLen; omega)
        have K4 : Hid ((0 + us.length) * 16 ≤ 140737488355328) := Lib.hid (by omega)
        have K5 : Hid (w5.heap.size ≤ (w5.alloc (.cells #[] 9)).drew.heap.size) := Lib.hid HBS.out.size
        have K6 : Hid (ms.length + 1 ≤ maxLen) := Lib.hid (by unfold maxLen; omega)
        have K7 : Hid ((ms.length + 1) * 64 ≤ 140737488355328) := Lib.hid (by omega)
        have hms5 : ms.length + 1 ≤ 6 := by omega
        have hr5l : r < w5.heap.size := (Array.getElem?_eq_some_iff.1 HR5.out).1
        have hsp := HPN.out.1
        have hlp := HPN.out.2.1
        have HUS := Lib.hid (HL.out _ HB5.out).2
        go_cut [42] (fun v wx => ∃ (A8 : Option Addr) (c8 : Nat) (ns : List Qi.L), v = .slice A8 ns.length c8 ∧ ns.length ≤ 6 ∧ Hid (Qo wx w.heap.size (.slice A8 ns.length c8) ns) ∧ Hid (wx.heap[p]? = some (.cells #[.int .i64 nx, .slice A8 ns.length c8] 29 (0, 0))) ∧ Hid (wx.heap[s]? = some (.cells #[.int .i64 nx, .slice A ls.length c] 29 (0, 0))) ∧ Hid (wx.heap[r]? = some (.cells #[.int .i64 0, .slice none 0 0] 29 (0, 0))) ∧ Hid (Below w.heap.size w wx))
        case first =>
          rw [← id_eq (Oper.mk _ (Op.load _ (Operand.tmp 28)) _ _ _ _)]
          first
          | go_region_held3 (fun w' => w'.cell? ⟨s, 0, none⟩ = some (.int .i64 nx) ∧ w'.cell? ⟨s1, 0, none⟩ = some (.string f) ∧ w'.cell? ⟨s1, 2, none⟩ = some (.string t) ∧ w'.cell? ⟨s1, 1, none⟩ = some (.slice A2 us.length c2))
            (first | exact ⟨b0, y0, y2, y1⟩ | exact ⟨e0, e1, e3, e2⟩ | exact ⟨g0, g1, g3, g2⟩ | go_keep | (refine ⟨?_, ?_, ?_, ?_⟩ <;> (simp [go_sem]; first | exact g0 | exact g1 | exact g3 | exact g2 | exact e0 | exact e1 | exact e3 | exact e2 | exact b0 | exact y0 | exact y1 | exact y2)))
            (first
              | (refine step_append_any _ rfl (.tmp 36) (.tmp 38) _ rfl w5.heap.size 9 i0 _ 1 16 Try.underlying41 hi hz0 hz1 hz2 rfl (by omega) _ 0 _ (by simp [Act.eval]) H0.out _ A2 us.length c2 _ (by simp [Act.eval]) HR1.out K1.out K3.out K4.out K5.out ?_; intro v6 wb hown hgr hbk; obtain ⟨A5, c5, rfl⟩ := own_form hown; have HBB : Hid (Below w5.heap.size w5 wb) := Lib.hid (HBS.out.grown hgr HBS.out.size (fun q hq => (H0.out.lt q hq).1)); have e0 := (HBB.out.cell (p := ⟨s, 0, none⟩) hs5l).trans b0; have e1 := (HBB.out.cell (p := ⟨s1, 0, none⟩) hl5l).trans y0; have e2 := (HBB.out.cell (p := ⟨s1, 1, none⟩) hl5l).trans y1; have e3 := (HBB.out.cell (p := ⟨s1, 2, none⟩) hl5l).trans y2; have p1b := (HBB.out.cell (p := ⟨p, 1, none⟩) hp5l).trans p1; have hsb : s < wb.heap.size := Nat.lt_of_lt_of_le hs5l HBB.out.size; have hlb : s1 < wb.heap.size := Nat.lt_of_lt_of_le hl5l HBB.out.size; have hpb : p < wb.heap.size := Nat.lt_of_lt_of_le hp5l HBB.out.size; have HOB : Hid (St.Own wb w5.heap.size (.slice A5 us.length c5) us) := Lib.hid (by unfold St.Own OwnL; simpa using hown); have HQB := Lib.hid (HQ5.out.below HBB.out); have HPB := Lib.hid ((HBB.out.block p hp5l).trans HP5.out); have HSB := Lib.hid ((HBB.out.block s hs5l).trans HS5.out); have HLB := Lib.hid ((HBB.out.block s1 hl5l).trans HL5.out); have HRB := Lib.hid ((HBB.out.block r hr5l).trans HR5.out); have HBW := Lib.hid (HB5.out.trans (HBB.out.mono HB5.out.size)); have HOW : Hid (St.Own wb w.heap.size (.slice A5 us.length c5) us) := Lib.hid (OwnL.base HOB.out HB5.out.size); have H8 : Hid ((wb.alloc (.cells #[.int .i64 nx, .string f, .string t, .slice A5 us.length c5] 43)).ownsRow w.heap.size 43 4 (.slice A3 ms.length c3) ms.length (ms.flatMap Qi.cells)) := Lib.hid (OwnL.alloc HQB.out.row _); have HR8 := Lib.hid (Qo.reads1 wb ⟨nx, f, t, A5, us, c5⟩); have K8 : Hid (w.heap.size ≤ (wb.alloc (.cells #[.int .i64 nx, .string f, .string t, .slice A5 us.length c5] 43)).heap.size) := Lib.hid (Nat.le_trans HBW.out.size (by simp)); have HZ8 : Hid (Qi.Sz ⟨nx, f, t, A5, us, c5⟩) := Lib.hid ⟨hul, HUS.out, hf, ht⟩; clear hown hgr hbk)
              | (refine step_append_any _ rfl (.tmp 29) (.tmp 41) _ rfl w.heap.size 43 j0 _ 4 64 Try.underlying27 hj hy0 hy1 hy2 rfl (by omega) _ ms.length _ (by simp [Act.eval]) H8.out _ _ 1 1 _ (by simp [Act.eval]) HR8.out (Qi.one1 _) K6.out K7.out K8.out ?_; intro v8 wd hown8 hgr8 hbk8; obtain ⟨A8, c8, rfl⟩ := own_form hown8; have HOR : Hid (OwnL 43 4 Qi.cells wd w.heap.size (.slice A8 (ms.length + 1) c8) (ms ++ [(⟨nx, f, t, A5, us, c5⟩ : Qi.L)])) := Lib.hid (by unfold OwnL; rw [List.length_append, List.flatMap_append]; simpa using hown8); have HPU := Lib.hid (HQB.out.push (x := ⟨nx, f, t, A5, us, c5⟩) HPB.out HPN.out.2.2.2 HBW.out.size HOW.out HZ8.out HOR.out hgr8); have p7 := cell_at HPU.out.2.2.2.2 1 _ rfl; have f7 := free_at HPU.out.2.2.2.2 1; have g0 := cell_at (HQB.out.other HSB.out (by decide) hgr8) 0 _ rfl; have g1 := cell_at (HQB.out.other HLB.out (by decide) hgr8) 0 _ rfl; have g2 := cell_at (HQB.out.other HLB.out (by decide) hgr8) 1 _ rfl; have g3 := cell_at (HQB.out.other HLB.out (by decide) hgr8) 2 _ rfl; clear hown8 hgr8 hbk8))
          | fail
          all_goals
            go_wp2_with fail
            go_meet
            have e8 : (ms ++ [(⟨nx, f, t, A5, us, c5⟩ : Qi.L)]).length = ms.length + 1 := by simp
            refine ⟨A8, c8, ms ++ [⟨nx, f, t, A5, us, c5⟩], by rw [e8], by rw [e8]; exact hms5, ?_, ?_, ?_, ?_, ?_⟩
            · rw [e8]; exact Lib.hid HPU.out.1
            · rw [e8]; exact Lib.hid HPU.out.2.1
            · exact Lib.hid (HPU.out.2.2.1 s _ _ hsp (by decide) HSB.out)
            · exact Lib.hid (HPU.out.2.2.1 r _ _ HPN.out.2.2.1 (by decide) HRB.out)
            · exact Lib.hid (HBW.out.trans HPU.out.2.2.2.1)
        clear b0 y0 y1 y2 p1 HBS H0 HR1 K1 K3 K4 K5 K6 K7
        obtain ⟨A8, c8, ns, rfl, hns, HQ9, HP9, HS9, HR9, HB9⟩ := hcut
        obtain ⟨w9, hwm⟩ : ∃ wm, wm = wc := ⟨_, rfl⟩
        subst hwm
        have b0 := cell_at HS9.out 0 _ rfl
        have q0 := cell_at HP9.out 0 _ rfl
        have q1 := cell_at HP9.out 1 _ rfl
        have fq := free_at HP9.out 0
        have r0 := cell_at HR9.out 0 _ rfl
        have r1 := cell_at HR9.out 1 _ rfl
        have f0 := free_at HR9.out 0
        have f1 := free_at HR9.out 1
        have hrp : r ≠ p := HPN.out.2.2.1
        have hpr : p ≠ r := Ne.symm hrp
        have HE : Hid (∀ (ww : World), ww = ((w9.setCell ⟨p, 0, none⟩ (.int .i64 (nx + 1))).setCell ⟨r, 0, none⟩ (.int .i64 (nx + 1))).setCell ⟨r, 1, none⟩ (.slice A8 ns.length c8) → Qo ww w.heap.size (.slice A8 ns.length c8) ns ∧ Below w.heap.size w ww) := Lib.hid (by
          rintro ww rfl
          have hr2 := ow_setOther (i := 0) (v := .int .i64 (nx + 1)) HR9.out hpr
          exact ⟨((HQ9.out.setTo HP9.out (by decide) (by decide) 0 _).setTo hr2 (by decide) (by decide) 0 _).setTo (ow_setHeap hr2) (by decide) (by decide) 1 _, ((HB9.out.setCell (p := ⟨p, 0, none⟩) HPN.out.2.2.2 _).setCell (p := ⟨r, 0, none⟩) hwr _).setCell (p := ⟨r, 1, none⟩) hwr _⟩)
        have hnx1 := hnx.1
        have hnx2 := hnx.2
        go_wp2_with fail
        refine bodyPost_ret (v := .tuple #[.agg #[.int .i64 (nx + 1), .slice A8 ns.length c8], .bool true]) (by simp [results, Try.results40, go_sem, r0, r1]) rfl ?_
        exact ⟨nx + 1, _, ns, true, rfl, (HE.out _ rfl).1, hns, (HE.out _ rfl).2⟩
end Go.Proofs.Ytpbaimofffcnaaa
