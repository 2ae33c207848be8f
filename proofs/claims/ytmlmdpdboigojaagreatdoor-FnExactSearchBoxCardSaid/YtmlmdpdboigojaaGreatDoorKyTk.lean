/- Copies of keys (toKey, toKeyS of the laws): rows of the call's own. -/
import Derived.Test.YtmlmdpdboigojaaGreatDoorKyTo
namespace Go.Proofs.YtmlmdpdboigojaaGreatDoor
set_option linter.unusedVariables false
open Go.RowKit

/-- what copying a key gives -/
def Ky.To (d : Nat) (x : Kx) (w : World) (e : Ending) (w' : World) : Prop := ∃ y : Kx, e = .returned y.val ∧ Kx.v d y = Kx.v d x ∧ Kx.Own d w' w.heap.size y ∧ Below w.heap.size w w'

set_option maxRecDepth 100000 in
set_option maxHeartbeats 3200000 in
theorem toKeyS_of (d : Nat) (ih : ∀ (x : Kx) (w : World), Kx.In d w w.heap.size x → Kx.sz d x ≤ 1048576 → Calls Tryz.prog 8 #[x.val] w (Ky.To d x w))
    (A : Option Addr) (us : List Kx) (c : Nat) (w : World) (h : At w w.heap.size 5 Kx.cells A us) (hin : ∀ y ∈ us, Kx.In d w w.heap.size y) (hn : us.length ≤ 1048576) (hz : ∀ y ∈ us, Kx.sz d y ≤ 1048576) :
    Calls Tryz.prog 25 #[.slice A us.length c] w fun e w' => ∃ A' c' ys, e = .returned (.slice A' us.length c') ∧ ys.length = us.length ∧ ys.map (Kx.v d) = us.map (Kx.v d) ∧ OwnL 40 5 Kx.cells w' w.heap.size (.slice A' ys.length c') ys ∧ (∀ y ∈ ys, Kx.Own d w' w.heap.size y) ∧ Below w.heap.size w w' := by
  obtain ⟨i0, hi, hz0, hz1, hz2⟩ := info_parts key_info
  have hmk := fun W => run_make_rowN (P := Tryz.prog) 38 40 i0 _ Tryz.underlying38 hi hz0 .i64 .i64 us.length us.length (Nat.le_refl _) (by rw [hz2]; omega) (by omega) W
  rw [hz1] at hmk
  have hml : (madeCells (Value.agg #[.int .i64 0, .int .i64 0, .string ⟨#[]⟩, .slice none 0 0, .slice none 0 0]).cells (us.length * 5)).toList = (Ky.fill Kx.zero [] us.length).flatMap Kx.cells := by
    rw [Ky.fill_zero]
    exact made_flat (by omega) Kx.cells_len rfl
  have HML := Lib.hid hml
  clear hml
  have hown0 : (w.alloc (.cells (madeCells (Value.agg #[.int .i64 0, .int .i64 0, .string ⟨#[]⟩, .slice none 0 0, .slice none 0 0]).cells (us.length * 5)) 40)).ownsRow w.heap.size 40 5 (.slice (some ⟨w.heap.size, 0, none⟩) us.length us.length) us.length ((Ky.fill Kx.zero [] us.length).flatMap Kx.cells) := by
    rw [← HML.out]
    exact World.ownsRow_lit w _ us.length (Nat.le_refl _) (by unfold maxLen; omega) (size_madeCells _ _)
  have H0 := Lib.hid hown0
  clear hown0
  have HIN := Lib.hid hin
  have HZ := Lib.hid hz
  clear hin hz
  go_enter Tryz.func25, Tryz.ntmps25
  go_wp2_with fail
  go_loopg [4] us.length (fun g i wr => ∃ (k : Nat) (ys : List Kx), k ≤ us.length ∧ Hid (g = us.length - k) ∧ i = .int .i64 k ∧ Hid (ys.length = k) ∧ Hid (ys.map (Kx.v d) = (us.take k).map (Kx.v d)) ∧ Hid (wr.ownsRow w.heap.size 40 5 (.slice (some ⟨w.heap.size, 0, none⟩) us.length us.length) us.length ((Ky.fill Kx.zero ys us.length).flatMap Kx.cells)) ∧ Hid (∀ y ∈ ys, Kx.Own d wr (w.heap.size + 1) y) ∧ Below w.heap.size w wr)
  case atStart => exact ⟨0, [], Nat.zero_le _, Lib.hid rfl, rfl, Lib.hid rfl, Lib.hid (by simp), H0, Lib.hid (fun x hx => by cases hx), by go_grown⟩
  case round =>
    obtain ⟨k, ys, hk, HG, rfl, HYL, HV, HO, HS, hb⟩ := hrel
    by_cases hlt : k < us.length
    · obtain ⟨g, off, rfl, hg, hc⟩ := keys_row (h.below hb) (by omega)
      obtain ⟨u, hu⟩ : ∃ u, us[k]? = some u := ⟨_, List.getElem?_eq_getElem hlt⟩
      obtain ⟨d0, d1, d2, d3, d4⟩ := hc k u hu
      have HT := Lib.hid (ih u wr (((HIN.out u (List.mem_of_getElem? hu)).below hb).mono hb.size) (HZ.out u (List.mem_of_getElem? hu)))
      have HU := Lib.hid (Ky.take_snoc hu)
      clear hc hu
      go_wp2_with fail
      refine Calls.mono HT.out ?_
      rintro e w1 ⟨y, rfl, hv, ho, hb1⟩
      have hlt1 := (HO.out.lt _ rfl).2
      have hown1 := own_below HO.out hb1 hlt1
      have hpg := Ky.fill_get (z := Kx.zero) ys us.length k HYL.out hlt
      have e0 : w1.cell? ⟨w.heap.size, k * 5, none⟩ = some (.int .i64 0) := own_cell (j := 0) Kx.cells_len hown1 hpg rfl
      have e1 : w1.cell? ⟨w.heap.size, k * 5 + 1, none⟩ = some (.int .i64 0) := own_cell (j := 1) Kx.cells_len hown1 hpg rfl
      have e2 : w1.cell? ⟨w.heap.size, k * 5 + 2, none⟩ = some (.string ⟨#[]⟩) := own_cell (j := 2) Kx.cells_len hown1 hpg rfl
      have e3 : w1.cell? ⟨w.heap.size, k * 5 + 3, none⟩ = some (.slice none 0 0) := own_cell (j := 3) Kx.cells_len hown1 hpg rfl
      have e4 : w1.cell? ⟨w.heap.size, k * 5 + 4, none⟩ = some (.slice none 0 0) := own_cell (j := 4) Kx.cells_len hown1 hpg rfl
      have f0 : w1.frozen? ⟨w.heap.size, k * 5, none⟩ = false := hown1.frozenAt _
      have f1 : w1.frozen? ⟨w.heap.size, k * 5 + 1, none⟩ = false := hown1.frozenAt _
      have f2 : w1.frozen? ⟨w.heap.size, k * 5 + 2, none⟩ = false := hown1.frozenAt _
      have f3 : w1.frozen? ⟨w.heap.size, k * 5 + 3, none⟩ = false := hown1.frozenAt _
      have f4 : w1.frozen? ⟨w.heap.size, k * 5 + 4, none⟩ = false := hown1.frozenAt _
      have hpl : k < (Ky.fill Kx.zero ys us.length).length := by rw [Ky.fill_len _ _ (by have := HYL.out; omega)]; exact hlt
      obtain ⟨kind, flag, text, A', set, c', KA, keys, kc⟩ := y
      have hs1 := own_set (j := 0) (u' := Kx.mk kind 0 ⟨#[]⟩ none [] 0 none [] 0) (v := .int .i64 kind) Kx.cells_len hown1 hpg (by omega) rfl
      have hs2 := own_set (j := 1) (u' := Kx.mk kind flag ⟨#[]⟩ none [] 0 none [] 0) (v := .int .i64 flag) Kx.cells_len hs1 (List.getElem?_set_self hpl) (by omega) rfl
      have hs3 := own_set (j := 2) (u' := Kx.mk kind flag text none [] 0 none [] 0) (v := .string text) Kx.cells_len hs2 (List.getElem?_set_self (by rw [List.length_set]; exact hpl)) (by omega) rfl
      have hs4 := own_set (j := 3) (u' := Kx.mk kind flag text A' set c' none [] 0) (v := .slice A' set.length c') Kx.cells_len hs3 (List.getElem?_set_self (by rw [List.length_set, List.length_set]; exact hpl)) (by omega) rfl
      have hs5 := own_set (j := 4) (u' := Kx.mk kind flag text A' set c' KA keys kc) (v := .slice KA keys.length kc) Kx.cells_len hs4 (List.getElem?_set_self (by rw [List.length_set, List.length_set, List.length_set]; exact hpl)) (by omega) rfl
      rw [List.set_set, List.set_set, List.set_set, List.set_set, Ky.fill_set _ _ k _ HYL.out hlt] at hs5
      have HS5 := Lib.hid hs5
      clear hs1 hs2 hs3 hs4 hs5 hpl hpg hown1 d0 d1 d2 d3 d4
      have HS6 : Hid (∀ v0 v1 v2 v3 v4 : Value, ∀ x ∈ ys ++ [Kx.mk kind flag text A' set c' KA keys kc], Kx.Own d (((((w1.setCell ⟨w.heap.size, k * 5, none⟩ v0).setCell ⟨w.heap.size, k * 5 + 1, none⟩ v1).setCell ⟨w.heap.size, k * 5 + 2, none⟩ v2).setCell ⟨w.heap.size, k * 5 + 3, none⟩ v3).setCell ⟨w.heap.size, k * 5 + 4, none⟩ v4) (w.heap.size + 1) x) := Lib.hid fun v0 v1 v2 v3 v4 x hx => by
        have h1 : Kx.Own d w1 (w.heap.size + 1) x := by
          rcases List.mem_append.1 hx with hx | hx
          · exact (HS.out x hx).below hb1
          · rw [List.mem_singleton] at hx
            subst hx
            exact ho.base hlt1
        exact ((((h1.set (p := ⟨w.heap.size, k * 5, none⟩) (Nat.lt_succ_self _) _).set (p := ⟨w.heap.size, k * 5 + 1, none⟩) (Nat.lt_succ_self _) _).set (p := ⟨w.heap.size, k * 5 + 2, none⟩) (Nat.lt_succ_self _) _).set (p := ⟨w.heap.size, k * 5 + 3, none⟩) (Nat.lt_succ_self _) _).set (p := ⟨w.heap.size, k * 5 + 4, none⟩) (Nat.lt_succ_self _) _
      have HV2 : Hid ((ys ++ [Kx.mk kind flag text A' set c' KA keys kc]).map (Kx.v d) = (us.take (k + 1)).map (Kx.v d)) := Lib.hid (by rw [HU.out, List.map_append, List.map_append, HV.out]; simp only [List.map_cons, List.map_nil, hv])
      have hb2 := hb.trans (hb1.mono hb.size)
      clear hv ho hb1 hlt1
      simp only [Kx.val, Kx.kind, Kx.flag, Kx.text, Kx.set, Kx.keys, Kx.A, Kx.KA, Kx.c, Kx.kc]
      go_wp2_with fail
      go_roundg (us.length - (k + 1))
      case measure => have := HG.out; omega
      case rel => exact ⟨k + 1, ys ++ [Kx.mk kind flag text A' set c' KA keys kc], by omega, Lib.hid rfl, by go_num, Lib.hid (by rw [List.length_append, HYL.out]; rfl), HV2, HS5, Lib.hid (HS6.out _ _ _ _ _), ((((hb2.setCell (p := ⟨w.heap.size, k * 5, none⟩) (Nat.le_refl _) _).setCell (p := ⟨w.heap.size, k * 5 + 1, none⟩) (Nat.le_refl _) _).setCell (p := ⟨w.heap.size, k * 5 + 2, none⟩) (Nat.le_refl _) _).setCell (p := ⟨w.heap.size, k * 5 + 3, none⟩) (Nat.le_refl _) _).setCell (p := ⟨w.heap.size, k * 5 + 4, none⟩) (Nat.le_refl _) _⟩
    · obtain rfl : k = us.length := by omega
      have hown := HO.out
      have hyl := HYL.out
      rw [← hyl, Ky.fill_all] at hown
      have HV2 := Lib.hid HV.out
      rw [List.take_length] at HV2
      have HAT := Lib.hid hown
      have HYL2 := Lib.hid hyl
      clear hown hyl
      go_wp2_with fail
      go_ret
      exact ⟨some ⟨w.heap.size, 0, none⟩, ys.length, ys, by rw [HYL2.out]; rfl, HYL2.out, HV2.out, HAT.out, fun y hy => (HS.out y hy).base (Nat.le_succ _), hb⟩

set_option maxRecDepth 100000 in
set_option maxHeartbeats 3200000 in
theorem toKey_any (d : Nat) : ∀ (x : Kx) (w : World), Kx.In d w w.heap.size x → Kx.sz d x ≤ 1048576 → Calls Tryz.prog 8 #[x.val] w (Ky.To d x w) := by
  induction d with
  | zero => intro x w h; exact absurd h id
  | succ d ih =>
    intro x w h hz
    obtain ⟨ht, hs, hsc, hcm, hk, hkc, hkm, hin⟩ := h
    rw [Kx.sz_succ] at hz
    obtain ⟨kind, flag, text, A, set, c, KA, keys, kc⟩ := x
    simp only [Kx.text, Kx.set, Kx.keys, Kx.A, Kx.KA, Kx.c, Kx.kc] at ht hs hsc hcm hk hkc hkm hin hz
    simp only [Kx.val, Kx.kind, Kx.flag, Kx.text, Kx.set, Kx.keys, Kx.A, Kx.KA, Kx.c, Kx.kc]
    have HZ : Hid (∀ y ∈ keys, Kx.sz d y ≤ 1048576) := Lib.hid fun y hy => by have := Ky.mem_le (Kx.sz d) hy; omega
    have hsl : set.length ≤ 1048576 := by omega
    have hkl : keys.length ≤ 1048576 := by omega
    have HK := Lib.hid (And.intro hk hin)
    clear hk hin hsc hcm hkc hkm hz
    go_enter Tryz.func8, Tryz.ntmps8
    go_wp2_with fail
    refine (toSpanS_any A set c _ (At.mono (At.below hs (by go_grown)) (by simp; omega)) hsl).mono ?_
    rintro e w1 ⟨A', c', rfl, ho, hb1⟩
    have hB := Below.trans (B := w.heap.size) (a := w) (by go_grown) (hb1.mono (by simp; omega))
    have hs1 := hb1.size
    have HX3 : Hid (w1.heap[w.heap.size + 1 + 1]? = some (.cells #[.int .i64 kind, .int .i64 flag, .string text, .slice none 0 0, .slice none 0 0] 40 (0, 0))) := Lib.hid ((hb1.block _ (by simp)).trans (by simpa using heap_alloc_new ((w.alloc _).alloc _) (.cells #[.int .i64 kind, .int .i64 flag, .string text, .slice none 0 0, .slice none 0 0] 40 (0, 0))))
    have HX2 : Hid (w1.heap[w.heap.size + 1]? = some (.cells #[.int .i64 0, .int .i64 0, .string ⟨#[]⟩, .slice none 0 0, .slice none 0 0] 40 (0, 0))) := Lib.hid ((hb1.block _ (by simp)).trans ((Below.heap_alloc _ _ _ (by simp)).trans (by simpa using heap_alloc_new (w.alloc _) (.cells #[.int .i64 0, .int .i64 0, .string ⟨#[]⟩, .slice none 0 0, .slice none 0 0] 40 (0, 0)))))
    have HX1 : Hid (w1.heap[w.heap.size]? = some (.cells #[.int .i64 kind, .int .i64 flag, .string text, .slice A set.length c, .slice KA keys.length kc] 28 (0, 0))) := Lib.hid ((hb1.block _ (by simp; omega)).trans ((Below.heap_alloc _ _ _ (by simp; omega)).trans ((Below.heap_alloc _ _ _ (by simp)).trans (heap_alloc_new w _))))
    have q3 : w1.cell? ⟨w.heap.size + 1 + 1, 3, none⟩ = some (.slice none 0 0) := cell_at HX3.out 3 _ rfl
    have q4 : w1.cell? ⟨w.heap.size + 1 + 1, 4, none⟩ = some (.slice none 0 0) := cell_at HX3.out 4 _ rfl
    have fq3 := free_at HX3.out 3
    have b4 : w1.cell? ⟨w.heap.size, 4, none⟩ = some (.slice KA keys.length kc) := cell_at HX1.out 4 _ rfl
    have HO := Lib.hid ho
    have hs2 : w.heap.size + 1 + 1 + 1 ≤ w1.heap.size := by simpa using hs1
    clear ho hs1
    go_wp2_with fail
    have hb12 : Below w.heap.size w (w1.setCell ⟨w.heap.size + 1 + 1, 3, none⟩ (.slice A' set.length c')) := hB.setCell (by simp; omega) _
    refine (toKeyS_of d ih KA keys kc _ (At.mono (At.below HK.out.1 hb12) hb12.size) (fun y hy => ((HK.out.2 y hy).below hb12).mono hb12.size) hkl HZ.out).mono ?_
    rintro e w2 ⟨A2, c2, ys, rfl, hyl, hv, hoy, hys, hb2⟩
    have hB2 := hb12.trans (hb2.mono hb12.size)
    have hx3 : w2.heap[w.heap.size + 1 + 1]? = some (.cells #[.int .i64 kind, .int .i64 flag, .string text, .slice A' set.length c', .slice none 0 0] 40 (0, 0)) := (hb2.block _ (by simp; omega)).trans (by rw [ow_setHeap HX3.out]; rfl)
    have hx2 : w2.heap[w.heap.size + 1]? = some (.cells #[.int .i64 0, .int .i64 0, .string ⟨#[]⟩, .slice none 0 0, .slice none 0 0] 40 (0, 0)) := (hb2.block _ (by simp; omega)).trans (ow_setOther HX2.out (by omega))
    have r0 : w2.cell? ⟨w.heap.size + 1 + 1, 0, none⟩ = some (.int .i64 kind) := cell_at hx3 0 _ rfl
    have r1 : w2.cell? ⟨w.heap.size + 1 + 1, 1, none⟩ = some (.int .i64 flag) := cell_at hx3 1 _ rfl
    have r2 : w2.cell? ⟨w.heap.size + 1 + 1, 2, none⟩ = some (.string text) := cell_at hx3 2 _ rfl
    have r3 : w2.cell? ⟨w.heap.size + 1 + 1, 3, none⟩ = some (.slice A' set.length c') := cell_at hx3 3 _ rfl
    have r4 : w2.cell? ⟨w.heap.size + 1 + 1, 4, none⟩ = some (.slice none 0 0) := cell_at hx3 4 _ rfl
    have s0 : w2.cell? ⟨w.heap.size + 1, 0, none⟩ = some (.int .i64 0) := cell_at hx2 0 _ rfl
    have s1 : w2.cell? ⟨w.heap.size + 1, 1, none⟩ = some (.int .i64 0) := cell_at hx2 1 _ rfl
    have s2 : w2.cell? ⟨w.heap.size + 1, 2, none⟩ = some (.string ⟨#[]⟩) := cell_at hx2 2 _ rfl
    have s3 : w2.cell? ⟨w.heap.size + 1, 3, none⟩ = some (.slice none 0 0) := cell_at hx2 3 _ rfl
    have s4 : w2.cell? ⟨w.heap.size + 1, 4, none⟩ = some (.slice none 0 0) := cell_at hx2 4 _ rfl
    have fr4 := free_at hx3 4
    have fs0 := free_at hx2 0
    have fs1 := free_at hx2 1
    have fs2 := free_at hx2 2
    have fs3 := free_at hx2 3
    have fs4 := free_at hx2 4
    have HO2 := Lib.hid (OwnL.base (OwnL.below (OwnL.keepH HO.out (keep_set (p := ⟨w.heap.size + 1 + 1, 3, none⟩) (by simp) (.slice A' set.length c'))) hb2) (show w.heap.size + 1 + 1 + 1 ≤ _ by simp))
    have HOY := Lib.hid (And.intro (OwnL.base hoy (show w.heap.size + 1 + 1 + 1 ≤ _ by simp; omega)) (fun y hy => (hys y hy).base (show w.heap.size + 1 + 1 + 1 ≤ _ by simp; omega)))
    have HV := Lib.hid (And.intro hyl hv)
    clear hx2 hx3 hoy hys hv hyl q3 q4 fq3 b4
    go_wp2_with fail
    have hk5 : ∀ (g : Nat) (o : Obj), w.heap.size + 1 + 1 + 1 ≤ g → w2.heap[g]? = some o → ((((((w2.setCell ⟨w.heap.size + 1 + 1, 4, none⟩ (.slice A2 keys.length c2)).setCell ⟨w.heap.size + 1, 0, none⟩ (.int .i64 kind)).setCell ⟨w.heap.size + 1, 1, none⟩ (.int .i64 flag)).setCell ⟨w.heap.size + 1, 2, none⟩ (.string text)).setCell ⟨w.heap.size + 1, 3, none⟩ (.slice A' set.length c')).setCell ⟨w.heap.size + 1, 4, none⟩ (.slice A2 keys.length c2)).heap[g]? = some o :=
      fun g o hg ho => keep_set (B := w.heap.size + 1 + 1 + 1) (by simp) _ g o hg (keep_set (B := w.heap.size + 1 + 1 + 1) (by simp) _ g o hg (keep_set (B := w.heap.size + 1 + 1 + 1) (by simp) _ g o hg (keep_set (B := w.heap.size + 1 + 1 + 1) (by simp) _ g o hg (keep_set (B := w.heap.size + 1 + 1 + 1) (by simp) _ g o hg (keep_set (B := w.heap.size + 1 + 1 + 1) (by simp) _ g o hg ho)))))
    refine bodyPost_ret (v := .agg #[.int .i64 kind, .int .i64 flag, .string text, .slice A' set.length c', .slice A2 keys.length c2]) (by simp [results, Tryz.results8, go_sem, s0, s1, s2, s3, s4]) rfl ⟨Kx.mk kind flag text A' set c' A2 ys c2, by simp only [Kx.val, Kx.kind, Kx.flag, Kx.text, Kx.set, Kx.keys, Kx.A, Kx.KA, Kx.c, Kx.kc, HV.out.1], ?_, ⟨ht, ?_, ?_, ?_⟩, ?_⟩
    · show Kt.mk kind flag text set (ys.map (Kx.v d)) = Kt.mk kind flag text set (keys.map (Kx.v d))
      rw [HV.out.2]
    · exact OwnL.base (OwnL.keepH HO2.out hk5) (by omega)
    · exact OwnL.base (OwnL.keepH HOY.out.1 hk5) (by omega)
    · exact fun y hy => ((HOY.out.2 y hy).keep hk5).base (by omega)
    · exact (((((hB2.setCell (p := ⟨w.heap.size + 1 + 1, 4, none⟩) (by simp; omega) _).setCell (p := ⟨w.heap.size + 1, 0, none⟩) (by simp) _).setCell (p := ⟨w.heap.size + 1, 1, none⟩) (by simp) _).setCell (p := ⟨w.heap.size + 1, 2, none⟩) (by simp) _).setCell (p := ⟨w.heap.size + 1, 3, none⟩) (by simp) _).setCell (p := ⟨w.heap.size + 1, 4, none⟩) (by simp) _
end Go.Proofs.YtmlmdpdboigojaaGreatDoor
