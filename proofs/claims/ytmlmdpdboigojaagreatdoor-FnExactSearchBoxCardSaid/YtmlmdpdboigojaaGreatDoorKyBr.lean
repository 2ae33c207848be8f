/- keyBranch of the program; keyBuild at every level; keyTree. -/
import Derived.Test.YtmlmdpdboigojaaGreatDoorKyBd
namespace Go.Proofs.YtmlmdpdboigojaaGreatDoor
set_option linter.unusedVariables false
open Go.RowKit

theorem Ky.Bd.no {d p r : Nat} {x : Kx} {w w' : World} {v : Value} {r' : Int} (h : (Kt.all d (Kx.v d x) && decide (Kt.nodes d (Kx.v d x) ≤ r)) = false) (hr : Ky.Rm p r' w w') : Ky.Bd d x p r w (.returned (.tuple #[v, .bool false])) w' := ⟨v, false, r', rfl, h.symm, (fun h => by cases h), hr⟩
theorem Ky.Bd.yes {d p r : Nat} {x : Kx} {w w' : World} {v : Value} {r' : Int} (h : (Kt.all d (Kx.v d x) && decide (Kt.nodes d (Kx.v d x) ≤ r)) = true) (hv : v = (Kx.nd d x).val) (hr' : r' = ((r - Kt.nodes d (Kx.v d x) : Nat) : Int)) (hr : Ky.Rm p r' w w') : Ky.Bd d x p r w (.returned (.tuple #[v, .bool true])) w' := ⟨v, true, r', rfl, h.symm, fun _ => ⟨hv, hr'⟩, hr⟩
theorem Ky.Rm.trans {p : Nat} {r r' : Int} {w w1 w2 : World} (h : Ky.Rm p r w w1) (k : Ky.Rm p r' w1 w2) : Ky.Rm p r' w w2 := ⟨k.1, grown_trans h.2 k.2⟩
theorem Nd.val_form : ∀ n : Nd, ∃ T v, Nd.val n = .iface T v
  | .all => ⟨_, _, rfl⟩
  | .has _ => ⟨_, _, rfl⟩
  | .text _ => ⟨_, _, rfl⟩
  | .place _ _ _ => ⟨_, _, rfl⟩
  | .uid _ _ _ => ⟨_, _, rfl⟩
  | .not _ => ⟨_, _, rfl⟩
  | .pair _ _ _ => ⟨_, _, rfl⟩
theorem Ky.len_ne {n k : Nat} (h : ¬ n = k) : (n == k) = false := by simp [h]
theorem Ky.list1' {α : Type} {l : List α} (h : l.length = 1) : ∃ a, l = [a] := List.length_eq_one_iff.1 h
theorem Ky.list2' {α : Type} {l : List α} (h : l.length = 2) : ∃ a b, l = [a, b] := by
  match l, h with
  | [a, b], _ => exact ⟨a, b, rfl⟩

set_option maxRecDepth 100000 in
set_option maxHeartbeats 6400000 in
theorem keyBranch_of (d : Nat) (ih : ∀ (x : Kx) (p r : Nat) (w : World), Kx.In d w p x → Ky.Fl w → 0 < p → w.heap[p]? = some (.cells #[.int .i64 (r : Int)] 3 (0, 0)) → r ≤ 9 → Calls Tryz.prog 44 #[x.val, .pointer (some ⟨p, 0, none⟩)] w (Ky.Bd d x p r w))
    (x : Kx) (p q : Nat) (w : World) (h : Kx.In (d + 1) w p x) (hfl : Ky.Fl w) (hp0 : 0 < p) (hp : w.heap[p]? = some (.cells #[.int .i64 (q : Int)] 3 (0, 0))) (hq : q ≤ 8) (hk : x.kind ≥ 5) :
    Calls Tryz.prog 56 #[x.val, .pointer (some ⟨p, 0, none⟩)] w (Ky.Bd (d + 1) x p (q + 1) w) := by
  obtain ⟨_, _, _, _, hks, hkc, hkm, hin⟩ := h
  have HNO : Hid (∀ (v : Value) (w' : World) (r' : Int), (Ky.nodeOk x.kind x.flag x.text x.set x.keys.length = false ∨ (Kt.all (d + 1) (Kx.v (d + 1) x) && decide (Kt.nodes (d + 1) (Kx.v (d + 1) x) ≤ q + 1)) = false) → Ky.Rm p r' w w' → Ky.Bd (d + 1) x p (q + 1) w (.returned (.tuple #[v, .bool false])) w') := Lib.hid fun v w' r' hh hr => by
    rcases hh with hh | hh
    · exact Ky.Bd.no (Ky.br_no hh) hr
    · exact Ky.Bd.no hh hr
  have HYES : Hid (∀ (v : Value) (w' : World) (r' : Int), (Kt.all (d + 1) (Kx.v (d + 1) x) && decide (Kt.nodes (d + 1) (Kx.v (d + 1) x) ≤ q + 1)) = true → v = (Kx.nd (d + 1) x).val → r' = ((q + 1 - Kt.nodes (d + 1) (Kx.v (d + 1) x) : Nat) : Int) → Ky.Rm p r' w w' → Ky.Bd (d + 1) x p (q + 1) w (.returned (.tuple #[v, .bool true])) w') := Lib.hid fun v w' r' h1 h2 h3 hr => Ky.Bd.yes h1 h2 h3 hr
  have HB1 : Hid (∀ a, x.keys = [a] → Ky.nodeOk x.kind x.flag x.text x.set x.keys.length = true → (Kt.all (d + 1) (Kx.v (d + 1) x) && decide (Kt.nodes (d + 1) (Kx.v (d + 1) x) ≤ q + 1)) = (Kt.all d (Kx.v d a) && decide (Kt.nodes d (Kx.v d a) ≤ q)) ∧ Kt.nodes (d + 1) (Kx.v (d + 1) x) = 1 + Kt.nodes d (Kx.v d a)) := Lib.hid fun a h1 h2 => ⟨Ky.br1 h1 h2, by rw [Kt.nodes_succ, h1]; simp⟩
  have HB2 : Hid (∀ a b, x.keys = [a, b] → Ky.nodeOk x.kind x.flag x.text x.set x.keys.length = true → (Kt.all (d + 1) (Kx.v (d + 1) x) && decide (Kt.nodes (d + 1) (Kx.v (d + 1) x) ≤ q + 1)) = ((Kt.all d (Kx.v d a) && decide (Kt.nodes d (Kx.v d a) ≤ q)) && (Kt.all d (Kx.v d b) && decide (Kt.nodes d (Kx.v d b) ≤ q - Kt.nodes d (Kx.v d a)))) ∧ Kt.nodes (d + 1) (Kx.v (d + 1) x) = 1 + Kt.nodes d (Kx.v d a) + Kt.nodes d (Kx.v d b)) := Lib.hid fun a b h1 h2 => ⟨Ky.br2 h1 h2, by rw [Kt.nodes_succ, h1]; simp; omega⟩
  have HND : Hid (Kx.nd (d + 1) x = (if x.kind = 1 then .has x.flag else if x.kind = 2 then .text x.text else if x.kind = 3 then .place x.A x.set x.c else if x.kind = 4 then .uid x.A x.set x.c else if x.kind = 5 then (match x.keys with | [a] => .not (Kx.nd d a) | _ => .all) else if x.kind = 6 ∨ x.kind = 7 then (match x.keys with | [a, b] => .pair (decide (x.kind = 6)) (Kx.nd d a) (Kx.nd d b) | _ => .all) else .all)) := Lib.hid rfl
  obtain ⟨PBd, hPBd⟩ : ∃ P, P = Ky.Bd (d + 1) x p (q + 1) w := ⟨_, rfl⟩
  rw [← hPBd] at HNO HYES ⊢
  generalize Kx.nd (d + 1) x = node at HYES HND
  generalize (Kt.all (d + 1) (Kx.v (d + 1) x) && decide (Kt.nodes (d + 1) (Kx.v (d + 1) x) ≤ q + 1)) = aok at HNO HYES HB1 HB2
  generalize Kt.nodes (d + 1) (Kx.v (d + 1) x) = nall at HYES HB1 HB2
  clear hPBd
  obtain ⟨kind, flag, text, A, set, c, KA, keys, kc⟩ := x
  simp only [Kx.text, Kx.set, Kx.keys, Kx.A, Kx.KA, Kx.c, Kx.kc, Kx.kind, Kx.flag] at hks hkc hkm hin hk HNO HYES HB1 HB2 HND
  have hkl : keys.length ≤ maxLen := Nat.le_trans hkc hkm
  unfold maxLen at hkl
  have hpl : p < w.heap.size := (Array.getElem?_eq_some_iff.1 hp).1
  simp only [Kx.val, Kx.kind, Kx.flag, Kx.text, Kx.set, Kx.keys, Kx.A, Kx.KA, Kx.c, Kx.kc]
  clear hkc hkm
  have hr1 : Ky.Rm p (q : Int) w (w.alloc (.cells #[.int .i64 kind, .int .i64 flag, .string text, .slice A set.length c, .slice KA keys.length kc] 40)) := ⟨(Below.heap_alloc _ _ _ hpl).trans hp, grown_alloc (World.grownBy.refl w _) _⟩
  have hx2 : (w.alloc (.cells #[.int .i64 kind, .int .i64 flag, .string text, .slice A set.length c, .slice KA keys.length kc] 40)).heap[w.heap.size]? = some (.cells #[.int .i64 kind, .int .i64 flag, .string text, .slice A set.length c, .slice KA keys.length kc] 40 (0, 0)) := heap_alloc_new w _
  go_enter Tryz.func56, Tryz.ntmps56
  go_upto_region 1 with fail
  generalize (w.alloc (.cells #[.int .i64 kind, .int .i64 flag, .string text, .slice A set.length c, .slice KA keys.length kc] 40)) = w1 at hr1 hx2 ⊢
  obtain ⟨b2, hb2⟩ : ∃ b, b = w.heap.size := ⟨_, rfl⟩
  rw [← hb2] at hx2 ⊢
  have hwb2 : w.heap.size ≤ b2 := by omega
  have l2 := (Array.getElem?_eq_some_iff.1 hx2).1
  have HX : Hid (∀ W, Below w1.heap.size w1 W → Ky.Rm p (q : Int) w W ∧ W.heap[b2]? = some (.cells #[.int .i64 kind, .int .i64 flag, .string text, .slice A set.length c, .slice KA keys.length kc] 40 (0, 0))) := Lib.hid fun W hb => ⟨hr1.below hb, (hb.block b2 l2).trans hx2⟩
  have HPW : Hid (∀ (W : World) (r : Int), Ky.Rm p r w W → Ky.Fl W ∧ At W p 5 Kx.cells KA keys ∧ ∀ y ∈ keys, Kx.In d W p y) := Lib.hid fun W r hr => by
    have hkeep : ∀ i, i < p → W.heap[i]? = w.heap[i]? := fun i hi => hr.2.block i (by omega) (by intro e; injection e with e; omega)
    exact ⟨fun i u hu => (World.cell?_of_block (hkeep 0 hp0)).trans (hfl i u hu), hks.keep hkeep, fun y hy => Kx.In.keep hkeep (hin y hy)⟩
  have x0 := cell_at hx2 0 _ rfl
  have x1 := cell_at hx2 1 _ rfl
  have x2 := cell_at hx2 2 _ rfl
  have x3 := cell_at hx2 3 _ rfl
  have x4 := cell_at hx2 4 _ rfl
  have HR1 := Lib.hid hr1
  clear hr1 hx2 hks hin hfl hp hb2
  by_cases k5 : kind = 5
  · subst k5
    have HL : Hid (Ky.nodeOk 5 flag text set keys.length = (keys.length == 1 && Ky.plain flag text set.length)) := Lib.hid Ky.branch5
    by_cases hn : keys.length = 1
    · have hni : (keys.length : Int) = 1 := by omega
      cases hpl2 : Ky.plain flag text set.length
      · have HPB := Lib.hid hpl2
        have HRES : Hid (Ky.nodeOk 5 flag text set keys.length = false) := Lib.hid (by rw [HL.out, HPB.out, Bool.and_false])
        clear hpl2
        go_wp2_with fail
        refine (keyPlain_any _ _ _ _ _ _ _ _ _ _).mono ?_
        rw [HPB.out]
        rintro e w3 ⟨rfl, hb3⟩
        have HX3 := Lib.hid (HX.out w3 hb3)
        clear hb3
        go_wp2_with fail
        try go_ret2
        exact HNO.out _ _ _ (.inl HRES.out) HX3.out.1
      · have HPB := Lib.hid hpl2
        have HRES : Hid (Ky.nodeOk 5 flag text set keys.length = true) := Lib.hid (by rw [HL.out, HPB.out, hn]; rfl)
        obtain ⟨a, hka⟩ := Ky.list1' hn
        have HBQ := Lib.hid (HB1.out a hka HRES.out)
        have HNV : Hid (node = .not (Kx.nd d a)) := Lib.hid (HND.out.trans (by rw [hka]; rfl))
        have HKA := Lib.hid hka
        clear hpl2 hka
        go_wp2_with fail
        refine (keyPlain_any _ _ _ _ _ _ _ _ _ _).mono ?_
        rw [HPB.out]
        rintro e w3 ⟨rfl, hb3⟩
        have HX3 := Lib.hid (HX.out w3 hb3)
        have z0 := cell_at HX3.out.2 0 _ rfl
        have z1 := cell_at HX3.out.2 1 _ rfl
        have z2 := cell_at HX3.out.2 2 _ rfl
        have z3 := cell_at HX3.out.2 3 _ rfl
        have z4 := cell_at HX3.out.2 4 _ rfl
        have hl3 := (Array.getElem?_eq_some_iff.1 HX3.out.2).1
        clear hb3 x0 x1 x2 x3 x4
        go_upto_region 8 with fail
        have hb4 : Below w3.heap.size w3 (w3.alloc (.cells #[.nilIface, .nilIface] 113)) := (Below.refl _ _).alloc (Nat.le_refl _) _
        have h47 : (w3.alloc (.cells #[.nilIface, .nilIface] 113)).heap[w3.heap.size]? = some (.cells #[.nilIface, .nilIface] 113 (0, 0)) := heap_alloc_new w3 _
        have hr4 := HX3.out.1.below hb4
        have h42 := (hb4.block b2 hl3).trans HX3.out.2
        generalize (w3.alloc (.cells #[.nilIface, .nilIface] 113)) = w4 at hb4 h47 hr4 h42 ⊢
        obtain ⟨b7, hb7⟩ : ∃ b, b = w3.heap.size := ⟨_, rfl⟩
        rw [← hb7] at h47 ⊢
        have h27 : b2 ≠ b7 := by omega
        have h72 : b7 ≠ b2 := by omega
        have hpb7 : p ≠ b7 := by have := HX3.out.1.2.size; omega
        have hwb7 : w.heap.size ≤ b7 := by have := HX3.out.1.2.size; omega
        have H47 := Lib.hid h47
        have H42 := Lib.hid h42
        have HR4 := Lib.hid hr4
        clear hb4 h47 h42 hr4 hb7 hl3 z0 z1 z2 z3 z4
        obtain ⟨Ta, pa, hva⟩ := Nd.val_form (Kx.nd d a)
        have HVa := Lib.hid hva
        clear hva
        go_loopg [31] 1 (fun g i wr => ∃ k : Nat, k ≤ 1 ∧ Hid (g = 1 - k) ∧ i = .int .i64 k ∧ Hid (wr.heap[b2]? = some (.cells #[.int .i64 5, .int .i64 flag, .string text, .slice A set.length c, .slice KA keys.length kc] 40 (0, 0))) ∧ ((k = 0 ∧ Hid (Ky.Rm p (q : Int) w wr) ∧ Hid (wr.heap[b7]? = some (.cells #[.nilIface, .nilIface] 113 (0, 0)))) ∨ (k = 1 ∧ Hid ((Kt.all d (Kx.v d a) && decide (Kt.nodes d (Kx.v d a) ≤ q)) = true) ∧ Hid (Ky.Rm p ((q - Kt.nodes d (Kx.v d a) : Nat) : Int) w wr) ∧ Hid (wr.heap[b7]? = some (.cells #[.iface Ta pa, .nilIface] 113 (0, 0))))))
        case atStart => exact ⟨0, Nat.zero_le _, Lib.hid rfl, rfl, H42, .inl ⟨rfl, HR4, H47⟩⟩
        case round =>
          obtain ⟨k, hk, HG, rfl, HW2, hst⟩ := hrel
          have z0 := cell_at HW2.out 0 _ rfl
          have z4 := cell_at HW2.out 4 _ rfl
          have hl2 := (Array.getElem?_eq_some_iff.1 HW2.out).1
          rcases hst with ⟨rfl, HRk, H7k⟩ | ⟨rfl, HOA, HRk, H7k⟩
          · obtain ⟨kg, ko, eK, hkg, hkc⟩ := keys_row (HPW.out wr _ HRk.out).2.1 (by omega)
            subst eK
            obtain ⟨e0, e1, e2, e3, e4⟩ := hkc 0 a (by rw [HKA.out]; rfl)
            simp only [Nat.zero_mul, Nat.add_zero] at e0 e1 e2 e3 e4
            have HCALL := Lib.hid (ih a p (q) wr ((HPW.out wr _ HRk.out).2.2 a (by rw [HKA.out]; simp)) (HPW.out wr _ HRk.out).1 hp0 HRk.out.1 (by omega))
            have hl7 := (Array.getElem?_eq_some_iff.1 H7k.out).1
            have hk1 : (0 : Int) < (keys.length : Int) := by omega
            clear hkc hn
            go_wp2_with fail
            refine Calls.mono HCALL.out ?_
            rintro e w5 ⟨v5, ok5, r5, rfl, hok, hv, hrm⟩
            have HOK := Lib.hid hok
            have HV := Lib.hid hv
            have HRM := Lib.hid hrm
            have H52 : Hid (w5.heap[b2]? = some (.cells #[.int .i64 5, .int .i64 flag, .string text, .slice A set.length c, .slice (some ⟨kg, ko, none⟩) keys.length kc] 40 (0, 0))) := Lib.hid ((hrm.2.block b2 hl2 (by intro e; injection e with e; omega)).trans HW2.out)
            have H57 := Lib.hid ((hrm.2.block b7 hl7 (by intro e; injection e with e; omega)).trans H7k.out)
            have HR5 := Lib.hid (HRk.out.trans hrm)
            have u0 := cell_at H57.out 0 _ rfl
            have uf := free_at H57.out 0
            clear hok hv hrm e0 e1 e2 e3 e4 z0 z4 hl2 hl7
            cases ok5
            · go_wp2_with fail
              try go_ret2
              exact HNO.out _ _ _ (.inr (by rw [HBQ.out.1, ← HOK.out])) HR5.out
            · obtain ⟨hv1, hv2⟩ := HV.out rfl
              rw [HVa.out] at hv1
              subst hv1 hv2
              have HS7 : Hid ((w5.setCell ⟨b7, 0, none⟩ (.iface Ta pa)).heap[b7]? = some (.cells #[.iface Ta pa, .nilIface] 113 (0, 0))) := Lib.hid ((ow_setHeap H57.out).trans rfl)
              have HS2 := Lib.hid (ow_setOther (b := b7) (i := 0) (v := .iface Ta pa) H52.out h72)
              have HSR := Lib.hid (HR5.out.set (a := ⟨b7, 0, none⟩) hwb7 hpb7 (.iface Ta pa))
              go_wp2_with fail
              go_roundg 0
              case measure => have := HG.out; omega
              case rel => exact ⟨1, by omega, Lib.hid rfl, by go_num, HS2, .inr ⟨rfl, Lib.hid HOK.out.symm, HSR, HS7⟩⟩
          · have y0 := cell_at H7k.out 0 _ rfl
            have HVAL : Hid (Nd.val node = .iface 100 (.agg #[.iface Ta pa])) := Lib.hid (by rw [HNV.out, ← HVa.out]; rfl)
            go_wp2_with fail
            try go_ret2
            exact HYES.out _ _ _ (HBQ.out.1.trans HOA.out) HVAL.out.symm (by rw [HBQ.out.2]; omega) HRk.out
    · have hni : ¬ (keys.length : Int) = 1 := by omega
      have hnb : ((keys.length : Int) == 1) = false := by rw [beq_eq_false_iff_ne]; omega
      have HRES : Hid (Ky.nodeOk 5 flag text set keys.length = false) := Lib.hid (by rw [HL.out, Ky.len_ne hn]; rfl)
      go_wp2_with fail
      try go_ret2
      exact HNO.out _ _ _ (.inl HRES.out) HR1.out
  · have hz5 := True.intro
    by_cases k6 : kind = 6
    · subst k6
      have HL : Hid (Ky.nodeOk 6 flag text set keys.length = (keys.length == 2 && Ky.plain flag text set.length)) := Lib.hid Ky.branch6
      by_cases hn : keys.length = 2
      · have hni : (keys.length : Int) = 2 := by omega
        cases hpl2 : Ky.plain flag text set.length
        · have HPB := Lib.hid hpl2
          have HRES : Hid (Ky.nodeOk 6 flag text set keys.length = false) := Lib.hid (by rw [HL.out, HPB.out, Bool.and_false])
          clear hpl2
          go_wp2_with fail
          refine (keyPlain_any _ _ _ _ _ _ _ _ _ _).mono ?_
          rw [HPB.out]
          rintro e w3 ⟨rfl, hb3⟩
          have HX3 := Lib.hid (HX.out w3 hb3)
          clear hb3
          go_wp2_with fail
          try go_ret2
          exact HNO.out _ _ _ (.inl HRES.out) HX3.out.1
        · have HPB := Lib.hid hpl2
          have HRES : Hid (Ky.nodeOk 6 flag text set keys.length = true) := Lib.hid (by rw [HL.out, HPB.out, hn]; rfl)
          obtain ⟨a, b, hka⟩ := Ky.list2' hn
          have HBQ := Lib.hid (HB2.out a b hka HRES.out)
          have HNV : Hid (node = .pair true (Kx.nd d a) (Kx.nd d b)) := Lib.hid (HND.out.trans (by rw [hka]; rfl))
          have HKA := Lib.hid hka
          clear hpl2 hka
          go_wp2_with fail
          refine (keyPlain_any _ _ _ _ _ _ _ _ _ _).mono ?_
          rw [HPB.out]
          rintro e w3 ⟨rfl, hb3⟩
          have HX3 := Lib.hid (HX.out w3 hb3)
          have z0 := cell_at HX3.out.2 0 _ rfl
          have z1 := cell_at HX3.out.2 1 _ rfl
          have z2 := cell_at HX3.out.2 2 _ rfl
          have z3 := cell_at HX3.out.2 3 _ rfl
          have z4 := cell_at HX3.out.2 4 _ rfl
          have hl3 := (Array.getElem?_eq_some_iff.1 HX3.out.2).1
          clear hb3 x0 x1 x2 x3 x4
          go_upto_region 8 with fail
          have hb4 : Below w3.heap.size w3 (w3.alloc (.cells #[.nilIface, .nilIface] 113)) := (Below.refl _ _).alloc (Nat.le_refl _) _
          have h47 : (w3.alloc (.cells #[.nilIface, .nilIface] 113)).heap[w3.heap.size]? = some (.cells #[.nilIface, .nilIface] 113 (0, 0)) := heap_alloc_new w3 _
          have hr4 := HX3.out.1.below hb4
          have h42 := (hb4.block b2 hl3).trans HX3.out.2
          generalize (w3.alloc (.cells #[.nilIface, .nilIface] 113)) = w4 at hb4 h47 hr4 h42 ⊢
          obtain ⟨b7, hb7⟩ : ∃ b, b = w3.heap.size := ⟨_, rfl⟩
          rw [← hb7] at h47 ⊢
          have h27 : b2 ≠ b7 := by omega
          have h72 : b7 ≠ b2 := by omega
          have hpb7 : p ≠ b7 := by have := HX3.out.1.2.size; omega
          have hwb7 : w.heap.size ≤ b7 := by have := HX3.out.1.2.size; omega
          have H47 := Lib.hid h47
          have H42 := Lib.hid h42
          have HR4 := Lib.hid hr4
          clear hb4 h47 h42 hr4 hb7 hl3 z0 z1 z2 z3 z4
          obtain ⟨Ta, pa, hva⟩ := Nd.val_form (Kx.nd d a)
          have HVa := Lib.hid hva
          clear hva
          obtain ⟨Tb, pb, hvb⟩ := Nd.val_form (Kx.nd d b)
          have HVb := Lib.hid hvb
          clear hvb
          go_loopg [31] 2 (fun g i wr => ∃ k : Nat, k ≤ 2 ∧ Hid (g = 2 - k) ∧ i = .int .i64 k ∧ Hid (wr.heap[b2]? = some (.cells #[.int .i64 6, .int .i64 flag, .string text, .slice A set.length c, .slice KA keys.length kc] 40 (0, 0))) ∧ ((k = 0 ∧ Hid (Ky.Rm p (q : Int) w wr) ∧ Hid (wr.heap[b7]? = some (.cells #[.nilIface, .nilIface] 113 (0, 0)))) ∨ (k = 1 ∧ Hid ((Kt.all d (Kx.v d a) && decide (Kt.nodes d (Kx.v d a) ≤ q)) = true) ∧ Hid (Ky.Rm p ((q - Kt.nodes d (Kx.v d a) : Nat) : Int) w wr) ∧ Hid (wr.heap[b7]? = some (.cells #[.iface Ta pa, .nilIface] 113 (0, 0)))) ∨ (k = 2 ∧ Hid ((Kt.all d (Kx.v d a) && decide (Kt.nodes d (Kx.v d a) ≤ q)) = true) ∧ Hid ((Kt.all d (Kx.v d b) && decide (Kt.nodes d (Kx.v d b) ≤ q - Kt.nodes d (Kx.v d a))) = true) ∧ Hid (Ky.Rm p ((q - Kt.nodes d (Kx.v d a) - Kt.nodes d (Kx.v d b) : Nat) : Int) w wr) ∧ Hid (wr.heap[b7]? = some (.cells #[.iface Ta pa, .iface Tb pb] 113 (0, 0))))))
          case atStart => exact ⟨0, Nat.zero_le _, Lib.hid rfl, rfl, H42, .inl ⟨rfl, HR4, H47⟩⟩
          case round =>
            obtain ⟨k, hk, HG, rfl, HW2, hst⟩ := hrel
            have z0 := cell_at HW2.out 0 _ rfl
            have z4 := cell_at HW2.out 4 _ rfl
            have hl2 := (Array.getElem?_eq_some_iff.1 HW2.out).1
            rcases hst with ⟨rfl, HRk, H7k⟩ | ⟨rfl, HOA, HRk, H7k⟩ | ⟨rfl, HOA, HOB, HRk, H7k⟩
            · obtain ⟨kg, ko, eK, hkg, hkc⟩ := keys_row (HPW.out wr _ HRk.out).2.1 (by omega)
              subst eK
              obtain ⟨e0, e1, e2, e3, e4⟩ := hkc 0 a (by rw [HKA.out]; rfl)
              simp only [Nat.zero_mul, Nat.add_zero] at e0 e1 e2 e3 e4
              have HCALL := Lib.hid (ih a p (q) wr ((HPW.out wr _ HRk.out).2.2 a (by rw [HKA.out]; simp)) (HPW.out wr _ HRk.out).1 hp0 HRk.out.1 (by omega))
              have hl7 := (Array.getElem?_eq_some_iff.1 H7k.out).1
              have hk1 : (0 : Int) < (keys.length : Int) := by omega
              clear hkc hn
              go_wp2_with fail
              refine Calls.mono HCALL.out ?_
              rintro e w5 ⟨v5, ok5, r5, rfl, hok, hv, hrm⟩
              have HOK := Lib.hid hok
              have HV := Lib.hid hv
              have HRM := Lib.hid hrm
              have H52 : Hid (w5.heap[b2]? = some (.cells #[.int .i64 6, .int .i64 flag, .string text, .slice A set.length c, .slice (some ⟨kg, ko, none⟩) keys.length kc] 40 (0, 0))) := Lib.hid ((hrm.2.block b2 hl2 (by intro e; injection e with e; omega)).trans HW2.out)
              have H57 := Lib.hid ((hrm.2.block b7 hl7 (by intro e; injection e with e; omega)).trans H7k.out)
              have HR5 := Lib.hid (HRk.out.trans hrm)
              have u0 := cell_at H57.out 0 _ rfl
              have uf := free_at H57.out 0
              clear hok hv hrm e0 e1 e2 e3 e4 z0 z4 hl2 hl7
              cases ok5
              · go_wp2_with fail
                try go_ret2
                exact HNO.out _ _ _ (.inr (by rw [HBQ.out.1, ← HOK.out]; rw [Bool.false_and])) HR5.out
              · obtain ⟨hv1, hv2⟩ := HV.out rfl
                rw [HVa.out] at hv1
                subst hv1 hv2
                have HS7 : Hid ((w5.setCell ⟨b7, 0, none⟩ (.iface Ta pa)).heap[b7]? = some (.cells #[.iface Ta pa, .nilIface] 113 (0, 0))) := Lib.hid ((ow_setHeap H57.out).trans rfl)
                have HS2 := Lib.hid (ow_setOther (b := b7) (i := 0) (v := .iface Ta pa) H52.out h72)
                have HSR := Lib.hid (HR5.out.set (a := ⟨b7, 0, none⟩) hwb7 hpb7 (.iface Ta pa))
                go_wp2_with fail
                go_roundg 1
                case measure => have := HG.out; omega
                case rel => exact ⟨1, by omega, Lib.hid rfl, by go_num, HS2, .inr (.inl ⟨rfl, Lib.hid HOK.out.symm, HSR, HS7⟩)⟩
            · obtain ⟨kg, ko, eK, hkg, hkc⟩ := keys_row (HPW.out wr _ HRk.out).2.1 (by omega)
              subst eK
              obtain ⟨e0, e1, e2, e3, e4⟩ := hkc 1 b (by rw [HKA.out]; rfl)
              simp only [Nat.one_mul] at e0 e1 e2 e3 e4
              have HCALL := Lib.hid (ih b p (q - Kt.nodes d (Kx.v d a)) wr ((HPW.out wr _ HRk.out).2.2 b (by rw [HKA.out]; simp)) (HPW.out wr _ HRk.out).1 hp0 HRk.out.1 (by omega))
              have hl7 := (Array.getElem?_eq_some_iff.1 H7k.out).1
              have hk1 : (1 : Int) < (keys.length : Int) := by omega
              clear hkc hn
              go_wp2_with fail
              refine Calls.mono HCALL.out ?_
              rintro e w5 ⟨v5, ok5, r5, rfl, hok, hv, hrm⟩
              have HOK := Lib.hid hok
              have HV := Lib.hid hv
              have HRM := Lib.hid hrm
              have H52 : Hid (w5.heap[b2]? = some (.cells #[.int .i64 6, .int .i64 flag, .string text, .slice A set.length c, .slice (some ⟨kg, ko, none⟩) keys.length kc] 40 (0, 0))) := Lib.hid ((hrm.2.block b2 hl2 (by intro e; injection e with e; omega)).trans HW2.out)
              have H57 := Lib.hid ((hrm.2.block b7 hl7 (by intro e; injection e with e; omega)).trans H7k.out)
              have HR5 := Lib.hid (HRk.out.trans hrm)
              have u0 := cell_at H57.out 1 _ rfl
              have uf := free_at H57.out 1
              clear hok hv hrm e0 e1 e2 e3 e4 z0 z4 hl2 hl7
              cases ok5
              · go_wp2_with fail
                try go_ret2
                exact HNO.out _ _ _ (.inr (by rw [HBQ.out.1, ← HOK.out, Bool.and_false])) HR5.out
              · obtain ⟨hv1, hv2⟩ := HV.out rfl
                rw [HVb.out] at hv1
                subst hv1 hv2
                have HS7 : Hid ((w5.setCell ⟨b7, 1, none⟩ (.iface Tb pb)).heap[b7]? = some (.cells #[.iface Ta pa, .iface Tb pb] 113 (0, 0))) := Lib.hid ((ow_setHeap H57.out).trans rfl)
                have HS2 := Lib.hid (ow_setOther (b := b7) (i := 1) (v := .iface Tb pb) H52.out h72)
                have HSR := Lib.hid (HR5.out.set (a := ⟨b7, 1, none⟩) hwb7 hpb7 (.iface Tb pb))
                go_wp2_with fail
                go_roundg 0
                case measure => have := HG.out; omega
                case rel => exact ⟨2, by omega, Lib.hid rfl, by go_num, HS2, .inr (.inr ⟨rfl, HOA, Lib.hid HOK.out.symm, HSR, HS7⟩)⟩
            · have y0 := cell_at H7k.out 0 _ rfl
              have y1 := cell_at H7k.out 1 _ rfl
              have HVAL : Hid (Nd.val node = .iface 102 (.agg #[.bool true, .iface Ta pa, .iface Tb pb])) := Lib.hid (by rw [HNV.out, ← HVa.out, ← HVb.out]; rfl)
              go_wp2_with fail
              try go_ret2
              exact HYES.out _ _ _ (HBQ.out.1.trans (by rw [HOA.out, HOB.out]; rfl)) HVAL.out.symm (by rw [HBQ.out.2]; omega) HRk.out
      · have hni : ¬ (keys.length : Int) = 2 := by omega
        have hnb : ((keys.length : Int) == 2) = false := by rw [beq_eq_false_iff_ne]; omega
        have HRES : Hid (Ky.nodeOk 6 flag text set keys.length = false) := Lib.hid (by rw [HL.out, Ky.len_ne hn]; rfl)
        go_wp2_with fail
        try go_ret2
        exact HNO.out _ _ _ (.inl HRES.out) HR1.out
    · have hz6 := True.intro
      by_cases k7 : kind = 7
      · subst k7
        have HL : Hid (Ky.nodeOk 7 flag text set keys.length = (keys.length == 2 && Ky.plain flag text set.length)) := Lib.hid Ky.branch7
        by_cases hn : keys.length = 2
        · have hni : (keys.length : Int) = 2 := by omega
          cases hpl2 : Ky.plain flag text set.length
          · have HPB := Lib.hid hpl2
            have HRES : Hid (Ky.nodeOk 7 flag text set keys.length = false) := Lib.hid (by rw [HL.out, HPB.out, Bool.and_false])
            clear hpl2
            go_wp2_with fail
            refine (keyPlain_any _ _ _ _ _ _ _ _ _ _).mono ?_
            rw [HPB.out]
            rintro e w3 ⟨rfl, hb3⟩
            have HX3 := Lib.hid (HX.out w3 hb3)
            clear hb3
            go_wp2_with fail
            try go_ret2
            exact HNO.out _ _ _ (.inl HRES.out) HX3.out.1
          · have HPB := Lib.hid hpl2
            have HRES : Hid (Ky.nodeOk 7 flag text set keys.length = true) := Lib.hid (by rw [HL.out, HPB.out, hn]; rfl)
            obtain ⟨a, b, hka⟩ := Ky.list2' hn
            have HBQ := Lib.hid (HB2.out a b hka HRES.out)
            have HNV : Hid (node = .pair false (Kx.nd d a) (Kx.nd d b)) := Lib.hid (HND.out.trans (by rw [hka]; rfl))
            have HKA := Lib.hid hka
            clear hpl2 hka
            go_wp2_with fail
            refine (keyPlain_any _ _ _ _ _ _ _ _ _ _).mono ?_
            rw [HPB.out]
            rintro e w3 ⟨rfl, hb3⟩
            have HX3 := Lib.hid (HX.out w3 hb3)
            have z0 := cell_at HX3.out.2 0 _ rfl
            have z1 := cell_at HX3.out.2 1 _ rfl
            have z2 := cell_at HX3.out.2 2 _ rfl
            have z3 := cell_at HX3.out.2 3 _ rfl
            have z4 := cell_at HX3.out.2 4 _ rfl
            have hl3 := (Array.getElem?_eq_some_iff.1 HX3.out.2).1
            clear hb3 x0 x1 x2 x3 x4
            go_upto_region 8 with fail
            have hb4 : Below w3.heap.size w3 (w3.alloc (.cells #[.nilIface, .nilIface] 113)) := (Below.refl _ _).alloc (Nat.le_refl _) _
            have h47 : (w3.alloc (.cells #[.nilIface, .nilIface] 113)).heap[w3.heap.size]? = some (.cells #[.nilIface, .nilIface] 113 (0, 0)) := heap_alloc_new w3 _
            have hr4 := HX3.out.1.below hb4
            have h42 := (hb4.block b2 hl3).trans HX3.out.2
            generalize (w3.alloc (.cells #[.nilIface, .nilIface] 113)) = w4 at hb4 h47 hr4 h42 ⊢
            obtain ⟨b7, hb7⟩ : ∃ b, b = w3.heap.size := ⟨_, rfl⟩
            rw [← hb7] at h47 ⊢
            have h27 : b2 ≠ b7 := by omega
            have h72 : b7 ≠ b2 := by omega
            have hpb7 : p ≠ b7 := by have := HX3.out.1.2.size; omega
            have hwb7 : w.heap.size ≤ b7 := by have := HX3.out.1.2.size; omega
            have H47 := Lib.hid h47
            have H42 := Lib.hid h42
            have HR4 := Lib.hid hr4
            clear hb4 h47 h42 hr4 hb7 hl3 z0 z1 z2 z3 z4
            obtain ⟨Ta, pa, hva⟩ := Nd.val_form (Kx.nd d a)
            have HVa := Lib.hid hva
            clear hva
            obtain ⟨Tb, pb, hvb⟩ := Nd.val_form (Kx.nd d b)
            have HVb := Lib.hid hvb
            clear hvb
            go_loopg [31] 2 (fun g i wr => ∃ k : Nat, k ≤ 2 ∧ Hid (g = 2 - k) ∧ i = .int .i64 k ∧ Hid (wr.heap[b2]? = some (.cells #[.int .i64 7, .int .i64 flag, .string text, .slice A set.length c, .slice KA keys.length kc] 40 (0, 0))) ∧ ((k = 0 ∧ Hid (Ky.Rm p (q : Int) w wr) ∧ Hid (wr.heap[b7]? = some (.cells #[.nilIface, .nilIface] 113 (0, 0)))) ∨ (k = 1 ∧ Hid ((Kt.all d (Kx.v d a) && decide (Kt.nodes d (Kx.v d a) ≤ q)) = true) ∧ Hid (Ky.Rm p ((q - Kt.nodes d (Kx.v d a) : Nat) : Int) w wr) ∧ Hid (wr.heap[b7]? = some (.cells #[.iface Ta pa, .nilIface] 113 (0, 0)))) ∨ (k = 2 ∧ Hid ((Kt.all d (Kx.v d a) && decide (Kt.nodes d (Kx.v d a) ≤ q)) = true) ∧ Hid ((Kt.all d (Kx.v d b) && decide (Kt.nodes d (Kx.v d b) ≤ q - Kt.nodes d (Kx.v d a))) = true) ∧ Hid (Ky.Rm p ((q - Kt.nodes d (Kx.v d a) - Kt.nodes d (Kx.v d b) : Nat) : Int) w wr) ∧ Hid (wr.heap[b7]? = some (.cells #[.iface Ta pa, .iface Tb pb] 113 (0, 0))))))
            case atStart => exact ⟨0, Nat.zero_le _, Lib.hid rfl, rfl, H42, .inl ⟨rfl, HR4, H47⟩⟩
            case round =>
              obtain ⟨k, hk, HG, rfl, HW2, hst⟩ := hrel
              have z0 := cell_at HW2.out 0 _ rfl
              have z4 := cell_at HW2.out 4 _ rfl
              have hl2 := (Array.getElem?_eq_some_iff.1 HW2.out).1
              rcases hst with ⟨rfl, HRk, H7k⟩ | ⟨rfl, HOA, HRk, H7k⟩ | ⟨rfl, HOA, HOB, HRk, H7k⟩
              · obtain ⟨kg, ko, eK, hkg, hkc⟩ := keys_row (HPW.out wr _ HRk.out).2.1 (by omega)
                subst eK
                obtain ⟨e0, e1, e2, e3, e4⟩ := hkc 0 a (by rw [HKA.out]; rfl)
                simp only [Nat.zero_mul, Nat.add_zero] at e0 e1 e2 e3 e4
                have HCALL := Lib.hid (ih a p (q) wr ((HPW.out wr _ HRk.out).2.2 a (by rw [HKA.out]; simp)) (HPW.out wr _ HRk.out).1 hp0 HRk.out.1 (by omega))
                have hl7 := (Array.getElem?_eq_some_iff.1 H7k.out).1
                have hk1 : (0 : Int) < (keys.length : Int) := by omega
                clear hkc hn
                go_wp2_with fail
                refine Calls.mono HCALL.out ?_
                rintro e w5 ⟨v5, ok5, r5, rfl, hok, hv, hrm⟩
                have HOK := Lib.hid hok
                have HV := Lib.hid hv
                have HRM := Lib.hid hrm
                have H52 : Hid (w5.heap[b2]? = some (.cells #[.int .i64 7, .int .i64 flag, .string text, .slice A set.length c, .slice (some ⟨kg, ko, none⟩) keys.length kc] 40 (0, 0))) := Lib.hid ((hrm.2.block b2 hl2 (by intro e; injection e with e; omega)).trans HW2.out)
                have H57 := Lib.hid ((hrm.2.block b7 hl7 (by intro e; injection e with e; omega)).trans H7k.out)
                have HR5 := Lib.hid (HRk.out.trans hrm)
                have u0 := cell_at H57.out 0 _ rfl
                have uf := free_at H57.out 0
                clear hok hv hrm e0 e1 e2 e3 e4 z0 z4 hl2 hl7
                cases ok5
                · go_wp2_with fail
                  try go_ret2
                  exact HNO.out _ _ _ (.inr (by rw [HBQ.out.1, ← HOK.out]; rw [Bool.false_and])) HR5.out
                · obtain ⟨hv1, hv2⟩ := HV.out rfl
                  rw [HVa.out] at hv1
                  subst hv1 hv2
                  have HS7 : Hid ((w5.setCell ⟨b7, 0, none⟩ (.iface Ta pa)).heap[b7]? = some (.cells #[.iface Ta pa, .nilIface] 113 (0, 0))) := Lib.hid ((ow_setHeap H57.out).trans rfl)
                  have HS2 := Lib.hid (ow_setOther (b := b7) (i := 0) (v := .iface Ta pa) H52.out h72)
                  have HSR := Lib.hid (HR5.out.set (a := ⟨b7, 0, none⟩) hwb7 hpb7 (.iface Ta pa))
                  go_wp2_with fail
                  go_roundg 1
                  case measure => have := HG.out; omega
                  case rel => exact ⟨1, by omega, Lib.hid rfl, by go_num, HS2, .inr (.inl ⟨rfl, Lib.hid HOK.out.symm, HSR, HS7⟩)⟩
              · obtain ⟨kg, ko, eK, hkg, hkc⟩ := keys_row (HPW.out wr _ HRk.out).2.1 (by omega)
                subst eK
                obtain ⟨e0, e1, e2, e3, e4⟩ := hkc 1 b (by rw [HKA.out]; rfl)
                simp only [Nat.one_mul] at e0 e1 e2 e3 e4
                have HCALL := Lib.hid (ih b p (q - Kt.nodes d (Kx.v d a)) wr ((HPW.out wr _ HRk.out).2.2 b (by rw [HKA.out]; simp)) (HPW.out wr _ HRk.out).1 hp0 HRk.out.1 (by omega))
                have hl7 := (Array.getElem?_eq_some_iff.1 H7k.out).1
                have hk1 : (1 : Int) < (keys.length : Int) := by omega
                clear hkc hn
                go_wp2_with fail
                refine Calls.mono HCALL.out ?_
                rintro e w5 ⟨v5, ok5, r5, rfl, hok, hv, hrm⟩
                have HOK := Lib.hid hok
                have HV := Lib.hid hv
                have HRM := Lib.hid hrm
                have H52 : Hid (w5.heap[b2]? = some (.cells #[.int .i64 7, .int .i64 flag, .string text, .slice A set.length c, .slice (some ⟨kg, ko, none⟩) keys.length kc] 40 (0, 0))) := Lib.hid ((hrm.2.block b2 hl2 (by intro e; injection e with e; omega)).trans HW2.out)
                have H57 := Lib.hid ((hrm.2.block b7 hl7 (by intro e; injection e with e; omega)).trans H7k.out)
                have HR5 := Lib.hid (HRk.out.trans hrm)
                have u0 := cell_at H57.out 1 _ rfl
                have uf := free_at H57.out 1
                clear hok hv hrm e0 e1 e2 e3 e4 z0 z4 hl2 hl7
                cases ok5
                · go_wp2_with fail
                  try go_ret2
                  exact HNO.out _ _ _ (.inr (by rw [HBQ.out.1, ← HOK.out, Bool.and_false])) HR5.out
                · obtain ⟨hv1, hv2⟩ := HV.out rfl
                  rw [HVb.out] at hv1
                  subst hv1 hv2
                  have HS7 : Hid ((w5.setCell ⟨b7, 1, none⟩ (.iface Tb pb)).heap[b7]? = some (.cells #[.iface Ta pa, .iface Tb pb] 113 (0, 0))) := Lib.hid ((ow_setHeap H57.out).trans rfl)
                  have HS2 := Lib.hid (ow_setOther (b := b7) (i := 1) (v := .iface Tb pb) H52.out h72)
                  have HSR := Lib.hid (HR5.out.set (a := ⟨b7, 1, none⟩) hwb7 hpb7 (.iface Tb pb))
                  go_wp2_with fail
                  go_roundg 0
                  case measure => have := HG.out; omega
                  case rel => exact ⟨2, by omega, Lib.hid rfl, by go_num, HS2, .inr (.inr ⟨rfl, HOA, Lib.hid HOK.out.symm, HSR, HS7⟩)⟩
              · have y0 := cell_at H7k.out 0 _ rfl
                have y1 := cell_at H7k.out 1 _ rfl
                have HVAL : Hid (Nd.val node = .iface 102 (.agg #[.bool false, .iface Ta pa, .iface Tb pb])) := Lib.hid (by rw [HNV.out, ← HVa.out, ← HVb.out]; rfl)
                go_wp2_with fail
                try go_ret2
                exact HYES.out _ _ _ (HBQ.out.1.trans (by rw [HOA.out, HOB.out]; rfl)) HVAL.out.symm (by rw [HBQ.out.2]; omega) HRk.out
        · have hni : ¬ (keys.length : Int) = 2 := by omega
          have hnb : ((keys.length : Int) == 2) = false := by rw [beq_eq_false_iff_ne]; omega
          have HRES : Hid (Ky.nodeOk 7 flag text set keys.length = false) := Lib.hid (by rw [HL.out, Ky.len_ne hn]; rfl)
          go_wp2_with fail
          try go_ret2
          exact HNO.out _ _ _ (.inl HRES.out) HR1.out
      · have hz7 := True.intro
        have hk8 : kind > 7 := by omega
        have HRES : Hid (Ky.nodeOk kind flag text set keys.length = false) := Lib.hid (Ky.node_else (by simp; omega) (by simp; omega) (by simp; omega) (by simp; omega) (by simp; omega) (by simp; omega) (by simp; omega) (by simp; omega))
        go_wp2_with fail
        try go_ret2
        exact HNO.out _ _ _ (.inl HRES.out) HR1.out

set_option maxRecDepth 100000 in
set_option maxHeartbeats 3200000 in
theorem keyBuild_any (d : Nat) : ∀ (x : Kx) (p r : Nat) (w : World), Kx.In d w p x → Ky.Fl w → 0 < p → w.heap[p]? = some (.cells #[.int .i64 (r : Int)] 3 (0, 0)) → r ≤ 9 → Calls Tryz.prog 44 #[x.val, .pointer (some ⟨p, 0, none⟩)] w (Ky.Bd d x p r w) := by
  induction d with
  | zero => intro x p r w h; exact absurd h id
  | succ d ih =>
    intro x p r w h hfl hp0 hp hr
    cases r with
    | zero =>
      have hpl : p < w.heap.size := (Array.getElem?_eq_some_iff.1 hp).1
      have c0 := cell_at hp 0 _ rfl
      have f0 := free_at hp 0
      have HNO : Hid (∀ (v : Value) (w' : World) (r' : Int), Ky.Rm p r' w w' → Ky.Bd (d + 1) x p 0 w (.returned (.tuple #[v, .bool false])) w') := Lib.hid fun v w' r' hrm => Ky.Bd.no (by
        rw [Kt.nodes_succ, Bool.and_eq_false_iff]
        right
        exact decide_eq_false (by omega)) hrm
      obtain ⟨PBd, hPBd⟩ : ∃ P, P = Ky.Bd (d + 1) x p 0 w := ⟨_, rfl⟩
      rw [← hPBd] at HNO ⊢
      clear hPBd h
      obtain ⟨kind, flag, text, A, set, c, KA, keys, kc⟩ := x
      simp only [Kx.val, Kx.kind, Kx.flag, Kx.text, Kx.set, Kx.keys, Kx.A, Kx.KA, Kx.c, Kx.kc]
      have hr1 : Ky.Rm p (-1) w ((w.setCell ⟨p, 0, none⟩ (.int .i64 (-1))).alloc (.cells #[.int .i64 kind, .int .i64 flag, .string text, .slice A set.length c, .slice KA keys.length kc] 40)) := ⟨(Below.heap_alloc _ _ _ (by simpa using hpl)).trans (by rw [ow_setHeap hp]; rfl), grown_alloc (grown_set (World.grownBy.refl w _) 0 _) _⟩
      have HR1 := Lib.hid hr1
      clear hr1 hp
      go_enter Tryz.func44, Tryz.ntmps44
      go_wp2_with fail
      try go_ret2
      exact HNO.out _ _ _ HR1.out
    | succ q =>
      by_cases hk : x.kind ≥ 5
      · have hpl : p < w.heap.size := (Array.getElem?_eq_some_iff.1 hp).1
        have c0 := cell_at hp 0 _ rfl
        have f0 := free_at hp 0
        have HBR : Hid (∀ W, Ky.Rm p (q : Int) w W → Calls Tryz.prog 56 #[x.val, .pointer (some ⟨p, 0, none⟩)] W fun e w' => ∃ (v : Value) (ok : Bool) (r' : Int), e = .returned (.tuple #[v, .bool ok]) ∧ Ky.Bd (d + 1) x p (q + 1) w (.returned (.tuple #[v, .bool ok])) w') := Lib.hid fun W hW => by
          have hkeep : ∀ i, i < p → W.heap[i]? = w.heap[i]? := fun i hi => hW.2.block i (by omega) (by intro e; injection e with e; omega)
          refine (keyBranch_of d ih x p q W (Kx.In.keep hkeep h) (fun i u hu => (World.cell?_of_block (hkeep 0 hp0)).trans (hfl i u hu)) hp0 hW.1 (by omega) hk).mono ?_
          rintro e w' ⟨v, ok, r', rfl, h1, h2, h3⟩
          exact ⟨v, ok, r', rfl, v, ok, r', rfl, h1, h2, hW.trans h3⟩
        obtain ⟨PBd, hPBd⟩ : ∃ P, P = Ky.Bd (d + 1) x p (q + 1) w := ⟨_, rfl⟩
        rw [← hPBd] at HBR ⊢
        clear hPBd h
        obtain ⟨kind, flag, text, A, set, c, KA, keys, kc⟩ := x
        simp only [Kx.kind] at hk
        simp only [Kx.val, Kx.kind, Kx.flag, Kx.text, Kx.set, Kx.keys, Kx.A, Kx.KA, Kx.c, Kx.kc] at HBR ⊢
        have hr1 : Ky.Rm p (q : Int) w ((w.setCell ⟨p, 0, none⟩ (.int .i64 (q : Int))).alloc (.cells #[.int .i64 kind, .int .i64 flag, .string text, .slice A set.length c, .slice KA keys.length kc] 40)) := ⟨(Below.heap_alloc _ _ _ (by simpa using hpl)).trans (by rw [ow_setHeap hp]; rfl), grown_alloc (grown_set (World.grownBy.refl w _) 0 _) _⟩
        have HR1 := Lib.hid hr1
        clear hr1 hp
        go_enter Tryz.func44, Tryz.ntmps44
        go_wp2_with fail
        refine Calls.mono (HBR.out _ HR1.out) ?_
        rintro e w3 ⟨v, ok, r', rfl, hbd⟩
        have HBD := Lib.hid hbd
        clear hbd
        go_wp2_with fail
        try go_ret2
        exact HBD.out
      · exact keyBuild_leaf d x p q w h hfl hp0 hp (by omega) hk

set_option maxHeartbeats 1600000 in
theorem keyTree_any (d : Nat) (x : Kx) (w : World) (h : Kx.In d w w.heap.size x) (hfl : Ky.Fl w) :
    Calls Tryz.prog 26 #[x.val] w fun e w' => (∃ (v : Value) (ok : Bool), e = .returned (.tuple #[v, .bool ok]) ∧ ok = Kt.ok d (Kx.v d x) ∧ (ok = true → v = (Kx.nd d x).val)) ∧ Below w.heap.size w w' := by
  have HCALL : Hid (∀ (p : Nat) (W : World), Below w.heap.size w W → w.heap.size ≤ p → 0 < p → W.heap[p]? = some (.cells #[.int .i64 ((9 : Nat) : Int)] 3 (0, 0)) → Calls Tryz.prog 44 #[x.val, .pointer (some ⟨p, 0, none⟩)] W fun e w' => (∃ (v : Value) (ok : Bool), e = .returned (.tuple #[v, .bool ok]) ∧ ok = Kt.ok d (Kx.v d x) ∧ (ok = true → v = (Kx.nd d x).val)) ∧ Below w.heap.size w w') := Lib.hid fun p W hb hwp hp0 hp => by
    refine (keyBuild_any d x p 9 W ((h.below hb).mono hwp) (fun i u hu => (hb.cell (p := ⟨0, i, none⟩) hfl.lt).trans (hfl i u hu)) hp0 hp (by omega)).mono ?_
    rintro e w' ⟨v, ok, r', rfl, h1, h2, h3⟩
    exact ⟨⟨v, ok, rfl, h1, fun ho => (h2 ho).1⟩, hb.trans (grown_to_below h3.2 hwp (Nat.le_trans hb.size (Nat.le_refl _)))⟩
  generalize Kt.ok d (Kx.v d x) = okk at HCALL ⊢
  generalize (Kx.nd d x).val = nv at HCALL ⊢
  clear h
  have hs0 := hfl.lt
  clear hfl
  obtain ⟨kind, flag, text, A, set, c, KA, keys, kc⟩ := x
  simp only [Kx.val, Kx.kind, Kx.flag, Kx.text, Kx.set, Kx.keys, Kx.A, Kx.KA, Kx.c, Kx.kc] at HCALL ⊢
  have hb0 : Below w.heap.size w ((w.alloc (.cells #[.int .i64 kind, .int .i64 flag, .string text, .slice A set.length c, .slice KA keys.length kc] 40)).alloc (.cells #[.int .i64 9] 3)) := ((Below.refl _ _).alloc (Nat.le_refl _) _).alloc (by simp) _
  have hh0 : ((w.alloc (.cells #[.int .i64 kind, .int .i64 flag, .string text, .slice A set.length c, .slice KA keys.length kc] 40)).alloc (.cells #[.int .i64 9] 3)).heap[w.heap.size + 1]? = some (.cells #[.int .i64 ((9 : Nat) : Int)] 3 (0, 0)) := by simpa using heap_alloc_new (w.alloc (.cells #[.int .i64 kind, .int .i64 flag, .string text, .slice A set.length c, .slice KA keys.length kc] 40)) (.cells #[.int .i64 9] 3)
  have HB := Lib.hid (And.intro hb0 hh0)
  clear hb0 hh0
  go_enter Tryz.func26, Tryz.ntmps26
  go_wp2_with fail
  refine Calls.mono (HCALL.out _ _ HB.out.1 (by omega) (by omega) HB.out.2) ?_
  rintro e w3 ⟨⟨v, ok, rfl, h1, h2⟩, hb3⟩
  have HR := Lib.hid (And.intro h1 (And.intro h2 hb3))
  clear h1 h2 hb3
  go_wp2_with fail
  try go_ret2
  exact ⟨⟨v, ok, rfl, HR.out.1, HR.out.2.1⟩, HR.out.2.2⟩
end Go.Proofs.YtmlmdpdboigojaaGreatDoor
