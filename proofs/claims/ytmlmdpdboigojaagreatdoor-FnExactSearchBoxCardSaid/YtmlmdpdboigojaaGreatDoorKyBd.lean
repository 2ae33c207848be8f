/- keyBuild of the program at a leaf. -/
import Derived.Test.YtmlmdpdboigojaaGreatDoorKyNd2
import Derived.Test.YtmlmdpdboigojaaGreatDoorOwT
import Derived.Deep.RegionHeld3
namespace Go.Proofs.YtmlmdpdboigojaaGreatDoor
set_option linter.unusedVariables false
open Go.RowKit

theorem Ky.leaf_len {kind flag : Int} {text : ByteArray} {set : List Sn} {n : Nat} (hk : ¬ kind ≥ 5) (hn : Ky.nodeOk kind flag text set n = true) : n = 0 := by
  by_cases k0 : kind = 0
  · subst k0; rw [Ky.leaf0] at hn; simp at hn; exact hn.1
  · by_cases k1 : kind = 1
    · subst k1; rw [Ky.leaf1] at hn; simp at hn; exact hn.2.1
    · by_cases k2 : kind = 2
      · subst k2; rw [Ky.leaf2] at hn; simp at hn; exact hn.2.1
      · by_cases k3 : kind = 3
        · subst k3; rw [Ky.leaf3] at hn; simp at hn; exact hn.2.1
        · by_cases k4 : kind = 4
          · subst k4; rw [Ky.leaf4] at hn; simp at hn; exact hn.2.1
          · rw [Ky.node_else (by simp [k0]) (by simp [k1]) (by simp [k2]) (by simp [k3]) (by simp [k4]) (by simp; omega) (by simp; omega) (by simp; omega)] at hn
            cases hn
/-- a leaf's answer -/
theorem Ky.Bd.leaf {d p q : Nat} {x : Kx} {w w' : World} {v : Value} {ok : Bool} (hk : ¬ x.kind ≥ 5) (h : ok = Ky.nodeOk x.kind x.flag x.text x.set x.keys.length) (hv : ok = true → v = (Kx.nd (d + 1) x).val) (hr : Ky.Rm p (q : Int) w w') : Ky.Bd (d + 1) x p (q + 1) w (.returned (.tuple #[v, .bool ok])) w' := by
  refine ⟨v, ok, _, rfl, h.trans (Ky.leaf_ok (fun hn => Ky.leaf_len hk hn) (by omega)).symm, fun ho => ⟨hv ho, ?_⟩, hr⟩
  rw [h] at ho
  have h0 := List.eq_nil_of_length_eq_zero (Ky.leaf_len hk ho)
  rw [Kt.nodes_succ, h0]
  simp

set_option maxRecDepth 100000 in
set_option maxHeartbeats 6400000 in
theorem keyBuild_leaf (d : Nat) (x : Kx) (p q : Nat) (w : World) (h : Kx.In (d + 1) w p x) (hfl : Ky.Fl w) (hp0 : 0 < p) (hp : w.heap[p]? = some (.cells #[.int .i64 ((q + 1 : Nat) : Int)] 3 (0, 0))) (hq : q ≤ 8) (hk : ¬ x.kind ≥ 5) :
    Calls Tryz.prog 44 #[x.val, .pointer (some ⟨p, 0, none⟩)] w (Ky.Bd (d + 1) x p (q + 1) w) := by
  obtain ⟨ht, hs, hsc, hcm, _, hkc, hkm, _⟩ := h
  have HLEAF : Hid (∀ (v : Value) (ok : Bool) (w' : World), ok = Ky.nodeOk x.kind x.flag x.text x.set x.keys.length → (ok = true → v = (Kx.nd (d + 1) x).val) → Ky.Rm p (q : Int) w w' → Ky.Bd (d + 1) x p (q + 1) w (.returned (.tuple #[v, .bool ok])) w') := Lib.hid fun v ok w' => Ky.Bd.leaf hk
  have HND : Hid (Kx.nd (d + 1) x = (if x.kind = 1 then .has x.flag else if x.kind = 2 then .text x.text else if x.kind = 3 then .place x.A x.set x.c else if x.kind = 4 then .uid x.A x.set x.c else if x.kind = 5 then (match x.keys with | [a] => .not (Kx.nd d a) | _ => .all) else if x.kind = 6 ∨ x.kind = 7 then (match x.keys with | [a, b] => .pair (decide (x.kind = 6)) (Kx.nd d a) (Kx.nd d b) | _ => .all) else .all)) := Lib.hid rfl
  obtain ⟨PBd, hPBd⟩ : ∃ P, P = Ky.Bd (d + 1) x p (q + 1) w := ⟨_, rfl⟩
  rw [← hPBd] at HLEAF ⊢
  generalize Kx.nd (d + 1) x = node at HLEAF HND
  clear hPBd
  obtain ⟨kind, flag, text, A, set, c, KA, keys, kc⟩ := x
  simp only [Kx.text, Kx.set, Kx.keys, Kx.A, Kx.c, Kx.kc, Kx.kind, Kx.flag] at ht hs hsc hcm hkc hkm hk HLEAF HND
  have hkl : keys.length ≤ maxLen := Nat.le_trans hkc hkm
  have hsl : set.length ≤ maxLen := Nat.le_trans hsc hcm
  have HSL := Lib.hid hsl
  unfold maxLen at hkl hsl
  have hpl : p < w.heap.size := (Array.getElem?_eq_some_iff.1 hp).1
  have c0 := cell_at hp 0 _ rfl
  have f0 := free_at hp 0
  simp only [Kx.val, Kx.kind, Kx.flag, Kx.text, Kx.set, Kx.keys, Kx.A, Kx.KA, Kx.c, Kx.kc]
  clear hkc hkm hsc hcm
  go_enter Tryz.func44, Tryz.ntmps44
  go_upto_region 4 with fail
  have hr1 : Ky.Rm p (q : Int) w ((w.setCell ⟨p, 0, none⟩ (.int .i64 (q : Int))).alloc (.cells #[.int .i64 kind, .int .i64 flag, .string text, .slice A set.length c, .slice KA keys.length kc] 40)) := by
    refine ⟨(Below.heap_alloc _ _ _ (by simpa using hpl)).trans (by rw [ow_setHeap hp]; rfl), grown_alloc (grown_set (World.grownBy.refl w _) 0 _) _⟩
  have hx2 : ((w.setCell ⟨p, 0, none⟩ (.int .i64 (q : Int))).alloc (.cells #[.int .i64 kind, .int .i64 flag, .string text, .slice A set.length c, .slice KA keys.length kc] 40)).heap[w.heap.size]? = some (.cells #[.int .i64 kind, .int .i64 flag, .string text, .slice A set.length c, .slice KA keys.length kc] 40 (0, 0)) := by simpa using heap_alloc_new (w.setCell ⟨p, 0, none⟩ (.int .i64 (q : Int))) (.cells #[.int .i64 kind, .int .i64 flag, .string text, .slice A set.length c, .slice KA keys.length kc] 40)
  generalize ((w.setCell ⟨p, 0, none⟩ (.int .i64 (q : Int))).alloc (.cells #[.int .i64 kind, .int .i64 flag, .string text, .slice A set.length c, .slice KA keys.length kc] 40)) = w1 at hr1 hx2 ⊢
  obtain ⟨b2, hb2⟩ : ∃ b, b = w.heap.size := ⟨_, rfl⟩
  rw [← hb2] at hx2 ⊢
  have x0 := cell_at hx2 0 _ rfl
  have x1 := cell_at hx2 1 _ rfl
  have x2 := cell_at hx2 2 _ rfl
  have x3 := cell_at hx2 3 _ rfl
  have x4 := cell_at hx2 4 _ rfl
  have hwb2 : w.heap.size ≤ b2 := by omega
  have hl2 := (Array.getElem?_eq_some_iff.1 hx2).1
  have hk5 : kind < 5 := by omega
  clear hk hb2 c0 f0
  go_upto_region 9 with fail
  have hbw : Below w1.heap.size w1 (w1.alloc (.cells #[.int .i64 kind, .int .i64 flag, .string text, .slice A set.length c, .slice KA keys.length kc] 40)) := (Below.refl _ _).alloc (Nat.le_refl _) _
  have hy6 : (w1.alloc (.cells #[.int .i64 kind, .int .i64 flag, .string text, .slice A set.length c, .slice KA keys.length kc] 40)).heap[w1.heap.size]? = some (.cells #[.int .i64 kind, .int .i64 flag, .string text, .slice A set.length c, .slice KA keys.length kc] 40 (0, 0)) := heap_alloc_new w1 _
  have hr2 := hr1.below hbw
  have hz2 := (hbw.block b2 hl2).trans hx2
  clear x0 x1 x2 x3 x4
  generalize (w1.alloc (.cells #[.int .i64 kind, .int .i64 flag, .string text, .slice A set.length c, .slice KA keys.length kc] 40)) = w2 at hbw hy6 hr2 hz2 ⊢
  obtain ⟨b6, hb6⟩ : ∃ b, b = w1.heap.size := ⟨_, rfl⟩
  rw [← hb6] at hy6 ⊢
  have h26 : b2 ≠ b6 := by omega
  have h62 : b6 ≠ b2 := by omega
  have hwb6 : w.heap.size ≤ b6 := by omega
  have hpb6 : p ≠ b6 := by omega
  have l2 := (Array.getElem?_eq_some_iff.1 hz2).1
  have l6 := (Array.getElem?_eq_some_iff.1 hy6).1
  have HX : Hid (∀ W, Below w2.heap.size w2 W → Ky.Rm p (q : Int) w W ∧ W.cell? ⟨b2, 0, none⟩ = some (.int .i64 kind) ∧ W.cell? ⟨b2, 1, none⟩ = some (.int .i64 flag) ∧ W.cell? ⟨b2, 2, none⟩ = some (.string text) ∧ W.cell? ⟨b2, 3, none⟩ = some (.slice A set.length c) ∧ W.cell? ⟨b2, 4, none⟩ = some (.slice KA keys.length kc)) := Lib.hid fun W hb => by
    have hx := (hb.block b2 l2).trans hz2
    exact ⟨hr2.below hb, cell_at hx 0 _ rfl, cell_at hx 1 _ rfl, cell_at hx 2 _ rfl, cell_at hx 3 _ rfl, cell_at hx 4 _ rfl⟩
  have HY : Hid (∀ W, Below w2.heap.size w2 W → W.heap[b6]? = some (.cells #[.int .i64 kind, .int .i64 flag, .string text, .slice A set.length c, .slice KA keys.length kc] 40 (0, 0))) := Lib.hid fun W hb => (hb.block b6 l6).trans hy6
  have hg : w.grownBy w2 (some p) := hr2.2
  have HFL : Hid (∀ W, Below w2.heap.size w2 W → Ky.Fl W) := Lib.hid fun W hb i u hu => by
    have h0 := hfl i u hu
    have hw : W.heap[0]? = w.heap[0]? := (hb.block 0 (by omega)).trans (hg.block 0 (by omega) (by intro e; injection e with e; omega))
    exact (World.cell?_of_block hw).trans h0
  have HS : Hid (∀ W, Below w2.heap.size w2 W → AtSet W W.heap.size A set) := Lib.hid fun W hb => by
    have hb3 := hb.size
    have hb4 := hg.size
    exact At.mono (At.keep hs fun i hi => (hb.block i (by omega)).trans (hg.block i (by omega) (by intro e; injection e with e; omega))) (by omega)
  have HT := Lib.hid ht
  clear hbw hy6 hr2 hz2 hr1 hx2 hl2 hb6 hg hfl hs hp ht
  obtain ⟨R0, x0, x1, x2, x3, x4⟩ := HX.out w2 (Below.refl _ _)
  have HR0 := Lib.hid R0
  clear R0
  have y0 := cell_at (HY.out w2 (Below.refl _ _)) 0 _ rfl
  have y1 := cell_at (HY.out w2 (Below.refl _ _)) 1 _ rfl
  have y2 := cell_at (HY.out w2 (Below.refl _ _)) 2 _ rfl
  have y3 := cell_at (HY.out w2 (Below.refl _ _)) 3 _ rfl
  have y4 := cell_at (HY.out w2 (Below.refl _ _)) 4 _ rfl
  by_cases k0 : kind = 0
  · subst k0
    have HN : Hid (node = .all) := Lib.hid HND.out
    have HL : Hid (Ky.nodeOk 0 flag text set keys.length = (keys.length == 0 && Ky.plain flag text set.length)) := Lib.hid Ky.leaf0
    by_cases hn : keys.length = 0
    · have hn0 : (keys.length : Int) = 0 := by omega
      cases hpl2 : Ky.plain flag text set.length
      · have HPB := Lib.hid hpl2
        have HRES : Hid (Ky.nodeOk 0 flag text set keys.length = false) := Lib.hid (by rw [HL.out, HPB.out, hn]; rfl)
        clear hpl2
        go_wp2_with fail
        refine (keyPlain_any _ _ _ _ _ _ _ _ _ _).mono ?_
        rw [HPB.out]
        rintro e w5 ⟨rfl, hb5⟩
        have HR5 := Lib.hid (HR0.out.below hb5)
        clear hb5
        go_wp2_with fail
        try go_ret2
        exact HLEAF.out _ _ _ (by rw [HRES.out]) (fun h => by cases h) HR5.out
      · have HPB := Lib.hid hpl2
        have HRES : Hid (Ky.nodeOk 0 flag text set keys.length = true) := Lib.hid (by rw [HL.out, HPB.out, hn]; rfl)
        clear hpl2
        go_wp2_with fail
        refine (keyPlain_any _ _ _ _ _ _ _ _ _ _).mono ?_
        rw [HPB.out]
        rintro e w5 ⟨rfl, hb5⟩
        have HR5 := Lib.hid (HR0.out.below hb5)
        clear hb5
        go_wp2_with fail
        try go_ret2
        exact HLEAF.out _ _ _ (by rw [HRES.out]) (fun _ => by rw [HN.out]; rfl) HR5.out
    · have hn0 : ¬ (keys.length : Int) = 0 := by omega
      have hn1 : ((keys.length : Int) == 0) = false := by rw [beq_eq_false_iff_ne]; omega
      have HRES : Hid (Ky.nodeOk 0 flag text set keys.length = false) := Lib.hid (by rw [HL.out, Ky.len_no hn]; rfl)
      go_wp2_with fail
      try go_ret2
      exact HLEAF.out _ _ _ (by rw [HRES.out]) (fun h => by cases h) HR0.out
  · have hz0 := True.intro
    by_cases k1 : kind = 1
    · subst k1
      have HN : Hid (node = .has flag) := Lib.hid HND.out
      have HL : Hid (Ky.nodeOk 1 flag text set keys.length = (Ky.flagOne flag && (keys.length == 0 && Ky.plain 0 text set.length))) := Lib.hid Ky.leaf1
      cases hq2 : Ky.flagOne flag
      · have HQ := Lib.hid hq2
        have HRES : Hid (Ky.nodeOk 1 flag text set keys.length = false) := Lib.hid (by rw [HL.out, HQ.out]; rfl)
        clear hq2
        go_wp2_with fail
        go_region_held3 (fun w' => w'.cell? ⟨b2, 1, none⟩ = some (.int .i64 flag)) (first | exact x1 | exact z1 | go_keep) ((go_at_call 57; refine Calls.mono (keyFlagWord_any flag _ (HFL.out _ (below_drewN (Below.refl _ _) 1))) ?_; rintro e w3 ⟨⟨v3, rfl, hv3⟩, hb3⟩; have hv4 : v3.toList.isEmpty = true := (by rw [hv3, HQ.out]; first | done | rfl); clear hv3; have hbq : Below w2.heap.size w2 w3 := (below_drewN (Below.refl _ _) 1).trans hb3; have hxq := HX.out w3 hbq; have HR3 := Lib.hid (Ky.Rm.set hxq.1 (a := ⟨b6, 1, none⟩) hwb6 hpb6 (.int .i64 0)); have z1 := hxq.2.2.1; have zz4 := hxq.2.2.2.2.2; have hyq := HY.out w3 hbq; have g0 := cell_at hyq 0 _ rfl; have g1 := cell_at hyq 1 _ rfl; have g2 := cell_at hyq 2 _ rfl; have g3 := cell_at hyq 3 _ rfl; have g4 := cell_at hyq 4 _ rfl; have q1 := free_at hyq 1; clear hbq hxq hyq hb3))
        all_goals
          go_wp2_with fail
          try go_ret2
          exact HLEAF.out _ _ _ (by rw [HRES.out]) (fun h => by cases h) HR3.out
      · have HQ := Lib.hid hq2
        clear hq2
        by_cases hn : keys.length = 0
        · have hn0 : (keys.length : Int) = 0 := by omega
          cases hpl2 : Ky.plain 0 text set.length
          · have HPB := Lib.hid hpl2
            have HRES : Hid (Ky.nodeOk 1 flag text set keys.length = false) := Lib.hid (by rw [HL.out, HQ.out, HPB.out, hn]; rfl)
            clear hpl2
            go_wp2_with fail
            go_region_held3 (fun w' => w'.cell? ⟨b2, 1, none⟩ = some (.int .i64 flag)) (first | exact x1 | exact z1 | go_keep) ((go_at_call 57; refine Calls.mono (keyFlagWord_any flag _ (HFL.out _ (below_drewN (Below.refl _ _) 1))) ?_; rintro e w3 ⟨⟨v3, rfl, hv3⟩, hb3⟩; have hv4 : v3.toList.isEmpty = false := (by rw [hv3, HQ.out]; first | done | rfl); clear hv3; have hbq : Below w2.heap.size w2 w3 := (below_drewN (Below.refl _ _) 1).trans hb3; have hxq := HX.out w3 hbq; have HR3 := Lib.hid (Ky.Rm.set hxq.1 (a := ⟨b6, 1, none⟩) hwb6 hpb6 (.int .i64 0)); have z1 := hxq.2.2.1; have zz4 := hxq.2.2.2.2.2; have hyq := HY.out w3 hbq; have g0 := cell_at hyq 0 _ rfl; have g1 := cell_at hyq 1 _ rfl; have g2 := cell_at hyq 2 _ rfl; have g3 := cell_at hyq 3 _ rfl; have g4 := cell_at hyq 4 _ rfl; have q1 := free_at hyq 1; clear hbq hxq hyq hb3))
            all_goals
              go_wp2_with fail
              refine (keyPlain_any _ _ _ _ _ _ _ _ _ _).mono ?_
              rw [HPB.out]
              rintro e w5 ⟨rfl, hb5⟩
              have HR5 := Lib.hid (HR3.out.below hb5)
              clear hb5
              go_wp2_with fail
              try go_ret2
              exact HLEAF.out _ _ _ (by rw [HRES.out]) (fun h => by cases h) HR5.out
          · have HPB := Lib.hid hpl2
            have HRES : Hid (Ky.nodeOk 1 flag text set keys.length = true) := Lib.hid (by rw [HL.out, HQ.out, HPB.out, hn]; rfl)
            clear hpl2
            go_wp2_with fail
            go_region_held3 (fun w' => w'.cell? ⟨b2, 1, none⟩ = some (.int .i64 flag)) (first | exact x1 | exact z1 | go_keep) ((go_at_call 57; refine Calls.mono (keyFlagWord_any flag _ (HFL.out _ (below_drewN (Below.refl _ _) 1))) ?_; rintro e w3 ⟨⟨v3, rfl, hv3⟩, hb3⟩; have hv4 : v3.toList.isEmpty = false := (by rw [hv3, HQ.out]; first | done | rfl); clear hv3; have hbq : Below w2.heap.size w2 w3 := (below_drewN (Below.refl _ _) 1).trans hb3; have hxq := HX.out w3 hbq; have HR3 := Lib.hid (Ky.Rm.set hxq.1 (a := ⟨b6, 1, none⟩) hwb6 hpb6 (.int .i64 0)); have z1 := hxq.2.2.1; have zz4 := hxq.2.2.2.2.2; have hyq := HY.out w3 hbq; have g0 := cell_at hyq 0 _ rfl; have g1 := cell_at hyq 1 _ rfl; have g2 := cell_at hyq 2 _ rfl; have g3 := cell_at hyq 3 _ rfl; have g4 := cell_at hyq 4 _ rfl; have q1 := free_at hyq 1; clear hbq hxq hyq hb3))
            all_goals
              go_wp2_with fail
              refine (keyPlain_any _ _ _ _ _ _ _ _ _ _).mono ?_
              rw [HPB.out]
              rintro e w5 ⟨rfl, hb5⟩
              have HR5 := Lib.hid (HR3.out.below hb5)
              clear hb5
              go_wp2_with fail
              try go_ret2
              exact HLEAF.out _ _ _ (by rw [HRES.out]) (fun _ => by rw [HN.out]; rfl) HR5.out
        · have hn0 : ¬ (keys.length : Int) = 0 := by omega
          have hn1 : ((keys.length : Int) == 0) = false := by rw [beq_eq_false_iff_ne]; omega
          have HRES : Hid (Ky.nodeOk 1 flag text set keys.length = false) := Lib.hid (by rw [HL.out, HQ.out, Ky.len_no hn]; rfl)
          go_wp2_with fail
          go_region_held3 (fun w' => w'.cell? ⟨b2, 1, none⟩ = some (.int .i64 flag)) (first | exact x1 | exact z1 | go_keep) ((go_at_call 57; refine Calls.mono (keyFlagWord_any flag _ (HFL.out _ (below_drewN (Below.refl _ _) 1))) ?_; rintro e w3 ⟨⟨v3, rfl, hv3⟩, hb3⟩; have hv4 : v3.toList.isEmpty = false := (by rw [hv3, HQ.out]; first | done | rfl); clear hv3; have hbq : Below w2.heap.size w2 w3 := (below_drewN (Below.refl _ _) 1).trans hb3; have hxq := HX.out w3 hbq; have HR3 := Lib.hid (Ky.Rm.set hxq.1 (a := ⟨b6, 1, none⟩) hwb6 hpb6 (.int .i64 0)); have z1 := hxq.2.2.1; have zz4 := hxq.2.2.2.2.2; have hyq := HY.out w3 hbq; have g0 := cell_at hyq 0 _ rfl; have g1 := cell_at hyq 1 _ rfl; have g2 := cell_at hyq 2 _ rfl; have g3 := cell_at hyq 3 _ rfl; have g4 := cell_at hyq 4 _ rfl; have q1 := free_at hyq 1; clear hbq hxq hyq hb3))
          all_goals
            go_wp2_with fail
            try go_ret2
            exact HLEAF.out _ _ _ (by rw [HRES.out]) (fun h => by cases h) HR3.out
    · have hz1 := True.intro
      by_cases k2 : kind = 2
      · subst k2
        have HN : Hid (node = .text text) := Lib.hid HND.out
        have HL : Hid (Ky.nodeOk 2 flag text set keys.length = (Nm.nameOk text.data.toList && (keys.length == 0 && Ky.plain flag ⟨#[]⟩ set.length))) := Lib.hid Ky.leaf2
        cases hq2 : Nm.nameOk text.data.toList
        · have HQ := Lib.hid hq2
          have HRES : Hid (Ky.nodeOk 2 flag text set keys.length = false) := Lib.hid (by rw [HL.out, HQ.out]; rfl)
          clear hq2
          go_wp2_with fail
          go_region_held3 (fun w' => w'.cell? ⟨b2, 2, none⟩ = some (.string text)) (first | exact x2 | exact z2 | go_keep) ((go_at_call 58; refine Calls.mono (iNameValid_any text _ HT.out) ?_; rw [HQ.out]; rintro e w3 ⟨rfl, hb3⟩; have hbq : Below w2.heap.size w2 w3 := (below_drewN (Below.refl _ _) 1).trans hb3; have hxq := HX.out w3 hbq; have HR3 := Lib.hid (Ky.Rm.set hxq.1 (a := ⟨b6, 2, none⟩) hwb6 hpb6 (.string ⟨#[]⟩)); have z2 := hxq.2.2.2.1; have zz4 := hxq.2.2.2.2.2; have hyq := HY.out w3 hbq; have g0 := cell_at hyq 0 _ rfl; have g1 := cell_at hyq 1 _ rfl; have g2 := cell_at hyq 2 _ rfl; have g3 := cell_at hyq 3 _ rfl; have g4 := cell_at hyq 4 _ rfl; have q2 := free_at hyq 2; clear hbq hxq hyq hb3))
          all_goals
            go_wp2_with fail
            try go_ret2
            exact HLEAF.out _ _ _ (by rw [HRES.out]) (fun h => by cases h) HR3.out
        · have HQ := Lib.hid hq2
          clear hq2
          by_cases hn : keys.length = 0
          · have hn0 : (keys.length : Int) = 0 := by omega
            cases hpl2 : Ky.plain flag ⟨#[]⟩ set.length
            · have HPB := Lib.hid hpl2
              have HRES : Hid (Ky.nodeOk 2 flag text set keys.length = false) := Lib.hid (by rw [HL.out, HQ.out, HPB.out, hn]; rfl)
              clear hpl2
              go_wp2_with fail
              go_region_held3 (fun w' => w'.cell? ⟨b2, 2, none⟩ = some (.string text)) (first | exact x2 | exact z2 | go_keep) ((go_at_call 58; refine Calls.mono (iNameValid_any text _ HT.out) ?_; rw [HQ.out]; rintro e w3 ⟨rfl, hb3⟩; have hbq : Below w2.heap.size w2 w3 := (below_drewN (Below.refl _ _) 1).trans hb3; have hxq := HX.out w3 hbq; have HR3 := Lib.hid (Ky.Rm.set hxq.1 (a := ⟨b6, 2, none⟩) hwb6 hpb6 (.string ⟨#[]⟩)); have z2 := hxq.2.2.2.1; have zz4 := hxq.2.2.2.2.2; have hyq := HY.out w3 hbq; have g0 := cell_at hyq 0 _ rfl; have g1 := cell_at hyq 1 _ rfl; have g2 := cell_at hyq 2 _ rfl; have g3 := cell_at hyq 3 _ rfl; have g4 := cell_at hyq 4 _ rfl; have q2 := free_at hyq 2; clear hbq hxq hyq hb3))
              all_goals
                go_wp2_with fail
                refine (keyPlain_any _ _ _ _ _ _ _ _ _ _).mono ?_
                rw [HPB.out]
                rintro e w5 ⟨rfl, hb5⟩
                have HR5 := Lib.hid (HR3.out.below hb5)
                clear hb5
                go_wp2_with fail
                try go_ret2
                exact HLEAF.out _ _ _ (by rw [HRES.out]) (fun h => by cases h) HR5.out
            · have HPB := Lib.hid hpl2
              have HRES : Hid (Ky.nodeOk 2 flag text set keys.length = true) := Lib.hid (by rw [HL.out, HQ.out, HPB.out, hn]; rfl)
              clear hpl2
              go_wp2_with fail
              go_region_held3 (fun w' => w'.cell? ⟨b2, 2, none⟩ = some (.string text)) (first | exact x2 | exact z2 | go_keep) ((go_at_call 58; refine Calls.mono (iNameValid_any text _ HT.out) ?_; rw [HQ.out]; rintro e w3 ⟨rfl, hb3⟩; have hbq : Below w2.heap.size w2 w3 := (below_drewN (Below.refl _ _) 1).trans hb3; have hxq := HX.out w3 hbq; have HR3 := Lib.hid (Ky.Rm.set hxq.1 (a := ⟨b6, 2, none⟩) hwb6 hpb6 (.string ⟨#[]⟩)); have z2 := hxq.2.2.2.1; have zz4 := hxq.2.2.2.2.2; have hyq := HY.out w3 hbq; have g0 := cell_at hyq 0 _ rfl; have g1 := cell_at hyq 1 _ rfl; have g2 := cell_at hyq 2 _ rfl; have g3 := cell_at hyq 3 _ rfl; have g4 := cell_at hyq 4 _ rfl; have q2 := free_at hyq 2; clear hbq hxq hyq hb3))
              all_goals
                go_wp2_with fail
                refine (keyPlain_any _ _ _ _ _ _ _ _ _ _).mono ?_
                rw [HPB.out]
                rintro e w5 ⟨rfl, hb5⟩
                have HR5 := Lib.hid (HR3.out.below hb5)
                clear hb5
                go_wp2_with fail
                try go_ret2
                exact HLEAF.out _ _ _ (by rw [HRES.out]) (fun _ => by rw [HN.out]; rfl) HR5.out
          · have hn0 : ¬ (keys.length : Int) = 0 := by omega
            have hn1 : ((keys.length : Int) == 0) = false := by rw [beq_eq_false_iff_ne]; omega
            have HRES : Hid (Ky.nodeOk 2 flag text set keys.length = false) := Lib.hid (by rw [HL.out, HQ.out, Ky.len_no hn]; rfl)
            go_wp2_with fail
            go_region_held3 (fun w' => w'.cell? ⟨b2, 2, none⟩ = some (.string text)) (first | exact x2 | exact z2 | go_keep) ((go_at_call 58; refine Calls.mono (iNameValid_any text _ HT.out) ?_; rw [HQ.out]; rintro e w3 ⟨rfl, hb3⟩; have hbq : Below w2.heap.size w2 w3 := (below_drewN (Below.refl _ _) 1).trans hb3; have hxq := HX.out w3 hbq; have HR3 := Lib.hid (Ky.Rm.set hxq.1 (a := ⟨b6, 2, none⟩) hwb6 hpb6 (.string ⟨#[]⟩)); have z2 := hxq.2.2.2.1; have zz4 := hxq.2.2.2.2.2; have hyq := HY.out w3 hbq; have g0 := cell_at hyq 0 _ rfl; have g1 := cell_at hyq 1 _ rfl; have g2 := cell_at hyq 2 _ rfl; have g3 := cell_at hyq 3 _ rfl; have g4 := cell_at hyq 4 _ rfl; have q2 := free_at hyq 2; clear hbq hxq hyq hb3))
            all_goals
              go_wp2_with fail
              try go_ret2
              exact HLEAF.out _ _ _ (by rw [HRES.out]) (fun h => by cases h) HR3.out
      · have hz2 := True.intro
        by_cases k3 : kind = 3
        · subst k3
          have HN : Hid (node = .place A set c) := Lib.hid HND.out
          have HL : Hid (Ky.nodeOk 3 flag text set keys.length = (Ky.setOk set && (keys.length == 0 && Ky.plain flag text 0))) := Lib.hid Ky.leaf3
          cases hq2 : Ky.setOk set
          · have HQ := Lib.hid hq2
            have HRES : Hid (Ky.nodeOk 3 flag text set keys.length = false) := Lib.hid (by rw [HL.out, HQ.out]; rfl)
            clear hq2
            go_wp2_with fail
            go_region_held3 (fun w' => w'.cell? ⟨b2, 3, none⟩ = some (.slice A set.length c)) (first | exact x3 | exact z3 | go_keep) ((go_at_call 59; refine Calls.mono (iSetValid_any A set c _ (HS.out _ (below_drewN (Below.refl _ _) 1)) HSL.out) ?_; rw [HQ.out]; rintro e w3 ⟨rfl, hb3⟩; have hbq : Below w2.heap.size w2 w3 := (below_drewN (Below.refl _ _) 1).trans hb3; have hxq := HX.out w3 hbq; have HR3 := Lib.hid (Ky.Rm.set hxq.1 (a := ⟨b6, 3, none⟩) hwb6 hpb6 (.slice none 0 0)); have z3 := hxq.2.2.2.2.1; have zz4 := hxq.2.2.2.2.2; have hyq := HY.out w3 hbq; have g0 := cell_at hyq 0 _ rfl; have g1 := cell_at hyq 1 _ rfl; have g2 := cell_at hyq 2 _ rfl; have g3 := cell_at hyq 3 _ rfl; have g4 := cell_at hyq 4 _ rfl; have q3 := free_at hyq 3; clear hbq hxq hyq hb3))
            all_goals
              go_wp2_with fail
              try go_ret2
              exact HLEAF.out _ _ _ (by rw [HRES.out]) (fun h => by cases h) HR3.out
          · have HQ := Lib.hid hq2
            clear hq2
            by_cases hn : keys.length = 0
            · have hn0 : (keys.length : Int) = 0 := by omega
              cases hpl2 : Ky.plain flag text 0
              · have HPB := Lib.hid hpl2
                have HRES : Hid (Ky.nodeOk 3 flag text set keys.length = false) := Lib.hid (by rw [HL.out, HQ.out, HPB.out, hn]; rfl)
                clear hpl2
                go_wp2_with fail
                go_region_held3 (fun w' => w'.cell? ⟨b2, 3, none⟩ = some (.slice A set.length c)) (first | exact x3 | exact z3 | go_keep) ((go_at_call 59; refine Calls.mono (iSetValid_any A set c _ (HS.out _ (below_drewN (Below.refl _ _) 1)) HSL.out) ?_; rw [HQ.out]; rintro e w3 ⟨rfl, hb3⟩; have hbq : Below w2.heap.size w2 w3 := (below_drewN (Below.refl _ _) 1).trans hb3; have hxq := HX.out w3 hbq; have HR3 := Lib.hid (Ky.Rm.set hxq.1 (a := ⟨b6, 3, none⟩) hwb6 hpb6 (.slice none 0 0)); have z3 := hxq.2.2.2.2.1; have zz4 := hxq.2.2.2.2.2; have hyq := HY.out w3 hbq; have g0 := cell_at hyq 0 _ rfl; have g1 := cell_at hyq 1 _ rfl; have g2 := cell_at hyq 2 _ rfl; have g3 := cell_at hyq 3 _ rfl; have g4 := cell_at hyq 4 _ rfl; have q3 := free_at hyq 3; clear hbq hxq hyq hb3))
                all_goals
                  go_wp2_with fail
                  refine (keyPlain_any _ _ _ _ _ _ _ _ _ _).mono ?_
                  rw [HPB.out]
                  rintro e w5 ⟨rfl, hb5⟩
                  have HR5 := Lib.hid (HR3.out.below hb5)
                  clear hb5
                  go_wp2_with fail
                  try go_ret2
                  exact HLEAF.out _ _ _ (by rw [HRES.out]) (fun h => by cases h) HR5.out
              · have HPB := Lib.hid hpl2
                have HRES : Hid (Ky.nodeOk 3 flag text set keys.length = true) := Lib.hid (by rw [HL.out, HQ.out, HPB.out, hn]; rfl)
                clear hpl2
                go_wp2_with fail
                go_region_held3 (fun w' => w'.cell? ⟨b2, 3, none⟩ = some (.slice A set.length c)) (first | exact x3 | exact z3 | go_keep) ((go_at_call 59; refine Calls.mono (iSetValid_any A set c _ (HS.out _ (below_drewN (Below.refl _ _) 1)) HSL.out) ?_; rw [HQ.out]; rintro e w3 ⟨rfl, hb3⟩; have hbq : Below w2.heap.size w2 w3 := (below_drewN (Below.refl _ _) 1).trans hb3; have hxq := HX.out w3 hbq; have HR3 := Lib.hid (Ky.Rm.set hxq.1 (a := ⟨b6, 3, none⟩) hwb6 hpb6 (.slice none 0 0)); have z3 := hxq.2.2.2.2.1; have zz4 := hxq.2.2.2.2.2; have hyq := HY.out w3 hbq; have g0 := cell_at hyq 0 _ rfl; have g1 := cell_at hyq 1 _ rfl; have g2 := cell_at hyq 2 _ rfl; have g3 := cell_at hyq 3 _ rfl; have g4 := cell_at hyq 4 _ rfl; have q3 := free_at hyq 3; clear hbq hxq hyq hb3))
                all_goals
                  go_wp2_with fail
                  refine (keyPlain_any _ _ _ _ _ _ _ _ _ _).mono ?_
                  rw [HPB.out]
                  rintro e w5 ⟨rfl, hb5⟩
                  have HR5 := Lib.hid (HR3.out.below hb5)
                  clear hb5
                  go_wp2_with fail
                  try go_ret2
                  exact HLEAF.out _ _ _ (by rw [HRES.out]) (fun _ => by rw [HN.out]; rfl) HR5.out
            · have hn0 : ¬ (keys.length : Int) = 0 := by omega
              have hn1 : ((keys.length : Int) == 0) = false := by rw [beq_eq_false_iff_ne]; omega
              have HRES : Hid (Ky.nodeOk 3 flag text set keys.length = false) := Lib.hid (by rw [HL.out, HQ.out, Ky.len_no hn]; rfl)
              go_wp2_with fail
              go_region_held3 (fun w' => w'.cell? ⟨b2, 3, none⟩ = some (.slice A set.length c)) (first | exact x3 | exact z3 | go_keep) ((go_at_call 59; refine Calls.mono (iSetValid_any A set c _ (HS.out _ (below_drewN (Below.refl _ _) 1)) HSL.out) ?_; rw [HQ.out]; rintro e w3 ⟨rfl, hb3⟩; have hbq : Below w2.heap.size w2 w3 := (below_drewN (Below.refl _ _) 1).trans hb3; have hxq := HX.out w3 hbq; have HR3 := Lib.hid (Ky.Rm.set hxq.1 (a := ⟨b6, 3, none⟩) hwb6 hpb6 (.slice none 0 0)); have z3 := hxq.2.2.2.2.1; have zz4 := hxq.2.2.2.2.2; have hyq := HY.out w3 hbq; have g0 := cell_at hyq 0 _ rfl; have g1 := cell_at hyq 1 _ rfl; have g2 := cell_at hyq 2 _ rfl; have g3 := cell_at hyq 3 _ rfl; have g4 := cell_at hyq 4 _ rfl; have q3 := free_at hyq 3; clear hbq hxq hyq hb3))
              all_goals
                go_wp2_with fail
                try go_ret2
                exact HLEAF.out _ _ _ (by rw [HRES.out]) (fun h => by cases h) HR3.out
        · have hz3 := True.intro
          by_cases k4 : kind = 4
          · subst k4
            have HN : Hid (node = .uid A set c) := Lib.hid HND.out
            have HL : Hid (Ky.nodeOk 4 flag text set keys.length = (Ky.setOk set && (keys.length == 0 && Ky.plain flag text 0))) := Lib.hid Ky.leaf4
            cases hq2 : Ky.setOk set
            · have HQ := Lib.hid hq2
              have HRES : Hid (Ky.nodeOk 4 flag text set keys.length = false) := Lib.hid (by rw [HL.out, HQ.out]; rfl)
              clear hq2
              go_wp2_with fail
              go_region_held3 (fun w' => w'.cell? ⟨b2, 3, none⟩ = some (.slice A set.length c)) (first | exact x3 | exact z3 | go_keep) ((go_at_call 59; refine Calls.mono (iSetValid_any A set c _ (HS.out _ (below_drewN (Below.refl _ _) 1)) HSL.out) ?_; rw [HQ.out]; rintro e w3 ⟨rfl, hb3⟩; have hbq : Below w2.heap.size w2 w3 := (below_drewN (Below.refl _ _) 1).trans hb3; have hxq := HX.out w3 hbq; have HR3 := Lib.hid (Ky.Rm.set hxq.1 (a := ⟨b6, 3, none⟩) hwb6 hpb6 (.slice none 0 0)); have z3 := hxq.2.2.2.2.1; have zz4 := hxq.2.2.2.2.2; have hyq := HY.out w3 hbq; have g0 := cell_at hyq 0 _ rfl; have g1 := cell_at hyq 1 _ rfl; have g2 := cell_at hyq 2 _ rfl; have g3 := cell_at hyq 3 _ rfl; have g4 := cell_at hyq 4 _ rfl; have q3 := free_at hyq 3; clear hbq hxq hyq hb3))
              all_goals
                go_wp2_with fail
                try go_ret2
                exact HLEAF.out _ _ _ (by rw [HRES.out]) (fun h => by cases h) HR3.out
            · have HQ := Lib.hid hq2
              clear hq2
              by_cases hn : keys.length = 0
              · have hn0 : (keys.length : Int) = 0 := by omega
                cases hpl2 : Ky.plain flag text 0
                · have HPB := Lib.hid hpl2
                  have HRES : Hid (Ky.nodeOk 4 flag text set keys.length = false) := Lib.hid (by rw [HL.out, HQ.out, HPB.out, hn]; rfl)
                  clear hpl2
                  go_wp2_with fail
                  go_region_held3 (fun w' => w'.cell? ⟨b2, 3, none⟩ = some (.slice A set.length c)) (first | exact x3 | exact z3 | go_keep) ((go_at_call 59; refine Calls.mono (iSetValid_any A set c _ (HS.out _ (below_drewN (Below.refl _ _) 1)) HSL.out) ?_; rw [HQ.out]; rintro e w3 ⟨rfl, hb3⟩; have hbq : Below w2.heap.size w2 w3 := (below_drewN (Below.refl _ _) 1).trans hb3; have hxq := HX.out w3 hbq; have HR3 := Lib.hid (Ky.Rm.set hxq.1 (a := ⟨b6, 3, none⟩) hwb6 hpb6 (.slice none 0 0)); have z3 := hxq.2.2.2.2.1; have zz4 := hxq.2.2.2.2.2; have hyq := HY.out w3 hbq; have g0 := cell_at hyq 0 _ rfl; have g1 := cell_at hyq 1 _ rfl; have g2 := cell_at hyq 2 _ rfl; have g3 := cell_at hyq 3 _ rfl; have g4 := cell_at hyq 4 _ rfl; have q3 := free_at hyq 3; clear hbq hxq hyq hb3))
                  all_goals
                    go_wp2_with fail
                    refine (keyPlain_any _ _ _ _ _ _ _ _ _ _).mono ?_
                    rw [HPB.out]
                    rintro e w5 ⟨rfl, hb5⟩
                    have HR5 := Lib.hid (HR3.out.below hb5)
                    clear hb5
                    go_wp2_with fail
                    try go_ret2
                    exact HLEAF.out _ _ _ (by rw [HRES.out]) (fun h => by cases h) HR5.out
                · have HPB := Lib.hid hpl2
                  have HRES : Hid (Ky.nodeOk 4 flag text set keys.length = true) := Lib.hid (by rw [HL.out, HQ.out, HPB.out, hn]; rfl)
                  clear hpl2
                  go_wp2_with fail
                  go_region_held3 (fun w' => w'.cell? ⟨b2, 3, none⟩ = some (.slice A set.length c)) (first | exact x3 | exact z3 | go_keep) ((go_at_call 59; refine Calls.mono (iSetValid_any A set c _ (HS.out _ (below_drewN (Below.refl _ _) 1)) HSL.out) ?_; rw [HQ.out]; rintro e w3 ⟨rfl, hb3⟩; have hbq : Below w2.heap.size w2 w3 := (below_drewN (Below.refl _ _) 1).trans hb3; have hxq := HX.out w3 hbq; have HR3 := Lib.hid (Ky.Rm.set hxq.1 (a := ⟨b6, 3, none⟩) hwb6 hpb6 (.slice none 0 0)); have z3 := hxq.2.2.2.2.1; have zz4 := hxq.2.2.2.2.2; have hyq := HY.out w3 hbq; have g0 := cell_at hyq 0 _ rfl; have g1 := cell_at hyq 1 _ rfl; have g2 := cell_at hyq 2 _ rfl; have g3 := cell_at hyq 3 _ rfl; have g4 := cell_at hyq 4 _ rfl; have q3 := free_at hyq 3; clear hbq hxq hyq hb3))
                  all_goals
                    go_wp2_with fail
                    refine (keyPlain_any _ _ _ _ _ _ _ _ _ _).mono ?_
                    rw [HPB.out]
                    rintro e w5 ⟨rfl, hb5⟩
                    have HR5 := Lib.hid (HR3.out.below hb5)
                    clear hb5
                    go_wp2_with fail
                    try go_ret2
                    exact HLEAF.out _ _ _ (by rw [HRES.out]) (fun _ => by rw [HN.out]; rfl) HR5.out
              · have hn0 : ¬ (keys.length : Int) = 0 := by omega
                have hn1 : ((keys.length : Int) == 0) = false := by rw [beq_eq_false_iff_ne]; omega
                have HRES : Hid (Ky.nodeOk 4 flag text set keys.length = false) := Lib.hid (by rw [HL.out, HQ.out, Ky.len_no hn]; rfl)
                go_wp2_with fail
                go_region_held3 (fun w' => w'.cell? ⟨b2, 3, none⟩ = some (.slice A set.length c)) (first | exact x3 | exact z3 | go_keep) ((go_at_call 59; refine Calls.mono (iSetValid_any A set c _ (HS.out _ (below_drewN (Below.refl _ _) 1)) HSL.out) ?_; rw [HQ.out]; rintro e w3 ⟨rfl, hb3⟩; have hbq : Below w2.heap.size w2 w3 := (below_drewN (Below.refl _ _) 1).trans hb3; have hxq := HX.out w3 hbq; have HR3 := Lib.hid (Ky.Rm.set hxq.1 (a := ⟨b6, 3, none⟩) hwb6 hpb6 (.slice none 0 0)); have z3 := hxq.2.2.2.2.1; have zz4 := hxq.2.2.2.2.2; have hyq := HY.out w3 hbq; have g0 := cell_at hyq 0 _ rfl; have g1 := cell_at hyq 1 _ rfl; have g2 := cell_at hyq 2 _ rfl; have g3 := cell_at hyq 3 _ rfl; have g4 := cell_at hyq 4 _ rfl; have q3 := free_at hyq 3; clear hbq hxq hyq hb3))
                all_goals
                  go_wp2_with fail
                  try go_ret2
                  exact HLEAF.out _ _ _ (by rw [HRES.out]) (fun h => by cases h) HR3.out
          · have hz4 := True.intro
            have HRES : Hid (Ky.nodeOk kind flag text set keys.length = false) := Lib.hid (Ky.node_else (by simp [k0]) (by simp [k1]) (by simp [k2]) (by simp [k3]) (by simp [k4]) (by simp; omega) (by simp; omega) (by simp; omega))
            go_wp2_with fail
            try go_ret2
            exact HLEAF.out _ _ _ (by rw [HRES.out]) (fun h => by cases h) HR0.out
end Go.Proofs.YtmlmdpdboigojaaGreatDoor
