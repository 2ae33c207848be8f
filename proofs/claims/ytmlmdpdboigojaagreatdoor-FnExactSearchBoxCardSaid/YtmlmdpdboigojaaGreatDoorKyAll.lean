/- The specification's KeyValid. -/
import Derived.Test.YtmlmdpdboigojaaGreatDoorKyNd
namespace Go.Proofs.YtmlmdpdboigojaaGreatDoor
set_option linter.unusedVariables false
open Go.RowKit

theorem Kt.all_succ (d : Nat) (x : Kx) : Kt.all (d + 1) (Kx.v (d + 1) x) = ((x.keys.all fun y => Kt.all d (Kx.v d y)) && Ky.nodeOk x.kind x.flag x.text x.set x.keys.length) := by
  simp only [Kt.all, Kx.v, Kt.keys, Kt.kind, Kt.flag, Kt.text, Kt.set, List.all_map, List.length_map]
  rfl
theorem Kt.nodes_succ (d : Nat) (x : Kx) : Kt.nodes (d + 1) (Kx.v (d + 1) x) = 1 + (x.keys.map fun y => Kt.nodes d (Kx.v d y)).sum := by
  simp only [Kt.nodes, Kx.v, Kt.keys, List.map_map]
  rfl
theorem Ky.sum_mono1 {α : Type} {f g : α → Nat} {l : List α} (h : ∀ x ∈ l, f x ≤ 1 + g x) : (l.map f).sum ≤ l.length + (l.map g).sum := by
  induction l with
  | nil => simp
  | cons a r ih =>
    have h1 := h a (List.mem_cons_self ..)
    have h2 := ih (fun x hx => h x (List.mem_cons_of_mem _ hx))
    simp only [List.map_cons, List.sum_cons, List.length_cons]
    omega
theorem Kt.nodes_le : ∀ (d : Nat) (x : Kx), Kt.nodes d (Kx.v d x) ≤ 1 + Kx.sz d x
  | 0, _ => Nat.zero_le _
  | d + 1, x => by
    have := Ky.sum_mono1 (l := x.keys) (f := fun y => Kt.nodes d (Kx.v d y)) (g := Kx.sz d) (fun y _ => Kt.nodes_le d y)
    rw [Kt.nodes_succ, Kx.sz_succ]
    omega

set_option maxHeartbeats 1600000 in
theorem l12Nodes_any (d : Nat) : ∀ (x : Kx) (w : World), Kx.In d w w.heap.size x → Kx.sz d x ≤ 1048576 →
    Calls Tryz.prog 39 #[x.val] w fun e w' => e = .returned (.int .i64 (Kt.nodes d (Kx.v d x) : Int)) ∧ Below w.heap.size w w' := by
  induction d with
  | zero => intro x w h; exact absurd h id
  | succ d ih =>
    intro x w h hz
    obtain ⟨ht, hs, hsc, hcm, hk, hkc, hkm, hin⟩ := h
    have HND := Lib.hid (Kt.nodes_succ d x)
    rw [Kx.sz_succ] at hz
    have HSM : Hid (∀ k y, x.keys[k]? = some y → ((x.keys.take (k + 1)).map fun y => Kt.nodes d (Kx.v d y)).sum = ((x.keys.take k).map fun y => Kt.nodes d (Kx.v d y)).sum + Kt.nodes d (Kx.v d y) ∧ ((x.keys.take (k + 1)).map fun y => Kt.nodes d (Kx.v d y)).sum ≤ 1048576) := Lib.hid fun k y hy => ⟨Ky.sum_snoc (fun y => Kt.nodes d (Kx.v d y)) hy, by
      have h1 := Ky.sum_mono1 (l := x.keys) (f := fun y => Kt.nodes d (Kx.v d y)) (g := Kx.sz d) (fun y _ => Kt.nodes_le d y)
      have h2 := Ky.sum_le (fun y => Kt.nodes d (Kx.v d y)) (us := x.keys) (k := k + 1)
      omega⟩
    have HZ : Hid (∀ y ∈ x.keys, Kx.sz d y ≤ 1048576) := Lib.hid fun y hy => by have := Ky.mem_le (Kx.sz d) hy; omega
    obtain ⟨kind, flag, text, A, set, c, KA, keys, kc⟩ := x
    simp only [Kx.keys, Kx.KA, Kx.kc] at hk hkc hkm hin HND HSM HZ
    simp only [Kx.val, Kx.kind, Kx.flag, Kx.text, Kx.set, Kx.keys, Kx.A, Kx.KA, Kx.c, Kx.kc]
    have hkl : keys.length ≤ maxLen := Nat.le_trans hkc hkm
    unfold maxLen at hkl
    have hB0 : Below w.heap.size w (w.alloc (.cells #[.int .i64 kind, .int .i64 flag, .string text, .slice A set.length c, .slice KA keys.length kc] 40)) := (Below.refl _ _).alloc (Nat.le_refl _) _
    have hx0 := heap_alloc_new w (.cells #[.int .i64 kind, .int .i64 flag, .string text, .slice A set.length c, .slice KA keys.length kc] 40)
    clear ht hs hsc hcm hkc hkm hz
    go_enter Tryz.func39, Tryz.ntmps39
    go_upto_region 1 with fail
    generalize w.alloc (.cells #[.int .i64 kind, .int .i64 flag, .string text, .slice A set.length c, .slice KA keys.length kc] 40) = w1 at hB0 hx0 ⊢
    obtain ⟨b, hb⟩ : ∃ b, b = w.heap.size := ⟨_, rfl⟩
    have hbw : w.heap.size ≤ b := by omega
    rw [← hb] at hx0 ⊢
    clear hb
    have hbl := (Array.getElem?_eq_some_iff.1 hx0).1
    have H1 : Hid (∀ w', Below w1.heap.size w1 w' → Below w.heap.size w w' ∧ w'.cell? ⟨b, 4, none⟩ = some (.slice KA keys.length kc)) := Lib.hid fun w' hb' => by
      have hx := (hb'.block b hbl).trans hx0
      exact ⟨hB0.trans (hb'.mono hB0.size), cell_at hx 4 _ rfl⟩
    have HA : Hid (∀ w', Below w.heap.size w w' → At w' w'.heap.size 5 Kx.cells KA keys ∧ ∀ y ∈ keys, Kx.In d w' w'.heap.size y) := Lib.hid fun w' hb' => ⟨At.mono (At.below hk hb') hb'.size, fun y hy => ((hin y hy).below hb').mono hb'.size⟩
    clear hB0 hx0 hk hin
    go_wp2_with fail
    go_loopg [3, 4] keys.length (fun g la i wr => ∃ (k : Nat), k ≤ keys.length ∧ Hid (g = keys.length - k) ∧ i = .int .i64 k ∧ la = .int .i64 ((1 + ((keys.take k).map fun y => Kt.nodes d (Kx.v d y)).sum : Nat) : Int) ∧ Below w1.heap.size w1 wr)
    case atStart => exact ⟨0, Nat.zero_le _, Lib.hid rfl, rfl, rfl, Below.refl _ _⟩
    case round =>
      obtain ⟨k, hk, HG, rfl, rfl, hb⟩ := hrel
      have b4 := (H1.out wr hb).2
      by_cases hlt : k < keys.length
      · have hki : (k : Int) < (keys.length : Int) := by omega
        obtain ⟨g, off, hA, hg, hc⟩ := keys_row (HA.out wr (H1.out wr hb).1).1 (by omega)
        subst hA
        obtain ⟨u, hu⟩ : ∃ u, keys[k]? = some u := ⟨_, List.getElem?_eq_getElem hlt⟩
        obtain ⟨d0, d1, d2, d3, d4⟩ := hc k u hu
        have HS := Lib.hid (ih u wr ((HA.out wr (H1.out wr hb).1).2 u (List.mem_of_getElem? hu)) (HZ.out u (List.mem_of_getElem? hu)))
        obtain ⟨s1, s2⟩ := HSM.out k u hu
        obtain ⟨x, hx⟩ : ∃ x : Nat, x = ((keys.take k).map fun y => Kt.nodes d (Kx.v d y)).sum := ⟨_, rfl⟩
        obtain ⟨y, hy⟩ : ∃ y : Nat, y = Kt.nodes d (Kx.v d u) := ⟨_, rfl⟩
        rw [← hy] at HS s1
        rw [← hx] at s1 ⊢
        have hxy : x + y ≤ 1048576 := by omega
        have HXY : Hid (1 + x + y = 1 + ((keys.take (k + 1)).map fun y => Kt.nodes d (Kx.v d y)).sum) := Lib.hid (by omega)
        clear hc hu s1 s2 hx hy
        go_wp2_with fail
        refine Calls.mono HS.out ?_
        rintro e w2 ⟨rfl, hb2⟩
        have hb12 := hb.trans (hb2.mono hb.size)
        clear hb2 d0 d1 d2 d3 d4 b4
        go_wp2_with fail
        go_roundg (keys.length - (k + 1))
        case measure => have := HG.out; omega
        case rel => exact ⟨k + 1, by omega, Lib.hid rfl, by go_num, by have := HXY.out; rw [← this]; go_num, hb12⟩
      · obtain rfl : k = keys.length := by omega
        have hki : ¬ (keys.length : Int) < (keys.length : Int) := by omega
        rw [List.take_length]
        go_wp2_with fail
        go_ret
        exact ⟨by rw [HND.out]; rfl, (H1.out wr hb).1⟩

set_option maxHeartbeats 1600000 in
theorem l12All_any (d : Nat) : ∀ (x : Kx) (w : World), Kx.In d w w.heap.size x →
    Calls Tryz.prog 38 #[x.val] w fun e w' => e = .returned (.bool (Kt.all d (Kx.v d x))) ∧ Below w.heap.size w w' := by
  induction d with
  | zero => intro x w h; exact absurd h id
  | succ d ih =>
    intro x w h
    obtain ⟨ht, hs, hsc, hcm, hk, hkc, hkm, hin⟩ := h
    have HND := Lib.hid (Kt.all_succ d x)
    obtain ⟨kind, flag, text, A, set, c, KA, keys, kc⟩ := x
    simp only [Kx.text, Kx.set, Kx.keys, Kx.A, Kx.KA, Kx.c, Kx.kc, Kx.kind, Kx.flag] at ht hs hsc hcm hk hkc hkm hin HND
    simp only [Kx.val, Kx.kind, Kx.flag, Kx.text, Kx.set, Kx.keys, Kx.A, Kx.KA, Kx.c, Kx.kc]
    have hkl : keys.length ≤ maxLen := Nat.le_trans hkc hkm
    have hkl2 := hkl
    unfold maxLen at hkl
    have hB0 : Below w.heap.size w (w.alloc (.cells #[.int .i64 kind, .int .i64 flag, .string text, .slice A set.length c, .slice KA keys.length kc] 40)) := (Below.refl _ _).alloc (Nat.le_refl _) _
    have hx0 := heap_alloc_new w (.cells #[.int .i64 kind, .int .i64 flag, .string text, .slice A set.length c, .slice KA keys.length kc] 40)
    have HNO := Lib.hid (fun (W : World) (hW : Below w.heap.size w W) => l12Node_any kind flag text A set c KA keys.length kc W ht (At.mono (At.below hs hW) hW.size) (Nat.le_trans hsc hcm) hkl2)
    clear ht hs hsc hcm hkc hkm hkl2
    go_enter Tryz.func38, Tryz.ntmps38
    go_upto_region 1 with fail
    generalize w.alloc (.cells #[.int .i64 kind, .int .i64 flag, .string text, .slice A set.length c, .slice KA keys.length kc] 40) = w1 at hB0 hx0 ⊢
    obtain ⟨b, hb⟩ : ∃ b, b = w.heap.size := ⟨_, rfl⟩
    have hbw : w.heap.size ≤ b := by omega
    rw [← hb] at hx0 ⊢
    clear hb
    have hbl := (Array.getElem?_eq_some_iff.1 hx0).1
    have H1 : Hid (∀ w', Below w1.heap.size w1 w' → Below w.heap.size w w' ∧ w'.cell? ⟨b, 4, none⟩ = some (.slice KA keys.length kc)) := Lib.hid fun w' hb' => by
      have hx := (hb'.block b hbl).trans hx0
      exact ⟨hB0.trans (hb'.mono hB0.size), cell_at hx 4 _ rfl⟩
    have H2 : Hid (∀ w', Below w1.heap.size w1 w' → w'.cell? ⟨b, 0, none⟩ = some (.int .i64 kind) ∧ w'.cell? ⟨b, 1, none⟩ = some (.int .i64 flag) ∧ w'.cell? ⟨b, 2, none⟩ = some (.string text) ∧ w'.cell? ⟨b, 3, none⟩ = some (.slice A set.length c)) := Lib.hid fun w' hb' => by
      have hx := (hb'.block b hbl).trans hx0
      exact ⟨cell_at hx 0 _ rfl, cell_at hx 1 _ rfl, cell_at hx 2 _ rfl, cell_at hx 3 _ rfl⟩
    have HA : Hid (∀ w', Below w.heap.size w w' → At w' w'.heap.size 5 Kx.cells KA keys ∧ ∀ y ∈ keys, Kx.In d w' w'.heap.size y) := Lib.hid fun w' hb' => ⟨At.mono (At.below hk hb') hb'.size, fun y hy => ((hin y hy).below hb').mono hb'.size⟩
    clear hB0 hx0 hk hin
    go_wp2_with fail
    go_loopg [3] keys.length (fun g i wr => ∃ (k : Nat), k ≤ keys.length ∧ Hid (g = keys.length - k) ∧ i = .int .i64 k ∧ Hid (∀ j y, j < k → keys[j]? = some y → Kt.all d (Kx.v d y) = true) ∧ Below w1.heap.size w1 wr)
    case atStart => exact ⟨0, Nat.zero_le _, Lib.hid rfl, rfl, Lib.hid (fun j y hj => absurd hj (by omega)), Below.refl _ _⟩
    case round =>
      obtain ⟨k, hk, HG, rfl, HQ, hb⟩ := hrel
      have b4 := (H1.out wr hb).2
      by_cases hlt : k < keys.length
      · have hki : (k : Int) < (keys.length : Int) := by omega
        obtain ⟨g, off, hA, hg, hc⟩ := keys_row (HA.out wr (H1.out wr hb).1).1 (by omega)
        subst hA
        obtain ⟨u, hu⟩ : ∃ u, keys[k]? = some u := ⟨_, List.getElem?_eq_getElem hlt⟩
        obtain ⟨d0, d1, d2, d3, d4⟩ := hc k u hu
        have HU := Lib.hid hu
        have hcall := ih u wr ((HA.out wr (H1.out wr hb).1).2 u (List.mem_of_getElem? hu))
        clear hc hu
        cases hq : Kt.all d (Kx.v d u)
        · rw [hq] at hcall
          have HS := Lib.hid hcall
          have HR : Hid (Kt.all (d + 1) (Kx.v (d + 1) (Kx.mk kind flag text A set c (some ⟨g, off, none⟩) keys kc)) = false) := Lib.hid (by
            rw [HND.out]
            have : (keys.all fun y => Kt.all d (Kx.v d y)) = false := by
              rw [List.all_eq_false]
              exact ⟨u, List.mem_of_getElem? HU.out, by rw [hq]; decide⟩
            rw [this, Bool.false_and])
          clear hcall hq
          go_wp2_with fail
          refine Calls.mono HS.out ?_
          rintro e w2 ⟨rfl, hb2⟩
          have hb12 := hb.trans (hb2.mono hb.size)
          clear hb2 d0 d1 d2 d3 d4 b4
          go_wp2_with fail
          go_ret
          exact ⟨by rw [HR.out]; rfl, (H1.out _ hb12).1⟩
        · rw [hq] at hcall
          have HS := Lib.hid hcall
          have HQ2 := Lib.hid hq
          clear hcall hq
          go_wp2_with fail
          refine Calls.mono HS.out ?_
          rintro e w2 ⟨rfl, hb2⟩
          have hb12 := hb.trans (hb2.mono hb.size)
          clear hb2 d0 d1 d2 d3 d4 b4
          go_wp2_with fail
          go_roundg (keys.length - (k + 1))
          case measure => have := HG.out; omega
          case rel =>
            refine ⟨k + 1, by omega, Lib.hid rfl, by go_num, Lib.hid (fun j v hj hv => ?_), hb12⟩
            rcases Nat.lt_or_ge j k with h' | h'
            · exact HQ.out j v h' hv
            · have e : j = k := by omega
              subst e
              have e2 : u = v := Option.some.inj (HU.out.symm.trans hv)
              rw [← e2]
              exact HQ2.out
      · obtain rfl : k = keys.length := by omega
        have hki : ¬ (keys.length : Int) < (keys.length : Int) := by omega
        obtain ⟨b0, b1, b2, b3⟩ := H2.out wr hb
        have HR : Hid (Kt.all (d + 1) (Kx.v (d + 1) (Kx.mk kind flag text A set c KA keys kc)) = Ky.nodeOk kind flag text set keys.length) := Lib.hid (by
          rw [HND.out]
          have : (keys.all fun y => Kt.all d (Kx.v d y)) = true := by
            rw [List.all_eq_true]
            intro y hy
            obtain ⟨i, hil, rfl⟩ := List.getElem_of_mem hy
            exact HQ.out i _ hil (List.getElem?_eq_getElem hil)
          rw [this, Bool.true_and])
        have HB := Lib.hid (H1.out wr hb).1
        go_wp2_with fail
        refine Calls.mono (HNO.out _ HB.out) ?_
        rintro e w2 ⟨rfl, hb2⟩
        have HB2 := Lib.hid (HB.out.trans (hb2.mono HB.out.size))
        clear hb2
        go_wp2_with fail
        go_ret
        exact ⟨by rw [HR.out]; rfl, HB2.out⟩

set_option maxHeartbeats 1600000 in
theorem sKeyValid_any (d : Nat) (x : Kx) (w : World) (h : Kx.In d w w.heap.size x) (hz : Kx.sz d x ≤ 1048576) :
    Calls Tryz.prog 21 #[x.val] w fun e w' => e = .returned (.bool (Kt.ok d (Kx.v d x))) ∧ Below w.heap.size w w' := by
  have hnl := Kt.nodes_le d x
  have HA := Lib.hid (fun W (hW : Below w.heap.size w W) => l12All_any d x W ((h.below hW).mono hW.size))
  have HN := Lib.hid (fun W (hW : Below w.heap.size w W) => l12Nodes_any d x W ((h.below hW).mono hW.size) hz)
  have HOK : Hid (Kt.ok d (Kx.v d x) = (Kt.all d (Kx.v d x) && decide (Kt.nodes d (Kx.v d x) ≤ 9))) := Lib.hid rfl
  obtain ⟨n, hn⟩ : ∃ n : Nat, n = Kt.nodes d (Kx.v d x) := ⟨_, rfl⟩
  obtain ⟨a, ha⟩ : ∃ a : Bool, a = Kt.all d (Kx.v d x) := ⟨_, rfl⟩
  rw [← hn] at HN HOK hnl
  rw [← ha] at HA HOK
  have hn1 : n ≤ 1048577 := by omega
  clear hn ha hnl hz h
  generalize Kt.ok d (Kx.v d x) = r at HOK ⊢
  obtain ⟨kind, flag, text, A, set, c, KA, keys, kc⟩ := x
  simp only [Kx.val, Kx.kind, Kx.flag, Kx.text, Kx.set, Kx.keys, Kx.A, Kx.KA, Kx.c, Kx.kc] at HA HN ⊢
  have hB0 : Below w.heap.size w (w.alloc (.cells #[.int .i64 kind, .int .i64 flag, .string text, .slice A set.length c, .slice KA keys.length kc] 40)) := (Below.refl _ _).alloc (Nat.le_refl _) _
  have hx0 := heap_alloc_new w (.cells #[.int .i64 kind, .int .i64 flag, .string text, .slice A set.length c, .slice KA keys.length kc] 40)
  have HB := Lib.hid hB0
  have HX := Lib.hid hx0
  clear hB0 hx0
  cases a
  · go_enter Tryz.func21, Tryz.ntmps21
    go_wp2_with fail
    refine Calls.mono (HA.out _ HB.out) ?_
    rintro e w2 ⟨rfl, hb2⟩
    have HB2 := Lib.hid (HB.out.trans (hb2.mono HB.out.size))
    clear hb2
    go_wp2_with fail
    go_ret
    exact ⟨by rw [HOK.out]; rfl, HB2.out⟩
  · have hnn : decide ((n : Int) ≤ 9) = decide (n ≤ 9) := by rw [decide_eq_decide]; omega
    have HNN := Lib.hid hnn
    clear hnn
    go_enter Tryz.func21, Tryz.ntmps21
    go_wp2_with fail
    refine Calls.mono (HA.out _ HB.out) ?_
    rintro e w2 ⟨rfl, hb2⟩
    have HB2 := Lib.hid (HB.out.trans (hb2.mono HB.out.size))
    have hx := (hb2.block w.heap.size (by simp)).trans HX.out
    have b0 := cell_at hx 0 _ rfl
    have b1 := cell_at hx 1 _ rfl
    have b2 := cell_at hx 2 _ rfl
    have b3 := cell_at hx 3 _ rfl
    have b4 := cell_at hx 4 _ rfl
    clear hb2 hx
    go_wp2_with fail
    refine Calls.mono (HN.out _ HB2.out) ?_
    rintro e w3 ⟨rfl, hb3⟩
    have HB3 := Lib.hid (HB2.out.trans (hb3.mono HB2.out.size))
    clear hb3
    go_wp2_with fail
    go_ret
    exact ⟨by rw [HOK.out, Bool.true_and, ← HNN.out]; rfl, HB3.out⟩
end Go.Proofs.YtmlmdpdboigojaaGreatDoor
