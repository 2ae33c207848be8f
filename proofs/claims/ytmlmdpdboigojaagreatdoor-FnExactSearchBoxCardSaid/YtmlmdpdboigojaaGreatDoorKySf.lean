/- l12Finds of the specification. -/
import Derived.Test.YtmlmdpdboigojaaGreatDoorKyAll
import Derived.Test.YtmlmdpdboigojaaGreatDoorTlW
import Derived.Stop.RegionWithIn
import Derived.Deep.RegionHeld3
namespace Go.Proofs.YtmlmdpdboigojaaGreatDoor
set_option linter.unusedVariables false
open Go.RowKit

theorem Kt.all_parts {d : Nat} {x : Kx} (h : Kt.all (d + 1) (Kx.v (d + 1) x) = true) : (∀ y ∈ x.keys, Kt.all d (Kx.v d y) = true) ∧ Ky.inner x.kind x.flag x.text x.set x.keys.length = true := by
  rw [Kt.all_succ, Bool.and_eq_true, List.all_eq_true] at h
  refine ⟨h.1, ?_⟩
  have h2 := h.2
  unfold Ky.nodeOk at h2
  rw [Bool.and_eq_true] at h2
  exact h2.2
theorem Kt.finds_succ (ms : List Ml) (m : Ml) (i d : Nat) (kind flag : Int) (text : ByteArray) (A : Option Addr) (set : List Sn) (c : Nat) (KA : Option Addr) (keys : List Kx) (kc : Nat) : Kt.finds ms m i (d + 1) (Kx.v (d + 1) (Kx.mk kind flag text A set c KA keys kc)) =
    (if kind = 1 then decide (m.flags / flag % 2 = 1)
    else if kind = 2 then Lib.contains m.text.data.toList text.data.toList
    else if kind = 3 then Ky.has set ms.length ((i : Int) + 1)
    else if kind = 4 then Ky.has set (Ky.lastUid ms) m.uid
    else if kind = 5 then (match keys.map (Kx.v d) with | [a] => !Kt.finds ms m i d a | _ => true)
    else if kind = 6 then (match keys.map (Kx.v d) with | [a, b] => Kt.finds ms m i d a && Kt.finds ms m i d b | _ => true)
    else if kind = 7 then (match keys.map (Kx.v d) with | [a, b] => Kt.finds ms m i d a || Kt.finds ms m i d b | _ => true)
    else true) := rfl

theorem Ky.list1 {α : Type} {l : List α} (h : l.length = 1) : ∃ a, l = [a] := List.length_eq_one_iff.1 h
theorem Ky.list2 {α : Type} {l : List α} (h : l.length = 2) : ∃ a b, l = [a, b] := by
  match l, h with
  | [a, b], _ => exact ⟨a, b, rfl⟩

set_option maxHeartbeats 6400000 in
theorem l12Finds_any (nx : Int) (BA : Option Addr) (ms : List Ml) (bc : Nat) (hms : ∀ m ∈ ms, Ky.mailOk m = true) (hl : ms.length ≤ 10) (i : Nat) (m : Ml) (hi : ms[i]? = some m) (d : Nat) : ∀ (x : Kx) (w : World), AtMails w w.heap.size BA ms → Kx.In d w w.heap.size x → Kt.all d (Kx.v d x) = true →
    Calls Tryz.prog 22 #[.agg #[.int .i64 nx, .slice BA ms.length bc], x.val, .int .i64 (i : Int)] w fun e w' => e = .returned (.bool (Kt.finds ms m i d (Kx.v d x))) ∧ Below w.heap.size w w' := by
  have hil : i < ms.length := (List.getElem?_eq_some_iff.1 hi).1
  have hii : (i : Int) < (ms.length : Int) := by omega
  have hli : (ms.length : Int) ≤ 10 := by omega
  have hmo := hms m (List.mem_of_getElem? hi)
  unfold Ky.mailOk at hmo
  simp only [Bool.and_eq_true, decide_eq_true_eq] at hmo
  obtain ⟨⟨hu, hfl⟩, htx⟩ := hmo
  have HI := Lib.hid hi
  have HMS := Lib.hid hms
  have HFL := Lib.hid hfl
  clear hi hms hfl
  induction d with
  | zero => intro x w _ h; exact absurd h id
  | succ d ih =>
    intro x w hm h hall
    obtain ⟨hchild, hinn⟩ := Kt.all_parts hall
    obtain ⟨ht, hs, hsc, hcm, hk, hkc, hkm, hin⟩ := h
    obtain ⟨kind, flag, text, A, set, c, KA, keys, kc⟩ := x
    have HF := Lib.hid (Kt.finds_succ ms m i d kind flag text A set c KA keys kc)
    simp only [Kx.text, Kx.set, Kx.keys, Kx.A, Kx.KA, Kx.c, Kx.kc, Kx.kind, Kx.flag] at ht hs hsc hcm hk hkc hkm hin hchild hinn
    simp only [Kx.val, Kx.kind, Kx.flag, Kx.text, Kx.set, Kx.keys, Kx.A, Kx.KA, Kx.c, Kx.kc]
    obtain ⟨r, hr⟩ : ∃ r, r = Kt.finds ms m i (d + 1) (Kx.v (d + 1) (Kx.mk kind flag text A set c KA keys kc)) := ⟨_, rfl⟩
    rw [← hr] at HF ⊢
    clear hr hall
    obtain ⟨g, off, hBA, hg, hc⟩ := AtMails.row hm (by omega)
    subst hBA
    obtain ⟨d0, d1, d2⟩ := hc i m HI.out
    clear hc
    have hmg : ∀ W : World, Below w.heap.size w W → AtMails W W.heap.size (some ⟨g, off, none⟩) ms := fun W hb => At.mono (At.below hm hb) hb.size
    have HMG := Lib.hid hmg
    clear hmg hm
    go_enter Tryz.func22, Tryz.ntmps22
    go_upto_region 2 with fail
    have hB : Below w.heap.size w (((w.alloc (.cells #[.int .i64 nx, .slice (some ⟨g, off, none⟩) ms.length bc] 35)).alloc (.cells #[.int .i64 kind, .int .i64 flag, .string text, .slice A set.length c, .slice KA keys.length kc] 40)).alloc (.cells #[.int .i64 m.uid, .int .i64 m.flags, .string m.text] 74)) := by go_grown
    have hx3 : (((w.alloc (.cells #[.int .i64 nx, .slice (some ⟨g, off, none⟩) ms.length bc] 35)).alloc (.cells #[.int .i64 kind, .int .i64 flag, .string text, .slice A set.length c, .slice KA keys.length kc] 40)).alloc (.cells #[.int .i64 m.uid, .int .i64 m.flags, .string m.text] 74)).heap[w.heap.size]? = some (.cells #[.int .i64 nx, .slice (some ⟨g, off, none⟩) ms.length bc] 35 (0, 0)) := (Below.heap_alloc _ _ _ (by simp; omega)).trans ((Below.heap_alloc _ _ _ (by simp)).trans (heap_alloc_new w _))
    have hx4 : (((w.alloc (.cells #[.int .i64 nx, .slice (some ⟨g, off, none⟩) ms.length bc] 35)).alloc (.cells #[.int .i64 kind, .int .i64 flag, .string text, .slice A set.length c, .slice KA keys.length kc] 40)).alloc (.cells #[.int .i64 m.uid, .int .i64 m.flags, .string m.text] 74)).heap[w.heap.size + 1]? = some (.cells #[.int .i64 kind, .int .i64 flag, .string text, .slice A set.length c, .slice KA keys.length kc] 40 (0, 0)) := (Below.heap_alloc _ _ _ (by simp)).trans (by simpa using heap_alloc_new (w.alloc _) (.cells #[.int .i64 kind, .int .i64 flag, .string text, .slice A set.length c, .slice KA keys.length kc] 40))
    have hx7 : (((w.alloc (.cells #[.int .i64 nx, .slice (some ⟨g, off, none⟩) ms.length bc] 35)).alloc (.cells #[.int .i64 kind, .int .i64 flag, .string text, .slice A set.length c, .slice KA keys.length kc] 40)).alloc (.cells #[.int .i64 m.uid, .int .i64 m.flags, .string m.text] 74)).heap[w.heap.size + 1 + 1]? = some (.cells #[.int .i64 m.uid, .int .i64 m.flags, .string m.text] 74 (0, 0)) := by simpa using heap_alloc_new ((w.alloc _).alloc _) (.cells #[.int .i64 m.uid, .int .i64 m.flags, .string m.text] 74)
    generalize (((w.alloc (.cells #[.int .i64 nx, .slice (some ⟨g, off, none⟩) ms.length bc] 35)).alloc (.cells #[.int .i64 kind, .int .i64 flag, .string text, .slice A set.length c, .slice KA keys.length kc] 40)).alloc (.cells #[.int .i64 m.uid, .int .i64 m.flags, .string m.text] 74)) = w3 at hB hx3 hx4 hx7 ⊢
    obtain ⟨b3, hb3⟩ : ∃ b, b = w.heap.size := ⟨_, rfl⟩
    obtain ⟨b4, hb4⟩ : ∃ b, b = w.heap.size + 1 := ⟨_, rfl⟩
    obtain ⟨b7, hb7⟩ : ∃ b, b = w.heap.size + 1 + 1 := ⟨_, rfl⟩
    rw [← hb7, ← hb4, ← hb3]
    rw [← hb3] at hx3
    rw [← hb4] at hx4
    rw [← hb7] at hx7
    clear hb3 hb4 hb7
    have s0 := hB.size
    have l3 := (Array.getElem?_eq_some_iff.1 hx3).1
    have l4 := (Array.getElem?_eq_some_iff.1 hx4).1
    have l7 := (Array.getElem?_eq_some_iff.1 hx7).1
    have H3 : Hid (∀ W, Below w3.heap.size w3 W → Below w.heap.size w W ∧ W.cell? ⟨b3, 0, none⟩ = some (.int .i64 nx) ∧ W.cell? ⟨b3, 1, none⟩ = some (.slice (some ⟨g, off, none⟩) ms.length bc)) := Lib.hid fun W hb => by
      have hx := (hb.block b3 l3).trans hx3
      exact ⟨hB.trans (hb.mono hB.size), cell_at hx 0 _ rfl, cell_at hx 1 _ rfl⟩
    have H4 : Hid (∀ W, Below w3.heap.size w3 W → W.cell? ⟨b4, 0, none⟩ = some (.int .i64 kind) ∧ W.cell? ⟨b4, 1, none⟩ = some (.int .i64 flag) ∧ W.cell? ⟨b4, 2, none⟩ = some (.string text) ∧ W.cell? ⟨b4, 3, none⟩ = some (.slice A set.length c) ∧ W.cell? ⟨b4, 4, none⟩ = some (.slice KA keys.length kc)) := Lib.hid fun W hb => by
      have hx := (hb.block b4 l4).trans hx4
      exact ⟨cell_at hx 0 _ rfl, cell_at hx 1 _ rfl, cell_at hx 2 _ rfl, cell_at hx 3 _ rfl, cell_at hx 4 _ rfl⟩
    have H7 : Hid (∀ W, Below w3.heap.size w3 W → W.cell? ⟨b7, 0, none⟩ = some (.int .i64 m.uid) ∧ W.cell? ⟨b7, 1, none⟩ = some (.int .i64 m.flags) ∧ W.cell? ⟨b7, 2, none⟩ = some (.string m.text)) := Lib.hid fun W hb => by
      have hx := (hb.block b7 l7).trans hx7
      exact ⟨cell_at hx 0 _ rfl, cell_at hx 1 _ rfl, cell_at hx 2 _ rfl⟩
    have HS : Hid (∀ W, Below w.heap.size w W → AtSet W W.heap.size A set) := Lib.hid fun W hb => At.mono (At.below hs hb) hb.size
    have HK : Hid (∀ W, Below w.heap.size w W → At W W.heap.size 5 Kx.cells KA keys ∧ ∀ y ∈ keys, Kx.In d W W.heap.size y) := Lib.hid fun W hb => ⟨At.mono (At.below hk hb) hb.size, fun y hy => ((hin y hy).below hb).mono hb.size⟩
    have HB := Lib.hid hB
    have HCH := Lib.hid hchild
    have HSL := Lib.hid (Nat.le_trans hsc hcm)
    have HT := Lib.hid ht
    clear hB hx3 hx4 hx7 d0 d1 d2 hs hk hin hchild hsc hcm hkc hkm ht
    obtain ⟨p0, p1, p2, p3, p4⟩ := H4.out w3 (Below.refl _ _)
    obtain ⟨q0, q1, q2⟩ := H7.out w3 (Below.refl _ _)
    obtain ⟨_, r0, r1⟩ := H3.out w3 (Below.refl _ _)
    have hfin : ∀ W, Below w3.heap.size w3 W → Below w.heap.size w W := fun W hb => (H3.out W hb).1
    have HFIN := Lib.hid hfin
    clear hfin
    by_cases k1 : kind = 1
    · subst k1
      have hif : Ky.flagOne flag = true := by
        have : (Ky.flagOne flag && keys.length == 0) = true := hinn
        rw [Bool.and_eq_true] at this
        exact this.1
      have HR : Hid (r = decide (m.flags / flag % 2 = 1)) := Lib.hid HF.out
      have hfo := HFL.out
      unfold Ky.flagsOk at hfo
      simp only [Bool.and_eq_true, decide_eq_true_eq] at hfo
      unfold Ky.flagOne at hif
      simp only [Bool.or_eq_true, beq_iff_eq] at hif
      clear hinn
      rcases hif with (((rfl | rfl) | rfl) | rfl) | rfl
      · have HR2 : Hid (r = (m.flags % 2 == 1)) := Lib.hid (by rw [HR.out, Int.ediv_one]; rfl)
        go_wp2_with fail
        go_ret
        exact ⟨by rw [HR2.out]; rfl, HB.out⟩
      · have HR2 : Hid (r = (m.flags / 2 % 2 == 1)) := Lib.hid HR.out
        go_wp2_with fail
        go_ret
        exact ⟨by rw [HR2.out]; rfl, HB.out⟩
      · have HR2 : Hid (r = (m.flags / 4 % 2 == 1)) := Lib.hid HR.out
        go_wp2_with fail
        go_ret
        exact ⟨by rw [HR2.out]; rfl, HB.out⟩
      · have HR2 : Hid (r = (m.flags / 8 % 2 == 1)) := Lib.hid HR.out
        go_wp2_with fail
        go_ret
        exact ⟨by rw [HR2.out]; rfl, HB.out⟩
      · have HR2 : Hid (r = (m.flags / 16 % 2 == 1)) := Lib.hid HR.out
        go_wp2_with fail
        go_ret
        exact ⟨by rw [HR2.out]; rfl, HB.out⟩
    · by_cases k2 : kind = 2
      · subst k2
        have HR : Hid (r = Lib.contains m.text.data.toList text.data.toList) := Lib.hid HF.out
        have hno : Nm.nameOk text.data.toList = true := by
          have : (Nm.nameOk text.data.toList && keys.length == 0) = true := hinn
          rw [Bool.and_eq_true] at this
          exact this.1
        obtain ⟨n1, n2⟩ := Ky.name_len hno
        have HC := Lib.hid (l12Contains_any m.text text w3 (by omega) (by omega) n1)
        clear hinn hno n1 n2
        go_wp2_with fail
        refine Calls.mono HC.out ?_
        rintro e w5 ⟨rfl, rfl⟩
        go_wp2_with fail
        go_ret
        exact ⟨by rw [HR.out]; rfl, HB.out⟩
      · by_cases k3 : kind = 3
        · subst k3
          have HR : Hid (r = Ky.has set ms.length ((i : Int) + 1)) := Lib.hid HF.out
          have HC := Lib.hid (l3Has_any A set c (ms.length : Int) ((i : Int) + 1) w3 (HS.out _ HB.out) HSL.out)
          clear hinn
          go_wp2_with fail
          refine Calls.mono HC.out ?_
          rintro e w5 ⟨rfl, rfl⟩
          go_wp2_with fail
          go_ret
          exact ⟨by rw [HR.out]; rfl, HB.out⟩
        · by_cases k4 : kind = 4
          · subst k4
            obtain ⟨k, hk⟩ : ∃ k, ms.length = k + 1 := ⟨ms.length - 1, by omega⟩
            obtain ⟨u, hu⟩ : ∃ u, ms[k]? = some u := ⟨_, List.getElem?_eq_getElem (by omega)⟩
            have HR : Hid (r = Ky.has set u.uid m.uid) := Lib.hid (HF.out.trans (by
              have : Ky.lastUid ms = u.uid := by
                unfold Ky.lastUid
                rw [List.getLast?_eq_getElem?, hk, Nat.add_sub_cancel, hu]; rfl
              rw [← this]; rfl))
            obtain ⟨g2, off2, e2, hg2, hc2⟩ := AtMails.row (HMG.out w3 HB.out) (by omega)
            injection e2 with e2
            injection e2 with e2 e3
            subst e2 e3
            obtain ⟨v0, _, _⟩ := hc2 k u hu
            have HC : Hid (∀ W : World, W.heap = w3.heap → Calls Tryz.prog 41 #[.slice A set.length c, .int .i64 u.uid, .int .i64 m.uid] W fun e w' => e = .returned (.bool (Ky.has set u.uid m.uid)) ∧ w' = W) := Lib.hid fun W hW => (l3Has_any A set c u.uid m.uid W ((HS.out _ HB.out).keep (fun i _ => by rw [hW]) |> fun h => At.mono h (by rw [hW]; exact Nat.le_refl _)) HSL.out).mono fun e w' h => ⟨h.1, h.2.symm⟩
            have hk9 : k ≤ 9 := by omega
            have hk1 : ((k + 1 : Nat) : Int) - 1 = (k : Int) := by omega
            rw [hk] at r1 ⊢
            clear hinn hc2 hk hu hii hil hli hl
            go_wp2_with fail
            go_quiet ((go_at_call 41; exact Calls.quiet_of_same (HC.out _ rfl)))
            go_wp2_with fail
            go_ret
            exact ⟨by rw [HR.out]; rfl, HFIN.out _ (below_drewN (Below.refl _ _) _)⟩
          · by_cases k5 : kind = 5
            · subst k5
              obtain ⟨a, hka⟩ : ∃ a, keys = [a] := Ky.list1 (by have h9 : (keys.length == 1) = true := hinn; simpa using h9)
              have hlen : keys.length = 1 := by rw [hka]; rfl
              have HR : Hid (r = (!Kt.finds ms m i d (Kx.v d a))) := Lib.hid (HF.out.trans (by rw [hka]; rfl))
              obtain ⟨kg, ko, eK, hkg, hkc⟩ := keys_row (HK.out w3 HB.out).1 (by omega)
              subst eK
              obtain ⟨ea0, ea1, ea2, ea3, ea4⟩ := hkc 0 a (by rw [hka]; rfl)
              simp only [Nat.zero_mul, Nat.add_zero] at ea0 ea1 ea2 ea3 ea4
              have HCa : Hid (∀ W, Below w3.heap.size w3 W → Calls Tryz.prog 22 #[.agg #[.int .i64 nx, .slice (some ⟨g, off, none⟩) ms.length bc], a.val, .int .i64 (i : Int)] W fun e w' => e = .returned (.bool (Kt.finds ms m i d (Kx.v d a))) ∧ Below W.heap.size W w') := Lib.hid fun W hb => ih a W (HMG.out W (HFIN.out W hb)) ((HK.out W (HFIN.out W hb)).2 a (by rw [hka]; simp)) (HCH.out a (by rw [hka]; simp))
              rw [hlen] at p4 ⊢
              have HSS : Hid (∀ w', Below w3.heap.size w3 w' → (w'.cell? ⟨b3, 0, none⟩ = some (.int .i64 nx) ∧ w'.cell? ⟨b3, 1, none⟩ = some (.slice (some ⟨g, off, none⟩) ms.length bc) ∧ w'.cell? ⟨b4, 4, none⟩ = some (.slice (some ⟨kg, ko, none⟩) 1 kc)) ∧ (w'.cell? ⟨kg, ko, none⟩ = some (.int .i64 a.kind) ∧ w'.cell? ⟨kg, ko + 1, none⟩ = some (.int .i64 a.flag) ∧ w'.cell? ⟨kg, ko + 2, none⟩ = some (.string a.text) ∧ w'.cell? ⟨kg, ko + 3, none⟩ = some (.slice a.A a.set.length a.c) ∧ w'.cell? ⟨kg, ko + 4, none⟩ = some (.slice a.KA a.keys.length a.kc))) := Lib.hid fun w' hb => ⟨⟨(hb.cell (p := ⟨b3, 0, none⟩) l3).trans r0, (hb.cell (p := ⟨b3, 1, none⟩) l3).trans r1, (hb.cell (p := ⟨b4, 4, none⟩) l4).trans p4⟩, ⟨(hb.cell (p := ⟨kg, ko, none⟩) hkg).trans ea0, (hb.cell (p := ⟨kg, ko + 1, none⟩) hkg).trans ea1, (hb.cell (p := ⟨kg, ko + 2, none⟩) hkg).trans ea2, (hb.cell (p := ⟨kg, ko + 3, none⟩) hkg).trans ea3, (hb.cell (p := ⟨kg, ko + 4, none⟩) hkg).trans ea4⟩⟩
              clear hinn hkc hka hlen
              generalize Kt.finds ms m i d (Kx.v d a) = fa at HR HCa
              go_wp2_with fail
              go_region_held3 (fun w' => (w'.cell? ⟨b3, 0, none⟩ = some (.int .i64 nx) ∧ w'.cell? ⟨b3, 1, none⟩ = some (.slice (some ⟨g, off, none⟩) ms.length bc) ∧ w'.cell? ⟨b4, 4, none⟩ = some (.slice (some ⟨kg, ko, none⟩) 1 kc)) ∧ (w'.cell? ⟨kg, ko, none⟩ = some (.int .i64 a.kind) ∧ w'.cell? ⟨kg, ko + 1, none⟩ = some (.int .i64 a.flag) ∧ w'.cell? ⟨kg, ko + 2, none⟩ = some (.string a.text) ∧ w'.cell? ⟨kg, ko + 3, none⟩ = some (.slice a.A a.set.length a.c) ∧ w'.cell? ⟨kg, ko + 4, none⟩ = some (.slice a.KA a.keys.length a.kc))) (first | exact HSS.out _ (below_drewN (Below.refl _ _) 1) | exact HSS.out _ hb5 | exact HSS.out _ hb6) ((go_at_call 22; refine Calls.mono (HCa.out _ (below_drewN (Below.refl _ _) 1)) ?_; rintro e w5 ⟨rfl, hb50⟩; have hb5 : Below w3.heap.size w3 w5 := (below_drewN (Below.refl _ _) 1).trans hb50))
              all_goals
                go_wp2_with fail
                go_ret
                exact ⟨by rw [HR.out]; rfl, HFIN.out _ hb5⟩
            · by_cases k6 : kind = 6
              · subst k6
                obtain ⟨a, b, hka⟩ : ∃ a b, keys = [a, b] := Ky.list2 (by have h9 : (keys.length == 2) = true := hinn; simpa using h9)
                have hlen : keys.length = 2 := by rw [hka]; rfl
                have HR : Hid (r = (Kt.finds ms m i d (Kx.v d a) && Kt.finds ms m i d (Kx.v d b))) := Lib.hid (HF.out.trans (by rw [hka]; rfl))
                obtain ⟨kg, ko, eK, hkg, hkc⟩ := keys_row (HK.out w3 HB.out).1 (by omega)
                subst eK
                obtain ⟨ea0, ea1, ea2, ea3, ea4⟩ := hkc 0 a (by rw [hka]; rfl)
                simp only [Nat.zero_mul, Nat.add_zero] at ea0 ea1 ea2 ea3 ea4
                have HCa : Hid (∀ W, Below w3.heap.size w3 W → Calls Tryz.prog 22 #[.agg #[.int .i64 nx, .slice (some ⟨g, off, none⟩) ms.length bc], a.val, .int .i64 (i : Int)] W fun e w' => e = .returned (.bool (Kt.finds ms m i d (Kx.v d a))) ∧ Below W.heap.size W w') := Lib.hid fun W hb => ih a W (HMG.out W (HFIN.out W hb)) ((HK.out W (HFIN.out W hb)).2 a (by rw [hka]; simp)) (HCH.out a (by rw [hka]; simp))
                obtain ⟨eb0, eb1, eb2, eb3, eb4⟩ := hkc 1 b (by rw [hka]; rfl)
                simp only [Nat.one_mul] at eb0 eb1 eb2 eb3 eb4
                have HCb : Hid (∀ W, Below w3.heap.size w3 W → Calls Tryz.prog 22 #[.agg #[.int .i64 nx, .slice (some ⟨g, off, none⟩) ms.length bc], b.val, .int .i64 (i : Int)] W fun e w' => e = .returned (.bool (Kt.finds ms m i d (Kx.v d b))) ∧ Below W.heap.size W w') := Lib.hid fun W hb => ih b W (HMG.out W (HFIN.out W hb)) ((HK.out W (HFIN.out W hb)).2 b (by rw [hka]; simp)) (HCH.out b (by rw [hka]; simp))
                rw [hlen] at p4 ⊢
                have HSS : Hid (∀ w', Below w3.heap.size w3 w' → (w'.cell? ⟨b3, 0, none⟩ = some (.int .i64 nx) ∧ w'.cell? ⟨b3, 1, none⟩ = some (.slice (some ⟨g, off, none⟩) ms.length bc) ∧ w'.cell? ⟨b4, 4, none⟩ = some (.slice (some ⟨kg, ko, none⟩) 2 kc)) ∧ (w'.cell? ⟨kg, ko, none⟩ = some (.int .i64 a.kind) ∧ w'.cell? ⟨kg, ko + 1, none⟩ = some (.int .i64 a.flag) ∧ w'.cell? ⟨kg, ko + 2, none⟩ = some (.string a.text) ∧ w'.cell? ⟨kg, ko + 3, none⟩ = some (.slice a.A a.set.length a.c) ∧ w'.cell? ⟨kg, ko + 4, none⟩ = some (.slice a.KA a.keys.length a.kc)) ∧ (w'.cell? ⟨kg, ko + 5, none⟩ = some (.int .i64 b.kind) ∧ w'.cell? ⟨kg, ko + 5 + 1, none⟩ = some (.int .i64 b.flag) ∧ w'.cell? ⟨kg, ko + 5 + 2, none⟩ = some (.string b.text) ∧ w'.cell? ⟨kg, ko + 5 + 3, none⟩ = some (.slice b.A b.set.length b.c) ∧ w'.cell? ⟨kg, ko + 5 + 4, none⟩ = some (.slice b.KA b.keys.length b.kc))) := Lib.hid fun w' hb => ⟨⟨(hb.cell (p := ⟨b3, 0, none⟩) l3).trans r0, (hb.cell (p := ⟨b3, 1, none⟩) l3).trans r1, (hb.cell (p := ⟨b4, 4, none⟩) l4).trans p4⟩, ⟨(hb.cell (p := ⟨kg, ko, none⟩) hkg).trans ea0, (hb.cell (p := ⟨kg, ko + 1, none⟩) hkg).trans ea1, (hb.cell (p := ⟨kg, ko + 2, none⟩) hkg).trans ea2, (hb.cell (p := ⟨kg, ko + 3, none⟩) hkg).trans ea3, (hb.cell (p := ⟨kg, ko + 4, none⟩) hkg).trans ea4⟩, ⟨(hb.cell (p := ⟨kg, ko + 5, none⟩) hkg).trans eb0, (hb.cell (p := ⟨kg, ko + 5 + 1, none⟩) hkg).trans eb1, (hb.cell (p := ⟨kg, ko + 5 + 2, none⟩) hkg).trans eb2, (hb.cell (p := ⟨kg, ko + 5 + 3, none⟩) hkg).trans eb3, (hb.cell (p := ⟨kg, ko + 5 + 4, none⟩) hkg).trans eb4⟩⟩
                clear hinn hkc hka hlen
                generalize Kt.finds ms m i d (Kx.v d a) = fa at HR HCa
                generalize Kt.finds ms m i d (Kx.v d b) = fb at HR HCb
                cases fa
                · go_wp2_with fail
                  refine wp_region_noPanic ?_
                  refine wp_region_tail (S := fun w' => (w'.cell? ⟨b3, 0, none⟩ = some (.int .i64 nx) ∧ w'.cell? ⟨b3, 1, none⟩ = some (.slice (some ⟨g, off, none⟩) ms.length bc) ∧ w'.cell? ⟨b4, 4, none⟩ = some (.slice (some ⟨kg, ko, none⟩) 2 kc)) ∧ (w'.cell? ⟨kg, ko, none⟩ = some (.int .i64 a.kind) ∧ w'.cell? ⟨kg, ko + 1, none⟩ = some (.int .i64 a.flag) ∧ w'.cell? ⟨kg, ko + 2, none⟩ = some (.string a.text) ∧ w'.cell? ⟨kg, ko + 3, none⟩ = some (.slice a.A a.set.length a.c) ∧ w'.cell? ⟨kg, ko + 4, none⟩ = some (.slice a.KA a.keys.length a.kc)) ∧ (w'.cell? ⟨kg, ko + 5, none⟩ = some (.int .i64 b.kind) ∧ w'.cell? ⟨kg, ko + 5 + 1, none⟩ = some (.int .i64 b.flag) ∧ w'.cell? ⟨kg, ko + 5 + 2, none⟩ = some (.string b.text) ∧ w'.cell? ⟨kg, ko + 5 + 3, none⟩ = some (.slice b.A b.set.length b.c) ∧ w'.cell? ⟨kg, ko + 5 + 4, none⟩ = some (.slice b.KA b.keys.length b.kc))) 16 (by kernel_rfl) ?_
                  have hHeld : (fun w' => (w'.cell? ⟨b3, 0, none⟩ = some (.int .i64 nx) ∧ w'.cell? ⟨b3, 1, none⟩ = some (.slice (some ⟨g, off, none⟩) ms.length bc) ∧ w'.cell? ⟨b4, 4, none⟩ = some (.slice (some ⟨kg, ko, none⟩) 2 kc)) ∧ (w'.cell? ⟨kg, ko, none⟩ = some (.int .i64 a.kind) ∧ w'.cell? ⟨kg, ko + 1, none⟩ = some (.int .i64 a.flag) ∧ w'.cell? ⟨kg, ko + 2, none⟩ = some (.string a.text) ∧ w'.cell? ⟨kg, ko + 3, none⟩ = some (.slice a.A a.set.length a.c) ∧ w'.cell? ⟨kg, ko + 4, none⟩ = some (.slice a.KA a.keys.length a.kc)) ∧ (w'.cell? ⟨kg, ko + 5, none⟩ = some (.int .i64 b.kind) ∧ w'.cell? ⟨kg, ko + 5 + 1, none⟩ = some (.int .i64 b.flag) ∧ w'.cell? ⟨kg, ko + 5 + 2, none⟩ = some (.string b.text) ∧ w'.cell? ⟨kg, ko + 5 + 3, none⟩ = some (.slice b.A b.set.length b.c) ∧ w'.cell? ⟨kg, ko + 5 + 4, none⟩ = some (.slice b.KA b.keys.length b.kc))) w3.drew := HSS.out _ (below_drewN (Below.refl _ _) 1)
                  try dsimp only at hHeld
                  refine tail_take 0 (v := ?_) (by decide) (by decide) (by kernel_rfl) (fun _ _ _ h => h) (Or.inl ⟨by rfl, ?_⟩) hHeld ?_
                  rotate_left
                  · intro w hSw; (try dsimp only at hSw); simp only [List.getElem_toArray, List.getElem_cons_zero]; go_simp; all_goals with_reducible rfl
                  try simp only [List.getElem_toArray, List.getElem_cons_zero, Act.put, List.setIfInBounds_toArray, List.set_cons_zero, List.set_cons_succ]
                  refine tail_take 1 (v := ?_) (by decide) (by decide) (by kernel_rfl) (fun _ _ _ h => h) (Or.inl ⟨by rfl, ?_⟩) hHeld ?_
                  rotate_left
                  · intro w hSw; (try dsimp only at hSw); simp only [List.getElem_toArray, List.getElem_cons_succ, List.getElem_cons_zero]; go_simp; all_goals with_reducible rfl
                  try simp only [List.getElem_toArray, List.getElem_cons_succ, List.getElem_cons_zero, Act.put, List.setIfInBounds_toArray, List.set_cons_zero, List.set_cons_succ]
                  refine tail_take 2 (v := ?_) (by decide) (by decide) (by kernel_rfl) (fun _ _ _ h => h) (Or.inl ⟨by rfl, ?_⟩) hHeld ?_
                  rotate_left
                  · intro w hSw; (try dsimp only at hSw); simp only [List.getElem_toArray, List.getElem_cons_succ, List.getElem_cons_zero]; go_simp; all_goals with_reducible rfl
                  try simp only [List.getElem_toArray, List.getElem_cons_succ, List.getElem_cons_zero, Act.put, List.setIfInBounds_toArray, List.set_cons_zero, List.set_cons_succ]
                  refine tail_take 3 (v := ?_) (by decide) (by decide) (by kernel_rfl) (fun _ _ _ h => h) (Or.inl ⟨by rfl, ?_⟩) hHeld ?_
                  rotate_left
                  · intro w hSw; (try dsimp only at hSw); simp only [List.getElem_toArray, List.getElem_cons_succ, List.getElem_cons_zero]; go_simp; all_goals with_reducible rfl
                  try simp only [List.getElem_toArray, List.getElem_cons_succ, List.getElem_cons_zero, Act.put, List.setIfInBounds_toArray, List.set_cons_zero, List.set_cons_succ]
                  refine tail_take 4 (v := ?_) (by decide) (by decide) (by kernel_rfl) (fun _ _ _ h => h) (Or.inl ⟨by rfl, ?_⟩) hHeld ?_
                  rotate_left
                  · intro w hSw; (try dsimp only at hSw); simp only [List.getElem_toArray, List.getElem_cons_succ, List.getElem_cons_zero]; go_simp; all_goals with_reducible rfl
                  try simp only [List.getElem_toArray, List.getElem_cons_succ, List.getElem_cons_zero, Act.put, List.setIfInBounds_toArray, List.set_cons_zero, List.set_cons_succ]
                  refine tail_take 5 (v := ?_) (by decide) (by decide) (by kernel_rfl) (fun _ _ _ h => h) (Or.inl ⟨by rfl, ?_⟩) hHeld ?_
                  rotate_left
                  · intro w hSw; (try dsimp only at hSw); simp only [List.getElem_toArray, List.getElem_cons_succ, List.getElem_cons_zero]; go_simp; all_goals with_reducible rfl
                  try simp only [List.getElem_toArray, List.getElem_cons_succ, List.getElem_cons_zero, Act.put, List.setIfInBounds_toArray, List.set_cons_zero, List.set_cons_succ]
                  refine tail_one 6 (by kernel_rfl) ?_
                  intro hi K hK
                  simp only [List.getElem_toArray, List.getElem_cons_succ, List.getElem_cons_zero]
                  go_simp
                  refine Calls.mono (HCa.out _ (below_drewN (Below.refl _ _) 1)) ?_
                  rintro e w5 ⟨rfl, hb50⟩
                  have hb5 : Below w3.heap.size w3 w5 := (below_drewN (Below.refl _ _) 1).trans hb50
                  clear hb50
                  refine hK _ _ ?_ (fun hHeld => ?_)
                  · exact HSS.out _ hb5
                  clear hK K
                  try simp only [List.getElem_toArray, List.getElem_cons_succ, List.getElem_cons_zero, Act.put, List.setIfInBounds_toArray, List.set_cons_zero, List.set_cons_succ]
                  refine tail_take 7 (v := ?_) (by decide) (by decide) (by kernel_rfl) (fun _ _ _ h => h) (Or.inl ⟨by rfl, ?_⟩) hHeld ?_
                  rotate_left
                  · intro w hSw; (try dsimp only at hSw); simp only [List.getElem_toArray, List.getElem_cons_succ, List.getElem_cons_zero]; go_simp; all_goals with_reducible rfl
                  try simp only [List.getElem_toArray, List.getElem_cons_succ, List.getElem_cons_zero, Act.put, List.setIfInBounds_toArray, List.set_cons_zero, List.set_cons_succ]
                  refine tail_take 8 (v := undef) (by decide) (by decide) (by kernel_rfl) (fun _ _ _ h => h) (Or.inr ⟨by rfl, rfl⟩) hHeld ?_
                  try simp only [List.getElem_toArray, List.getElem_cons_succ, List.getElem_cons_zero, Act.put, List.setIfInBounds_toArray, List.set_cons_zero, List.set_cons_succ]
                  refine tail_take 9 (v := undef) (by decide) (by decide) (by kernel_rfl) (fun _ _ _ h => h) (Or.inr ⟨by rfl, rfl⟩) hHeld ?_
                  try simp only [List.getElem_toArray, List.getElem_cons_succ, List.getElem_cons_zero, Act.put, List.setIfInBounds_toArray, List.set_cons_zero, List.set_cons_succ]
                  refine tail_take 10 (v := undef) (by decide) (by decide) (by kernel_rfl) (fun _ _ _ h => h) (Or.inr ⟨by rfl, rfl⟩) hHeld ?_
                  try simp only [List.getElem_toArray, List.getElem_cons_succ, List.getElem_cons_zero, Act.put, List.setIfInBounds_toArray, List.set_cons_zero, List.set_cons_succ]
                  refine tail_take 11 (v := undef) (by decide) (by decide) (by kernel_rfl) (fun _ _ _ h => h) (Or.inr ⟨by rfl, rfl⟩) hHeld ?_
                  try simp only [List.getElem_toArray, List.getElem_cons_succ, List.getElem_cons_zero, Act.put, List.setIfInBounds_toArray, List.set_cons_zero, List.set_cons_succ]
                  refine tail_take 12 (v := undef) (by decide) (by decide) (by kernel_rfl) (fun _ _ _ h => h) (Or.inr ⟨by rfl, rfl⟩) hHeld ?_
                  try simp only [List.getElem_toArray, List.getElem_cons_succ, List.getElem_cons_zero, Act.put, List.setIfInBounds_toArray, List.set_cons_zero, List.set_cons_succ]
                  refine tail_take 13 (v := undef) (by decide) (by decide) (by kernel_rfl) (fun _ _ _ h => h) (Or.inr ⟨by rfl, rfl⟩) hHeld ?_
                  try simp only [List.getElem_toArray, List.getElem_cons_succ, List.getElem_cons_zero, Act.put, List.setIfInBounds_toArray, List.set_cons_zero, List.set_cons_succ]
                  refine tail_take 14 (v := undef) (by decide) (by decide) (by kernel_rfl) (fun _ _ _ h => h) (Or.inr ⟨by rfl, rfl⟩) hHeld ?_
                  try simp only [List.getElem_toArray, List.getElem_cons_succ, List.getElem_cons_zero, Act.put, List.setIfInBounds_toArray, List.set_cons_zero, List.set_cons_succ]
                  refine tail_take 15 (v := ?_) (by decide) (by decide) (by kernel_rfl) (fun _ _ _ h => h) (Or.inl ⟨by rfl, ?_⟩) hHeld ?_
                  rotate_left
                  · intro w hSw; (try dsimp only at hSw); simp only [List.getElem_toArray, List.getElem_cons_succ, List.getElem_cons_zero]; go_simp; all_goals with_reducible rfl
                  try simp only [List.getElem_toArray, List.getElem_cons_succ, List.getElem_cons_zero, Act.put, List.setIfInBounds_toArray, List.set_cons_zero, List.set_cons_succ]
                  refine tail_last (by decide) (by kernel_rfl) (by kernel_rfl) ?_
                  intro K hK
                  simp only [List.getElem_toArray, List.getElem_cons_succ, List.getElem_cons_zero]
                  go_simp
                  refine hK _ _ ?_
                  clear hK K
                  try simp only [List.getElem_toArray, List.getElem_cons_succ, List.getElem_cons_zero, Act.put, List.setIfInBounds_toArray, List.set_cons_zero, List.set_cons_succ]
                  refine NoPanic.normal ?_
                  go_wp2_with fail
                  go_ret
                  exact ⟨by rw [HR.out]; rfl, HFIN.out _ hb5⟩
                · go_wp2_with fail
                  go_region_held3 (fun w' => (w'.cell? ⟨b3, 0, none⟩ = some (.int .i64 nx) ∧ w'.cell? ⟨b3, 1, none⟩ = some (.slice (some ⟨g, off, none⟩) ms.length bc) ∧ w'.cell? ⟨b4, 4, none⟩ = some (.slice (some ⟨kg, ko, none⟩) 2 kc)) ∧ (w'.cell? ⟨kg, ko, none⟩ = some (.int .i64 a.kind) ∧ w'.cell? ⟨kg, ko + 1, none⟩ = some (.int .i64 a.flag) ∧ w'.cell? ⟨kg, ko + 2, none⟩ = some (.string a.text) ∧ w'.cell? ⟨kg, ko + 3, none⟩ = some (.slice a.A a.set.length a.c) ∧ w'.cell? ⟨kg, ko + 4, none⟩ = some (.slice a.KA a.keys.length a.kc)) ∧ (w'.cell? ⟨kg, ko + 5, none⟩ = some (.int .i64 b.kind) ∧ w'.cell? ⟨kg, ko + 5 + 1, none⟩ = some (.int .i64 b.flag) ∧ w'.cell? ⟨kg, ko + 5 + 2, none⟩ = some (.string b.text) ∧ w'.cell? ⟨kg, ko + 5 + 3, none⟩ = some (.slice b.A b.set.length b.c) ∧ w'.cell? ⟨kg, ko + 5 + 4, none⟩ = some (.slice b.KA b.keys.length b.kc))) (first | exact HSS.out _ (below_drewN (Below.refl _ _) 1) | exact HSS.out _ hb5 | exact HSS.out _ hb6) (first | (have h5 := hb5; clear h5; go_at_call 22; refine Calls.mono (HCb.out _ hb5) ?_; rintro e w6 ⟨rfl, hb60⟩; have hb6 : Below w3.heap.size w3 w6 := hb5.trans (hb60.mono hb5.size)) | (go_at_call 22; refine Calls.mono (HCa.out _ (below_drewN (Below.refl _ _) 1)) ?_; rintro e w5 ⟨rfl, hb50⟩; have hb5 : Below w3.heap.size w3 w5 := (below_drewN (Below.refl _ _) 1).trans hb50))
                  all_goals
                    go_wp2_with fail
                    go_ret
                    exact ⟨by rw [HR.out]; rfl, HFIN.out _ hb6⟩
              · by_cases k7 : kind = 7
                · subst k7
                  obtain ⟨a, b, hka⟩ : ∃ a b, keys = [a, b] := Ky.list2 (by have h9 : (keys.length == 2) = true := hinn; simpa using h9)
                  have hlen : keys.length = 2 := by rw [hka]; rfl
                  have HR : Hid (r = (Kt.finds ms m i d (Kx.v d a) || Kt.finds ms m i d (Kx.v d b))) := Lib.hid (HF.out.trans (by rw [hka]; rfl))
                  obtain ⟨kg, ko, eK, hkg, hkc⟩ := keys_row (HK.out w3 HB.out).1 (by omega)
                  subst eK
                  obtain ⟨ea0, ea1, ea2, ea3, ea4⟩ := hkc 0 a (by rw [hka]; rfl)
                  simp only [Nat.zero_mul, Nat.add_zero] at ea0 ea1 ea2 ea3 ea4
                  have HCa : Hid (∀ W, Below w3.heap.size w3 W → Calls Tryz.prog 22 #[.agg #[.int .i64 nx, .slice (some ⟨g, off, none⟩) ms.length bc], a.val, .int .i64 (i : Int)] W fun e w' => e = .returned (.bool (Kt.finds ms m i d (Kx.v d a))) ∧ Below W.heap.size W w') := Lib.hid fun W hb => ih a W (HMG.out W (HFIN.out W hb)) ((HK.out W (HFIN.out W hb)).2 a (by rw [hka]; simp)) (HCH.out a (by rw [hka]; simp))
                  obtain ⟨eb0, eb1, eb2, eb3, eb4⟩ := hkc 1 b (by rw [hka]; rfl)
                  simp only [Nat.one_mul] at eb0 eb1 eb2 eb3 eb4
                  have HCb : Hid (∀ W, Below w3.heap.size w3 W → Calls Tryz.prog 22 #[.agg #[.int .i64 nx, .slice (some ⟨g, off, none⟩) ms.length bc], b.val, .int .i64 (i : Int)] W fun e w' => e = .returned (.bool (Kt.finds ms m i d (Kx.v d b))) ∧ Below W.heap.size W w') := Lib.hid fun W hb => ih b W (HMG.out W (HFIN.out W hb)) ((HK.out W (HFIN.out W hb)).2 b (by rw [hka]; simp)) (HCH.out b (by rw [hka]; simp))
                  rw [hlen] at p4 ⊢
                  have HSS : Hid (∀ w', Below w3.heap.size w3 w' → (w'.cell? ⟨b3, 0, none⟩ = some (.int .i64 nx) ∧ w'.cell? ⟨b3, 1, none⟩ = some (.slice (some ⟨g, off, none⟩) ms.length bc) ∧ w'.cell? ⟨b4, 4, none⟩ = some (.slice (some ⟨kg, ko, none⟩) 2 kc)) ∧ (w'.cell? ⟨kg, ko, none⟩ = some (.int .i64 a.kind) ∧ w'.cell? ⟨kg, ko + 1, none⟩ = some (.int .i64 a.flag) ∧ w'.cell? ⟨kg, ko + 2, none⟩ = some (.string a.text) ∧ w'.cell? ⟨kg, ko + 3, none⟩ = some (.slice a.A a.set.length a.c) ∧ w'.cell? ⟨kg, ko + 4, none⟩ = some (.slice a.KA a.keys.length a.kc)) ∧ (w'.cell? ⟨kg, ko + 5, none⟩ = some (.int .i64 b.kind) ∧ w'.cell? ⟨kg, ko + 5 + 1, none⟩ = some (.int .i64 b.flag) ∧ w'.cell? ⟨kg, ko + 5 + 2, none⟩ = some (.string b.text) ∧ w'.cell? ⟨kg, ko + 5 + 3, none⟩ = some (.slice b.A b.set.length b.c) ∧ w'.cell? ⟨kg, ko + 5 + 4, none⟩ = some (.slice b.KA b.keys.length b.kc))) := Lib.hid fun w' hb => ⟨⟨(hb.cell (p := ⟨b3, 0, none⟩) l3).trans r0, (hb.cell (p := ⟨b3, 1, none⟩) l3).trans r1, (hb.cell (p := ⟨b4, 4, none⟩) l4).trans p4⟩, ⟨(hb.cell (p := ⟨kg, ko, none⟩) hkg).trans ea0, (hb.cell (p := ⟨kg, ko + 1, none⟩) hkg).trans ea1, (hb.cell (p := ⟨kg, ko + 2, none⟩) hkg).trans ea2, (hb.cell (p := ⟨kg, ko + 3, none⟩) hkg).trans ea3, (hb.cell (p := ⟨kg, ko + 4, none⟩) hkg).trans ea4⟩, ⟨(hb.cell (p := ⟨kg, ko + 5, none⟩) hkg).trans eb0, (hb.cell (p := ⟨kg, ko + 5 + 1, none⟩) hkg).trans eb1, (hb.cell (p := ⟨kg, ko + 5 + 2, none⟩) hkg).trans eb2, (hb.cell (p := ⟨kg, ko + 5 + 3, none⟩) hkg).trans eb3, (hb.cell (p := ⟨kg, ko + 5 + 4, none⟩) hkg).trans eb4⟩⟩
                  clear hinn hkc hka hlen
                  generalize Kt.finds ms m i d (Kx.v d a) = fa at HR HCa
                  generalize Kt.finds ms m i d (Kx.v d b) = fb at HR HCb
                  cases fa
                  · go_wp2_with fail
                    go_region_held3 (fun w' => (w'.cell? ⟨b3, 0, none⟩ = some (.int .i64 nx) ∧ w'.cell? ⟨b3, 1, none⟩ = some (.slice (some ⟨g, off, none⟩) ms.length bc) ∧ w'.cell? ⟨b4, 4, none⟩ = some (.slice (some ⟨kg, ko, none⟩) 2 kc)) ∧ (w'.cell? ⟨kg, ko, none⟩ = some (.int .i64 a.kind) ∧ w'.cell? ⟨kg, ko + 1, none⟩ = some (.int .i64 a.flag) ∧ w'.cell? ⟨kg, ko + 2, none⟩ = some (.string a.text) ∧ w'.cell? ⟨kg, ko + 3, none⟩ = some (.slice a.A a.set.length a.c) ∧ w'.cell? ⟨kg, ko + 4, none⟩ = some (.slice a.KA a.keys.length a.kc)) ∧ (w'.cell? ⟨kg, ko + 5, none⟩ = some (.int .i64 b.kind) ∧ w'.cell? ⟨kg, ko + 5 + 1, none⟩ = some (.int .i64 b.flag) ∧ w'.cell? ⟨kg, ko + 5 + 2, none⟩ = some (.string b.text) ∧ w'.cell? ⟨kg, ko + 5 + 3, none⟩ = some (.slice b.A b.set.length b.c) ∧ w'.cell? ⟨kg, ko + 5 + 4, none⟩ = some (.slice b.KA b.keys.length b.kc))) (first | exact HSS.out _ (below_drewN (Below.refl _ _) 1) | exact HSS.out _ hb5 | exact HSS.out _ hb6) (first | (have h5 := hb5; clear h5; go_at_call 22; refine Calls.mono (HCb.out _ hb5) ?_; rintro e w6 ⟨rfl, hb60⟩; have hb6 : Below w3.heap.size w3 w6 := hb5.trans (hb60.mono hb5.size)) | (go_at_call 22; refine Calls.mono (HCa.out _ (below_drewN (Below.refl _ _) 1)) ?_; rintro e w5 ⟨rfl, hb50⟩; have hb5 : Below w3.heap.size w3 w5 := (below_drewN (Below.refl _ _) 1).trans hb50))
                    all_goals
                      go_wp2_with fail
                      go_ret
                      exact ⟨by rw [HR.out]; rfl, HFIN.out _ hb6⟩
                  · go_wp2_with fail
                    refine wp_region_noPanic ?_
                    refine wp_region_tail (S := fun w' => (w'.cell? ⟨b3, 0, none⟩ = some (.int .i64 nx) ∧ w'.cell? ⟨b3, 1, none⟩ = some (.slice (some ⟨g, off, none⟩) ms.length bc) ∧ w'.cell? ⟨b4, 4, none⟩ = some (.slice (some ⟨kg, ko, none⟩) 2 kc)) ∧ (w'.cell? ⟨kg, ko, none⟩ = some (.int .i64 a.kind) ∧ w'.cell? ⟨kg, ko + 1, none⟩ = some (.int .i64 a.flag) ∧ w'.cell? ⟨kg, ko + 2, none⟩ = some (.string a.text) ∧ w'.cell? ⟨kg, ko + 3, none⟩ = some (.slice a.A a.set.length a.c) ∧ w'.cell? ⟨kg, ko + 4, none⟩ = some (.slice a.KA a.keys.length a.kc)) ∧ (w'.cell? ⟨kg, ko + 5, none⟩ = some (.int .i64 b.kind) ∧ w'.cell? ⟨kg, ko + 5 + 1, none⟩ = some (.int .i64 b.flag) ∧ w'.cell? ⟨kg, ko + 5 + 2, none⟩ = some (.string b.text) ∧ w'.cell? ⟨kg, ko + 5 + 3, none⟩ = some (.slice b.A b.set.length b.c) ∧ w'.cell? ⟨kg, ko + 5 + 4, none⟩ = some (.slice b.KA b.keys.length b.kc))) 16 (by kernel_rfl) ?_
                    have hHeld : (fun w' => (w'.cell? ⟨b3, 0, none⟩ = some (.int .i64 nx) ∧ w'.cell? ⟨b3, 1, none⟩ = some (.slice (some ⟨g, off, none⟩) ms.length bc) ∧ w'.cell? ⟨b4, 4, none⟩ = some (.slice (some ⟨kg, ko, none⟩) 2 kc)) ∧ (w'.cell? ⟨kg, ko, none⟩ = some (.int .i64 a.kind) ∧ w'.cell? ⟨kg, ko + 1, none⟩ = some (.int .i64 a.flag) ∧ w'.cell? ⟨kg, ko + 2, none⟩ = some (.string a.text) ∧ w'.cell? ⟨kg, ko + 3, none⟩ = some (.slice a.A a.set.length a.c) ∧ w'.cell? ⟨kg, ko + 4, none⟩ = some (.slice a.KA a.keys.length a.kc)) ∧ (w'.cell? ⟨kg, ko + 5, none⟩ = some (.int .i64 b.kind) ∧ w'.cell? ⟨kg, ko + 5 + 1, none⟩ = some (.int .i64 b.flag) ∧ w'.cell? ⟨kg, ko + 5 + 2, none⟩ = some (.string b.text) ∧ w'.cell? ⟨kg, ko + 5 + 3, none⟩ = some (.slice b.A b.set.length b.c) ∧ w'.cell? ⟨kg, ko + 5 + 4, none⟩ = some (.slice b.KA b.keys.length b.kc))) w3.drew := HSS.out _ (below_drewN (Below.refl _ _) 1)
                    try dsimp only at hHeld
                    refine tail_take 0 (v := ?_) (by decide) (by decide) (by kernel_rfl) (fun _ _ _ h => h) (Or.inl ⟨by rfl, ?_⟩) hHeld ?_
                    rotate_left
                    · intro w hSw; (try dsimp only at hSw); simp only [List.getElem_toArray, List.getElem_cons_zero]; go_simp; all_goals with_reducible rfl
                    try simp only [List.getElem_toArray, List.getElem_cons_zero, Act.put, List.setIfInBounds_toArray, List.set_cons_zero, List.set_cons_succ]
                    refine tail_take 1 (v := ?_) (by decide) (by decide) (by kernel_rfl) (fun _ _ _ h => h) (Or.inl ⟨by rfl, ?_⟩) hHeld ?_
                    rotate_left
                    · intro w hSw; (try dsimp only at hSw); simp only [List.getElem_toArray, List.getElem_cons_succ, List.getElem_cons_zero]; go_simp; all_goals with_reducible rfl
                    try simp only [List.getElem_toArray, List.getElem_cons_succ, List.getElem_cons_zero, Act.put, List.setIfInBounds_toArray, List.set_cons_zero, List.set_cons_succ]
                    refine tail_take 2 (v := ?_) (by decide) (by decide) (by kernel_rfl) (fun _ _ _ h => h) (Or.inl ⟨by rfl, ?_⟩) hHeld ?_
                    rotate_left
                    · intro w hSw; (try dsimp only at hSw); simp only [List.getElem_toArray, List.getElem_cons_succ, List.getElem_cons_zero]; go_simp; all_goals with_reducible rfl
                    try simp only [List.getElem_toArray, List.getElem_cons_succ, List.getElem_cons_zero, Act.put, List.setIfInBounds_toArray, List.set_cons_zero, List.set_cons_succ]
                    refine tail_take 3 (v := ?_) (by decide) (by decide) (by kernel_rfl) (fun _ _ _ h => h) (Or.inl ⟨by rfl, ?_⟩) hHeld ?_
                    rotate_left
                    · intro w hSw; (try dsimp only at hSw); simp only [List.getElem_toArray, List.getElem_cons_succ, List.getElem_cons_zero]; go_simp; all_goals with_reducible rfl
                    try simp only [List.getElem_toArray, List.getElem_cons_succ, List.getElem_cons_zero, Act.put, List.setIfInBounds_toArray, List.set_cons_zero, List.set_cons_succ]
                    refine tail_take 4 (v := ?_) (by decide) (by decide) (by kernel_rfl) (fun _ _ _ h => h) (Or.inl ⟨by rfl, ?_⟩) hHeld ?_
                    rotate_left
                    · intro w hSw; (try dsimp only at hSw); simp only [List.getElem_toArray, List.getElem_cons_succ, List.getElem_cons_zero]; go_simp; all_goals with_reducible rfl
                    try simp only [List.getElem_toArray, List.getElem_cons_succ, List.getElem_cons_zero, Act.put, List.setIfInBounds_toArray, List.set_cons_zero, List.set_cons_succ]
                    refine tail_take 5 (v := ?_) (by decide) (by decide) (by kernel_rfl) (fun _ _ _ h => h) (Or.inl ⟨by rfl, ?_⟩) hHeld ?_
                    rotate_left
                    · intro w hSw; (try dsimp only at hSw); simp only [List.getElem_toArray, List.getElem_cons_succ, List.getElem_cons_zero]; go_simp; all_goals with_reducible rfl
                    try simp only [List.getElem_toArray, List.getElem_cons_succ, List.getElem_cons_zero, Act.put, List.setIfInBounds_toArray, List.set_cons_zero, List.set_cons_succ]
                    refine tail_one 6 (by kernel_rfl) ?_
                    intro hi K hK
                    simp only [List.getElem_toArray, List.getElem_cons_succ, List.getElem_cons_zero]
                    go_simp
                    refine Calls.mono (HCa.out _ (below_drewN (Below.refl _ _) 1)) ?_
                    rintro e w5 ⟨rfl, hb50⟩
                    have hb5 : Below w3.heap.size w3 w5 := (below_drewN (Below.refl _ _) 1).trans hb50
                    clear hb50
                    refine hK _ _ ?_ (fun hHeld => ?_)
                    · exact HSS.out _ hb5
                    clear hK K
                    try simp only [List.getElem_toArray, List.getElem_cons_succ, List.getElem_cons_zero, Act.put, List.setIfInBounds_toArray, List.set_cons_zero, List.set_cons_succ]
                    refine tail_take 7 (v := ?_) (by decide) (by decide) (by kernel_rfl) (fun _ _ _ h => h) (Or.inl ⟨by rfl, ?_⟩) hHeld ?_
                    rotate_left
                    · intro w hSw; (try dsimp only at hSw); simp only [List.getElem_toArray, List.getElem_cons_succ, List.getElem_cons_zero]; go_simp; all_goals with_reducible rfl
                    try simp only [List.getElem_toArray, List.getElem_cons_succ, List.getElem_cons_zero, Act.put, List.setIfInBounds_toArray, List.set_cons_zero, List.set_cons_succ]
                    refine tail_take 8 (v := undef) (by decide) (by decide) (by kernel_rfl) (fun _ _ _ h => h) (Or.inr ⟨by rfl, rfl⟩) hHeld ?_
                    try simp only [List.getElem_toArray, List.getElem_cons_succ, List.getElem_cons_zero, Act.put, List.setIfInBounds_toArray, List.set_cons_zero, List.set_cons_succ]
                    refine tail_take 9 (v := undef) (by decide) (by decide) (by kernel_rfl) (fun _ _ _ h => h) (Or.inr ⟨by rfl, rfl⟩) hHeld ?_
                    try simp only [List.getElem_toArray, List.getElem_cons_succ, List.getElem_cons_zero, Act.put, List.setIfInBounds_toArray, List.set_cons_zero, List.set_cons_succ]
                    refine tail_take 10 (v := undef) (by decide) (by decide) (by kernel_rfl) (fun _ _ _ h => h) (Or.inr ⟨by rfl, rfl⟩) hHeld ?_
                    try simp only [List.getElem_toArray, List.getElem_cons_succ, List.getElem_cons_zero, Act.put, List.setIfInBounds_toArray, List.set_cons_zero, List.set_cons_succ]
                    refine tail_take 11 (v := undef) (by decide) (by decide) (by kernel_rfl) (fun _ _ _ h => h) (Or.inr ⟨by rfl, rfl⟩) hHeld ?_
                    try simp only [List.getElem_toArray, List.getElem_cons_succ, List.getElem_cons_zero, Act.put, List.setIfInBounds_toArray, List.set_cons_zero, List.set_cons_succ]
                    refine tail_take 12 (v := undef) (by decide) (by decide) (by kernel_rfl) (fun _ _ _ h => h) (Or.inr ⟨by rfl, rfl⟩) hHeld ?_
                    try simp only [List.getElem_toArray, List.getElem_cons_succ, List.getElem_cons_zero, Act.put, List.setIfInBounds_toArray, List.set_cons_zero, List.set_cons_succ]
                    refine tail_take 13 (v := undef) (by decide) (by decide) (by kernel_rfl) (fun _ _ _ h => h) (Or.inr ⟨by rfl, rfl⟩) hHeld ?_
                    try simp only [List.getElem_toArray, List.getElem_cons_succ, List.getElem_cons_zero, Act.put, List.setIfInBounds_toArray, List.set_cons_zero, List.set_cons_succ]
                    refine tail_take 14 (v := undef) (by decide) (by decide) (by kernel_rfl) (fun _ _ _ h => h) (Or.inr ⟨by rfl, rfl⟩) hHeld ?_
                    try simp only [List.getElem_toArray, List.getElem_cons_succ, List.getElem_cons_zero, Act.put, List.setIfInBounds_toArray, List.set_cons_zero, List.set_cons_succ]
                    refine tail_take 15 (v := ?_) (by decide) (by decide) (by kernel_rfl) (fun _ _ _ h => h) (Or.inl ⟨by rfl, ?_⟩) hHeld ?_
                    rotate_left
                    · intro w hSw; (try dsimp only at hSw); simp only [List.getElem_toArray, List.getElem_cons_succ, List.getElem_cons_zero]; go_simp; all_goals with_reducible rfl
                    try simp only [List.getElem_toArray, List.getElem_cons_succ, List.getElem_cons_zero, Act.put, List.setIfInBounds_toArray, List.set_cons_zero, List.set_cons_succ]
                    refine tail_last (by decide) (by kernel_rfl) (by kernel_rfl) ?_
                    intro K hK
                    simp only [List.getElem_toArray, List.getElem_cons_succ, List.getElem_cons_zero]
                    go_simp
                    refine hK _ _ ?_
                    clear hK K
                    try simp only [List.getElem_toArray, List.getElem_cons_succ, List.getElem_cons_zero, Act.put, List.setIfInBounds_toArray, List.set_cons_zero, List.set_cons_succ]
                    refine NoPanic.normal ?_
                    go_wp2_with fail
                    go_ret
                    exact ⟨by rw [HR.out]; rfl, HFIN.out _ hb5⟩
                · have HR : Hid (r = true) := Lib.hid (HF.out.trans (by rw [if_neg k1, if_neg k2, if_neg k3, if_neg k4, if_neg k5, if_neg k6, if_neg k7]))
                  clear hinn
                  go_wp2_with fail
                  go_ret
                  exact ⟨by rw [HR.out]; rfl, HB.out⟩
end Go.Proofs.YtmlmdpdboigojaaGreatDoor
