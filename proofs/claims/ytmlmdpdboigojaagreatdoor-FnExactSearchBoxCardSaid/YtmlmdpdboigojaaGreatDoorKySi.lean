/- SearchBox of the program. -/
import Derived.Test.YtmlmdpdboigojaaGreatDoorKySe
namespace Go.Proofs.YtmlmdpdboigojaaGreatDoor
set_option linter.unusedVariables false
open Go.RowKit

theorem Bl.At.kept {w w' : World} {b n : Nat} {f : Nat → Bool} {row : Option Nat} (h : Bl.At w b n f) (hg : w.grownBy w' row) (hr : row ≠ some b) : Bl.At w' b n f := by
  obtain ⟨cs, h1, h2⟩ := h
  exact ⟨cs, (hg.block b (Array.getElem?_eq_some_iff.1 h1).1 (fun e => hr e.symm)).trans h1, h2⟩
theorem Ky.own_ne {w : World} {B g n : Nat} {v : Value} {us : List Int} {f : Nat → Bool} (h : OwnL 3 1 It.cells w B v us) (hb : Bl.At w g n f) : v.ownBlock ≠ some g := by
  obtain ⟨cs, h1, _⟩ := hb
  exact ow_not (E2 := 4) h (by decide) h1

set_option maxRecDepth 100000 in
set_option maxHeartbeats 6400000 in
theorem iSearchBox_any (nx : Int) (A : Option Addr) (ms : List Ml) (c d : Nat) (x : Kx) (mx : Int) (w : World) (h : AtMails w w.heap.size A ms) (hz : ∀ m ∈ ms, m.text.size ≤ maxLen) (hn : ms.length ≤ maxLen) (hx : Kx.In d w w.heap.size x) (hfl : Ky.Fl w) (hmx : w.cell? ⟨1, 0, none⟩ = some (.int .i64 mx)) :
    Calls Tryz.prog 9 #[.agg #[.int .i64 nx, .slice A ms.length c], x.val] w fun e w' => ∃ v, e = .returned v ∧ It.Own w' w.heap.size v (Ky.search nx ms d (Kx.v d x)) ∧ Below w.heap.size w w' := by
  have HKT : Hid (∀ W, Below w.heap.size w W → Calls Tryz.prog 26 #[x.val] W fun e w' => (∃ (v : Value) (ok : Bool), e = .returned (.tuple #[v, .bool ok]) ∧ ok = Kt.ok d (Kx.v d x) ∧ (ok = true → v = (Kx.nd d x).val)) ∧ Below W.heap.size W w') := Lib.hid fun W hb => keyTree_any d x W ((hx.below hb).mono hb.size) (hfl.below hb)
  have HSB : Hid (∀ W, Below w.heap.size w W → Calls Tryz.prog 27 #[.agg #[.int .i64 nx, .slice A ms.length c]] W fun e w' => e = .returned (.bool (Ky.boxOk nx ms)) ∧ Below W.heap.size W w') := Lib.hid fun W hb => iBoxValid_any nx A ms c W (At.mono (At.below h hb) hb.size) hz hn
  have HKF : Hid (Ky.boxOk nx ms = true → Kt.ok d (Kx.v d x) = true → ∀ W, Below w.heap.size w W → Calls Tryz.prog 28 #[.agg #[.int .i64 nx, .slice A ms.length c], (Kx.nd d x).val] W (Ky.Fd ms (Kx.nd d x) W)) := Lib.hid fun h1 h2 W hb => by
    unfold Kt.ok at h2
    rw [Bool.and_eq_true] at h2
    exact keyFinds_any nx A ms c mx (Ky.box_parts h1) (Kx.nd d x) W ⟨At.mono (At.below h hb) hb.size, (hb.cell (p := ⟨1, 0, none⟩) (World.block_lt_of_cell? w _ hmx)).trans hmx⟩ (Ky.nd_ok d x ((hx.below hb).mono hb.size) h2.1)
  have HNO : Hid ((Ky.boxOk nx ms && Kt.ok d (Kx.v d x)) = false → Ky.search nx ms d (Kx.v d x) = []) := Lib.hid Ky.search_no
  have HYES : Hid (Ky.boxOk nx ms = true → Kt.ok d (Kx.v d x) = true → Ky.search nx ms d (Kx.v d x) = Ky.places ms d (Kx.v d x) ms.length ∧ ms.length ≤ 10 ∧ ∀ (i : Nat) (m : Ml), ms[i]? = some m → Nd.fn ms (Kx.nd d x) i = Kt.finds ms m i d (Kx.v d x)) := Lib.hid fun h1 h2 => ⟨Ky.search_yes h1 h2, (Ky.box_parts h1).1, fun i m hi => by
    unfold Kt.ok at h2
    rw [Bool.and_eq_true] at h2
    rw [Nd.fn_some hi]
    exact Ky.nd_finds ms m i d x h2.1⟩
  obtain ⟨T1, p1, hv1⟩ := Nd.val_form (Kx.nd d x)
  rw [hv1] at HKT HKF
  clear hv1
  generalize Kx.nd d x = node at HKF HYES
  generalize Kt.ok d (Kx.v d x) = kv at HKT HKF HNO HYES
  generalize Ky.boxOk nx ms = bv at HSB HKF HNO HYES
  generalize Ky.search nx ms d (Kx.v d x) = res at HNO HYES ⊢
  generalize Kx.v d x = t at HYES
  clear h hz hx hfl hmx
  unfold maxLen at hn
  obtain ⟨i0, hi, hz0, hz1, hz2⟩ := info_parts int_info
  obtain ⟨kind, flag, text, KA2, set, kc2, KA, keys, kc⟩ := x
  simp only [Kx.val, Kx.kind, Kx.flag, Kx.text, Kx.set, Kx.keys, Kx.A, Kx.KA, Kx.c, Kx.kc] at HKT ⊢
  have hb4 : Below w.heap.size w (((w.alloc (.cells #[.int .i64 nx, .slice A ms.length c] 35)).alloc (.cells #[.int .i64 kind, .int .i64 flag, .string text, .slice KA2 set.length kc2, .slice KA keys.length kc] 40)).alloc (.cells #[] 3)) := by go_grown
  have h2 : (((w.alloc (.cells #[.int .i64 nx, .slice A ms.length c] 35)).alloc (.cells #[.int .i64 kind, .int .i64 flag, .string text, .slice KA2 set.length kc2, .slice KA keys.length kc] 40)).alloc (.cells #[] 3)).heap[w.heap.size]? = some (.cells #[.int .i64 nx, .slice A ms.length c] 35 (0, 0)) := (Below.heap_alloc _ _ _ (by simp; omega)).trans ((Below.heap_alloc _ _ _ (by simp)).trans (heap_alloc_new w _))
  have h3 : (((w.alloc (.cells #[.int .i64 nx, .slice A ms.length c] 35)).alloc (.cells #[.int .i64 kind, .int .i64 flag, .string text, .slice KA2 set.length kc2, .slice KA keys.length kc] 40)).alloc (.cells #[] 3)).heap[w.heap.size + 1]? = some (.cells #[.int .i64 kind, .int .i64 flag, .string text, .slice KA2 set.length kc2, .slice KA keys.length kc] 40 (0, 0)) := (Below.heap_alloc _ _ _ (by simp)).trans (by simpa using heap_alloc_new (w.alloc _) (.cells #[.int .i64 kind, .int .i64 flag, .string text, .slice KA2 set.length kc2, .slice KA keys.length kc] 40))
  have ho : OwnL 3 1 It.cells (((w.alloc (.cells #[.int .i64 nx, .slice A ms.length c] 35)).alloc (.cells #[.int .i64 kind, .int .i64 flag, .string text, .slice KA2 set.length kc2, .slice KA keys.length kc] 40)).alloc (.cells #[] 3)) (w.heap.size + 1 + 1) (.slice (some ⟨w.heap.size + 1 + 1, 0, none⟩) 0 0) ([] : List Int) := by
    have h9 := ownL_nil (E := 3) (size := 1) (f := It.cells) (B := w.heap.size + 1 + 1) ((w.alloc (.cells #[.int .i64 nx, .slice A ms.length c] 35)).alloc (.cells #[.int .i64 kind, .int .i64 flag, .string text, .slice KA2 set.length kc2, .slice KA keys.length kc] 40)) (by simp)
    simpa using h9
  go_enter Tryz.func9, Tryz.ntmps9
  go_upto_region 2 with fail
  generalize (((w.alloc (.cells #[.int .i64 nx, .slice A ms.length c] 35)).alloc (.cells #[.int .i64 kind, .int .i64 flag, .string text, .slice KA2 set.length kc2, .slice KA keys.length kc] 40)).alloc (.cells #[] 3)) = w4 at hb4 h2 h3 ho ⊢
  obtain ⟨b2, hb2⟩ : ∃ b, b = w.heap.size := ⟨_, rfl⟩
  obtain ⟨b3, hb3⟩ : ∃ b, b = w.heap.size + 1 := ⟨_, rfl⟩
  obtain ⟨b5, hb5⟩ : ∃ b, b = w.heap.size + 1 + 1 := ⟨_, rfl⟩
  rw [← hb5, ← hb3, ← hb2]
  rw [← hb2] at h2
  rw [← hb3] at h3
  rw [← hb5] at ho
  have hwb5 : w.heap.size ≤ b5 := by omega
  have hb54 : b5 ≤ w4.heap.size := Nat.le_of_lt (World.ownsRow.lt ho b5 rfl).2
  have h25 : b2 < b5 := by omega
  have h35 : b3 < b5 := by omega
  clear hb2 hb3 hb5
  have HG : Hid (∀ W, Below b5 w4 W → Below w.heap.size w W ∧ W.heap[b2]? = some (.cells #[.int .i64 nx, .slice A ms.length c] 35 (0, 0))) := Lib.hid fun W hb => ⟨hb4.trans (hb.mono hwb5), (hb.block b2 h25).trans h2⟩
  have HO4 := Lib.hid ho
  have y0 := cell_at h3 0 _ rfl
  have y1 := cell_at h3 1 _ rfl
  have y2 := cell_at h3 2 _ rfl
  have y3 := cell_at h3 3 _ rfl
  have y4 := cell_at h3 4 _ rfl
  have HB4 := Lib.hid hb4
  clear hb4 h2 h3 ho
  go_wp2_with fail
  refine Calls.mono (HKT.out _ HB4.out) ?_
  rintro e w5 ⟨⟨v5, ok5, rfl, hok, hv⟩, hb5'⟩
  have HOK := Lib.hid hok
  have HV := Lib.hid hv
  have HO5 := Lib.hid (OwnL.below HO4.out hb5')
  have HBB5 : Hid (Below b5 w4 w5) := Lib.hid (hb5'.mono hb54)
  have HG5 := HG.out w5 HBB5.out
  have HB5 := Lib.hid HG5.1
  have x0 := cell_at HG5.2 0 _ rfl
  have x1 := cell_at HG5.2 1 _ rfl
  clear hok hv hb5' HG5 y0 y1 y2 y3 y4
  cases ok5
  · have HR : Hid (res = []) := Lib.hid (HNO.out (by rw [← HOK.out, Bool.and_false]))
    go_wp2_with fail
    go_ret
    exact ⟨_, rfl, by rw [HR.out]; exact OwnL.base HO5.out hwb5, HB5.out⟩
  · obtain rfl : v5 = .iface T1 p1 := HV.out rfl
    cases bv
    · have HR : Hid (res = []) := Lib.hid (HNO.out rfl)
      go_wp2_with fail
      refine Calls.mono (HSB.out _ HB5.out) ?_
      rintro e w6 ⟨rfl, hb6'⟩
      have HO6 := Lib.hid (OwnL.below HO5.out hb6')
      have HB6 := Lib.hid (HB5.out.trans (hb6'.mono HB5.out.size))
      clear hb6'
      go_wp2_with fail
      go_ret
      exact ⟨_, rfl, by rw [HR.out]; exact OwnL.base HO6.out hwb5, HB6.out⟩
    · obtain ⟨hr1, hl10, hr3⟩ := HYES.out rfl HOK.out.symm
      have HR := Lib.hid hr1
      have HR3 := Lib.hid hr3
      have HFI := Lib.hid (HKF.out rfl HOK.out.symm)
      clear hr1 hr3
      go_wp2_with fail
      refine Calls.mono (HSB.out _ HB5.out) ?_
      rintro e w6 ⟨rfl, hb6'⟩
      have HO6 := Lib.hid (OwnL.below HO5.out hb6')
      have HBB6 : Hid (Below b5 w4 w6) := Lib.hid (HBB5.out.trans (hb6'.mono (Nat.le_trans hb54 HBB5.out.size)))
      have HG6 := HG.out w6 HBB6.out
      have HB6 := Lib.hid HG6.1
      have x0 := cell_at HG6.2 0 _ rfl
      have x1 := cell_at HG6.2 1 _ rfl
      clear hb6' HG6
      go_wp2_with fail
      refine Calls.mono (HFI.out _ HB6.out) ?_
      rintro e w7 ⟨g2, c2, rfl, hg2, hr2, hb7'⟩
      have HO7 := Lib.hid (OwnL.below HO6.out hb7')
      have HBB7 : Hid (Below b5 w4 w7) := Lib.hid (HBB6.out.trans (hb7'.mono (Nat.le_trans hb54 HBB6.out.size)))
      have HRW := Lib.hid hr2
      clear hb7' hr2
      go_wp2_with fail
      go_loopg [5, 28] ms.length (fun g v i wr => ∃ (k : Nat) (A5 : Option Addr) (l5 c5 : Nat), k ≤ ms.length ∧ Hid (g = ms.length - k) ∧ i = .int .i64 k ∧ v = .slice A5 l5 c5 ∧ Hid (OwnL 3 1 It.cells wr b5 (.slice A5 l5 c5) (Ky.places ms d t k)) ∧ Hid (Bl.At wr g2 ms.length (Nd.fn ms node)) ∧ Below b5 w4 wr)
      case atStart => exact ⟨0, _, _, _, Nat.zero_le _, Lib.hid rfl, rfl, rfl, HO7, HRW, HBB7.out⟩
      case round =>
        obtain ⟨k, A5, l5, c5, hk, HG2, rfl, rfl, HO, HF, hb⟩ := hrel
        by_cases hlt : k < ms.length
        · have hli : (k : Int) < (ms.length : Int) := by omega
          obtain ⟨u, hu⟩ : ∃ u, ms[k]? = some u := ⟨_, List.getElem?_eq_getElem hlt⟩
          have HU := Lib.hid hu
          have hff := HR3.out k u hu
          have d0 : wr.cell? ⟨g2, k, none⟩ = some (.bool (Nd.fn ms node k)) := HF.out.get hlt
          rw [hff] at d0
          clear hu hff
          cases hfn : Kt.finds ms u k d t
          · rw [hfn] at d0
            have HUP := Lib.hid (Ky.places_no HU.out hfn)
            have HO7 : Hid (OwnL 3 1 It.cells wr b5 (.slice A5 l5 c5) (Ky.places ms d t (k + 1))) := Lib.hid (by rw [HUP.out]; exact HO.out)
            clear hfn
            go_wp2_with fail
            go_roundg (ms.length - (k + 1))
            case measure => have := HG2.out; omega
            case rel => exact ⟨k + 1, _, _, _, by omega, Lib.hid rfl, by go_num, rfl, HO7, HF, hb⟩
          · rw [hfn] at d0
            have HUP := Lib.hid (Ky.places_yes HU.out hfn).symm
            have hlen9 := Ky.places_len ms d t k
            have hbs : b5 ≤ wr.heap.size := Nat.le_trans hb54 hb.size
            obtain ⟨us, hus⟩ : ∃ us, us = Ky.places ms d t k := ⟨_, rfl⟩
            rw [← hus] at HUP HO hlen9
            have HM1 : Hid (us.length + 1 ≤ maxLen) := Lib.hid (by unfold maxLen; omega)
            have HM2 : Hid ((us.length + 1) * 8 ≤ 140737488355328) := Lib.hid (by omega)
            have hkk : ((k + 1 : Nat) : Int) = (k : Int) + 1 := by omega
            rw [hkk] at HUP
            have HNE := Lib.hid (Ky.own_ne HO.out HF.out)
            clear hlen9 hus hkk hfn
            go_wp2_with (at_builtin; refine wpList_snoc _ rfl (.tmp 34) (.tmp 37) _ rfl 3 i0 _ 1 8 Tryz.underlying31 hi hz0 hz1 hz2 rfl (by omega) It.cells It.cells_len It.one1 b5 (.slice A5 l5 c5) us ((k : Int) + 1) rfl HO.out _ rfl rfl HM1.out HM2.out hbs ?_; intro v8 w8 hown8 hb8 hg8; rw [HUP.out] at hown8; obtain ⟨A8, c8, rfl, _, _⟩ := OwnL.form hown8; have HO8 := Lib.hid hown8; have HB8 := Lib.hid hb8; have HF8 := Lib.hid (Bl.At.kept (HF.out.below ((Below.refl _ _).alloc (Nat.le_refl _) _)) hg8 HNE.out); clear hown8 hb8 hg8)
            go_roundg (ms.length - (k + 1))
            case measure => have := HG2.out; omega
            case rel => exact ⟨k + 1, _, _, _, by omega, Lib.hid rfl, by go_num, rfl, HO8, HF8, hb.trans HB8.out⟩
        · obtain rfl : k = ms.length := by omega
          have hli : ¬ (ms.length : Int) < (ms.length : Int) := by omega
          have HBE := Lib.hid (HG.out wr hb).1
          go_wp2_with fail
          go_ret
          exact ⟨_, rfl, by rw [HR.out]; exact OwnL.base HO.out hwb5, HBE.out⟩
end Go.Proofs.YtmlmdpdboigojaaGreatDoor
