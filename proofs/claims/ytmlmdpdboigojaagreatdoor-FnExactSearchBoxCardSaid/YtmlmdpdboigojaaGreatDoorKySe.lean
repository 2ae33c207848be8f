/- SearchBox of both sides. -/
import Derived.Test.YtmlmdpdboigojaaGreatDoorKyLk
import Derived.Test.YtmlmdpdboigojaaGreatDoorKyFi
namespace Go.Proofs.YtmlmdpdboigojaaGreatDoor
set_option linter.unusedVariables false
open Go.RowKit

theorem Ky.search_no {nx : Int} {ms : List Ml} {d : Nat} {t : Kt} (h : (Ky.boxOk nx ms && Kt.ok d t) = false) : Ky.search nx ms d t = [] := by unfold Ky.search; rw [h]; rfl
theorem Ky.search_yes {nx : Int} {ms : List Ml} {d : Nat} {t : Kt} (h1 : Ky.boxOk nx ms = true) (h2 : Kt.ok d t = true) : Ky.search nx ms d t = Ky.places ms d t ms.length := by unfold Ky.search; rw [h1, h2]; rfl
theorem Ky.search_len {nx : Int} {ms : List Ml} {d : Nat} {t : Kt} : (Ky.search nx ms d t).length ≤ ms.length := by
  unfold Ky.search
  split
  · exact Ky.places_len _ _ _ _
  · exact Nat.zero_le _

set_option maxRecDepth 100000 in
set_option maxHeartbeats 6400000 in
theorem sSearchBox_any (nx : Int) (A : Option Addr) (ms : List Ml) (c d : Nat) (x : Kx) (w : World) (h : AtMails w w.heap.size A ms) (hz : ∀ m ∈ ms, m.text.size ≤ maxLen) (hn : ms.length ≤ maxLen) (hx : Kx.In d w w.heap.size x) (hs : Kx.sz d x ≤ 1048576) :
    Calls Tryz.prog 6 #[.agg #[.int .i64 nx, .slice A ms.length c], x.val] w fun e w' => ∃ v, e = .returned v ∧ It.Own w' w.heap.size v (Ky.search nx ms d (Kx.v d x)) ∧ Below w.heap.size w w' := by
  have HSB : Hid (∀ W, Below w.heap.size w W → Calls Tryz.prog 20 #[.agg #[.int .i64 nx, .slice A ms.length c]] W fun e w' => e = .returned (.bool (Ky.boxOk nx ms)) ∧ Below W.heap.size W w') := Lib.hid fun W hb => sBoxValid_any nx A ms c W (At.mono (At.below h hb) hb.size) hz hn
  have HSK : Hid (∀ W, Below w.heap.size w W → Calls Tryz.prog 21 #[x.val] W fun e w' => e = .returned (.bool (Kt.ok d (Kx.v d x))) ∧ Below W.heap.size W w') := Lib.hid fun W hb => sKeyValid_any d x W ((hx.below hb).mono hb.size) hs
  have HSF : Hid (Ky.boxOk nx ms = true → Kt.ok d (Kx.v d x) = true → ∀ (i : Nat) (m : Ml), ms[i]? = some m → ∀ W, Below w.heap.size w W → Calls Tryz.prog 22 #[.agg #[.int .i64 nx, .slice A ms.length c], x.val, .int .i64 (i : Int)] W fun e w' => e = .returned (.bool (Kt.finds ms m i d (Kx.v d x))) ∧ Below W.heap.size W w') := Lib.hid fun h1 h2 i m hi W hb => by
    obtain ⟨p1, p2⟩ := Ky.box_parts h1
    unfold Kt.ok at h2
    rw [Bool.and_eq_true] at h2
    exact l12Finds_any nx A ms c (fun m hm => (p2 m hm).1) p1 i m hi d x W (At.mono (At.below h hb) hb.size) ((hx.below hb).mono hb.size) h2.1
  have HNO : Hid ((Ky.boxOk nx ms && Kt.ok d (Kx.v d x)) = false → Ky.search nx ms d (Kx.v d x) = []) := Lib.hid Ky.search_no
  have HYES : Hid (Ky.boxOk nx ms = true → Kt.ok d (Kx.v d x) = true → Ky.search nx ms d (Kx.v d x) = Ky.places ms d (Kx.v d x) ms.length ∧ ms.length ≤ 10) := Lib.hid fun h1 h2 => ⟨Ky.search_yes h1 h2, (Ky.box_parts h1).1⟩
  generalize Kt.ok d (Kx.v d x) = kv at HSK HSF HNO HYES
  generalize Ky.boxOk nx ms = bv at HSB HSF HNO HYES
  generalize Ky.search nx ms d (Kx.v d x) = res at HNO HYES ⊢
  generalize Kx.v d x = t at HSF HYES
  clear h hz hx hs
  unfold maxLen at hn
  obtain ⟨i0, hi, hz0, hz1, hz2⟩ := info_parts int_info
  obtain ⟨kind, flag, text, KA2, set, kc2, KA, keys, kc⟩ := x
  simp only [Kx.val, Kx.kind, Kx.flag, Kx.text, Kx.set, Kx.keys, Kx.A, Kx.KA, Kx.c, Kx.kc] at HSK HSF ⊢
  have hb4 : Below w.heap.size w (((w.alloc (.cells #[.int .i64 nx, .slice A ms.length c] 35)).alloc (.cells #[.int .i64 kind, .int .i64 flag, .string text, .slice KA2 set.length kc2, .slice KA keys.length kc] 40)).alloc (.cells #[] 3)) := by go_grown
  have h2 : (((w.alloc (.cells #[.int .i64 nx, .slice A ms.length c] 35)).alloc (.cells #[.int .i64 kind, .int .i64 flag, .string text, .slice KA2 set.length kc2, .slice KA keys.length kc] 40)).alloc (.cells #[] 3)).heap[w.heap.size]? = some (.cells #[.int .i64 nx, .slice A ms.length c] 35 (0, 0)) := (Below.heap_alloc _ _ _ (by simp; omega)).trans ((Below.heap_alloc _ _ _ (by simp)).trans (heap_alloc_new w _))
  have h3 : (((w.alloc (.cells #[.int .i64 nx, .slice A ms.length c] 35)).alloc (.cells #[.int .i64 kind, .int .i64 flag, .string text, .slice KA2 set.length kc2, .slice KA keys.length kc] 40)).alloc (.cells #[] 3)).heap[w.heap.size + 1]? = some (.cells #[.int .i64 kind, .int .i64 flag, .string text, .slice KA2 set.length kc2, .slice KA keys.length kc] 40 (0, 0)) := (Below.heap_alloc _ _ _ (by simp)).trans (by simpa using heap_alloc_new (w.alloc _) (.cells #[.int .i64 kind, .int .i64 flag, .string text, .slice KA2 set.length kc2, .slice KA keys.length kc] 40))
  have ho : OwnL 3 1 It.cells (((w.alloc (.cells #[.int .i64 nx, .slice A ms.length c] 35)).alloc (.cells #[.int .i64 kind, .int .i64 flag, .string text, .slice KA2 set.length kc2, .slice KA keys.length kc] 40)).alloc (.cells #[] 3)) (w.heap.size + 1 + 1) (.slice (some ⟨w.heap.size + 1 + 1, 0, none⟩) 0 0) ([] : List Int) := by
    have h9 := ownL_nil (E := 3) (size := 1) (f := It.cells) (B := w.heap.size + 1 + 1) ((w.alloc (.cells #[.int .i64 nx, .slice A ms.length c] 35)).alloc (.cells #[.int .i64 kind, .int .i64 flag, .string text, .slice KA2 set.length kc2, .slice KA keys.length kc] 40)) (by simp)
    simpa using h9
  go_enter Tryz.func6, Tryz.ntmps6
  go_upto_region 2 with fail
  generalize (((w.alloc (.cells #[.int .i64 nx, .slice A ms.length c] 35)).alloc (.cells #[.int .i64 kind, .int .i64 flag, .string text, .slice KA2 set.length kc2, .slice KA keys.length kc] 40)).alloc (.cells #[] 3)) = w4 at hb4 h2 h3 ho ⊢
  obtain ⟨b2, hb2⟩ : ∃ b, b = w.heap.size := ⟨_, rfl⟩
  obtain ⟨b3, hb3⟩ : ∃ b, b = w.heap.size + 1 := ⟨_, rfl⟩
  obtain ⟨b5, hb5⟩ : ∃ b, b = w.heap.size + 1 + 1 := ⟨_, rfl⟩
  rw [← hb5, ← hb3, ← hb2]
  rw [← hb2] at h2
  rw [← hb3] at h3
  rw [← hb5] at ho
  have hwb5 : w.heap.size ≤ b5 := by omega
  have l2 := (Array.getElem?_eq_some_iff.1 h2).1
  have l3 := (Array.getElem?_eq_some_iff.1 h3).1
  have hb54 : b5 ≤ w4.heap.size := Nat.le_of_lt (World.ownsRow.lt ho b5 rfl).2
  have h25 : b2 < b5 := by omega
  have h35 : b3 < b5 := by omega
  clear hb2 hb3 hb5
  have HG : Hid (∀ W, Below b5 w4 W → Below w.heap.size w W ∧ W.heap[b2]? = some (.cells #[.int .i64 nx, .slice A ms.length c] 35 (0, 0)) ∧ W.heap[b3]? = some (.cells #[.int .i64 kind, .int .i64 flag, .string text, .slice KA2 set.length kc2, .slice KA keys.length kc] 40 (0, 0))) := Lib.hid fun W hb => ⟨hb4.trans (hb.mono hwb5), (hb.block b2 h25).trans h2, (hb.block b3 h35).trans h3⟩
  have HO4 := Lib.hid ho
  clear hb4 h2 h3 ho
  cases bv
  · have HR : Hid (res = []) := Lib.hid (HNO.out rfl)
    go_wp2_with fail
    go_loopg [5, 6] 0 (fun g v i wr => g = 0 ∧ v = .slice (some ⟨b5, 0, none⟩) 0 0 ∧ i = .int .i64 ((0 : Nat) : Int) ∧ wr = w4)
    case atStart => exact ⟨rfl, rfl, rfl, rfl⟩
    case round =>
      obtain ⟨_, rfl, rfl, rfl⟩ := hrel
      have HB0 := HG.out wr (Below.refl _ _)
      have x0 := cell_at HB0.2.1 0 _ rfl
      have x1 := cell_at HB0.2.1 1 _ rfl
      have HB1 := Lib.hid HB0.1
      clear HB0
      by_cases hl0 : 0 < ms.length
      · have hli : (0 : Int) < (ms.length : Int) := by omega
        go_wp2_with fail
        refine Calls.mono (HSB.out _ HB1.out) ?_
        rintro e w5 ⟨rfl, hb5'⟩
        have HO5 := Lib.hid (OwnL.below HO4.out hb5')
        have HB5 := Lib.hid (HB1.out.trans (hb5'.mono HB1.out.size))
        clear hb5'
        go_wp2_with fail
        go_ret
        exact ⟨_, rfl, by rw [HR.out]; exact OwnL.base HO5.out hwb5, HB5.out⟩
      · have hli : ¬ (0 : Int) < (ms.length : Int) := by omega
        go_wp2_with fail
        go_ret
        exact ⟨_, rfl, by rw [HR.out]; exact OwnL.base HO4.out hwb5, HB1.out⟩
  · cases kv
    · have HR : Hid (res = []) := Lib.hid (HNO.out rfl)
      go_wp2_with fail
      go_loopg [5, 6] 0 (fun g v i wr => g = 0 ∧ v = .slice (some ⟨b5, 0, none⟩) 0 0 ∧ i = .int .i64 ((0 : Nat) : Int) ∧ wr = w4)
      case atStart => exact ⟨rfl, rfl, rfl, rfl⟩
      case round =>
        obtain ⟨_, rfl, rfl, rfl⟩ := hrel
        have HB0 := HG.out wr (Below.refl _ _)
        have x0 := cell_at HB0.2.1 0 _ rfl
        have x1 := cell_at HB0.2.1 1 _ rfl
        have HB1 := Lib.hid HB0.1
        clear HB0
        by_cases hl0 : 0 < ms.length
        · have hli : (0 : Int) < (ms.length : Int) := by omega
          go_wp2_with fail
          refine Calls.mono (HSB.out _ HB1.out) ?_
          rintro e w5 ⟨rfl, hb5'⟩
          have HO5 := Lib.hid (OwnL.below HO4.out hb5')
          have HB5 := Lib.hid (HB1.out.trans (hb5'.mono HB1.out.size))
          have HG5 := HG.out w5 (hb5'.mono hb54)
          have z0 := cell_at HG5.2.2 0 _ rfl
          have z1 := cell_at HG5.2.2 1 _ rfl
          have z2 := cell_at HG5.2.2 2 _ rfl
          have z3 := cell_at HG5.2.2 3 _ rfl
          have z4 := cell_at HG5.2.2 4 _ rfl
          clear hb5' HG5
          go_wp2_with fail
          refine Calls.mono (HSK.out _ HB5.out) ?_
          rintro e w6 ⟨rfl, hb6'⟩
          have HO6 := Lib.hid (OwnL.below HO5.out hb6')
          have HB6 := Lib.hid (HB5.out.trans (hb6'.mono HB5.out.size))
          clear hb6'
          go_wp2_with fail
          go_ret
          exact ⟨_, rfl, by rw [HR.out]; exact OwnL.base HO6.out hwb5, HB6.out⟩
        · have hli : ¬ (0 : Int) < (ms.length : Int) := by omega
          go_wp2_with fail
          go_ret
          exact ⟨_, rfl, by rw [HR.out]; exact OwnL.base HO4.out hwb5, HB1.out⟩
    · have HR := Lib.hid (HYES.out rfl rfl).1
      have hl10 := (HYES.out rfl rfl).2
      have HFI := Lib.hid (HSF.out rfl rfl)
      go_wp2_with fail
      go_loopg [5, 6] ms.length (fun g v i wr => ∃ (k : Nat) (A5 : Option Addr) (l5 c5 : Nat), k ≤ ms.length ∧ Hid (g = ms.length - k) ∧ i = .int .i64 k ∧ v = .slice A5 l5 c5 ∧ Hid (It.Own wr b5 (.slice A5 l5 c5) (Ky.places ms d t k)) ∧ Below b5 w4 wr)
      case atStart => exact ⟨0, _, _, _, Nat.zero_le _, Lib.hid rfl, rfl, rfl, HO4, Below.refl _ _⟩
      case round =>
        obtain ⟨k, A5, l5, c5, hk, HG2, rfl, rfl, HO, hb⟩ := hrel
        have HB0 := HG.out wr hb
        have x0 := cell_at HB0.2.1 0 _ rfl
        have x1 := cell_at HB0.2.1 1 _ rfl
        have HB1 := Lib.hid HB0.1
        clear HB0
        by_cases hlt : k < ms.length
        · have hli : (k : Int) < (ms.length : Int) := by omega
          obtain ⟨u, hu⟩ : ∃ u, ms[k]? = some u := ⟨_, List.getElem?_eq_getElem hlt⟩
          have HU := Lib.hid hu
          clear hu
          go_wp2_with fail
          refine Calls.mono (HSB.out _ HB1.out) ?_
          rintro e w5 ⟨rfl, hb5'⟩
          have HO5 := Lib.hid (OwnL.below HO.out hb5')
          have HBB5 : Hid (Below b5 w4 w5) := Lib.hid (hb.trans (hb5'.mono (Nat.le_trans hb54 hb.size)))
          have HG5 := HG.out w5 HBB5.out
          have HB5 := Lib.hid HG5.1
          have z0 := cell_at HG5.2.2 0 _ rfl
          have z1 := cell_at HG5.2.2 1 _ rfl
          have z2 := cell_at HG5.2.2 2 _ rfl
          have z3 := cell_at HG5.2.2 3 _ rfl
          have z4 := cell_at HG5.2.2 4 _ rfl
          clear hb5' HG5 x0 x1
          go_wp2_with fail
          refine Calls.mono (HSK.out _ HB5.out) ?_
          rintro e w6 ⟨rfl, hb6'⟩
          have HO6 := Lib.hid (OwnL.below HO5.out hb6')
          have HBB6 : Hid (Below b5 w4 w6) := Lib.hid (HBB5.out.trans (hb6'.mono (Nat.le_trans hb54 HBB5.out.size)))
          have HG6 := HG.out w6 HBB6.out
          have HB6 := Lib.hid HG6.1
          have x0 := cell_at HG6.2.1 0 _ rfl
          have x1 := cell_at HG6.2.1 1 _ rfl
          have z0 := cell_at HG6.2.2 0 _ rfl
          have z1 := cell_at HG6.2.2 1 _ rfl
          have z2 := cell_at HG6.2.2 2 _ rfl
          have z3 := cell_at HG6.2.2 3 _ rfl
          have z4 := cell_at HG6.2.2 4 _ rfl
          clear hb6' HG6
          go_wp2_with fail
          refine Calls.mono (HFI.out k u HU.out _ HB6.out) ?_
          cases hfn : Kt.finds ms u k d t
          · have HUP := Lib.hid (Ky.places_no HU.out hfn)
            clear hfn
            rintro e w7 ⟨rfl, hb7'⟩
            have HO7 : Hid (It.Own w7 b5 (.slice A5 l5 c5) (Ky.places ms d t (k + 1))) := Lib.hid (by rw [HUP.out]; exact OwnL.below HO6.out hb7')
            have HBB7 : Hid (Below b5 w4 w7) := Lib.hid (HBB6.out.trans (hb7'.mono (Nat.le_trans hb54 HBB6.out.size)))
            clear hb7'
            go_wp2_with fail
            go_roundg (ms.length - (k + 1))
            case measure => have := HG2.out; omega
            case rel => exact ⟨k + 1, _, _, _, by omega, Lib.hid rfl, by go_num, rfl, HO7, HBB7.out⟩
          · have HUP := Lib.hid (Ky.places_yes HU.out hfn).symm
            have hlen9 := Ky.places_len ms d t k
            clear hfn
            rintro e w7 ⟨rfl, hb7'⟩
            have HO7 := Lib.hid (OwnL.below HO6.out hb7')
            have HBB7 : Hid (Below b5 w4 w7) := Lib.hid (HBB6.out.trans (hb7'.mono (Nat.le_trans hb54 HBB6.out.size)))
            have hbs : b5 ≤ w7.heap.size := Nat.le_trans hb54 HBB7.out.size
            obtain ⟨us, hus⟩ : ∃ us, us = Ky.places ms d t k := ⟨_, rfl⟩
            rw [← hus] at HUP HO7 hlen9
            have HM1 : Hid (us.length + 1 ≤ maxLen) := Lib.hid (by unfold maxLen; omega)
            have HM2 : Hid ((us.length + 1) * 8 ≤ 140737488355328) := Lib.hid (by omega)
            have hkk : ((k + 1 : Nat) : Int) = (k : Int) + 1 := by omega
            rw [hkk] at HUP
            clear hb7' hlen9 hus hkk
            go_wp2_with (at_builtin; refine wpList_snoc _ rfl (.tmp 27) (.tmp 30) _ rfl 3 i0 _ 1 8 Tryz.underlying31 hi hz0 hz1 hz2 rfl (by omega) It.cells It.cells_len It.one1 b5 (.slice A5 l5 c5) us ((k : Int) + 1) rfl (show OwnL 3 1 It.cells w7 b5 (.slice A5 l5 c5) us from HO7.out) _ rfl rfl HM1.out HM2.out hbs ?_; intro v8 w8 hown8 hb8 hg8; rw [HUP.out] at hown8; obtain ⟨A8, c8, rfl, _, _⟩ := OwnL.form hown8; have HO8 := Lib.hid hown8; have HB8 := Lib.hid hb8; clear hown8 hb8 hg8)
            go_roundg (ms.length - (k + 1))
            case measure => have := HG2.out; omega
            case rel => exact ⟨k + 1, _, _, _, by omega, Lib.hid rfl, by go_num, rfl, HO8, HBB7.out.trans HB8.out⟩
        · obtain rfl : k = ms.length := by omega
          have hli : ¬ (ms.length : Int) < (ms.length : Int) := by omega
          go_wp2_with fail
          go_ret
          exact ⟨_, rfl, by rw [HR.out]; exact OwnL.base HO.out hwb5, HB1.out⟩
end Go.Proofs.YtmlmdpdboigojaaGreatDoor
