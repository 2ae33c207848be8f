/- FnExactQueueLeft: the walk. -/
import Derived.Test.YtpbaimofffcnaaaQlI
import Derived.Test.YtpbaimofffcnaaaQvLaw1
namespace Go.Proofs.Ytpbaimofffcnaaa
set_option linter.unusedVariables false
open Go.RowKit Go.ChangeShapes Go.WideShapes Go.Deep

set_option maxHeartbeats 1600000 in
theorem walkFnExactQueueLeft (nx : Int) (A : Option Addr) (ls : List Qi.L) (c : Nat) (nm : ByteArray) (w : World) (h : AtItems w w.heap.size A ls) (hcap : ls.length ≤ c) (hcm : c ≤ maxLen) (hnm : nm.size ≤ maxLen) :
    Calls Try.prog 5 #[.agg #[.int .i64 nx, .slice A ls.length c], .string nm] w fun e w' => e = .returned (.bool true) ∧ Below w.heap.size w w' := by
  have hn : ls.length ≤ maxLen := Nat.le_trans hcap hcm
  have hbox : Below w.heap.size w (w.alloc (.cells #[.int .i64 nx, .slice A ls.length c] 24)) := (Below.refl _ _).alloc (Nat.le_refl _) _
  have hx0 := heap_alloc_new w (.cells #[.int .i64 nx, .slice A ls.length c] 24)
  have HA : Hid (∀ w', Below w.heap.size w w' → AtItems w' w'.heap.size A ls) := Lib.hid fun w' hb' => (h.below hb').mono hb'.size
  clear h
  go_enter Try.func5, Try.ntmps5
  go_upto_region 1 with fail
  generalize w.alloc (.cells #[.int .i64 nx, .slice A ls.length c] 24) = w0 at hbox hx0 ⊢
  obtain ⟨b, hb⟩ : ∃ b, b = w.heap.size := ⟨_, rfl⟩
  rw [← hb] at hx0 ⊢
  clear hb
  have hbl := (Array.getElem?_eq_some_iff.1 hx0).1
  have H1 : Hid (∀ w', Below w0.heap.size w0 w' → Below w.heap.size w w' ∧ w'.cell? ⟨b, 0, none⟩ = some (.int .i64 nx) ∧ w'.cell? ⟨b, 1, none⟩ = some (.slice A ls.length c)) := Lib.hid fun w' hb' => by
    have hx := (hb'.block b hbl).trans hx0
    exact ⟨hbox.trans (hb'.mono hbox.size), cell_at hx 0 _ rfl, cell_at hx 1 _ rfl⟩
  have HB0 : Hid (Below w0.heap.size w0 w0) := Lib.hid (Below.refl _ _)
  obtain ⟨want, hw⟩ : ∃ want, want = Qu.left nx (ls.map Qi.v) nm := ⟨_, rfl⟩
  have HW := Lib.hid hw
  clear hx0 hbox hw
  have b0 := (H1.out _ HB0.out).2.1
  have b1 := (H1.out _ HB0.out).2.2
  by_cases hbig : nm.size ≤ 1048576
  · have hbi : ¬ (1048576 : Int) < (nm.size : Int) := by omega
    go_wp2_with fail
    refine Calls.mono (szQueue_any nx A ls c _ _ (HA.out _ (H1.out _ HB0.out).1) hn (by omega) (by omega)) ?_
    rintro e w1 ⟨r, rfl, hm, hle, hq, hb1⟩
    have HQ := Lib.hid hq
    have HB1 := Lib.hid (HB0.out.trans hb1)
    clear hq hb1 b0 b1 HB0
    by_cases hneg : r < 0
    · go_wp2_with fail
      go_ret
      exact ⟨rfl, (H1.out _ HB1.out).1⟩
    · have HLEN := Lib.hid (HQ.out (by omega))
      have b0 := (H1.out _ HB1.out).2.1
      have b1 := (H1.out _ HB1.out).2.2
      go_wp2_with fail
      refine Calls.mono (toQueue_any nx A ls c _ (HA.out _ (H1.out _ HB1.out).1) HLEN.out) ?_
      rintro e w2 ⟨A2, m2, c2, rfl, hv2, hc2, hc2', h2, hb2⟩
      have HB2 := Lib.hid (HB1.out.trans (hb2.mono HB1.out.size))
      have HQ2 := Lib.hid (sQueueLeft_any nx A2 m2 c2 nm _ h2 (Nat.le_trans hc2 hc2'))
      rw [hv2, ← HW.out] at HQ2
      clear hv2 hc2 hc2' h2 hb2 b0 b1 HB1
      go_wp2_with fail
      refine Calls.mono HQ2.out ?_
      rintro e w3 ⟨rfl, hb3⟩
      have HB3 := Lib.hid (HB2.out.trans (hb3.mono HB2.out.size))
      clear hb3 HB2 HQ2
      have b0 := (H1.out _ HB3.out).2.1
      have b1 := (H1.out _ HB3.out).2.2
      go_wp2_with fail
      refine Calls.mono (toQueue_any nx A ls c _ (HA.out _ (H1.out _ HB3.out).1) HLEN.out) ?_
      rintro e w4 ⟨A4, m4, c4, rfl, hv4, hc4, hc4', h4, hb4⟩
      have hb4a := HB3.out.trans (hb4.mono HB3.out.size)
      have hE := Below.alloc (Below.refl w4.heap.size w4) (Nat.le_refl _) (.cells #[.int .i64 nx, .slice A4 m4.length c4] 29)
      have hx := heap_alloc_new w4 (.cells #[.int .i64 nx, .slice A4 m4.length c4] 29)
      clear b0 b1
      go_upto_region 9 with fail
      generalize w4.alloc (.cells #[.int .i64 nx, .slice A4 m4.length c4] 29) = w5 at hE hx ⊢
      obtain ⟨p, hp⟩ : ∃ p, p = w4.heap.size := ⟨_, rfl⟩
      rw [← hp] at hx ⊢
      clear hp
      have hpl := (Array.getElem?_eq_some_iff.1 hx).1
      have HX5 : Hid (∀ w', Below w5.heap.size w5 w' → w'.cell? ⟨p, 0, none⟩ = some (.int .i64 nx) ∧ w'.cell? ⟨p, 1, none⟩ = some (.slice A4 m4.length c4)) := Lib.hid fun w' hb' => by
        have hx2 := (hb'.block p hpl).trans hx
        exact ⟨cell_at hx2 0 _ rfl, cell_at hx2 1 _ rfl⟩
      have HA4 : Hid (∀ w', Below w5.heap.size w5 w' → AtItems w' w'.heap.size A4 m4) := Lib.hid fun w' hb' => (((h4.below hE).mono hE.size).below hb').mono hb'.size
      have HB5 := Lib.hid (hb4a.trans (hE.mono hb4a.size))
      have HV4 := Lib.hid hv4
      have HQ4 := Lib.hid (iQueueLeft_any nx A4 m4 c4 nm w5 (HA4.out _ (Below.refl _ _)) (Nat.le_trans hc4 hc4'))
      rw [hv4, ← HW.out] at HQ4
      have hm4 : m4.length ≤ maxLen := Nat.le_trans hc4 hc4'
      clear hx hE hb4a hb4 hv4 h4 HB3
      have x0 := (HX5.out w5 (Below.refl _ _)).1
      have x1 := (HX5.out w5 (Below.refl _ _)).2
      go_wp2_with fail
      refine Calls.mono HQ4.out ?_
      rintro e w6 ⟨rfl, hb6⟩
      have HB56 := Lib.hid hb6
      have HB6 := Lib.hid (HB5.out.trans (hb6.mono HB5.out.size))
      clear hb6 HB5 x0 x1 HQ4
      have x0 := (HX5.out w6 HB56.out).1
      have x1 := (HX5.out w6 HB56.out).2
      have b0 := (H1.out _ HB6.out).2.1
      have b1 := (H1.out _ HB6.out).2.2
      have HT : Hid (∀ w', Below w6.heap.size w6 w' → Calls Try.prog 9 #[.agg #[.int .i64 nx, .slice A ls.length c]] w' fun e w'' => ∃ A' ms c', e = .returned (.agg #[.int .i64 nx, .slice A' ms.length c']) ∧ ms.map Qi.v = ls.map Qi.v ∧ ms.length ≤ c' ∧ c' ≤ maxLen ∧ AtItems w'' w''.heap.size A' ms ∧ Below w'.heap.size w' w'') := Lib.hid fun w' hb => toQueue_any nx A ls c w' (HA.out _ (H1.out _ (HB6.out.trans (hb.mono HB6.out.size))).1) HLEN.out
      have HD : Hid (Below w6.heap.size w6 w6.drew) := Lib.hid (below_drewN (Below.refl _ _) 1)
      go_upto_region 12 with fail
      go_region_with ((first
        | (go_at_call 9; refine Calls.mono (HT.out _ HD.out) ?_; rintro e w7 ⟨A7, m7, c7, rfl, hv7, hc7, hc7', h7, hb7⟩; have hb7' : Below w6.heap.size w6 w7 := HD.out.trans hb7; have HB7 := Lib.hid hb7'; have HE := Lib.hid (eqQueue_any nx A4 A7 m4 m7 c4 c7 w7 (HA4.out _ (HB56.out.trans (hb7'.mono HB56.out.size))) h7 (HV4.out.trans hv7.symm) hm4); have x0 := (HX5.out w7 (HB56.out.trans (hb7'.mono HB56.out.size))).1; have x1 := (HX5.out w7 (HB56.out.trans (hb7'.mono HB56.out.size))).2; clear hb7 hb7' h7 hv7)
        | (go_at_call 11; refine Calls.mono HE.out ?_; rintro e w8 ⟨rfl, hb8⟩)))
      all_goals
        go_wp2_with fail
        go_ret
        exact ⟨rfl, (H1.out _ (HB6.out.trans ((HB7.out.trans (hb8.mono HB7.out.size)).mono HB6.out.size))).1⟩
  · have hbi : (1048576 : Int) < (nm.size : Int) := by omega
    go_wp2_with fail
    go_ret
    exact ⟨rfl, (H1.out _ HB0.out).1⟩
end Go.Proofs.Ytpbaimofffcnaaa
