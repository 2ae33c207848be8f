/- Queues that come in as plain data; FnExactQueueValid: the walk. -/
import Derived.Test.YtpbaimofffcnaaaQvI
import Derived.Test.YtpbaimofffcnaaaLtLaw1
import Derived.Deep.RegionWith
import Derived.Deep.DeepCutAuto
namespace Go.Proofs.Ytpbaimofffcnaaa
set_option linter.unusedVariables false
open Go.RowKit Go.ChangeShapes Go.WideShapes Go.Deep

theorem open_items {H : Type} {enc : TypeId × Value → H} {w : World} {spare : Nat → Bool} {held : Bool} {fuel : Nat} {v : Value} {x : DataW H × List MemPlace}
    (h : DataW.trod enc Try.prog w 0 spare held fuel 22 [v] = some x) : ∃ (A : Option Addr) (ls : List Qi.L) (c : Nat), v = .slice A ls.length c ∧ ls.length ≤ c ∧ c ≤ maxLen ∧ AtItems w w.heap.size A ls := by
  rcases open_slice_fields Try.underlying22 Try.underlying62 (by kernel_rfl) (by kernel_rfl) h with ⟨hcs, _⟩ | ⟨a, l, c, m, D, Pl, hcs, _, hl, hm, hmm, _, hi⟩
  · simp at hcs
    exact ⟨none, [], 0, hcs, Nat.le_refl _, Nat.zero_le _, fun h0 => absurd h0 (by simp), by simp⟩
  · simp at hcs
    have hml : l ≤ m := by rw [hmm]; split <;> omega
    have hall : ∀ i, i < l → ∃ u : Qi.L, (w.cell? (a.add (i * 4)) = some (.int .i64 u.id) ∧ w.cell? (a.add (i * 4 + 1)) = some (.string u.f) ∧ w.cell? (a.add (i * 4 + 2)) = some (.string u.t) ∧ w.cell? (a.add (i * 4 + 3)) = some (.slice u.A u.us.length u.c)) ∧ Qi.At1 w w.heap.size u := by
      intro i hil
      obtain ⟨ys, n, _, _, _, hf⟩ := hi i (by omega)
      obtain ⟨v0, y0, c0, _, t0⟩ := hf 0 _ rfl
      obtain ⟨v1, y1, c1, _, t1⟩ := hf 1 _ rfl
      obtain ⟨v2, y2, c2, _, t2⟩ := hf 2 _ rfl
      obtain ⟨v3, y3, c3, _, t3⟩ := hf 3 _ rfl
      obtain ⟨n0, e0, _, _⟩ := DataW.trod_int Try.underlying3 t0
      obtain ⟨s1, e1, _, z1⟩ := DataW.trod_string Try.underlying9 t1
      obtain ⟨s2, e2, _, z2⟩ := DataW.trod_string Try.underlying9 t2
      obtain ⟨A3, us, c3', e3, hl3, hm3, ha3⟩ := open_strings (v := v3) t3
      simp at e0 e1 e2
      subst e0 e1 e2 e3
      exact ⟨⟨n0, s1, s2, A3, us, c3'⟩, ⟨c0, c1, c2, c3⟩, ha3, hl3, hm3, z1, z2⟩
    obtain ⟨us, hul, hq⟩ := choose_list l hall
    refine ⟨some a, us, c, by rw [hul]; exact hcs, by omega, hm, fun h0 => ?_, fun u hu => ?_⟩
    · obtain ⟨b, off, spot⟩ := a
      have hu0 : us[0]? = some us[0] := List.getElem?_eq_getElem h0
      have hc0 := (hq 0 _ hu0).1.1
      have hspot : spot = none := by simpa [Addr.add] using World.cell?_spot hc0
      subst hspot
      have hlt := World.block_lt_of_cell? w _ hc0
      refine ⟨b, off, rfl, by simpa [Addr.add] using hlt, fun i u hu j y hy => ?_⟩
      obtain ⟨⟨h1, h2, h3, h4⟩, _⟩ := hq i u hu
      rw [add_none] at h1 h2 h3 h4
      match j, hy with
      | 0, hy => injection hy with hy; subst hy; exact h1
      | 1, hy => injection hy with hy; subst hy; rw [Nat.add_assoc]; exact h2
      | 2, hy => injection hy with hy; subst hy; rw [Nat.add_assoc]; exact h3
      | 3, hy => injection hy with hy; subst hy; rw [Nat.add_assoc]; exact h4
      | j + 4, hy => simp [Qi.cells] at hy
    · obtain ⟨i, hil, rfl⟩ := List.getElem_of_mem hu
      exact (hq i _ (List.getElem?_eq_getElem hil)).2

theorem open_queue {H : Type} {enc : TypeId × Value → H} {w : World} {spare : Nat → Bool} {held : Bool} {fuel : Nat} {cs : Array Value} {x : DataW H × List MemPlace} (hs : cs.size = Try.prog.cellsOf 24)
    (h : DataW.trod enc Try.prog w 0 spare held fuel 24 cs.toList = some x) :
    ∃ (nx : Int) (A : Option Addr) (ls : List Qi.L) (c : Nat), cs = #[.int .i64 nx, .slice A ls.length c] ∧ ls.length ≤ c ∧ c ≤ maxLen ∧ AtItems w w.heap.size A ls := by
  have h3 : Try.prog.cellsOf 24 = 2 := by kernel_rfl
  have hc3 : Try.prog.cellsOf 3 = 1 := by kernel_rfl
  have hc27 : Try.prog.cellsOf 22 = 1 := by kernel_rfl
  rw [h3] at hs
  obtain ⟨v0, v1, rfl⟩ : ∃ v0 v1, cs = #[v0, v1] := by
    obtain ⟨l⟩ := cs
    match l, hs with
    | [a, b], _ => exact ⟨a, b, rfl⟩
  obtain ⟨xs, n, _, _, _, hlen, hf⟩ := DataW.trod_struct Try.underlying24 h
  match xs, hlen with
  | [y0, y1], _ =>
    have t0 : DataW.trod enc Try.prog w 0 spare held n 3 [v0] = some y0 := by simpa [hc3] using hf 0 _ rfl
    have t1 : DataW.trod enc Try.prog w 0 spare held n 22 [v1] = some y1 := by simpa [hc27] using hf 1 _ rfl
    obtain ⟨nx, e0, _, _⟩ := DataW.trod_int Try.underlying3 t0
    obtain ⟨A, ls, c, e1, hl, hm, ha⟩ := open_items (v := v1) t1
    simp at e0
    subst e0 e1
    exact ⟨nx, A, ls, c, rfl, hl, hm, ha⟩

theorem Qi.len {ms ls : List Qi.L} (h : ms.map Qi.v = ls.map Qi.v) : ms.length = ls.length := by have := congrArg List.length h; rwa [List.length_map, List.length_map] at this

set_option maxHeartbeats 1600000 in
theorem walkFnExactQueueValid (nx : Int) (A : Option Addr) (ls : List Qi.L) (c : Nat) (w : World) (h : AtItems w w.heap.size A ls) (hcap : ls.length ≤ c) (hcm : c ≤ maxLen) :
    Calls Try.prog 3 #[.agg #[.int .i64 nx, .slice A ls.length c]] w fun e w' => e = .returned (.bool true) ∧ Below w.heap.size w w' := by
  have hn : ls.length ≤ maxLen := Nat.le_trans hcap hcm
  have hbox : Below w.heap.size w (w.alloc (.cells #[.int .i64 nx, .slice A ls.length c] 24)) := (Below.refl _ _).alloc (Nat.le_refl _) _
  have hx0 := heap_alloc_new w (.cells #[.int .i64 nx, .slice A ls.length c] 24)
  have HA : Hid (∀ w', Below w.heap.size w w' → AtItems w' w'.heap.size A ls) := Lib.hid fun w' hb' => (h.below hb').mono hb'.size
  clear h
  go_enter Try.func3, Try.ntmps3
  go_upto_region 1 with fail
  generalize w.alloc (.cells #[.int .i64 nx, .slice A ls.length c] 24) = w0 at hbox hx0 ⊢
  obtain ⟨b, hb⟩ : ∃ b, b = w.heap.size := ⟨_, rfl⟩
  rw [← hb] at hx0 ⊢
  clear hb
  have hbl := (Array.getElem?_eq_some_iff.1 hx0).1
  have H1 : Hid (∀ w', Below w0.heap.size w0 w' → Below w.heap.size w w' ∧ w'.cell? ⟨b, 0, none⟩ = some (.int .i64 nx) ∧ w'.cell? ⟨b, 1, none⟩ = some (.slice A ls.length c)) := Lib.hid fun w' hb' => by
    have hx := (hb'.block b hbl).trans hx0
    exact ⟨hbox.trans (hb'.mono hbox.size), cell_at hx 0 _ rfl, cell_at hx 1 _ rfl⟩
  have HB0 : Hid (Below w0.heap.size w0 w0) := Lib.hid (Below.refl _ _)
  obtain ⟨want, hw⟩ : ∃ want, want = Qu.ok nx (ls.map Qi.v) := ⟨_, rfl⟩
  have HW := Lib.hid hw
  clear hx0 hbox hw
  have b0 := (H1.out _ HB0.out).2.1
  have b1 := (H1.out _ HB0.out).2.2
  go_wp2_with fail
  refine Calls.mono (szQueue_any nx A ls c _ _ (HA.out _ (H1.out _ HB0.out).1) hn (by omega) (by omega)) ?_
  rintro e w1 ⟨r, rfl, hm, hle, hq, hb1⟩
  have HQ := Lib.hid hq
  have HB1 := Lib.hid (HB0.out.trans hb1)
  clear hq hb1 b0 b1 HB0
  by_cases hneg : r < 0
  · go_wp2_with fail
    go_ret
    exact ⟨rfl, (H1.out _ HB1.out).1⟩
  · have HLEN := Lib.hid (HQ.out (by omega))
    have b0 := (H1.out _ HB1.out).2.1
    have b1 := (H1.out _ HB1.out).2.2
    go_wp2_with fail
    refine Calls.mono (toQueue_any nx A ls c _ (HA.out _ (H1.out _ HB1.out).1) HLEN.out) ?_
    rintro e w2 ⟨A2, m2, c2, rfl, hv2, hc2, hc2', h2, hb2⟩
    have HB2 := Lib.hid (HB1.out.trans (hb2.mono HB1.out.size))
    have HQ2 := Lib.hid (sQueueValid_any nx A2 m2 c2 _ h2 (Nat.le_trans hc2 hc2'))
    rw [hv2, ← HW.out] at HQ2
    clear hv2 hc2 hc2' h2 hb2 b0 b1 HB1
    go_wp2_with fail
    refine Calls.mono HQ2.out ?_
    rintro e w3 ⟨rfl, hb3⟩
    have HB3 := Lib.hid (HB2.out.trans (hb3.mono HB2.out.size))
    clear hb3 HB2 HQ2
    have b0 := (H1.out _ HB3.out).2.1
    have b1 := (H1.out _ HB3.out).2.2
    go_wp2_with fail
    refine Calls.mono (toQueue_any nx A ls c _ (HA.out _ (H1.out _ HB3.out).1) HLEN.out) ?_
    rintro e w4 ⟨A4, m4, c4, rfl, hv4, hc4, hc4', h4, hb4⟩
    have hb4a := HB3.out.trans (hb4.mono HB3.out.size)
    have hE := Below.alloc (Below.refl w4.heap.size w4) (Nat.le_refl _) (.cells #[.int .i64 nx, .slice A4 m4.length c4] 29)
    have hx := heap_alloc_new w4 (.cells #[.int .i64 nx, .slice A4 m4.length c4] 29)
    clear b0 b1
    go_upto_region 7 with fail
    generalize w4.alloc (.cells #[.int .i64 nx, .slice A4 m4.length c4] 29) = w5 at hE hx ⊢
    obtain ⟨p, hp⟩ : ∃ p, p = w4.heap.size := ⟨_, rfl⟩
    rw [← hp] at hx ⊢
    clear hp
    have hpl := (Array.getElem?_eq_some_iff.1 hx).1
    have HX5 : Hid (∀ w', Below w5.heap.size w5 w' → w'.cell? ⟨p, 0, none⟩ = some (.int .i64 nx) ∧ w'.cell? ⟨p, 1, none⟩ = some (.slice A4 m4.length c4)) := Lib.hid fun w' hb' => by
      have hx2 := (hb'.block p hpl).trans hx
      exact ⟨cell_at hx2 0 _ rfl, cell_at hx2 1 _ rfl⟩
    have HA4 : Hid (∀ w', Below w5.heap.size w5 w' → AtItems w' w'.heap.size A4 m4) := Lib.hid fun w' hb' => (((h4.below hE).mono hE.size).below hb').mono hb'.size
    have HB5 := Lib.hid (hb4a.trans (hE.mono hb4a.size))
    have HV4 := Lib.hid hv4
    have HQ4 := Lib.hid (iQueueValid_any nx A4 m4 c4 w5 (HA4.out _ (Below.refl _ _)) (Nat.le_trans hc4 hc4'))
    rw [hv4, ← HW.out] at HQ4
    have hm4 : m4.length ≤ maxLen := Nat.le_trans hc4 hc4'
    clear hx hE hb4a hb4 hv4 h4 HB3
    have x0 := (HX5.out w5 (Below.refl _ _)).1
    have x1 := (HX5.out w5 (Below.refl _ _)).2
    go_wp2_with fail
    refine Calls.mono HQ4.out ?_
    rintro e w6 ⟨rfl, hb6⟩
    have HB56 := Lib.hid hb6
    have HB6 := Lib.hid (HB5.out.trans (hb6.mono HB5.out.size))
    clear hb6 HB5 x0 x1 HQ4
    have x0 := (HX5.out w6 HB56.out).1
    have x1 := (HX5.out w6 HB56.out).2
    have b0 := (H1.out _ HB6.out).2.1
    have b1 := (H1.out _ HB6.out).2.2
    have HT : Hid (∀ w', Below w6.heap.size w6 w' → Calls Try.prog 9 #[.agg #[.int .i64 nx, .slice A ls.length c]] w' fun e w'' => ∃ A' ms c', e = .returned (.agg #[.int .i64 nx, .slice A' ms.length c']) ∧ ms.map Qi.v = ls.map Qi.v ∧ ms.length ≤ c' ∧ c' ≤ maxLen ∧ AtItems w'' w''.heap.size A' ms ∧ Below w'.heap.size w' w'') := Lib.hid fun w' hb => toQueue_any nx A ls c w' (HA.out _ (H1.out _ (HB6.out.trans (hb.mono HB6.out.size))).1) HLEN.out
    have HD : Hid (Below w6.heap.size w6 w6.drew) := Lib.hid (below_drewN (Below.refl _ _) 1)
    go_upto_region 10 with fail
    go_region_with ((first
      | (go_at_call 9; refine Calls.mono (HT.out _ HD.out) ?_; rintro e w7 ⟨A7, m7, c7, rfl, hv7, hc7, hc7', h7, hb7⟩; have hb7' : Below w6.heap.size w6 w7 := HD.out.trans hb7; have HB7 := Lib.hid hb7'; have HE := Lib.hid (eqQueue_any nx A4 A7 m4 m7 c4 c7 w7 (HA4.out _ (HB56.out.trans (hb7'.mono HB56.out.size))) h7 (HV4.out.trans hv7.symm) hm4); have x0 := (HX5.out w7 (HB56.out.trans (hb7'.mono HB56.out.size))).1; have x1 := (HX5.out w7 (HB56.out.trans (hb7'.mono HB56.out.size))).2; clear hb7 hb7' h7 hv7)
      | (go_at_call 11; refine Calls.mono HE.out ?_; rintro e w8 ⟨rfl, hb8⟩)))
    all_goals
      go_wp2_with fail
      go_ret
      exact ⟨rfl, (H1.out _ (HB6.out.trans ((HB7.out.trans (hb8.mono HB7.out.size)).mono HB6.out.size))).1⟩
end Go.Proofs.Ytpbaimofffcnaaa
