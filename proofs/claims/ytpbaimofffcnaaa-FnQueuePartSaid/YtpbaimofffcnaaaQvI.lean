/- idsAscend and QueueValid of the program. -/
import Derived.Test.YtpbaimofffcnaaaQvW
namespace Go.Proofs.Ytpbaimofffcnaaa
set_option linter.unusedVariables false
open Go.RowKit

namespace Hp
theorem pushes_snoc (l : List Int) (xs : List Int) (x : Int) : pushes l (xs ++ [x]) = push (pushes l xs) x := by
  induction xs generalizing l with
  | nil => rfl
  | cons y r ih => exact ih _
theorem pushes_len (l xs : List Int) : (pushes l xs).length = l.length + xs.length := by
  induction xs generalizing l with
  | nil => rfl
  | cons y r ih => show (pushes (push l y) r).length = _; rw [ih, push_len, List.length_cons]; omega
end Hp
namespace Qu
theorem ids_len (xs : List V) : (ids xs).length = xs.length := by unfold ids; rw [List.length_map]
theorem ids_at {ls : List Qi.L} {k : Nat} {u : Qi.L} (h : ls[k]? = some u) : (ids (ls.map Qi.v)).take (k + 1) = (ids (ls.map Qi.v)).take k ++ [u.id] := by
  have : (ids (ls.map Qi.v))[k]? = some u.id := by unfold ids; rw [List.getElem?_map, List.getElem?_map, h]; rfl
  rw [List.take_add_one, this]; rfl
theorem ids_dr {ls : List Qi.L} {k : Nat} {u : Qi.L} (h : ls[k]? = some u) : (ids (ls.map Qi.v)).drop k = u.id :: (ids (ls.map Qi.v)).drop (k + 1) := by
  have : (ids (ls.map Qi.v))[k]? = some u.id := by unfold ids; rw [List.getElem?_map, List.getElem?_map, h]; rfl
  obtain ⟨hk, e⟩ := List.getElem?_eq_some_iff.1 this
  rw [List.drop_eq_getElem_cons hk, e]
theorem asc_cons (b last i : Int) (r : List Int) : asc b last (i :: r) = (decide (b < i ∧ i ≤ last) && asc i last r) := rfl
end Qu

set_option maxRecDepth 100000 in
set_option maxHeartbeats 3200000 in
theorem idsAscend_any (A : Option Addr) (ls : List Qi.L) (c : Nat) (last : Int) (w : World) (h : AtItems w w.heap.size A ls) (hn : ls.length ≤ 6) :
    Calls Try.prog 22 #[.slice A ls.length c, .int .i64 last] w fun e w' => e = .returned (.bool (Qu.asc 0 last (Qu.ids (ls.map Qi.v)))) ∧ Below w.heap.size w w' := by
  obtain ⟨is, his⟩ : ∃ is, is = Qu.ids (ls.map Qi.v) := ⟨_, rfl⟩
  have hil : is.length = ls.length := by rw [his, Qu.ids_len, List.length_map]
  have HIS := Lib.hid his
  rw [← his]
  clear his
  have HA : Hid (∀ w', Below w.heap.size w w' → AtItems w' w'.heap.size A ls) := Lib.hid fun w' hb' => (h.below hb').mono hb'.size
  obtain ⟨b, hb⟩ : ∃ b, b = w.heap.size + 1 := ⟨_, rfl⟩
  have hs0 : HpSt w.heap.size (w.heap.size + 1) [] ((w.alloc (.cells #[] 3)).alloc (.cells #[.slice (some ⟨w.heap.size, 0, none⟩) 0 0] 68)) := by
    refine ⟨.slice (some ⟨w.heap.size, 0, none⟩) 0 0, ?_, OwnL.alloc (ownL_nil w (Nat.le_refl _)) _, by omega⟩
    have := heap_alloc_new (w.alloc (.cells #[] 3)) (.cells #[.slice (some ⟨w.heap.size, 0, none⟩) 0 0] 68)
    simpa using this
  have hb0 : Below w.heap.size w ((w.alloc (.cells #[] 3)).alloc (.cells #[.slice (some ⟨w.heap.size, 0, none⟩) 0 0] 68)) := ((Below.refl _ _).alloc (Nat.le_refl _) _).alloc (by simp) _
  rw [← hb] at hs0
  have HS0 := Lib.hid hs0
  have HB0 := Lib.hid hb0
  clear hs0 hb0 h
  go_enter Try.func22, Try.ntmps22
  go_upto_region 2 with fail
  rw [← hb]
  clear hb
  generalize (w.alloc (.cells #[] 3)).alloc (.cells #[.slice (some ⟨w.heap.size, 0, none⟩) 0 0] 68) = w0 at HS0 HB0 ⊢
  go_wp2_with fail
  go_loopg [16] ls.length (fun g i wr => ∃ k : Nat, k ≤ ls.length ∧ Hid (g = ls.length - k) ∧ i = .int .i64 k ∧ Hid (HpSt w.heap.size b (Hp.pushes [] (is.take k)) wr) ∧ Below w.heap.size w wr)
  case atStart => exact ⟨0, Nat.zero_le _, Lib.hid rfl, rfl, Lib.hid (by rw [List.take_zero]; exact HS0.out), HB0.out⟩
  case round =>
    obtain ⟨k, hk, HG, rfl, HS, hbr⟩ := hrel
    by_cases hlt : k < ls.length
    · have hki : (k : Int) < (ls.length : Int) := by omega
      have HI := Lib.hid (HA.out wr hbr)
      obtain ⟨g, off, hA, hg, hc⟩ := HI.out.row (by omega)
      obtain ⟨u, hu⟩ : ∃ u, ls[k]? = some u := ⟨_, List.getElem?_eq_getElem hlt⟩
      obtain ⟨d0, d1, d2, d3⟩ := hc k u hu
      have HTK := Lib.hid (Qu.ids_at hu)
      rw [← HIS.out] at HTK
      subst hA
      clear hc hu
      obtain ⟨id, f, t, A1, us, c1⟩ := u
      dsimp only at d0 d1 d2 d3
      have hE := Below.alloc (Below.refl wr.heap.size wr) (Nat.le_refl _) (.cells #[.int .i64 id, .string f, .string t, .slice A1 us.length c1] 43)
      have hx := heap_alloc_new wr (.cells #[.int .i64 id, .string f, .string t, .slice A1 us.length c1] 43)
      go_upto_region 5 with fail
      generalize wr.alloc (.cells #[.int .i64 id, .string f, .string t, .slice A1 us.length c1] 43) = w2 at hE hx ⊢
      obtain ⟨p, hp⟩ : ∃ p, p = wr.heap.size := ⟨_, rfl⟩
      rw [← hp] at hx ⊢
      clear hp d0 d1 d2 d3
      have x0 : w2.cell? ⟨p, 0, none⟩ = some (.int .i64 id) := cell_at hx 0 _ rfl
      have hb2 := hbr.trans (hE.mono hbr.size)
      have HS2 : Hid (HpSt w.heap.size b (Hp.pushes [] (is.take k)) w2) := Lib.hid (by
        obtain ⟨v, hv, ho, hB⟩ := HS.out
        exact ⟨v, (hE.block b (Array.getElem?_eq_some_iff.1 hv).1).trans hv, OwnL.below ho hE, hB⟩)
      have hpl : (Hp.pushes [] (is.take k)).length ≤ 5 := by rw [Hp.pushes_len, List.length_take]; simp; omega
      have HPS : Hid (Hp.push (Hp.pushes [] (is.take k)) id = Hp.pushes [] (is.take (k + 1))) := Lib.hid (by rw [HTK.out, Hp.pushes_snoc])
      clear hx hE
      go_wp2_with fail
      refine Calls.mono (hpPush_any w.heap.size b _ id hpl w2 HS2.out hb2.size) ?_
      rintro e w3 ⟨⟨r, rfl⟩, hs3, hb3⟩
      have HS3 := Lib.hid hs3
      rw [HPS.out] at HS3
      clear hs3
      go_wp2_with fail
      go_roundg (ls.length - (k + 1))
      case measure => have := HG.out; omega
      case rel => exact ⟨k + 1, by omega, Lib.hid rfl, by go_num, HS3, hb2.trans hb3.b⟩
    · obtain rfl : k = ls.length := by omega
      have hki : ¬ (ls.length : Int) < (ls.length : Int) := by omega
      have HPO : Hid (Qu.asc 0 last is = true → Hp.pops ls.length (Hp.pushes [] is) = is) := Lib.hid (fun ha => by
        have := Hp.sorted_out ((Qu.asc_pair is 0 last).1 ha).1 (by omega)
        rw [hil] at this; exact this)
      have HSE : Hid (HpSt w.heap.size b (Hp.pushes [] is) wr) := Lib.hid (by have := HS.out; rw [← hil, List.take_length] at this; exact this)
      have HSL : Hid ((Hp.pushes [] is).length = ls.length) := Lib.hid (by rw [Hp.pushes_len]; simp; exact hil)
      clear HS
      go_wp2_with fail
      go_loopg [8, 29] ls.length (fun g be i wr2 => ∃ (k : Nat) (before : Int) (l' : List Int), k ≤ ls.length ∧ Hid (g = ls.length - k) ∧ i = .int .i64 k ∧ be = .int .i64 before ∧ Hid (l'.length = ls.length - k) ∧ Hid (Qu.asc 0 last is = Qu.asc before last (is.drop k)) ∧ Hid (Qu.asc 0 last is = true → Hp.pops (ls.length - k) l' = is.drop k) ∧ Hid (HpSt w.heap.size b l' wr2) ∧ Below w.heap.size w wr2)
      case atStart => exact ⟨0, 0, _, Nat.zero_le _, Lib.hid rfl, rfl, rfl, HSL, Lib.hid rfl, HPO, HSE, hbr⟩
      case round =>
        obtain ⟨k, before, l', hk, HG, rfl, rfl, HLL, HAS, HPP, HS, hbr2⟩ := hrel
        rename World => wr2
        by_cases hlt2 : k < ls.length
        · have hki2 : (k : Int) < (ls.length : Int) := by omega
          have HI := Lib.hid (HA.out wr2 hbr2)
          obtain ⟨g, off, hA, hg, hc⟩ := HI.out.row (by omega)
          obtain ⟨u, hu⟩ : ∃ u, ls[k]? = some u := ⟨_, List.getElem?_eq_getElem hlt2⟩
          obtain ⟨d0, d1, d2, d3⟩ := hc k u hu
          have HDK := Lib.hid (Qu.ids_dr hu)
          rw [← HIS.out] at HDK
          subst hA
          clear hc hu
          obtain ⟨id, f, t, A1, us, c1⟩ := u
          dsimp only at d0 d1 d2 d3 HDK
          have hE := Below.alloc (Below.refl wr2.heap.size wr2) (Nat.le_refl _) (.cells #[.int .i64 id, .string f, .string t, .slice A1 us.length c1] 43)
          have hx := heap_alloc_new wr2 (.cells #[.int .i64 id, .string f, .string t, .slice A1 us.length c1] 43)
          go_upto_region 11 with fail
          generalize wr2.alloc (.cells #[.int .i64 id, .string f, .string t, .slice A1 us.length c1] 43) = w2 at hE hx ⊢
          obtain ⟨p, hp⟩ : ∃ p, p = wr2.heap.size := ⟨_, rfl⟩
          rw [← hp] at hx ⊢
          have hbp : b ≠ p := by
            obtain ⟨v, hv, _⟩ := HS.out
            have := (Array.getElem?_eq_some_iff.1 hv).1
            omega
          have hwp : w.heap.size ≤ p := by rw [hp]; exact hbr2.size
          clear hp d0 d1 d2 d3
          have hb2 := hbr2.trans (hE.mono hbr2.size)
          have HS2 : Hid (HpSt w.heap.size b l' w2) := Lib.hid (by
            obtain ⟨v, hv, ho, hB⟩ := HS.out
            exact ⟨v, (hE.block b (Array.getElem?_eq_some_iff.1 hv).1).trans hv, OwnL.below ho hE, hB⟩)
          obtain ⟨y, l2, hpop⟩ : ∃ y l2, Hp.pop l' = (y, l2) := ⟨_, _, rfl⟩
          have hpl2 := Hp.pop_len l'
          obtain ⟨m, hm⟩ : ∃ m, ls.length - k = m + 1 := ⟨ls.length - k - 1, by omega⟩
          have HP2 : Hid (Qu.asc 0 last is = true → y = id ∧ Hp.pops m l2 = is.drop (k + 1)) := Lib.hid (fun ha => by
            have h1 := HPP.out ha
            rw [hm, HDK.out] at h1
            have h2 : Hp.pops (m + 1) l' = (Hp.pop l').1 :: Hp.pops m (Hp.pop l').2 := rfl
            rw [h2, hpop] at h1
            injection h1 with h3 h4
            exact ⟨h3, h4⟩)
          have HPO2 := Lib.hid (hpPop_any w.heap.size b l' (by have := HLL.out; omega) (by have := HLL.out; omega) w2 HS2.out hb2.size)
          rw [hpop] at HPO2 hpl2
          dsimp only at HPO2 hpl2
          have HX := Lib.hid hx
          have hta : ∀ w, (Instr.typeAssert (.iface 3 (.int .i64 y)) 20 3 false).run Try.prog w = .ok (.int .i64 y) w := fun _ => by kernel_rfl
          clear hpop hx hE
          go_wp2_with fail
          refine Calls.mono HPO2.out ?_
          rintro e w3 ⟨rfl, hs3, hb3⟩
          have hb4 := hb2.trans hb3.b
          have y0 : w3.cell? ⟨p, 0, none⟩ = some (.int .i64 id) := cell_at ((hb3.k p _ _ (by decide) (by decide) HX.out).trans HX.out) 0 _ rfl
          have HS3 := Lib.hid hs3
          clear hs3 hb3 HPO2
          by_cases hyi : y = id
          · subst hyi
            by_cases hbe : y ≤ before
            · have HE : Hid (Qu.asc 0 last is = false) := Lib.hid (by rw [HAS.out, HDK.out, Qu.asc_cons, decide_eq_false (by omega)]; rfl)
              go_wp2_with fail
              go_ret
              rw [HE.out]
              exact ⟨rfl, hb4⟩
            · by_cases hla : last < y
              · have HE : Hid (Qu.asc 0 last is = false) := Lib.hid (by rw [HAS.out, HDK.out, Qu.asc_cons, decide_eq_false (by omega)]; rfl)
                go_wp2_with fail
                go_ret
                rw [HE.out]
                exact ⟨rfl, hb4⟩
              · have HE : Hid (Qu.asc 0 last is = Qu.asc y last (is.drop (k + 1))) := Lib.hid (by rw [HAS.out, HDK.out, Qu.asc_cons, decide_eq_true (by omega)]; rfl)
                go_wp2_with fail
                go_roundg (ls.length - (k + 1))
                case measure => have := HG.out; omega
                case rel => exact ⟨k + 1, y, l2, by omega, Lib.hid rfl, by go_num, rfl, Lib.hid (by have := HLL.out; omega), HE, Lib.hid (fun ha => by rw [show ls.length - (k + 1) = m by omega]; exact (HP2.out ha).2), HS3, hb4⟩
          · have HE : Hid (Qu.asc 0 last is = false) := Lib.hid (by
              cases ha : Qu.asc 0 last is
              · rfl
              · exact absurd (HP2.out ha).1 hyi)
            have hyi2 : (y != id) = true := by simpa using hyi
            go_wp2_with fail
            go_ret
            rw [HE.out]
            exact ⟨rfl, hb4⟩
        · obtain rfl : k = ls.length := by omega
          have hki2 : ¬ (ls.length : Int) < (ls.length : Int) := by omega
          have HE : Hid (Qu.asc 0 last is = true) := Lib.hid (by rw [HAS.out, ← hil, List.drop_length]; rfl)
          go_wp2_with fail
          go_ret
          rw [HE.out]
          exact ⟨rfl, hbr2⟩

set_option maxHeartbeats 1600000 in
theorem iQueueValid_any (nx : Int) (A : Option Addr) (ls : List Qi.L) (c : Nat) (w : World) (h : AtItems w w.heap.size A ls) (hn : ls.length ≤ maxLen) :
    Calls Try.prog 10 #[.agg #[.int .i64 nx, .slice A ls.length c]] w fun e w' => e = .returned (.bool (Qu.ok nx (ls.map Qi.v))) ∧ Below w.heap.size w w' := by
  unfold maxLen at hn
  have hB0 : Below w.heap.size w (w.alloc (.cells #[.int .i64 nx, .slice A ls.length c] 29)) := (Below.refl _ _).alloc (Nat.le_refl _) _
  have hx0 := heap_alloc_new w (.cells #[.int .i64 nx, .slice A ls.length c] 29)
  obtain ⟨vs, hvs⟩ : ∃ vs, vs = ls.map Qi.v := ⟨_, rfl⟩
  have HVS := Lib.hid hvs
  have HVL : Hid (vs.length = ls.length) := Lib.hid (by rw [hvs, List.length_map])
  rw [← hvs]
  clear hvs
  go_enter Try.func10, Try.ntmps10
  go_upto_region 1 with fail
  generalize w.alloc (.cells #[.int .i64 nx, .slice A ls.length c] 29) = w1 at hB0 hx0 ⊢
  obtain ⟨b, hb⟩ : ∃ b, b = w.heap.size := ⟨_, rfl⟩
  rw [← hb] at hx0 ⊢
  clear hb
  have hbl := (Array.getElem?_eq_some_iff.1 hx0).1
  have H1 : Hid (∀ w', Below w1.heap.size w1 w' → Below w.heap.size w w' ∧ w'.cell? ⟨b, 0, none⟩ = some (.int .i64 nx) ∧ w'.cell? ⟨b, 1, none⟩ = some (.slice A ls.length c)) := Lib.hid fun w' hb' => by
    have hx := (hb'.block b hbl).trans hx0
    exact ⟨hB0.trans (hb'.mono hB0.size), cell_at hx 0 _ rfl, cell_at hx 1 _ rfl⟩
  have HA : Hid (∀ w', Below w.heap.size w w' → AtItems w' w'.heap.size A ls) := Lib.hid fun w' hb' => (h.below hb').mono hb'.size
  clear hB0 hx0 h
  have b0 := (H1.out w1 (Below.refl _ _)).2.1
  have b1 := (H1.out w1 (Below.refl _ _)).2.2
  by_cases h6 : ls.length ≤ 6
  · have h6i : ¬ (6 : Int) < (ls.length : Int) := by omega
    by_cases hnx : 1 ≤ nx ∧ nx ≤ 100
    · have hn1 : ¬ nx < 1 := by omega
      have hn2 : ¬ 100 < nx := by omega
      go_upto_region 3 with fail
      clear b0 b1
      obtain ⟨wz, hwz⟩ : ∃ wz, wz = w1 := ⟨_, rfl⟩
      have b1 := (H1.out w1 (Below.refl _ _)).2.2
      go_wp2_with fail
      clear b1
      go_loopg [22] ls.length (fun g i wr => ∃ k : Nat, k ≤ ls.length ∧ Hid (g = ls.length - k) ∧ i = .int .i64 k ∧ Hid (Qu.fine vs = Qu.fine (vs.drop k)) ∧ Below w1.heap.size w1 wr)
      case atStart => exact ⟨0, Nat.zero_le _, Lib.hid rfl, rfl, Lib.hid rfl, Below.refl _ _⟩
      case round =>
        obtain ⟨k, hk, HG, rfl, HF, hb⟩ := hrel
        have b0 := (H1.out wr hb).2.1
        have b1 := (H1.out wr hb).2.2
        by_cases hlt : k < ls.length
        · have hki : (k : Int) < (ls.length : Int) := by omega
          have HI := Lib.hid (HA.out wr (H1.out wr hb).1)
          obtain ⟨g, off, hA, hg, hc⟩ := HI.out.row (by omega)
          obtain ⟨u, hu⟩ : ∃ u, ls[k]? = some u := ⟨_, List.getElem?_eq_getElem hlt⟩
          obtain ⟨d0, d1, d2, d3⟩ := hc k u hu
          have HDV := Lib.hid (Qu.drop_v hu)
          rw [← HVS.out] at HDV
          have HU := Lib.hid (HI.out.2 u (List.mem_of_getElem? hu))
          subst hA
          clear hc hu b0 b1
          obtain ⟨id, f, t, A1, us, c1⟩ := u
          dsimp only at d0 d1 d2 d3
          have hE := Below.alloc (Below.refl wr.heap.size wr) (Nat.le_refl _) (.cells #[.int .i64 id, .string f, .string t, .slice A1 us.length c1] 43)
          have hx := heap_alloc_new wr (.cells #[.int .i64 id, .string f, .string t, .slice A1 us.length c1] 43)
          go_upto_region 6 with fail
          generalize wr.alloc (.cells #[.int .i64 id, .string f, .string t, .slice A1 us.length c1] 43) = w2 at hE hx ⊢
          obtain ⟨p, hp⟩ : ∃ p, p = wr.heap.size := ⟨_, rfl⟩
          rw [← hp] at hx ⊢
          clear hp d0 d1 d2 d3
          have HU2 := Lib.hid ((HU.out.below hE).mono hE.size)
          have hb2 := hb.trans (hE.mono hb.size)
          have x1 : w2.cell? ⟨p, 1, none⟩ = some (.string f) := cell_at hx 1 _ rfl
          have x2 : w2.cell? ⟨p, 2, none⟩ = some (.string t) := cell_at hx 2 _ rfl
          have x3 : w2.cell? ⟨p, 3, none⟩ = some (.slice A1 us.length c1) := cell_at hx 3 _ rfl
          clear hx hE
          go_wp2_with fail
          refine Calls.mono (iLetterValid_any f t A1 us c1 _ HU2.out.1 HU2.out.2.1 HU2.out.2.2.1 HU2.out.2.2.2.1 HU2.out.2.2.2.2) ?_
          rintro e w4 ⟨rfl, hb4⟩
          have hb5 := hb2.trans (hb4.mono hb2.size)
          cases hok : Lt.ok f us t
          · have HE : Hid (Qu.ok nx vs = false) := Lib.hid (Qu.ok_nof (by rw [HF.out, Qu.fine_d HDV.out, show (Qi.v ⟨id, f, t, A1, us, c1⟩).ok = false from hok]; rfl))
            go_wp2_with fail
            go_ret
            rw [HE.out]
            exact ⟨rfl, (H1.out _ hb5).1⟩
          · have HF2 : Hid (Qu.fine vs = Qu.fine (vs.drop (k + 1))) := Lib.hid (by rw [HF.out, Qu.fine_d HDV.out, show (Qi.v ⟨id, f, t, A1, us, c1⟩).ok = true from hok]; rfl)
            go_wp2_with fail
            go_roundg (ls.length - (k + 1))
            case measure => have := HG.out; omega
            case rel => exact ⟨k + 1, by omega, Lib.hid rfl, by go_num, HF2, hb5⟩
        · obtain rfl : k = ls.length := by omega
          have hki : ¬ (ls.length : Int) < (ls.length : Int) := by omega
          have HE : Hid (Qu.ok nx vs = Qu.asc 0 (nx - 1) (Qu.ids (ls.map Qi.v))) := Lib.hid (by
            rw [← HVS.out]
            exact Qu.ok_is (by rw [HVL.out]; exact h6) hnx (by rw [HF.out, ← HVL.out, List.drop_length]; rfl))
          have HQ := Lib.hid (idsAscend_any A ls c (nx - 1) wr (HA.out wr (H1.out wr hb).1) h6)
          rw [← HE.out] at HQ
          have hnx1 := hnx.1
          have hnx2 := hnx.2
          go_wp2_with fail
          refine Calls.mono HQ.out ?_
          rintro e w4 ⟨rfl, hb4⟩
          go_wp2_with fail
          go_ret
          exact ⟨rfl, (H1.out _ (hb.trans (hb4.mono hb.size))).1⟩
    · have HE : Hid (Qu.ok nx vs = false) := Lib.hid (Qu.ok_non hnx)
      have HB : Hid (Below w.heap.size w w1) := Lib.hid (H1.out w1 (Below.refl _ _)).1
      by_cases hn1 : nx < 1
      · go_wp2_with fail
        go_ret
        rw [HE.out]
        exact ⟨rfl, HB.out⟩
      · have hn2 : 100 < nx := by omega
        go_wp2_with fail
        go_ret
        rw [HE.out]
        exact ⟨rfl, HB.out⟩
  · have h6i : (6 : Int) < (ls.length : Int) := by omega
    have HE : Hid (Qu.ok nx vs = false) := Lib.hid (Qu.ok_no6 (by rw [HVL.out]; exact h6))
    have HB : Hid (Below w.heap.size w w1) := Lib.hid (H1.out w1 (Below.refl _ _)).1
    go_wp2_with fail
    go_ret
    rw [HE.out]
    exact ⟨rfl, HB.out⟩
end Go.Proofs.Ytpbaimofffcnaaa
