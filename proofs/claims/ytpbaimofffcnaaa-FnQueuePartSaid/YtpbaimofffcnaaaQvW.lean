/- QueueValid of both sides. -/
import Derived.Test.YtpbaimofffcnaaaQiEx
import Derived.Test.YtpbaimofffcnaaaHpW2
namespace Go.Proofs.Ytpbaimofffcnaaa
set_option linter.unusedVariables false
open Go.RowKit

namespace Qu
theorem drop_v {ls : List Qi.L} {k : Nat} {x : Qi.L} (h : ls[k]? = some x) : (ls.map Qi.v).drop k = Qi.v x :: (ls.map Qi.v).drop (k + 1) :=
  ids_drop _ (by rw [List.getElem?_map, h]; rfl)
theorem ids_d (xs : List V) (k : Nat) : ids (xs.drop k) = (ids xs).drop k := by unfold ids; exact List.map_drop
theorem fine_d {xs : List V} {k : Nat} {x : V} (h : xs.drop k = x :: xs.drop (k + 1)) : fine (xs.drop k) = (x.ok && fine (xs.drop (k + 1))) := by rw [h]; rfl
theorem fine_no {xs : List V} {k : Nat} (h : fine (xs.drop k) = false) : fine xs = false := by
  cases hf : fine xs
  · rfl
  · rw [fine_iff] at hf
    have : fine (xs.drop k) = true := (fine_iff _).2 fun x hx => hf x (List.mem_of_mem_drop hx)
    rw [this] at h; cases h
end Qu

set_option maxHeartbeats 1600000 in
theorem sQueueValid_any (nx : Int) (A : Option Addr) (ls : List Qi.L) (c : Nat) (w : World) (h : AtItems w w.heap.size A ls) (hn : ls.length ≤ maxLen) :
    Calls Try.prog 8 #[.agg #[.int .i64 nx, .slice A ls.length c]] w fun e w' => e = .returned (.bool (Qu.ok nx (ls.map Qi.v))) ∧ Below w.heap.size w w' := by
  unfold maxLen at hn
  have hB0 : Below w.heap.size w (w.alloc (.cells #[.int .i64 nx, .slice A ls.length c] 29)) := (Below.refl _ _).alloc (Nat.le_refl _) _
  have hx0 := heap_alloc_new w (.cells #[.int .i64 nx, .slice A ls.length c] 29)
  obtain ⟨vs, hvs⟩ : ∃ vs, vs = ls.map Qi.v := ⟨_, rfl⟩
  have HVS := Lib.hid hvs
  have HSP := Lib.hid (Qu.spec_is nx vs)
  have HVL : Hid (vs.length = ls.length) := Lib.hid (by rw [hvs, List.length_map])
  rw [← hvs]
  clear hvs
  go_enter Try.func8, Try.ntmps8
  go_upto_region 1 with fail
  generalize w.alloc (.cells #[.int .i64 nx, .slice A ls.length c] 29) = w1 at hB0 hx0 ⊢
  obtain ⟨b, hb⟩ : ∃ b, b = w.heap.size := ⟨_, rfl⟩
  have hbw : w.heap.size ≤ b := by omega
  rw [← hb] at hx0 ⊢
  clear hb
  have hbl := (Array.getElem?_eq_some_iff.1 hx0).1
  have H1 : Hid (∀ w', Below w1.heap.size w1 w' → Below w.heap.size w w' ∧ w'.cell? ⟨b, 0, none⟩ = some (.int .i64 nx) ∧ w'.cell? ⟨b, 1, none⟩ = some (.slice A ls.length c)) := Lib.hid fun w' hb' => by
    have hx := (hb'.block b hbl).trans hx0
    exact ⟨hB0.trans (hb'.mono hB0.size), cell_at hx 0 _ rfl, cell_at hx 1 _ rfl⟩
  have HA : Hid (∀ w', Below w.heap.size w w' → AtItems w' w'.heap.size A ls) := Lib.hid fun w' hb' => (h.below hb').mono hb'.size
  clear hB0 hx0 h
  go_wp2_with fail
  go_loopg [3, 4] ls.length (fun g la i wr => ∃ (k : Nat) (last : Int), k ≤ ls.length ∧ Hid (g = ls.length - k) ∧ i = .int .i64 k ∧ la = .int .i64 last ∧ 0 ≤ last ∧ last ≤ 99 ∧ Hid (Qu.chain 0 vs = Qu.chain last (vs.drop k)) ∧ Hid (Qu.lastId 0 (Qu.ids vs) = Qu.lastId last (Qu.ids (vs.drop k))) ∧ Below w1.heap.size w1 wr)
  case atStart => exact ⟨0, 0, Nat.zero_le _, Lib.hid rfl, rfl, rfl, by omega, by omega, Lib.hid rfl, Lib.hid rfl, Below.refl _ _⟩
  case round =>
    obtain ⟨k, last, hk, HG, rfl, rfl, hl0, hl9, HC, HL, hb⟩ := hrel
    have b0 := (H1.out wr hb).2.1
    have b1 := (H1.out wr hb).2.2
    by_cases hlt : k < ls.length
    · have hki : (k : Int) < (ls.length : Int) := by omega
      have HI := Lib.hid (HA.out wr (H1.out wr hb).1)
      obtain ⟨g, off, hA, hg, hc⟩ := HI.out.row (by omega)
      obtain ⟨u, hu⟩ : ∃ u, ls[k]? = some u := ⟨_, List.getElem?_eq_getElem hlt⟩
      obtain ⟨d0, d1, d2, d3⟩ := hc k u hu
      have HDV := Lib.hid (Qu.drop_v hu)
      rw [← HVS.out] at HDV
      have HU := Lib.hid (HI.out.2 u (List.mem_of_getElem? hu))
      subst hA
      clear hc hu
      obtain ⟨id, f, t, A1, us, c1⟩ := u
      dsimp only at d0 d1 d2 d3
      by_cases hid : last + 1 ≤ id ∧ id ≤ 99
      · have HY := fun W => l6In_yes id (last + 1) 99 W hid
        have HYH := Lib.hid HY
        clear HY
        have hE := Below.alloc (Below.refl wr.heap.size wr) (Nat.le_refl _) (.cells #[.int .i64 id, .string f, .string t, .slice A1 us.length c1] 43)
        have hx := heap_alloc_new wr (.cells #[.int .i64 id, .string f, .string t, .slice A1 us.length c1] 43)
        go_upto_region 6 with fail
        generalize wr.alloc (.cells #[.int .i64 id, .string f, .string t, .slice A1 us.length c1] 43) = w2 at hE hx ⊢
        obtain ⟨p, hp⟩ : ∃ p, p = wr.heap.size := ⟨_, rfl⟩
        rw [← hp] at hx ⊢
        clear hp d0 d1 d2 d3 b0 b1
        have hpl := (Array.getElem?_eq_some_iff.1 hx).1
        have HU2 := Lib.hid ((HU.out.below hE).mono hE.size)
        have hb2 := hb.trans (hE.mono hb.size)
        have x0 : w2.cell? ⟨p, 0, none⟩ = some (.int .i64 id) := cell_at hx 0 _ rfl
        have x1 : w2.cell? ⟨p, 1, none⟩ = some (.string f) := cell_at hx 1 _ rfl
        have x2 : w2.cell? ⟨p, 2, none⟩ = some (.string t) := cell_at hx 2 _ rfl
        have x3 : w2.cell? ⟨p, 3, none⟩ = some (.slice A1 us.length c1) := cell_at hx 3 _ rfl
        have HX := Lib.hid hx
        clear hx hE
        go_wp2_with fail
        refine Calls.mono (HYH.out _) ?_
        rintro e w3 ⟨rfl, rfl⟩
        have hidi := hid.2
        go_wp2_with fail
        refine Calls.mono (sLetterValid_any f t A1 us c1 _ HU2.out.1 HU2.out.2.1 HU2.out.2.2.1 HU2.out.2.2.2.1 HU2.out.2.2.2.2) ?_
        rintro e w4 ⟨rfl, hb4⟩
        have hb5 := hb2.trans (hb4.mono hb2.size)
        cases hok : Lt.ok f us t
        · have HF : Hid (Qu.ok nx vs = false) := Lib.hid (by
            rw [← HSP.out, HC.out, HDV.out]
            unfold Qu.chain
            rw [show (Qi.v ⟨id, f, t, A1, us, c1⟩).ok = false from hok]; simp)
          go_wp2_with fail
          go_ret
          rw [HF.out]
          exact ⟨rfl, (H1.out _ hb5).1⟩
        · have HC2 : Hid (Qu.chain 0 vs = Qu.chain id (vs.drop (k + 1))) := Lib.hid (by
            rw [HC.out, HDV.out]
            show (decide (last + 1 ≤ id ∧ id ≤ 99) && (Qi.v ⟨id, f, t, A1, us, c1⟩).ok && Qu.chain id (vs.drop (k + 1))) = _
            rw [show (Qi.v ⟨id, f, t, A1, us, c1⟩).ok = true from hok, decide_eq_true hid]; simp)
          have HL2 : Hid (Qu.lastId 0 (Qu.ids vs) = Qu.lastId id (Qu.ids (vs.drop (k + 1)))) := Lib.hid (by rw [HL.out, HDV.out]; rfl)
          have y0 : w4.cell? ⟨p, 0, none⟩ = some (.int .i64 id) := cell_at ((hb4.block p hpl).trans HX.out) 0 _ rfl
          go_wp2_with fail
          go_roundg (ls.length - (k + 1))
          case measure => have := HG.out; omega
          case rel => exact ⟨k + 1, id, by omega, Lib.hid rfl, by go_num, rfl, by omega, by omega, HC2, HL2, hb5⟩
      · have HY := fun W => l6In_no id (last + 1) 99 W hid
        have HYH := Lib.hid HY
        have HF : Hid (Qu.ok nx vs = false) := Lib.hid (by
          rw [← HSP.out, HC.out, HDV.out]
          unfold Qu.chain
          rw [show decide (last + 1 ≤ (Qi.v ⟨id, f, t, A1, us, c1⟩).id ∧ (Qi.v ⟨id, f, t, A1, us, c1⟩).id ≤ 99) = false from decide_eq_false hid]; simp)
        have hE := Below.alloc (Below.refl wr.heap.size wr) (Nat.le_refl _) (.cells #[.int .i64 id, .string f, .string t, .slice A1 us.length c1] 43)
        have hb2 := hb.trans (hE.mono hb.size)
        clear HY hid hE
        go_wp2_with fail
        refine Calls.mono (HYH.out _) ?_
        rintro e w3 ⟨rfl, rfl⟩
        go_wp2_with fail
        go_ret
        rw [HF.out]
        exact ⟨rfl, (H1.out _ hb2).1⟩
    · obtain rfl : k = ls.length := by omega
      have hki : ¬ (ls.length : Int) < (ls.length : Int) := by omega
      have HE : Hid (Qu.ok nx vs = (decide (last + 1 ≤ nx ∧ nx ≤ 100) && decide (ls.length ≤ 6))) := Lib.hid (by
        rw [← HSP.out, HC.out, HL.out, ← HVL.out, List.drop_length]
        rfl)
      by_cases hid : last + 1 ≤ nx ∧ nx ≤ 100
      · have HYH := Lib.hid (fun W => l6In_yes nx (last + 1) 100 W hid)
        have HE2 : Hid (Qu.ok nx vs = decide (ls.length ≤ 6)) := Lib.hid (by rw [HE.out, decide_eq_true hid]; rfl)
        go_wp2_with fail
        refine Calls.mono (HYH.out _) ?_
        rintro e w3 ⟨rfl, rfl⟩
        go_wp2_with fail
        go_ret
        rw [HE2.out]
        exact ⟨by simp; omega, (H1.out _ hb).1⟩
      · have HYH := Lib.hid (fun W => l6In_no nx (last + 1) 100 W hid)
        have HE2 : Hid (Qu.ok nx vs = false) := Lib.hid (by rw [HE.out, decide_eq_false hid]; rfl)
        clear hid
        go_wp2_with fail
        refine Calls.mono (HYH.out _) ?_
        rintro e w3 ⟨rfl, rfl⟩
        go_wp2_with fail
        go_ret
        rw [HE2.out]
        exact ⟨rfl, (H1.out _ hb).1⟩
end Go.Proofs.Ytpbaimofffcnaaa
