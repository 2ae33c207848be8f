/- The draw of a session whose letter is complete, mostly. (Printed by mksml.py.) -/
import Derived.Test.YtnbggmmghopphaaSmK
namespace Go.Proofs.Ytnbggmmghopphaa
set_option linter.unusedVariables false
open Go.RowKit
open Us (U)

/-- a session that was drawn -/
def Sm.Drawn (w : World) (e : Ending) (w' : World) : Prop :=
  ∃ st f A us c t, Sm.small ⟨st, f, us, t⟩ ∧ us.length ≤ c ∧ c ≤ maxLen ∧ e = .returned (.agg #[.int .i64 st, .string f, .slice A us.length c, .string t]) ∧ AtStrs w' w'.heap.size A us ∧ Below w.heap.size w w'
theorem Sm.drawn_fin {w W : World} {st : Int} {f t : ByteArray} {A : Option Addr} {us : List ByteArray} {c B' : Nat} (hs : Sm.small ⟨st, f, us, t⟩) (hf : Sm.From W B' A us) (hB : w.heap.size < B') (hc : us.length ≤ c) (hm : c ≤ maxLen) (hb : Below w.heap.size w W) (v0 v1 v2 v3 : Value) :
    Sm.Drawn w (.returned (.agg #[.int .i64 st, .string f, .slice A us.length c, .string t])) ((((W.setCell ⟨w.heap.size, 0, none⟩ v0).setCell ⟨w.heap.size, 1, none⟩ v1).setCell ⟨w.heap.size, 2, none⟩ v2).setCell ⟨w.heap.size, 3, none⟩ v3) :=
  ⟨st, f, A, us, c, t, hs, hc, hm, rfl, ((((hf.set (p := ⟨w.heap.size, 0, none⟩) hB _).set (p := ⟨w.heap.size, 1, none⟩) hB _).set (p := ⟨w.heap.size, 2, none⟩) hB _).set (p := ⟨w.heap.size, 3, none⟩) hB _).at_, set4 hb (Nat.le_refl _) _ _ _ _⟩
theorem Sm.Drawn.alloc {w W : World} {e : Ending} (h : Sm.Drawn w e W) (o : Obj) : Sm.Drawn w e (W.alloc o) := by
  obtain ⟨st, f, A, us, c, t, h1, h2, h3, h4, h5, h6⟩ := h
  have hb := (Below.refl W.heap.size W).alloc (Nat.le_refl _) o
  exact ⟨st, f, A, us, c, t, h1, h2, h3, h4, (h5.below hb).mono hb.size, h6.alloc h6.size o⟩
theorem Sm.small_max {s : Sm.S} (h : Sm.small s) : s.user.size ≤ maxLen ∧ s.text.size ≤ maxLen ∧ s.tos.length ≤ 1048576 := by
  obtain ⟨h1, h2, h3, h4⟩ := h
  unfold maxLen
  exact ⟨by omega, by omega, by omega⟩
/-- block b5 is a session's variable; its list lies apart from it, behind block b -/
def Sm.Var2 (w : World) (b b5 : Nat) : Prop :=
  ∃ st f A us c t, w.heap[b5]? = some (.cells #[.int .i64 st, .string f, .slice A us.length c, .string t] 25 (0, 0)) ∧ Sm.small ⟨st, f, us, t⟩ ∧ Sm.From w (b + 1) A us ∧ us.length ≤ c ∧ c ≤ maxLen ∧ b < b5
theorem Sm.Var2.lt {w : World} {b b5 : Nat} (h : Sm.Var2 w b b5) : b5 < w.heap.size := by
  obtain ⟨st, f, A, us, c, t, h1, _⟩ := h
  exact (Array.getElem?_eq_some_iff.1 h1).1
theorem Sm.Var2.grown {w w' : World} {b b5 : Nat} (h : Sm.Var2 w b b5) (hg : w.grownBy w' (some b)) : Sm.Var2 w' b b5 := by
  have hlt := h.lt
  obtain ⟨st, f, A, us, c, t, h1, h2, h3, h4, h5, h6⟩ := h
  exact ⟨st, f, A, us, c, t, (hg.block b5 hlt (by intro e; injection e with e; omega)).trans h1, h2, h3.grown hg (Nat.lt_succ_self _), h4, h5, h6⟩
theorem Sm.Var2.below {w w' : World} {b b5 : Nat} (h : Sm.Var2 w b b5) (hb : Below w.heap.size w w') : Sm.Var2 w' b b5 := by
  have hlt := h.lt
  obtain ⟨st, f, A, us, c, t, h1, h2, h3, h4, h5, h6⟩ := h
  exact ⟨st, f, A, us, c, t, (hb.block b5 hlt).trans h1, h2, h3.below hb, h4, h5, h6⟩
theorem Sm.Var2.laid {w : World} {st : Int} {f t : ByteArray} {A : Option Addr} {us : List ByteArray} {c b : Nat} (hp : Sm.small ⟨st, f, us, t⟩) (hf : Sm.From w (b + 1) A us) (hc : us.length ≤ c) (hm : c ≤ maxLen) (hb : b < w.heap.size) : Sm.Var2 (w.alloc (.cells #[.int .i64 st, .string f, .slice A us.length c, .string t] 25)) b w.heap.size :=
  ⟨st, f, A, us, c, t, heap_alloc_new w _, hp, hf.below ((Below.refl _ _).alloc (Nat.le_refl _) _), hc, hm, hb⟩
theorem Sm.Var2.stored {w : World} {b b5 : Nat} (h : Sm.Var2 w b b5) {st : Int} {f t : ByteArray} {A : Option Addr} {us : List ByteArray} {c : Nat} (hp : Sm.small ⟨st, f, us, t⟩) (hf : Sm.From w (b5 + 1) A us) (hc : us.length ≤ c) (hm : c ≤ maxLen) :
    Sm.Var2 ((((w.setCell ⟨b5, 0, none⟩ (.int .i64 st)).setCell ⟨b5, 1, none⟩ (.string f)).setCell ⟨b5, 2, none⟩ (.slice A us.length c)).setCell ⟨b5, 3, none⟩ (.string t)) b b5 := by
  obtain ⟨st0, f0, A0, us0, c0, t0, h1, h2, h3, h4, h5, h6⟩ := h
  refine ⟨st, f, A, us, c, t, ?_, hp, ((((hf.set (p := ⟨b5, 0, none⟩) (Nat.lt_succ_self _) _).set (p := ⟨b5, 1, none⟩) (Nat.lt_succ_self _) _).set (p := ⟨b5, 2, none⟩) (Nat.lt_succ_self _) _).set (p := ⟨b5, 3, none⟩) (Nat.lt_succ_self _) _).base (by omega), hc, hm, h6⟩
  rw [set_heap (set_heap (set_heap (set_heap h1)))]
  rfl
theorem Bytes.laid {w : World} {a : Option Addr} {len cap : Nat} (h : Bytes w a len cap) (o : Obj) : Bytes (w.alloc o) a len cap := by
  obtain ⟨b1, b2, b3⟩ := h
  refine ⟨b1, b2, fun hl => ?_⟩
  obtain ⟨ab, off, e1, e2, e3⟩ := b3 hl
  refine ⟨ab, off, e1, by simp; omega, fun j hj => ?_⟩
  obtain ⟨v, hv, hc⟩ := e3 j hj
  exact ⟨v, hv, (World.cell?_alloc_lt w _ _ e2).trans hc⟩

set_option maxRecDepth 100000 in
set_option maxHeartbeats 6400000 in
theorem drawSubmissionLetter_any (a : Option Addr) (len cap : Nat) (w : World) (h : Bytes w a len cap) :
    Calls Try.prog 5 #[.slice a len cap] w (Sm.Drawn w) := by
  have hbx0 := heap_alloc_new w (.cells #[.int .i64 0, .string ⟨#[]⟩, .slice none 0 0, .string ⟨#[]⟩] 25)
  have h0 := h.laid (.cells #[.int .i64 0, .string ⟨#[]⟩, .slice none 0 0, .string ⟨#[]⟩] 25)
  go_enter Try.func5, Try.ntmps5
  go_wp2_with fail
  refine Calls.mono (l6Open_any a len cap _ h0) ?_
  rintro e w1 ⟨rfl, h1, hb1⟩
  have HZ1 := Lib.hid ((hb1.block w.heap.size (by simp)).trans hbx0)
  have hB1 := Lib.hid (unbox hb1)
  obtain ⟨b, hb⟩ : ∃ b, b = (w.alloc (.cells #[.int .i64 0, .string ⟨#[]⟩, .slice none 0 0, .string ⟨#[]⟩] 25)).heap.size := ⟨_, rfl⟩
  rw [← hb] at h1 ⊢
  have hwb : w.heap.size < b := by rw [hb]; simp
  have hbl1 := h1.lt
  clear hb hb1 hbx0 h0 h
  go_wp2_with fail
  refine Calls.mono (l92Users_any _ _ _ _ (by omega) h1) ?_
  rintro e w2 ⟨vs, Au, cu, hsm, _, _, rfl, hat, h2, hg2⟩
  have hB2 := Lib.hid (hB1.out.trans (grown_to_below hg2 (Nat.le_of_lt hwb) hB1.out.size))
  have HZ2 := Lib.hid ((hg2.block w.heap.size (by omega) (by intro e; injection e with e; omega)).trans HZ1.out)
  have hbl2 := h2.lt
  clear hg2 h1 hB1 HZ1
  go_wp2_with fail
  refine Calls.mono (l92Sub_any _ _ _ _ (by omega) h2 Au vs cu hsm hat) ?_
  rintro e w3 ⟨st, f, A, us, c, t, hsmall, rfl, hfr, hcap, hcm, h3, hg3⟩
  have hB3 := Lib.hid (hB2.out.trans (grown_to_below hg3 (Nat.le_of_lt hwb) hB2.out.size))
  have HZ3 := Lib.hid ((hg3.block w.heap.size (by omega) (by intro e; injection e with e; omega)).trans HZ2.out)
  have hbl3 := h3.lt
  have hv4 := Sm.Var2.laid hsmall (hfr.base (B' := b + 1) (by omega)) hcap hcm hbl3
  have hE := Below.alloc (Below.refl w3.heap.size w3) (Nat.le_refl _) (.cells #[.int .i64 st, .string f, .slice A us.length c, .string t] 25)
  go_upto_block 0 with fail
  generalize w3.alloc (.cells #[.int .i64 st, .string f, .slice A us.length c, .string t] 25) = w4 at hv4 hE ⊢
  have HV4 := Lib.hid hv4
  have HR4 := Lib.hid ((h3.below hE).mono (show 0 + 10 + 150 ≤ 160 + 160 * 0 by omega))
  have HB4 := Lib.hid (hB3.out.trans (hE.mono hB3.out.size))
  have HZ4 := Lib.hid ((hE.block _ (by omega)).trans HZ3.out)
  obtain ⟨b5, hb5⟩ : ∃ b5, b5 = w3.heap.size := ⟨_, rfl⟩
  rw [← hb5] at HV4 ⊢
  have hbb : b < b5 := by omega
  clear hv4 hE hb5 hg3 h3 h2 hat hB2 HZ2 hB3 HZ3 hfr hsmall
  go_wp2_with fail
  go_loopg [5] 8 (fun g i wr => ∃ k : Nat, k ≤ 8 ∧ Hid (g = 8 - k) ∧ i = .int .i64 k ∧ Hid (Sm.Var2 wr b b5) ∧ Hid (Rd wr b b (160 + 160 * k)) ∧ Hid (Below w.heap.size w wr) ∧ Hid (wr.heap[w.heap.size]? = some (.cells #[.int .i64 0, .string ⟨#[]⟩, .slice none 0 0, .string ⟨#[]⟩] 25 (0, 0))))
  case atStart => exact ⟨0, Nat.zero_le _, Lib.hid rfl, rfl, HV4, HR4, HB4, HZ4⟩
  case round =>
    obtain ⟨k, hk, HG, rfl, HV, HR, HB, HZ⟩ := hrel
    obtain ⟨st, f, A, us, c, t, hx5, hsmall, hfr, hcap, hcm, _⟩ := HV.out
    have hb5lt := (Array.getElem?_eq_some_iff.1 hx5).1
    have HX5 := Lib.hid hx5
    have HSM := Lib.hid hsmall
    have HFR := Lib.hid hfr
    have hne : b5 ≠ w.heap.size := by omega
    have hne' : w.heap.size ≠ b5 := by omega
    clear hx5 hsmall hfr
    have d0 : wr.cell? ⟨b5, 0, none⟩ = some (.int .i64 st) := cell_at HX5.out 0 _ rfl
    have d1 : wr.cell? ⟨b5, 1, none⟩ = some (.string f) := cell_at HX5.out 1 _ rfl
    have d2 : wr.cell? ⟨b5, 2, none⟩ = some (.slice A us.length c) := cell_at HX5.out 2 _ rfl
    have d3 : wr.cell? ⟨b5, 3, none⟩ = some (.string t) := cell_at HX5.out 3 _ rfl
    have y0 := free_at HX5.out 0
    have y1 := free_at HX5.out 1
    have y2 := free_at HX5.out 2
    have y3 := free_at HX5.out 3
    have r0 : wr.cell? ⟨w.heap.size, 0, none⟩ = some (.int .i64 0) := cell_at HZ.out 0 _ rfl
    have r1 : wr.cell? ⟨w.heap.size, 1, none⟩ = some (.string ⟨#[]⟩) := cell_at HZ.out 1 _ rfl
    have r2 : wr.cell? ⟨w.heap.size, 2, none⟩ = some (.slice none 0 0) := cell_at HZ.out 2 _ rfl
    have r3 : wr.cell? ⟨w.heap.size, 3, none⟩ = some (.string ⟨#[]⟩) := cell_at HZ.out 3 _ rfl
    have z0 := free_at HZ.out 0
    have z1 := free_at HZ.out 1
    have z2 := free_at HZ.out 2
    have z3 := free_at HZ.out 3
    by_cases hlt : k < 8
    · have hlti : (k : Int) < 8 := by omega
      cases hd : Sb.done st f us t
      · have HD := Lib.hid hd
        clear hd
        go_wp2_with fail
        refine Calls.mono (sSubmissionLetter_any st f t A us c _ HFR.out.at_ hcap hcm (Sm.small_max HSM.out).1 (Sm.small_max HSM.out).2.1 (Sm.small_max HSM.out).2.2) ?_
        rintro e w5 ⟨_, hno, hb5⟩
        obtain rfl := hno HD.out
        have hE5 := hb5.trans (((Below.refl w5.heap.size w5).alloc (Nat.le_refl _) (.cells #[.string ⟨#[]⟩, .slice none 0 0, .string ⟨#[]⟩] 28)).mono hb5.size)
        have HV6 := Lib.hid (HV.out.below hE5)
        have HR6 := Lib.hid (HR.out.below hE5)
        have HB6 := Lib.hid (HB.out.trans (hE5.mono HB.out.size))
        have HZ6 := Lib.hid ((hE5.block _ (by omega)).trans HZ.out)
        have hs6 := hE5.size
        clear hno hE5 hb5
        clear d0 d1 d2 d3 y0 y1 y2 y3 r0 r1 r2 r3 z0 z1 z2 z3
        go_upto_region 9 with fail
        generalize w5.alloc (.cells #[.string ⟨#[]⟩, .slice none 0 0, .string ⟨#[]⟩] 28) = w6 at HV6 HR6 HB6 HZ6 hs6 ⊢
        go_wp2_with fail
        refine Calls.mono (l92Users_any _ _ _ _ (by omega) HR6.out) ?_
        rintro e w7 ⟨vs, Au, cu, hsm, _, _, rfl, hat, h7, hg7⟩
        have HV7 := Lib.hid (HV6.out.grown hg7)
        have HB7 := Lib.hid (HB6.out.trans (grown_to_below hg7 (Nat.le_of_lt hwb) HB6.out.size))
        have HZ7 := Lib.hid ((hg7.block w.heap.size (by omega) (by intro e; injection e with e; omega)).trans HZ6.out)
        have hs7 := hg7.size
        clear hg7 HV6 HB6 HZ6
        go_wp2_with fail
        refine Calls.mono (l92Sub_any _ _ _ _ (by omega) h7 Au vs cu hsm hat) ?_
        rintro e w8 ⟨st8, f8, A8, us8, c8, t8, hsmall8, rfl, hfr8, hcap8, hcm8, h8, hg8⟩
        have hv8 := HV7.out.grown hg8
        have hb8 := hv8.lt
        obtain ⟨_, _, _, _, _, _, hx8, _⟩ := id hv8
        have HV8 := Lib.hid (hv8.stored hsmall8 (hfr8.base (by omega)) hcap8 hcm8)
        have HB8 := Lib.hid (HB7.out.trans (grown_to_below hg8 (Nat.le_of_lt hwb) HB7.out.size))
        have HZ8 := Lib.hid ((hg8.block w.heap.size (by omega) (by intro e; injection e with e; omega)).trans HZ7.out)
        have HR8 := Lib.hid h8
        have y0 := free_at hx8 0
        have y1 := free_at hx8 1
        have y2 := free_at hx8 2
        have y3 := free_at hx8 3
        have HX8 := Lib.hid hx8
        clear hx8 hv8 hsmall8 hfr8 hg8 h8 HV7 HB7 HZ7 h7 hat
        have n0 := cell_at HX8.out 0 _ rfl
        have n1 := cell_at HX8.out 1 _ rfl
        have n2 := cell_at HX8.out 2 _ rfl
        have n3 := cell_at HX8.out 3 _ rfl
        go_wp2_with fail
        go_roundg (8 - (k + 1))
        case rel => exact ⟨k + 1, by omega, Lib.hid rfl, by go_num, HV8, Lib.hid ((HR8.out.set4 hbb _ _ _ _).mono (by omega)), Lib.hid (set4 HB8.out (by omega) _ _ _ _), Lib.hid ((res_set4 (by omega) _ _ _ _).trans HZ8.out)⟩
        case measure => have := HG.out; omega
      · have HD := Lib.hid hd
        clear hd
        go_wp2_with fail
        refine Calls.mono (sSubmissionLetter_any st f t A us c _ HFR.out.at_ hcap hcm (Sm.small_max HSM.out).1 (Sm.small_max HSM.out).2.1 (Sm.small_max HSM.out).2.2) ?_
        rintro e w5 ⟨hyes, _, hb5⟩
        obtain ⟨A', c', rfl, _⟩ := hyes HD.out
        have hx5 := (hb5.block _ hb5lt).trans HX5.out
        have hz5 := (hb5.block _ (by omega)).trans HZ.out
        have HB5 := Lib.hid (HB.out.trans (hb5.mono HB.out.size))
        have HFR5 := Lib.hid (HFR.out.below hb5)
        have hs5 := hb5.size
        have hwlt : w.heap.size < w5.heap.size := by omega
        clear hyes hb5
        clear d0 d1 d2 d3 y0 y1 y2 y3 r0 r1 r2 r3 z0 z1 z2 z3
        have d0 : w5.cell? ⟨b5, 0, none⟩ = some (.int .i64 st) := cell_at hx5 0 _ rfl
        have d1 : w5.cell? ⟨b5, 1, none⟩ = some (.string f) := cell_at hx5 1 _ rfl
        have d2 : w5.cell? ⟨b5, 2, none⟩ = some (.slice A us.length c) := cell_at hx5 2 _ rfl
        have d3 : w5.cell? ⟨b5, 3, none⟩ = some (.string t) := cell_at hx5 3 _ rfl
        have y0 := free_at hx5 0
        have y1 := free_at hx5 1
        have y2 := free_at hx5 2
        have y3 := free_at hx5 3
        have r0 : w5.cell? ⟨w.heap.size, 0, none⟩ = some (.int .i64 0) := cell_at hz5 0 _ rfl
        have r1 : w5.cell? ⟨w.heap.size, 1, none⟩ = some (.string ⟨#[]⟩) := cell_at hz5 1 _ rfl
        have r2 : w5.cell? ⟨w.heap.size, 2, none⟩ = some (.slice none 0 0) := cell_at hz5 2 _ rfl
        have r3 : w5.cell? ⟨w.heap.size, 3, none⟩ = some (.string ⟨#[]⟩) := cell_at hz5 3 _ rfl
        have z0 := free_at hz5 0
        have z1 := free_at hz5 1
        have z2 := free_at hz5 2
        have z3 := free_at hz5 3
        have hb5w : b5 < w5.heap.size := by omega
        clear hx5 hz5 hs5
        go_wp2_with fail
        refine bodyPost_ret (v := .agg #[.int .i64 st, .string f, .slice A us.length c, .string t]) (by simp [results, Try.results5, go_sem, r0, r1, r2, r3, hwlt]) rfl ?_
        exact Sm.Drawn.alloc (Sm.drawn_fin HSM.out HFR5.out (by omega) hcap hcm HB5.out _ _ _ _) _
    · have hlti : ¬ (k : Int) < 8 := by omega
      go_wp2_with fail
      refine bodyPost_ret (v := .agg #[.int .i64 st, .string f, .slice A us.length c, .string t]) (by simp [results, Try.results5, go_sem, r0, r1, r2, r3]) rfl ?_
      exact Sm.drawn_fin HSM.out HFR.out (by omega) hcap hcm HB.out _ _ _ _
end Go.Proofs.Ytnbggmmghopphaa
