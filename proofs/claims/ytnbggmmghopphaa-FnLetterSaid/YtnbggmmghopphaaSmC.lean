/- l21Auth, l21Mail, l21Data of the specification. (Printed by mksmc.py.) -/
import Derived.Test.YtnbggmmghopphaaSmB
namespace Go.Proofs.Ytnbggmmghopphaa
set_option linter.unusedVariables false
open Go.RowKit
open Us (U)

theorem lit_yes {m : ByteArray} {L : List UInt8} (h : m = ⟨L.toArray⟩) : (m.toList == L) = true := by
  rw [h, Go.ByteArray.toList_eq]; simp
theorem lit_no {m : ByteArray} {L : List UInt8} (h : ¬ m = ⟨L.toArray⟩) : (m.toList == L) = false := by
  cases hb : (m.toList == L)
  · rfl
  · exfalso
    apply h
    have := eq_of_beq hb
    rw [Go.ByteArray.toList_eq] at this
    cases m with
    | mk d => congr; exact Array.toList_inj.1 (by simpa using this)
theorem two_no {a b : ByteArray} (h : ¬ a = b) : (a.toList == b.toList) = false := by
  cases hb : (a.toList == b.toList)
  · rfl
  · exact absurd (Us.same_of hb) h
theorem two_yes {a b : ByteArray} (h : a = b) : (a.toList == b.toList) = true := by rw [h]; simp

set_option maxRecDepth 100000 in
set_option maxHeartbeats 1600000 in
theorem l21Auth_any (st : Int) (f t : ByteArray) (A : Option Addr) (us : List ByteArray) (c : Nat) (w : World) (h : AtStrs w w.heap.size A us) (hcap : us.length ≤ c) (hcm : c ≤ maxLen) (Au : Option Addr) (vs : List U) (cu : Nat) (hu : AtUsers w w.heap.size Au vs) (hvl : vs.length ≤ maxLen) (Aw : Option Addr) (ws : List ByteArray) (cw : Nat) (hw : AtStrs w w.heap.size Aw ws) (hwl : ws.length ≤ maxLen) :
    Calls Try.prog 43 #[.agg #[.int .i64 st, .string f, .slice A us.length c, .string t], .slice Au vs.length cu, .slice Aw ws.length cw] w (Sm.Res (Sm.auth vs ⟨st, f, us, t⟩ ws) w) := by
  have HW : Hid (∀ w', Below w.heap.size w w' → AtStrs w' w'.heap.size A us) := Lib.hid fun w' hb => (h.below hb).mono hb.size
  obtain ⟨hx1, hx2, hB, hsz⟩ := two_boxes w (.cells #[.int .i64 st, .string f, .slice A us.length c, .string t] 25) (.cells #[.int .i64 0, .string ⟨#[]⟩, .slice none 0 0, .string ⟨#[]⟩] 25)
  go_enter Try.func43, Try.ntmps43
  go_upto_region 1 with fail
  generalize ((w.alloc (.cells #[.int .i64 st, .string f, .slice A us.length c, .string t] 25)).alloc (.cells #[.int .i64 0, .string ⟨#[]⟩, .slice none 0 0, .string ⟨#[]⟩] 25)) = W at hx1 hx2 hB hsz ⊢
  have hs0 : w.heap.size < W.heap.size := by omega
  have hs1 : w.heap.size + 1 < W.heap.size := by omega
  have d0 : W.cell? ⟨w.heap.size, 0, none⟩ = some (.int .i64 st) := cell_at hx1 0 _ rfl
  have d1 : W.cell? ⟨w.heap.size, 1, none⟩ = some (.string f) := cell_at hx1 1 _ rfl
  have d2 : W.cell? ⟨w.heap.size, 2, none⟩ = some (.slice A us.length c) := cell_at hx1 2 _ rfl
  have d3 : W.cell? ⟨w.heap.size, 3, none⟩ = some (.string t) := cell_at hx1 3 _ rfl
  have e0 := free_at hx1 0
  have e1 := free_at hx1 1
  have e2 := free_at hx1 2
  have e3 := free_at hx1 3
  have r0 : W.cell? ⟨w.heap.size + 1, 0, none⟩ = some (.int .i64 0) := cell_at hx2 0 _ rfl
  have r1 : W.cell? ⟨w.heap.size + 1, 1, none⟩ = some (.string ⟨#[]⟩) := cell_at hx2 1 _ rfl
  have r2 : W.cell? ⟨w.heap.size + 1, 2, none⟩ = some (.slice none 0 0) := cell_at hx2 2 _ rfl
  have r3 : W.cell? ⟨w.heap.size + 1, 3, none⟩ = some (.string ⟨#[]⟩) := cell_at hx2 3 _ rfl
  have z0 := free_at hx2 0
  have z1 := free_at hx2 1
  have z2 := free_at hx2 2
  have z3 := free_at hx2 3
  have hwW := (hw.below hB).mono hB.size
  have HU := Lib.hid ((hu.below hB).mono hB.size)
  by_cases h1 : st = 1
  · by_cases h3 : ws.length = 3
    · obtain ⟨a, m, x, rfl⟩ : ∃ a m x, ws = [a, m, x] := by
        match ws, h3 with
        | [a, b, d], _ => exact ⟨a, b, d, rfl⟩
      obtain ⟨g, off, rfl, hg, hc⟩ := hwW.1 (by simp)
      have c1 : W.cell? ⟨g, off + 1, none⟩ = some (.string m) := hc 1 m rfl
      have c2 : W.cell? ⟨g, off + 2, none⟩ = some (.string x) := hc 2 x rfl
      clear hc h3
      by_cases hm : m = ⟨#[80, 76, 65, 73, 78]⟩
      · have hq : (m.toList == [80, 76, 65, 73, 78]) = true := lit_yes hm
        have HX1 := Lib.hid hx1
        have HX2 := Lib.hid hx2
        clear hx1 hx2
        cases ha : Up.ans vs x.data.toList with
        | none =>
          have HR : Hid (Sm.auth vs ⟨st, f, us, t⟩ [a, m, x] = (⟨st, f, us, t⟩, 535)) := Lib.hid (by unfold Sm.auth; simp [h1, hm, ha])
          have HV : Hid (Up.val (Up.ans vs x.data.toList) = .tuple #[.string ⟨#[]⟩, .bool false]) := Lib.hid (by rw [ha]; rfl)
          clear ha hm
          subst h1
          go_wp2_with fail
          refine (sUsersPlain_any Au vs cu x _ HU.out hvl).mono ?_
          rintro e w3 ⟨rfl, hb3⟩
          rw [HV.out]
          have hB3 := hB.trans (hb3.mono hB.size)
          have hs3 := hb3.size
          have hx1 := (hb3.block _ hs0).trans HX1.out
          have hx2 := (hb3.block _ hs1).trans HX2.out
          have hs03 : w.heap.size < w3.heap.size := by omega
          have hs13 : w.heap.size + 1 < w3.heap.size := by omega
          clear d0 d1 d2 d3 e0 e1 e2 e3 r0 r1 r2 r3 z0 z1 z2 z3
          have d0 : w3.cell? ⟨w.heap.size, 0, none⟩ = some (.int .i64 1) := cell_at hx1 0 _ rfl
          have d1 : w3.cell? ⟨w.heap.size, 1, none⟩ = some (.string f) := cell_at hx1 1 _ rfl
          have d2 : w3.cell? ⟨w.heap.size, 2, none⟩ = some (.slice A us.length c) := cell_at hx1 2 _ rfl
          have d3 : w3.cell? ⟨w.heap.size, 3, none⟩ = some (.string t) := cell_at hx1 3 _ rfl
          have e0 := free_at hx1 0
          have e1 := free_at hx1 1
          have e2 := free_at hx1 2
          have e3 := free_at hx1 3
          have r0 : w3.cell? ⟨w.heap.size + 1, 0, none⟩ = some (.int .i64 0) := cell_at hx2 0 _ rfl
          have r1 : w3.cell? ⟨w.heap.size + 1, 1, none⟩ = some (.string ⟨#[]⟩) := cell_at hx2 1 _ rfl
          have r2 : w3.cell? ⟨w.heap.size + 1, 2, none⟩ = some (.slice none 0 0) := cell_at hx2 2 _ rfl
          have r3 : w3.cell? ⟨w.heap.size + 1, 3, none⟩ = some (.string ⟨#[]⟩) := cell_at hx2 3 _ rfl
          have z0 := free_at hx2 0
          have z1 := free_at hx2 1
          have z2 := free_at hx2 2
          have z3 := free_at hx2 3
          go_wp2_with fail
          refine bodyPost_ret (v := .tuple #[.agg #[.int .i64 1, .string f, .slice A us.length c, .string t], .int .i64 535]) (by simp [results, Try.results43, go_sem, r0, r1, r2, r3]) rfl ?_
          exact Sm.res_self HR.out (HW.out _ (set4 hB3 (by omega) _ _ _ _)) hcap hcm (set4 hB3 (by omega) _ _ _ _)
        | some n =>
          have HR : Hid (Sm.auth vs ⟨st, f, us, t⟩ [a, m, x] = (⟨2, Ct.mk n, [], Sm.e0⟩, 235)) := Lib.hid (by unfold Sm.auth; simp [h1, hm, ha])
          have HV : Hid (Up.val (Up.ans vs x.data.toList) = .tuple #[.string (Ct.mk n), .bool true]) := Lib.hid (by rw [ha]; rfl)
          clear ha hm
          subst h1
          obtain ⟨y, HY⟩ : ∃ y : ByteArray, Hid (Ct.mk n = y) := ⟨_, Lib.hid rfl⟩
          rw [HY.out] at HV HR
          go_wp2_with fail
          refine (sUsersPlain_any Au vs cu x _ HU.out hvl).mono ?_
          rintro e w3 ⟨rfl, hb3⟩
          rw [HV.out]
          have hB3 := hB.trans (hb3.mono hB.size)
          have hs3 := hb3.size
          have hx1 := (hb3.block _ hs0).trans HX1.out
          have hx2 := (hb3.block _ hs1).trans HX2.out
          have hs03 : w.heap.size < w3.heap.size := by omega
          have hs13 : w.heap.size + 1 < w3.heap.size := by omega
          clear d0 d1 d2 d3 e0 e1 e2 e3 r0 r1 r2 r3 z0 z1 z2 z3
          have d0 : w3.cell? ⟨w.heap.size, 0, none⟩ = some (.int .i64 1) := cell_at hx1 0 _ rfl
          have d1 : w3.cell? ⟨w.heap.size, 1, none⟩ = some (.string f) := cell_at hx1 1 _ rfl
          have d2 : w3.cell? ⟨w.heap.size, 2, none⟩ = some (.slice A us.length c) := cell_at hx1 2 _ rfl
          have d3 : w3.cell? ⟨w.heap.size, 3, none⟩ = some (.string t) := cell_at hx1 3 _ rfl
          have e0 := free_at hx1 0
          have e1 := free_at hx1 1
          have e2 := free_at hx1 2
          have e3 := free_at hx1 3
          have r0 : w3.cell? ⟨w.heap.size + 1, 0, none⟩ = some (.int .i64 0) := cell_at hx2 0 _ rfl
          have r1 : w3.cell? ⟨w.heap.size + 1, 1, none⟩ = some (.string ⟨#[]⟩) := cell_at hx2 1 _ rfl
          have r2 : w3.cell? ⟨w.heap.size + 1, 2, none⟩ = some (.slice none 0 0) := cell_at hx2 2 _ rfl
          have r3 : w3.cell? ⟨w.heap.size + 1, 3, none⟩ = some (.string ⟨#[]⟩) := cell_at hx2 3 _ rfl
          have z0 := free_at hx2 0
          have z1 := free_at hx2 1
          have z2 := free_at hx2 2
          have z3 := free_at hx2 3
          go_wp2_with fail
          refine bodyPost_ret (v := .tuple #[.agg #[.int .i64 2, .string y, .slice (some ⟨w3.heap.size, 0, none⟩) 0 0, .string ⟨#[]⟩], .int .i64 235]) (by simp [results, Try.results43, go_sem, r0, r1, r2, r3, hs13]) rfl ?_
          rw [HR.out]
          exact ⟨some ⟨w3.heap.size, 0, none⟩, 0, rfl, at_none, Nat.le_refl _, Nat.zero_le _, (set4 hB3 (by omega) _ _ _ _).alloc (by simp; omega) _⟩
      · have hq : (m.toList == [80, 76, 65, 73, 78]) = false := lit_no hm
        have HR : Hid (Sm.auth vs ⟨st, f, us, t⟩ [a, m, x] = (⟨st, f, us, t⟩, 501)) := Lib.hid (by unfold Sm.auth; simp [h1, hm])
        clear hm
        subst h1
        go_wp2_with fail
        refine bodyPost_ret (v := .tuple #[.agg #[.int .i64 1, .string f, .slice A us.length c, .string t], .int .i64 501]) (by simp [results, Try.results43, go_sem, r0, r1, r2, r3]) rfl ?_
        exact Sm.res_self HR.out (HW.out _ (set4 hB (by omega) _ _ _ _)) hcap hcm (set4 hB (by omega) _ _ _ _)
    · have h3i : ¬ (ws.length : Int) = 3 := by omega
      have HR : Hid (Sm.auth vs ⟨st, f, us, t⟩ ws = (⟨st, f, us, t⟩, 501)) := Lib.hid (by
        unfold Sm.auth
        rw [if_neg (by simpa using h1)]
        match ws, h3 with
        | [], _ => rfl
        | [a], _ => rfl
        | [a, b], _ => rfl
        | [a, b, d], h3 => exact absurd rfl h3
        | a :: b :: d :: e :: r, _ => rfl)
      clear hwW h3
      subst h1
      generalize ws.length = n at h3i ⊢
      go_wp2_with fail
      refine bodyPost_ret (v := .tuple #[.agg #[.int .i64 1, .string f, .slice A us.length c, .string t], .int .i64 501]) (by simp [results, Try.results43, go_sem, r0, r1, r2, r3]) rfl ?_
      exact Sm.res_self HR.out (HW.out _ (set4 hB (by omega) _ _ _ _)) hcap hcm (set4 hB (by omega) _ _ _ _)
  · have h1i : (st == 1) = false := by simpa using h1
    have HR : Hid (Sm.auth vs ⟨st, f, us, t⟩ ws = (⟨st, f, us, t⟩, 503)) := Lib.hid (by unfold Sm.auth; rw [if_pos (by simpa using h1)])
    go_wp2_with fail
    refine bodyPost_ret (v := .tuple #[.agg #[.int .i64 st, .string f, .slice A us.length c, .string t], .int .i64 503]) (by simp [results, Try.results43, go_sem, r0, r1, r2, r3]) rfl ?_
    exact Sm.res_self HR.out (HW.out _ (set4 hB (by omega) _ _ _ _)) hcap hcm (set4 hB (by omega) _ _ _ _)
end Go.Proofs.Ytnbggmmghopphaa
