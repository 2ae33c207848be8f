/- SubmissionLine of the specification. (Printed by mksmi.py.) -/
import Derived.Test.YtnbggmmghopphaaSmG
import Derived.Test.YtnbggmmghopphaaSbLet
namespace Go.Proofs.Ytnbggmmghopphaa
set_option linter.unusedVariables false
open Go.RowKit
open Us (U)

/-- what SubmissionLine answers -/
def Sm.ans (us : List U) (d : ByteArray) (s : Sm.S) (l : ByteArray) : Sm.S × Int :=
  if Sm.ok s = true ∧ Us.usersOk us = true ∧ Dm.ok d.data.toList = true then Sm.line us d s l else (⟨0, Sm.e0, [], Sm.e0⟩, -1)
/-- a session of the call's own, and a reply -/
def Sm.Own (r : Sm.S × Int) (w : World) (e : Ending) (w' : World) : Prop :=
  ∃ A c, e = .returned (.tuple #[Sm.val A c r.1, .int .i64 r.2]) ∧ St.Own w' w.heap.size (.slice A r.1.tos.length c) r.1.tos ∧ Below w.heap.size w w'
theorem Sm.own_bad {r : Sm.S × Int} (h : r = (⟨0, Sm.e0, [], Sm.e0⟩, -1)) {w w' : World} (hB : Below w.heap.size w w') : Sm.Own r w (.returned (.tuple #[.agg #[.int .i64 0, .string ⟨#[]⟩, .slice none 0 0, .string ⟨#[]⟩], .int .i64 (-1)])) w' := by
  subst h; exact ⟨none, 0, rfl, World.ownsRow_nil _ _ _ _, hB⟩
theorem Sm.own_self {r : Sm.S × Int} {s : Sm.S} {n : Int} (h : r = (s, n)) {w w' : World} {A : Option Addr} {c : Nat} (ho : St.Own w' w.heap.size (.slice A s.tos.length c) s.tos) (hB : Below w.heap.size w w') : Sm.Own r w (.returned (.tuple #[Sm.val A c s, .int .i64 n])) w' := by
  subst h; exact ⟨A, c, rfl, ho, hB⟩

set_option maxRecDepth 100000 in
set_option maxHeartbeats 3200000 in
theorem sSubmissionLine_any (st : Int) (f t : ByteArray) (A : Option Addr) (us : List ByteArray) (c : Nat) (w : World) (h : AtStrs w w.heap.size A us) (hcap : us.length ≤ c) (hcm : c ≤ maxLen) (hfl : f.size ≤ maxLen) (htl : t.size ≤ maxLen) (Au : Option Addr) (vs : List U) (cu : Nat) (hu : AtUsers w w.heap.size Au vs) (hvl : vs.length ≤ maxLen) (d l : ByteArray) (hd : d.size ≤ 16777216) (hl : l.size ≤ 16777216) :
    Calls Try.prog 20 #[.agg #[.int .i64 st, .string f, .slice A us.length c, .string t], .slice Au vs.length cu, .string d, .string l] w (Sm.Own (Sm.ans vs d ⟨st, f, us, t⟩ l) w) := by
  have HW : Hid (∀ w', Below w.heap.size w w' → AtStrs w' w'.heap.size A us) := Lib.hid fun w' hb => (h.below hb).mono hb.size
  have HUW : Hid (∀ w', Below w.heap.size w w' → AtUsers w' w'.heap.size Au vs) := Lib.hid fun w' hb => (hu.below hb).mono hb.size
  obtain ⟨hx1, hx2, hB, hsz⟩ := two_boxes w (.cells #[.int .i64 st, .string f, .slice A us.length c, .string t] 25) (.cells #[.int .i64 0, .string ⟨#[]⟩, .slice none 0 0, .string ⟨#[]⟩] 25)
  go_enter Try.func20, Try.ntmps20
  go_upto_region 1 with fail
  generalize ((w.alloc (.cells #[.int .i64 st, .string f, .slice A us.length c, .string t] 25)).alloc (.cells #[.int .i64 0, .string ⟨#[]⟩, .slice none 0 0, .string ⟨#[]⟩] 25)) = W at hx1 hx2 hB hsz ⊢
  have hs0 : w.heap.size < W.heap.size := by omega
  have hs1 : w.heap.size + 1 < W.heap.size := by omega
  have d0 : W.cell? ⟨w.heap.size, 0, none⟩ = some (.int .i64 st) := cell_at hx1 0 _ rfl
  have d1 : W.cell? ⟨w.heap.size, 1, none⟩ = some (.string f) := cell_at hx1 1 _ rfl
  have d2 : W.cell? ⟨w.heap.size, 2, none⟩ = some (.slice A us.length c) := cell_at hx1 2 _ rfl
  have d3 : W.cell? ⟨w.heap.size, 3, none⟩ = some (.string t) := cell_at hx1 3 _ rfl
  have e0 := free_at hx1 0
  have e1 := free_at hx1 1
  have e2 := free_at hx1 2
  have e3 := free_at hx1 3
  have r0 : W.cell? ⟨w.heap.size + 1, 0, none⟩ = some (.int .i64 0) := cell_at hx2 0 _ rfl
  have r1 : W.cell? ⟨w.heap.size + 1, 1, none⟩ = some (.string ⟨#[]⟩) := cell_at hx2 1 _ rfl
  have r2 : W.cell? ⟨w.heap.size + 1, 2, none⟩ = some (.slice none 0 0) := cell_at hx2 2 _ rfl
  have r3 : W.cell? ⟨w.heap.size + 1, 3, none⟩ = some (.string ⟨#[]⟩) := cell_at hx2 3 _ rfl
  have z0 := free_at hx2 0
  have z1 := free_at hx2 1
  have z2 := free_at hx2 2
  have z3 := free_at hx2 3
  have HXWa := Lib.hid hx1
  have HXWb := Lib.hid hx2
  clear hx1 hx2
  have HAW := Lib.hid (HW.out _ hB)
  have HUU := Lib.hid (HUW.out _ hB)
  have h0W := hs0
  have h1W := hs1
  have hBW := hB
  clear hB hs0 hs1
  cases n1 : Sm.ok ⟨st, f, us, t⟩
  · have HR : Hid (Sm.ans vs d ⟨st, f, us, t⟩ l = (⟨0, Sm.e0, [], Sm.e0⟩, -1)) := Lib.hid (by unfold Sm.ans; rw [if_neg (fun hh => by rw [n1] at hh; exact absurd hh.1 (by decide))])
    have N1 : Hid (Sb.ok st f us t = false) := Lib.hid n1
    clear n1
    go_wp2_with fail
    refine Calls.mono (sSubmissionValid_any st f t A us c _ HAW.out hcap hcm hfl htl) ?_
    rintro e w1 ⟨rfl, hb1⟩
    rw [N1.out]
    clear d0 d1 d2 d3 e0 e1 e2 e3 r0 r1 r2 r3 z0 z1 z2 z3
    have hB1 := hBW.trans (hb1.mono hBW.size)
    have hs1 := hb1.size
    have hx1 := (hb1.block _ h0W).trans HXWa.out
    have hx2 := (hb1.block _ h1W).trans HXWb.out
    have h01 : w.heap.size < w1.heap.size := by omega
    have h11 : w.heap.size + 1 < w1.heap.size := by omega
    have d0 : w1.cell? ⟨w.heap.size, 0, none⟩ = some (.int .i64 st) := cell_at hx1 0 _ rfl
    have d1 : w1.cell? ⟨w.heap.size, 1, none⟩ = some (.string f) := cell_at hx1 1 _ rfl
    have d2 : w1.cell? ⟨w.heap.size, 2, none⟩ = some (.slice A us.length c) := cell_at hx1 2 _ rfl
    have d3 : w1.cell? ⟨w.heap.size, 3, none⟩ = some (.string t) := cell_at hx1 3 _ rfl
    have e0 := free_at hx1 0
    have e1 := free_at hx1 1
    have e2 := free_at hx1 2
    have e3 := free_at hx1 3
    have r0 : w1.cell? ⟨w.heap.size + 1, 0, none⟩ = some (.int .i64 0) := cell_at hx2 0 _ rfl
    have r1 : w1.cell? ⟨w.heap.size + 1, 1, none⟩ = some (.string ⟨#[]⟩) := cell_at hx2 1 _ rfl
    have r2 : w1.cell? ⟨w.heap.size + 1, 2, none⟩ = some (.slice none 0 0) := cell_at hx2 2 _ rfl
    have r3 : w1.cell? ⟨w.heap.size + 1, 3, none⟩ = some (.string ⟨#[]⟩) := cell_at hx2 3 _ rfl
    have z0 := free_at hx2 0
    have z1 := free_at hx2 1
    have z2 := free_at hx2 2
    have z3 := free_at hx2 3
    have HX1a := Lib.hid hx1
    have HX1b := Lib.hid hx2
    clear hx1 hx2
    go_wp2_with fail
    refine bodyPost_ret (v := .tuple #[.agg #[.int .i64 0, .string ⟨#[]⟩, .slice none 0 0, .string ⟨#[]⟩], .int .i64 (-1)]) (by simp [results, Try.results20, go_sem, r0, r1, r2, r3]) rfl ?_
    exact Sm.own_bad HR.out (set4 hB1 (by omega) _ _ _ _)
  · have HOK : Hid (Sm.ok ⟨st, f, us, t⟩ = true) := Lib.hid n1
    have N1 : Hid (Sb.ok st f us t = true) := Lib.hid n1
    clear n1
    cases n2 : Us.usersOk vs
    · have HR : Hid (Sm.ans vs d ⟨st, f, us, t⟩ l = (⟨0, Sm.e0, [], Sm.e0⟩, -1)) := Lib.hid (by unfold Sm.ans; rw [if_neg (fun hh => by rw [n2] at hh; exact absurd hh.2.1 (by decide))])
      have N2 := Lib.hid n2
      clear n2
      go_wp2_with fail
      refine Calls.mono (sSubmissionValid_any st f t A us c _ HAW.out hcap hcm hfl htl) ?_
      rintro e w1 ⟨rfl, hb1⟩
      rw [N1.out]
      clear d0 d1 d2 d3 e0 e1 e2 e3 r0 r1 r2 r3 z0 z1 z2 z3
      have hB1 := hBW.trans (hb1.mono hBW.size)
      have hs1 := hb1.size
      have hx1 := (hb1.block _ h0W).trans HXWa.out
      have hx2 := (hb1.block _ h1W).trans HXWb.out
      have h01 : w.heap.size < w1.heap.size := by omega
      have h11 : w.heap.size + 1 < w1.heap.size := by omega
      have d0 : w1.cell? ⟨w.heap.size, 0, none⟩ = some (.int .i64 st) := cell_at hx1 0 _ rfl
      have d1 : w1.cell? ⟨w.heap.size, 1, none⟩ = some (.string f) := cell_at hx1 1 _ rfl
      have d2 : w1.cell? ⟨w.heap.size, 2, none⟩ = some (.slice A us.length c) := cell_at hx1 2 _ rfl
      have d3 : w1.cell? ⟨w.heap.size, 3, none⟩ = some (.string t) := cell_at hx1 3 _ rfl
      have e0 := free_at hx1 0
      have e1 := free_at hx1 1
      have e2 := free_at hx1 2
      have e3 := free_at hx1 3
      have r0 : w1.cell? ⟨w.heap.size + 1, 0, none⟩ = some (.int .i64 0) := cell_at hx2 0 _ rfl
      have r1 : w1.cell? ⟨w.heap.size + 1, 1, none⟩ = some (.string ⟨#[]⟩) := cell_at hx2 1 _ rfl
      have r2 : w1.cell? ⟨w.heap.size + 1, 2, none⟩ = some (.slice none 0 0) := cell_at hx2 2 _ rfl
      have r3 : w1.cell? ⟨w.heap.size + 1, 3, none⟩ = some (.string ⟨#[]⟩) := cell_at hx2 3 _ rfl
      have z0 := free_at hx2 0
      have z1 := free_at hx2 1
      have z2 := free_at hx2 2
      have z3 := free_at hx2 3
      have HX1a := Lib.hid hx1
      have HX1b := Lib.hid hx2
      clear hx1 hx2
      go_wp2_with fail
      refine Calls.mono (sUsersValid_any Au vs cu _ (HUW.out _ hB1) hvl) ?_
      rintro e w2 ⟨rfl, hb2⟩
      rw [N2.out]
      clear d0 d1 d2 d3 e0 e1 e2 e3 r0 r1 r2 r3 z0 z1 z2 z3
      have hB2 := hB1.trans (hb2.mono hB1.size)
      have hs2 := hb2.size
      have hx1 := (hb2.block _ h01).trans HX1a.out
      have hx2 := (hb2.block _ h11).trans HX1b.out
      have h02 : w.heap.size < w2.heap.size := by omega
      have h12 : w.heap.size + 1 < w2.heap.size := by omega
      have d0 : w2.cell? ⟨w.heap.size, 0, none⟩ = some (.int .i64 st) := cell_at hx1 0 _ rfl
      have d1 : w2.cell? ⟨w.heap.size, 1, none⟩ = some (.string f) := cell_at hx1 1 _ rfl
      have d2 : w2.cell? ⟨w.heap.size, 2, none⟩ = some (.slice A us.length c) := cell_at hx1 2 _ rfl
      have d3 : w2.cell? ⟨w.heap.size, 3, none⟩ = some (.string t) := cell_at hx1 3 _ rfl
      have e0 := free_at hx1 0
      have e1 := free_at hx1 1
      have e2 := free_at hx1 2
      have e3 := free_at hx1 3
      have r0 : w2.cell? ⟨w.heap.size + 1, 0, none⟩ = some (.int .i64 0) := cell_at hx2 0 _ rfl
      have r1 : w2.cell? ⟨w.heap.size + 1, 1, none⟩ = some (.string ⟨#[]⟩) := cell_at hx2 1 _ rfl
      have r2 : w2.cell? ⟨w.heap.size + 1, 2, none⟩ = some (.slice none 0 0) := cell_at hx2 2 _ rfl
      have r3 : w2.cell? ⟨w.heap.size + 1, 3, none⟩ = some (.string ⟨#[]⟩) := cell_at hx2 3 _ rfl
      have z0 := free_at hx2 0
      have z1 := free_at hx2 1
      have z2 := free_at hx2 2
      have z3 := free_at hx2 3
      have HX2a := Lib.hid hx1
      have HX2b := Lib.hid hx2
      clear hx1 hx2
      go_wp2_with fail
      refine bodyPost_ret (v := .tuple #[.agg #[.int .i64 0, .string ⟨#[]⟩, .slice none 0 0, .string ⟨#[]⟩], .int .i64 (-1)]) (by simp [results, Try.results20, go_sem, r0, r1, r2, r3]) rfl ?_
      exact Sm.own_bad HR.out (set4 hB2 (by omega) _ _ _ _)
    · have N2 := Lib.hid n2
      clear n2
      cases n3 : Dm.ok d.data.toList
      · have HR : Hid (Sm.ans vs d ⟨st, f, us, t⟩ l = (⟨0, Sm.e0, [], Sm.e0⟩, -1)) := Lib.hid (by unfold Sm.ans; rw [if_neg (fun hh => by rw [n3] at hh; exact absurd hh.2.2 (by decide))])
        have N3 := Lib.hid n3
        clear n3
        go_wp2_with fail
        refine Calls.mono (sSubmissionValid_any st f t A us c _ HAW.out hcap hcm hfl htl) ?_
        rintro e w1 ⟨rfl, hb1⟩
        rw [N1.out]
        clear d0 d1 d2 d3 e0 e1 e2 e3 r0 r1 r2 r3 z0 z1 z2 z3
        have hB1 := hBW.trans (hb1.mono hBW.size)
        have hs1 := hb1.size
        have hx1 := (hb1.block _ h0W).trans HXWa.out
        have hx2 := (hb1.block _ h1W).trans HXWb.out
        have h01 : w.heap.size < w1.heap.size := by omega
        have h11 : w.heap.size + 1 < w1.heap.size := by omega
        have d0 : w1.cell? ⟨w.heap.size, 0, none⟩ = some (.int .i64 st) := cell_at hx1 0 _ rfl
        have d1 : w1.cell? ⟨w.heap.size, 1, none⟩ = some (.string f) := cell_at hx1 1 _ rfl
        have d2 : w1.cell? ⟨w.heap.size, 2, none⟩ = some (.slice A us.length c) := cell_at hx1 2 _ rfl
        have d3 : w1.cell? ⟨w.heap.size, 3, none⟩ = some (.string t) := cell_at hx1 3 _ rfl
        have e0 := free_at hx1 0
        have e1 := free_at hx1 1
        have e2 := free_at hx1 2
        have e3 := free_at hx1 3
        have r0 : w1.cell? ⟨w.heap.size + 1, 0, none⟩ = some (.int .i64 0) := cell_at hx2 0 _ rfl
        have r1 : w1.cell? ⟨w.heap.size + 1, 1, none⟩ = some (.string ⟨#[]⟩) := cell_at hx2 1 _ rfl
        have r2 : w1.cell? ⟨w.heap.size + 1, 2, none⟩ = some (.slice none 0 0) := cell_at hx2 2 _ rfl
        have r3 : w1.cell? ⟨w.heap.size + 1, 3, none⟩ = some (.string ⟨#[]⟩) := cell_at hx2 3 _ rfl
        have z0 := free_at hx2 0
        have z1 := free_at hx2 1
        have z2 := free_at hx2 2
        have z3 := free_at hx2 3
        have HX1a := Lib.hid hx1
        have HX1b := Lib.hid hx2
        clear hx1 hx2
        go_wp2_with fail
        refine Calls.mono (sUsersValid_any Au vs cu _ (HUW.out _ hB1) hvl) ?_
        rintro e w2 ⟨rfl, hb2⟩
        rw [N2.out]
        clear d0 d1 d2 d3 e0 e1 e2 e3 r0 r1 r2 r3 z0 z1 z2 z3
        have hB2 := hB1.trans (hb2.mono hB1.size)
        have hs2 := hb2.size
        have hx1 := (hb2.block _ h01).trans HX1a.out
        have hx2 := (hb2.block _ h11).trans HX1b.out
        have h02 : w.heap.size < w2.heap.size := by omega
        have h12 : w.heap.size + 1 < w2.heap.size := by omega
        have d0 : w2.cell? ⟨w.heap.size, 0, none⟩ = some (.int .i64 st) := cell_at hx1 0 _ rfl
        have d1 : w2.cell? ⟨w.heap.size, 1, none⟩ = some (.string f) := cell_at hx1 1 _ rfl
        have d2 : w2.cell? ⟨w.heap.size, 2, none⟩ = some (.slice A us.length c) := cell_at hx1 2 _ rfl
        have d3 : w2.cell? ⟨w.heap.size, 3, none⟩ = some (.string t) := cell_at hx1 3 _ rfl
        have e0 := free_at hx1 0
        have e1 := free_at hx1 1
        have e2 := free_at hx1 2
        have e3 := free_at hx1 3
        have r0 : w2.cell? ⟨w.heap.size + 1, 0, none⟩ = some (.int .i64 0) := cell_at hx2 0 _ rfl
        have r1 : w2.cell? ⟨w.heap.size + 1, 1, none⟩ = some (.string ⟨#[]⟩) := cell_at hx2 1 _ rfl
        have r2 : w2.cell? ⟨w.heap.size + 1, 2, none⟩ = some (.slice none 0 0) := cell_at hx2 2 _ rfl
        have r3 : w2.cell? ⟨w.heap.size + 1, 3, none⟩ = some (.string ⟨#[]⟩) := cell_at hx2 3 _ rfl
        have z0 := free_at hx2 0
        have z1 := free_at hx2 1
        have z2 := free_at hx2 2
        have z3 := free_at hx2 3
        have HX2a := Lib.hid hx1
        have HX2b := Lib.hid hx2
        clear hx1 hx2
        go_wp2_with fail
        refine Calls.mono (sDomainValid_any d hd _) ?_
        rintro e w3 ⟨rfl, hb3⟩
        rw [N3.out]
        clear d0 d1 d2 d3 e0 e1 e2 e3 r0 r1 r2 r3 z0 z1 z2 z3
        have hB3 := hB2.trans (hb3.mono hB2.size)
        have hs3 := hb3.size
        have hx1 := (hb3.block _ h02).trans HX2a.out
        have hx2 := (hb3.block _ h12).trans HX2b.out
        have h03 : w.heap.size < w3.heap.size := by omega
        have h13 : w.heap.size + 1 < w3.heap.size := by omega
        have d0 : w3.cell? ⟨w.heap.size, 0, none⟩ = some (.int .i64 st) := cell_at hx1 0 _ rfl
        have d1 : w3.cell? ⟨w.heap.size, 1, none⟩ = some (.string f) := cell_at hx1 1 _ rfl
        have d2 : w3.cell? ⟨w.heap.size, 2, none⟩ = some (.slice A us.length c) := cell_at hx1 2 _ rfl
        have d3 : w3.cell? ⟨w.heap.size, 3, none⟩ = some (.string t) := cell_at hx1 3 _ rfl
        have e0 := free_at hx1 0
        have e1 := free_at hx1 1
        have e2 := free_at hx1 2
        have e3 := free_at hx1 3
        have r0 : w3.cell? ⟨w.heap.size + 1, 0, none⟩ = some (.int .i64 0) := cell_at hx2 0 _ rfl
        have r1 : w3.cell? ⟨w.heap.size + 1, 1, none⟩ = some (.string ⟨#[]⟩) := cell_at hx2 1 _ rfl
        have r2 : w3.cell? ⟨w.heap.size + 1, 2, none⟩ = some (.slice none 0 0) := cell_at hx2 2 _ rfl
        have r3 : w3.cell? ⟨w.heap.size + 1, 3, none⟩ = some (.string ⟨#[]⟩) := cell_at hx2 3 _ rfl
        have z0 := free_at hx2 0
        have z1 := free_at hx2 1
        have z2 := free_at hx2 2
        have z3 := free_at hx2 3
        have HX3a := Lib.hid hx1
        have HX3b := Lib.hid hx2
        clear hx1 hx2
        go_wp2_with fail
        refine bodyPost_ret (v := .tuple #[.agg #[.int .i64 0, .string ⟨#[]⟩, .slice none 0 0, .string ⟨#[]⟩], .int .i64 (-1)]) (by simp [results, Try.results20, go_sem, r0, r1, r2, r3]) rfl ?_
        exact Sm.own_bad HR.out (set4 hB3 (by omega) _ _ _ _)
      · have HR : Hid (Sm.ans vs d ⟨st, f, us, t⟩ l = Sm.line vs d ⟨st, f, us, t⟩ l) := Lib.hid (by unfold Sm.ans; rw [if_pos ⟨HOK.out, N2.out, n3⟩])
        have N3 := Lib.hid n3
        clear n3
        go_wp2_with fail
        refine Calls.mono (sSubmissionValid_any st f t A us c _ HAW.out hcap hcm hfl htl) ?_
        rintro e w1 ⟨rfl, hb1⟩
        rw [N1.out]
        clear d0 d1 d2 d3 e0 e1 e2 e3 r0 r1 r2 r3 z0 z1 z2 z3
        have hB1 := hBW.trans (hb1.mono hBW.size)
        have hs1 := hb1.size
        have hx1 := (hb1.block _ h0W).trans HXWa.out
        have hx2 := (hb1.block _ h1W).trans HXWb.out
        have h01 : w.heap.size < w1.heap.size := by omega
        have h11 : w.heap.size + 1 < w1.heap.size := by omega
        have d0 : w1.cell? ⟨w.heap.size, 0, none⟩ = some (.int .i64 st) := cell_at hx1 0 _ rfl
        have d1 : w1.cell? ⟨w.heap.size, 1, none⟩ = some (.string f) := cell_at hx1 1 _ rfl
        have d2 : w1.cell? ⟨w.heap.size, 2, none⟩ = some (.slice A us.length c) := cell_at hx1 2 _ rfl
        have d3 : w1.cell? ⟨w.heap.size, 3, none⟩ = some (.string t) := cell_at hx1 3 _ rfl
        have e0 := free_at hx1 0
        have e1 := free_at hx1 1
        have e2 := free_at hx1 2
        have e3 := free_at hx1 3
        have r0 : w1.cell? ⟨w.heap.size + 1, 0, none⟩ = some (.int .i64 0) := cell_at hx2 0 _ rfl
        have r1 : w1.cell? ⟨w.heap.size + 1, 1, none⟩ = some (.string ⟨#[]⟩) := cell_at hx2 1 _ rfl
        have r2 : w1.cell? ⟨w.heap.size + 1, 2, none⟩ = some (.slice none 0 0) := cell_at hx2 2 _ rfl
        have r3 : w1.cell? ⟨w.heap.size + 1, 3, none⟩ = some (.string ⟨#[]⟩) := cell_at hx2 3 _ rfl
        have z0 := free_at hx2 0
        have z1 := free_at hx2 1
        have z2 := free_at hx2 2
        have z3 := free_at hx2 3
        have HX1a := Lib.hid hx1
        have HX1b := Lib.hid hx2
        clear hx1 hx2
        go_wp2_with fail
        refine Calls.mono (sUsersValid_any Au vs cu _ (HUW.out _ hB1) hvl) ?_
        rintro e w2 ⟨rfl, hb2⟩
        rw [N2.out]
        clear d0 d1 d2 d3 e0 e1 e2 e3 r0 r1 r2 r3 z0 z1 z2 z3
        have hB2 := hB1.trans (hb2.mono hB1.size)
        have hs2 := hb2.size
        have hx1 := (hb2.block _ h01).trans HX1a.out
        have hx2 := (hb2.block _ h11).trans HX1b.out
        have h02 : w.heap.size < w2.heap.size := by omega
        have h12 : w.heap.size + 1 < w2.heap.size := by omega
        have d0 : w2.cell? ⟨w.heap.size, 0, none⟩ = some (.int .i64 st) := cell_at hx1 0 _ rfl
        have d1 : w2.cell? ⟨w.heap.size, 1, none⟩ = some (.string f) := cell_at hx1 1 _ rfl
        have d2 : w2.cell? ⟨w.heap.size, 2, none⟩ = some (.slice A us.length c) := cell_at hx1 2 _ rfl
        have d3 : w2.cell? ⟨w.heap.size, 3, none⟩ = some (.string t) := cell_at hx1 3 _ rfl
        have e0 := free_at hx1 0
        have e1 := free_at hx1 1
        have e2 := free_at hx1 2
        have e3 := free_at hx1 3
        have r0 : w2.cell? ⟨w.heap.size + 1, 0, none⟩ = some (.int .i64 0) := cell_at hx2 0 _ rfl
        have r1 : w2.cell? ⟨w.heap.size + 1, 1, none⟩ = some (.string ⟨#[]⟩) := cell_at hx2 1 _ rfl
        have r2 : w2.cell? ⟨w.heap.size + 1, 2, none⟩ = some (.slice none 0 0) := cell_at hx2 2 _ rfl
        have r3 : w2.cell? ⟨w.heap.size + 1, 3, none⟩ = some (.string ⟨#[]⟩) := cell_at hx2 3 _ rfl
        have z0 := free_at hx2 0
        have z1 := free_at hx2 1
        have z2 := free_at hx2 2
        have z3 := free_at hx2 3
        have HX2a := Lib.hid hx1
        have HX2b := Lib.hid hx2
        clear hx1 hx2
        go_wp2_with fail
        refine Calls.mono (sDomainValid_any d hd _) ?_
        rintro e w3 ⟨rfl, hb3⟩
        rw [N3.out]
        clear d0 d1 d2 d3 e0 e1 e2 e3 r0 r1 r2 r3 z0 z1 z2 z3
        have hB3 := hB2.trans (hb3.mono hB2.size)
        have hs3 := hb3.size
        have hx1 := (hb3.block _ h02).trans HX2a.out
        have hx2 := (hb3.block _ h12).trans HX2b.out
        have h03 : w.heap.size < w3.heap.size := by omega
        have h13 : w.heap.size + 1 < w3.heap.size := by omega
        have d0 : w3.cell? ⟨w.heap.size, 0, none⟩ = some (.int .i64 st) := cell_at hx1 0 _ rfl
        have d1 : w3.cell? ⟨w.heap.size, 1, none⟩ = some (.string f) := cell_at hx1 1 _ rfl
        have d2 : w3.cell? ⟨w.heap.size, 2, none⟩ = some (.slice A us.length c) := cell_at hx1 2 _ rfl
        have d3 : w3.cell? ⟨w.heap.size, 3, none⟩ = some (.string t) := cell_at hx1 3 _ rfl
        have e0 := free_at hx1 0
        have e1 := free_at hx1 1
        have e2 := free_at hx1 2
        have e3 := free_at hx1 3
        have r0 : w3.cell? ⟨w.heap.size + 1, 0, none⟩ = some (.int .i64 0) := cell_at hx2 0 _ rfl
        have r1 : w3.cell? ⟨w.heap.size + 1, 1, none⟩ = some (.string ⟨#[]⟩) := cell_at hx2 1 _ rfl
        have r2 : w3.cell? ⟨w.heap.size + 1, 2, none⟩ = some (.slice none 0 0) := cell_at hx2 2 _ rfl
        have r3 : w3.cell? ⟨w.heap.size + 1, 3, none⟩ = some (.string ⟨#[]⟩) := cell_at hx2 3 _ rfl
        have z0 := free_at hx2 0
        have z1 := free_at hx2 1
        have z2 := free_at hx2 2
        have z3 := free_at hx2 3
        have HX3a := Lib.hid hx1
        have HX3b := Lib.hid hx2
        clear hx1 hx2
        go_wp2_with fail
        refine Calls.mono (l21Line_any st f t A us c _ (HW.out _ hB3) hcap hcm HOK.out Au vs cu (HUW.out _ hB3) hvl d l hl) ?_
        rintro e w4 ⟨A4, c4, rfl, hat4, hc4, hm4, hb4⟩
        clear d0 d1 d2 d3 e0 e1 e2 e3 r0 r1 r2 r3 z0 z1 z2 z3
        have hB4 := hB3.trans (hb4.mono hB3.size)
        have hs4 := hb4.size
        have hx1 := (hb4.block _ h03).trans HX3a.out
        have hx2 := (hb4.block _ h13).trans HX3b.out
        have h04 : w.heap.size < w4.heap.size := by omega
        have h14 : w.heap.size + 1 < w4.heap.size := by omega
        have d0 : w4.cell? ⟨w.heap.size, 0, none⟩ = some (.int .i64 st) := cell_at hx1 0 _ rfl
        have d1 : w4.cell? ⟨w.heap.size, 1, none⟩ = some (.string f) := cell_at hx1 1 _ rfl
        have d2 : w4.cell? ⟨w.heap.size, 2, none⟩ = some (.slice A us.length c) := cell_at hx1 2 _ rfl
        have d3 : w4.cell? ⟨w.heap.size, 3, none⟩ = some (.string t) := cell_at hx1 3 _ rfl
        have e0 := free_at hx1 0
        have e1 := free_at hx1 1
        have e2 := free_at hx1 2
        have e3 := free_at hx1 3
        have r0 : w4.cell? ⟨w.heap.size + 1, 0, none⟩ = some (.int .i64 0) := cell_at hx2 0 _ rfl
        have r1 : w4.cell? ⟨w.heap.size + 1, 1, none⟩ = some (.string ⟨#[]⟩) := cell_at hx2 1 _ rfl
        have r2 : w4.cell? ⟨w.heap.size + 1, 2, none⟩ = some (.slice none 0 0) := cell_at hx2 2 _ rfl
        have r3 : w4.cell? ⟨w.heap.size + 1, 3, none⟩ = some (.string ⟨#[]⟩) := cell_at hx2 3 _ rfl
        have z0 := free_at hx2 0
        have z1 := free_at hx2 1
        have z2 := free_at hx2 2
        have z3 := free_at hx2 3
        have HX4a := Lib.hid hx1
        have HX4b := Lib.hid hx2
        clear hx1 hx2
        obtain ⟨R, hR⟩ : ∃ R, R = Sm.line vs d ⟨st, f, us, t⟩ l := ⟨_, rfl⟩
        have HOL : Hid (Sm.ok R.1 = true) := Lib.hid (by rw [hR]; exact Sm.line_ok HOK.out l)
        rw [← hR] at HR hat4 hc4 ⊢
        clear hR
        obtain ⟨⟨st4, f4, us4, t4⟩, n4⟩ := R
        unfold Sm.val
        dsimp only at HR hat4 hc4 HOL ⊢
        have hul4 : us4.length ≤ 3 := (Sm.ok_sizes HOL.out).2.1
        have HY0 := Lib.hid (heap_alloc_new w4 (.cells #[.int .i64 st4, .string f4, .slice A4 us4.length c4, .string t4] 25))
        have HE5 := Lib.hid (Below.alloc (Below.refl w4.heap.size w4) (Nat.le_refl _) (.cells #[.int .i64 st4, .string f4, .slice A4 us4.length c4, .string t4] 25))
        have hs5 : (w4.alloc (.cells #[.int .i64 st4, .string f4, .slice A4 us4.length c4, .string t4] 25)).heap.size = w4.heap.size + 1 := by simp
        go_upto_region 4 with fail
        generalize w4.alloc (.cells #[.int .i64 st4, .string f4, .slice A4 us4.length c4, .string t4] 25) = w5 at HY0 HE5 hs5 ⊢
        obtain ⟨b, hb⟩ : ∃ b, b = w4.heap.size := ⟨_, rfl⟩
        rw [← hb] at HY0 hs5 h04 h14 ⊢
        have hw4b : w4.heap.size ≤ b := by omega
        have hB5 := hB4.trans (HE5.out.mono hB4.size)
        have hx1 := (HE5.out.block _ (by omega)).trans HX4a.out
        have hx2 := (HE5.out.block _ (by omega)).trans HX4b.out
        have hat5 := Lib.hid ((Sx.at_of hat4).below HE5.out)
        have hb5w : b < w5.heap.size := by omega
        clear hb hat4 hs5
        clear d0 d1 d2 d3 e0 e1 e2 e3 r0 r1 r2 r3 z0 z1 z2 z3
        have d0 : w5.cell? ⟨w.heap.size, 0, none⟩ = some (.int .i64 st) := cell_at hx1 0 _ rfl
        have d1 : w5.cell? ⟨w.heap.size, 1, none⟩ = some (.string f) := cell_at hx1 1 _ rfl
        have d2 : w5.cell? ⟨w.heap.size, 2, none⟩ = some (.slice A us.length c) := cell_at hx1 2 _ rfl
        have d3 : w5.cell? ⟨w.heap.size, 3, none⟩ = some (.string t) := cell_at hx1 3 _ rfl
        have e0 := free_at hx1 0
        have e1 := free_at hx1 1
        have e2 := free_at hx1 2
        have e3 := free_at hx1 3
        have r0 : w5.cell? ⟨w.heap.size + 1, 0, none⟩ = some (.int .i64 0) := cell_at hx2 0 _ rfl
        have r1 : w5.cell? ⟨w.heap.size + 1, 1, none⟩ = some (.string ⟨#[]⟩) := cell_at hx2 1 _ rfl
        have r2 : w5.cell? ⟨w.heap.size + 1, 2, none⟩ = some (.slice none 0 0) := cell_at hx2 2 _ rfl
        have r3 : w5.cell? ⟨w.heap.size + 1, 3, none⟩ = some (.string ⟨#[]⟩) := cell_at hx2 3 _ rfl
        have z0 := free_at hx2 0
        have z1 := free_at hx2 1
        have z2 := free_at hx2 2
        have z3 := free_at hx2 3
        have HX5b := Lib.hid hx2
        clear hx1 hx2
        have k0 : w5.cell? ⟨b, 0, none⟩ = some (.int .i64 st4) := cell_at HY0.out 0 _ rfl
        have k1 : w5.cell? ⟨b, 1, none⟩ = some (.string f4) := cell_at HY0.out 1 _ rfl
        have k2 : w5.cell? ⟨b, 2, none⟩ = some (.slice A4 us4.length c4) := cell_at HY0.out 2 _ rfl
        have k3 : w5.cell? ⟨b, 3, none⟩ = some (.string t4) := cell_at HY0.out 3 _ rfl
        have y0 := free_at HY0.out 0
        have y1 := free_at HY0.out 1
        have y2 := free_at HY0.out 2
        have y3 := free_at HY0.out 3
        obtain ⟨i0, hi, hz0, hz1, hz2⟩ := info_parts str_info
        have HN : Hid (OwnL 9 1 St.cells (w5.alloc (.cells #[] 9)) w5.heap.size (.slice (some ⟨w5.heap.size, 0, none⟩) 0 0) ([] : List ByteArray)) := Lib.hid (ownL_nil w5 (Nat.le_refl _))
        have HAT : Hid (At (w5.alloc (.cells #[] 9)) w4.heap.size 1 St.cells A4 us4) := Lib.hid (hat5.out.below ((Below.refl _ _).alloc (by omega) _))
        have HM1 : Hid (([] : List ByteArray).length + us4.length ≤ maxLen) := Lib.hid (by unfold maxLen; simp; omega)
        have HM2 : Hid ((([] : List ByteArray).length + us4.length) * 16 ≤ 140737488355328) := Lib.hid (by simp; omega)
        have HM3 : Hid (w5.heap.size ≤ (w5.alloc (.cells #[] 9)).heap.size) := Lib.hid (by simp)
        have HE6 : Hid (Below w5.heap.size w5 (w5.alloc (.cells #[] 9))) := Lib.hid ((Below.refl _ _).alloc (Nat.le_refl _) _)
        go_wp2_with (at_builtin; refine wpList_join _ rfl (.tmp 34) (.tmp 36) _ rfl 9 i0 _ 1 16 Try.underlying23 hi hz0 hz1 hz2 rfl (by omega) St.cells St.cells_len St.cells_one1 w5.heap.size _ [] rfl HN.out _ A4 us4 us4.length c4 rfl rfl HAT.out HM1.out HM2.out HM3.out ?_; intro v6 w6 hown6 hb6 hg6; rw [List.nil_append] at hown6; obtain ⟨A6, c6, rfl, hc6, hcm6⟩ := OwnL.form hown6; have HB6 := Lib.hid (HE6.out.trans hb6); have HO6 := Lib.hid hown6; clear hown6 hb6 hg6; have HYb := Lib.hid ((HB6.out.block b hb5w).trans HY0.out); have HX6 := Lib.hid ((HB6.out.block (w.heap.size + 1) (by omega)).trans HX5b.out); have k0 : w6.cell? ⟨b, 0, none⟩ = some (.int .i64 st4) := cell_at HYb.out 0 _ rfl; have k1 : w6.cell? ⟨b, 1, none⟩ = some (.string f4) := cell_at HYb.out 1 _ rfl; have k2 : w6.cell? ⟨b, 2, none⟩ = some (.slice A4 us4.length c4) := cell_at HYb.out 2 _ rfl; have k3 : w6.cell? ⟨b, 3, none⟩ = some (.string t4) := cell_at HYb.out 3 _ rfl; have y0 := free_at HYb.out 0; have y1 := free_at HYb.out 1; have y2 := free_at HYb.out 2; have y3 := free_at HYb.out 3; have r0 : w6.cell? ⟨w.heap.size + 1, 0, none⟩ = some (.int .i64 0) := cell_at HX6.out 0 _ rfl; have r1 : w6.cell? ⟨w.heap.size + 1, 1, none⟩ = some (.string ⟨#[]⟩) := cell_at HX6.out 1 _ rfl; have r2 : w6.cell? ⟨w.heap.size + 1, 2, none⟩ = some (.slice none 0 0) := cell_at HX6.out 2 _ rfl; have r3 : w6.cell? ⟨w.heap.size + 1, 3, none⟩ = some (.string ⟨#[]⟩) := cell_at HX6.out 3 _ rfl; have z0 := free_at HX6.out 0; have z1 := free_at HX6.out 1; have z2 := free_at HX6.out 2; have z3 := free_at HX6.out 3; have hne : b ≠ w.heap.size + 1 := (by omega); have hne' : w.heap.size + 1 ≠ b := (by omega))
        refine bodyPost_ret (v := .tuple #[.agg #[.int .i64 st4, .string f4, .slice A6 us4.length c6, .string t4], .int .i64 n4]) (by simp [results, Try.results20, go_sem, r0, r1, r2, r3]) rfl ?_
        have hlt : w.heap.size + 1 < w5.heap.size := by omega
        refine Sm.own_self (s := ⟨st4, f4, us4, t4⟩) HR.out ?_ (set4 ((hB5.trans (HB6.out.mono hB5.size)).setCell (p := ⟨b, 2, none⟩) (show w.heap.size ≤ b by omega) _) (by omega) _ _ _ _)
        exact (own_setNew (p := ⟨w.heap.size + 1, 3, none⟩) (own_setNew (p := ⟨w.heap.size + 1, 2, none⟩) (own_setNew (p := ⟨w.heap.size + 1, 1, none⟩) (own_setNew (p := ⟨w.heap.size + 1, 0, none⟩) (own_setNew (p := ⟨b, 2, none⟩) HO6.out hb5w _) hlt _) hlt _) hlt _) hlt _).base (by omega)
end Go.Proofs.Ytnbggmmghopphaa
