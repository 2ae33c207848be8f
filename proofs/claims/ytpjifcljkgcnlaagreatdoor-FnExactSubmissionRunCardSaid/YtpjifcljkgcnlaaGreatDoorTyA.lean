/- Lists of strings that lie in blocks of strings; l21Hello, l21Auth, l21Mail, l21Data with them. (Printed by mkty.py.) -/
import Derived.Test.YtpjifcljkgcnlaaGreatDoorSmGi
namespace Go.Proofs.YtpjifcljkgcnlaaGreatDoor
set_option linter.unusedVariables false
open Go.RowKit
open Us (U)

/-- the block of a list holds strings, and it is not block q -/
def TyS (q : Nat) (w : World) (A : Option Addr) (us : List ByteArray) : Prop := 0 < us.length → ∃ g off cs, A = some ⟨g, off, none⟩ ∧ w.heap[g]? = some (.cells cs 9 (0, 0)) ∧ g ≠ q
def AtTy (q : Nat) (w : World) (B : Nat) (A : Option Addr) (us : List ByteArray) : Prop := AtStrs w B A us ∧ TyS q w A us
theorem AtTy.below {q : Nat} {w w' : World} {B : Nat} {A : Option Addr} {us : List ByteArray} (h : AtTy q w B A us) (hb : Below B w w') : AtTy q w' B A us :=
  ⟨h.1.below hb, fun hl => by
    obtain ⟨g, off, ha, hg, _⟩ := h.1.1 hl
    obtain ⟨g', off', cs, ha', hx, hne⟩ := h.2 hl
    rw [ha] at ha'; injection ha' with ha'; injection ha' with e1 e2
    subst e1; subst e2
    exact ⟨g, off, cs, ha, (hb.block g hg).trans hx, hne⟩⟩
theorem AtTy.mono {q : Nat} {w : World} {B B' : Nat} {A : Option Addr} {us : List ByteArray} (h : AtTy q w B A us) (hb : B ≤ B') : AtTy q w B' A us := ⟨h.1.mono hb, h.2⟩
theorem AtTy.nil {q : Nat} {w : World} {B : Nat} {A : Option Addr} : AtTy q w B A [] := ⟨at_none, fun h => absurd h (by simp)⟩
theorem AtTy.of_own {q : Nat} {w : World} {B c : Nat} {A : Option Addr} {us : List ByteArray} (hq : q < B) (ho : St.Own w B (.slice A us.length c) us) (hs : ∀ u ∈ us, u.size ≤ maxLen) : AtTy q w w.heap.size A us :=
  ⟨at_strs (OwnL.at_ ho St.cells_len rfl) hs, fun hl => by
    rcases ho.2 with ⟨h1, h2⟩ | ⟨g, cap, cur, hv, hg, hx, _⟩
    · omega
    · injection hv with hA _ _
      exact ⟨g, 0, cur, hA, hx, by omega⟩⟩
def Sm.ResT (q : Nat) (r : Sm.S × Int) (w : World) (e : Ending) (w' : World) : Prop :=
  ∃ A c, e = .returned (.tuple #[Sm.val A c r.1, .int .i64 r.2]) ∧ AtTy q w' w'.heap.size A r.1.tos ∧ r.1.tos.length ≤ c ∧ c ≤ maxLen ∧ Below w.heap.size w w'
theorem Sm.res_selfT {q : Nat} {r : Sm.S × Int} {s : Sm.S} {n : Int} (h : r = (s, n)) {w w' : World} {A : Option Addr} {c : Nat} (hat : AtTy q w' w'.heap.size A s.tos) (hc : s.tos.length ≤ c) (hm : c ≤ maxLen) (hB : Below w.heap.size w w') : Sm.ResT q r w (.returned (.tuple #[Sm.val A c s, .int .i64 n])) w' := by
  subst h; exact ⟨A, c, rfl, hat, hc, hm, hB⟩
theorem Sm.res_backT {q : Nat} {r : Sm.S × Int} {s : Sm.S} {n : Int} (h : r = (Sm.back s, n)) {w w' : World} {g : Nat} (hB : Below w.heap.size w w') : Sm.ResT q r w (.returned (.tuple #[.agg #[.int .i64 (Sm.back s).st, .string (Sm.back s).user, .slice (some ⟨g, 0, none⟩) 0 0, .string ⟨#[]⟩], .int .i64 n])) w' := by
  subst h; exact ⟨some ⟨g, 0, none⟩, 0, rfl, AtTy.nil, Nat.le_refl _, Nat.zero_le _, hB⟩
set_option maxRecDepth 100000 in
set_option maxHeartbeats 1600000 in
theorem l21Hello_ty (q : Nat) (st : Int) (f t : ByteArray) (A : Option Addr) (us : List ByteArray) (c : Nat) (w : World) (h : AtTy q w w.heap.size A us) (hcap : us.length ≤ c) (hcm : c ≤ maxLen) (hf : st < 2 → f = ⟨#[]⟩) (Aw : Option Addr) (ws : List ByteArray) (cw : Nat) (hw : AtStrs w w.heap.size Aw ws) (hws : ∀ u ∈ ws, u.size ≤ 16777216) (hwl : ws.length ≤ maxLen) :
    Calls Tryz.prog 39 #[.agg #[.int .i64 st, .string f, .slice A us.length c, .string t], .slice Aw ws.length cw] w (Sm.ResT q (Sm.hello ⟨st, f, us, t⟩ ws) w) := by
  have HW : Hid (∀ w', Below w.heap.size w w' → AtTy q w' w'.heap.size A us) := Lib.hid fun w' hb => (h.below hb).mono hb.size
  have HF := Lib.hid hf
  clear hf
  obtain ⟨hx1, hx2, hB, hsz⟩ := two_boxes w (.cells #[.int .i64 st, .string f, .slice A us.length c, .string t] 45) (.cells #[.int .i64 0, .string ⟨#[]⟩, .slice none 0 0, .string ⟨#[]⟩] 45)
  go_enter Tryz.func39, Tryz.ntmps39
  go_upto_region 1 with fail
  generalize ((w.alloc (.cells #[.int .i64 st, .string f, .slice A us.length c, .string t] 45)).alloc (.cells #[.int .i64 0, .string ⟨#[]⟩, .slice none 0 0, .string ⟨#[]⟩] 45)) = W at hx1 hx2 hB hsz ⊢
  have hs0 : w.heap.size < W.heap.size := by omega
  have hs1 : w.heap.size + 1 < W.heap.size := by omega
  have d0 : W.cell? ⟨w.heap.size, 0, none⟩ = some (.int .i64 st) := cell_at hx1 0 _ rfl
  have d1 : W.cell? ⟨w.heap.size, 1, none⟩ = some (.string f) := cell_at hx1 1 _ rfl
  have d2 : W.cell? ⟨w.heap.size, 2, none⟩ = some (.slice A us.length c) := cell_at hx1 2 _ rfl
  have d3 : W.cell? ⟨w.heap.size, 3, none⟩ = some (.string t) := cell_at hx1 3 _ rfl
  have e0 := free_at hx1 0
  have e1 := free_at hx1 1
  have e2 := free_at hx1 2
  have e3 := free_at hx1 3
  have r0 : W.cell? ⟨w.heap.size + 1, 0, none⟩ = some (.int .i64 0) := cell_at hx2 0 _ rfl
  have r1 : W.cell? ⟨w.heap.size + 1, 1, none⟩ = some (.string ⟨#[]⟩) := cell_at hx2 1 _ rfl
  have r2 : W.cell? ⟨w.heap.size + 1, 2, none⟩ = some (.slice none 0 0) := cell_at hx2 2 _ rfl
  have r3 : W.cell? ⟨w.heap.size + 1, 3, none⟩ = some (.string ⟨#[]⟩) := cell_at hx2 3 _ rfl
  have z0 := free_at hx2 0
  have z1 := free_at hx2 1
  have z2 := free_at hx2 2
  have z3 := free_at hx2 3
  have hwW := (hw.below hB).mono hB.size
  by_cases h2 : ws.length = 2
  · obtain ⟨a, d, rfl⟩ : ∃ a d, ws = [a, d] := by
      match ws, h2 with
      | [a, b], _ => exact ⟨a, b, rfl⟩
    obtain ⟨g, off, rfl, hg, hc⟩ := hwW.1 (by simp)
    have c1 : W.cell? ⟨g, off + 1, none⟩ = some (.string d) := hc 1 d rfl
    have zd := hws d (by simp)
    have HX1 := Lib.hid hx1
    have HX2 := Lib.hid hx2
    clear hc h2 hx1 hx2
    have HCB : Hid (∀ st' : Int, (st' < 2 → f = ⟨#[]⟩) → ∀ W', Calls Tryz.prog 43 #[.agg #[.int .i64 st', .string f, .slice A us.length c, .string t]] W' (Sm.Back ⟨st', f, us, t⟩ W')) := Lib.hid fun st' h' W' => l21Back_any st' f t A c us h' W'
    cases hv : Dm.ok d.data.toList
    · have HR : Hid (Sm.hello ⟨st, f, us, t⟩ [a, d] = (⟨st, f, us, t⟩, 501)) := Lib.hid (by unfold Sm.hello; simp [hv])
      have HV := Lib.hid hv
      clear hv
      go_wp2_with fail
      refine (sDomainValid_any d zd _).mono ?_
      rintro e w3 ⟨rfl, hb3⟩
      rw [HV.out]
      have hB3 := hB.trans (hb3.mono hB.size)
      have hs3 := hb3.size
      have hx1 := (hb3.block _ hs0).trans HX1.out
      have hx2 := (hb3.block _ hs1).trans HX2.out
      clear d0 d1 d2 d3 e0 e1 e2 e3 r0 r1 r2 r3 z0 z1 z2 z3
      have d0 : w3.cell? ⟨w.heap.size, 0, none⟩ = some (.int .i64 st) := cell_at hx1 0 _ rfl
      have d1 : w3.cell? ⟨w.heap.size, 1, none⟩ = some (.string f) := cell_at hx1 1 _ rfl
      have d2 : w3.cell? ⟨w.heap.size, 2, none⟩ = some (.slice A us.length c) := cell_at hx1 2 _ rfl
      have d3 : w3.cell? ⟨w.heap.size, 3, none⟩ = some (.string t) := cell_at hx1 3 _ rfl
      have e0 := free_at hx1 0
      have e1 := free_at hx1 1
      have e2 := free_at hx1 2
      have e3 := free_at hx1 3
      have r0 : w3.cell? ⟨w.heap.size + 1, 0, none⟩ = some (.int .i64 0) := cell_at hx2 0 _ rfl
      have r1 : w3.cell? ⟨w.heap.size + 1, 1, none⟩ = some (.string ⟨#[]⟩) := cell_at hx2 1 _ rfl
      have r2 : w3.cell? ⟨w.heap.size + 1, 2, none⟩ = some (.slice none 0 0) := cell_at hx2 2 _ rfl
      have r3 : w3.cell? ⟨w.heap.size + 1, 3, none⟩ = some (.string ⟨#[]⟩) := cell_at hx2 3 _ rfl
      have z0 := free_at hx2 0
      have z1 := free_at hx2 1
      have z2 := free_at hx2 2
      have z3 := free_at hx2 3
      go_wp2_with fail
      refine bodyPost_ret (v := .tuple #[.agg #[.int .i64 st, .string f, .slice A us.length c, .string t], .int .i64 501]) (by simp [results, Tryz.results39, go_sem, r0, r1, r2, r3]) rfl ?_
      exact Sm.res_selfT HR.out (HW.out _ (set4 hB3 (by omega) _ _ _ _)) hcap hcm (set4 hB3 (by omega) _ _ _ _)
    · have HV := Lib.hid hv
      by_cases hst : st = 0
      · subst hst
        have HR : Hid (Sm.hello ⟨0, f, us, t⟩ [a, d] = (Sm.back ⟨1, f, us, t⟩, 250)) := Lib.hid (by unfold Sm.hello; simp [hv])
        clear hv
        go_wp2_with fail
        refine (sDomainValid_any d zd _).mono ?_
        rintro e w3 ⟨rfl, hb3⟩
        rw [HV.out]
        have hB3 := hB.trans (hb3.mono hB.size)
        have hs3 := hb3.size
        have hx1 := (hb3.block _ hs0).trans HX1.out
        have hx2 := (hb3.block _ hs1).trans HX2.out
        clear d0 d1 d2 d3 e0 e1 e2 e3 r0 r1 r2 r3 z0 z1 z2 z3
        have d0 : w3.cell? ⟨w.heap.size, 0, none⟩ = some (.int .i64 0) := cell_at hx1 0 _ rfl
        have d1 : w3.cell? ⟨w.heap.size, 1, none⟩ = some (.string f) := cell_at hx1 1 _ rfl
        have d2 : w3.cell? ⟨w.heap.size, 2, none⟩ = some (.slice A us.length c) := cell_at hx1 2 _ rfl
        have d3 : w3.cell? ⟨w.heap.size, 3, none⟩ = some (.string t) := cell_at hx1 3 _ rfl
        have e0 := free_at hx1 0
        have e1 := free_at hx1 1
        have e2 := free_at hx1 2
        have e3 := free_at hx1 3
        have r0 : w3.cell? ⟨w.heap.size + 1, 0, none⟩ = some (.int .i64 0) := cell_at hx2 0 _ rfl
        have r1 : w3.cell? ⟨w.heap.size + 1, 1, none⟩ = some (.string ⟨#[]⟩) := cell_at hx2 1 _ rfl
        have r2 : w3.cell? ⟨w.heap.size + 1, 2, none⟩ = some (.slice none 0 0) := cell_at hx2 2 _ rfl
        have r3 : w3.cell? ⟨w.heap.size + 1, 3, none⟩ = some (.string ⟨#[]⟩) := cell_at hx2 3 _ rfl
        have z0 := free_at hx2 0
        have z1 := free_at hx2 1
        have z2 := free_at hx2 2
        have z3 := free_at hx2 3
        go_wp2_with fail
        have hB4 : Below w.heap.size w (w3.setCell ⟨w.heap.size, 0, none⟩ (.int .i64 1)) := hB3.setCell (p := ⟨w.heap.size, 0, none⟩) (Nat.le_refl _) _
        have hx24 := (set_heap_ne (W := w3) (i := 0) (v := .int .i64 1) (show w.heap.size ≠ w.heap.size + 1 by omega)).trans hx2
        have hs4 : (w3.setCell ⟨w.heap.size, 0, none⟩ (.int .i64 1)).heap.size = w3.heap.size := by simp
        generalize w3.setCell ⟨w.heap.size, 0, none⟩ (.int .i64 1) = w4 at hB4 hx24 hs4 ⊢
        clear d0 d1 d2 d3 e0 e1 e2 e3 r0 r1 r2 r3 z0 z1 z2 z3
        refine Calls.mono (HCB.out 1 (fun _ => HF.out (by decide)) _) ?_
        rintro e w5 ⟨g5, rfl, hb5⟩
        have hs5 := hb5.size
        have hB5 := hB4.trans (hb5.mono hB4.size)
        have hx5 := (hb5.block (w.heap.size + 1) (by omega)).trans hx24
        have q0 : w5.cell? ⟨w.heap.size + 1, 0, none⟩ = some (.int .i64 0) := cell_at hx5 0 _ rfl
        have q1 : w5.cell? ⟨w.heap.size + 1, 1, none⟩ = some (.string ⟨#[]⟩) := cell_at hx5 1 _ rfl
        have q2 : w5.cell? ⟨w.heap.size + 1, 2, none⟩ = some (.slice none 0 0) := cell_at hx5 2 _ rfl
        have q3 : w5.cell? ⟨w.heap.size + 1, 3, none⟩ = some (.string ⟨#[]⟩) := cell_at hx5 3 _ rfl
        have y0 := free_at hx5 0
        have y1 := free_at hx5 1
        have y2 := free_at hx5 2
        have y3 := free_at hx5 3
        go_wp2_with fail
        refine bodyPost_ret (v := .tuple #[.agg #[.int .i64 (Sm.back ⟨1, f, us, t⟩).st, .string (Sm.back ⟨1, f, us, t⟩).user, .slice (some ⟨g5, 0, none⟩) 0 0, .string ⟨#[]⟩], .int .i64 250]) (by simp [results, Tryz.results39, go_sem, q0, q1, q2, q3]) rfl ?_
        exact Sm.res_backT HR.out (set4 hB5 (by omega) _ _ _ _)
      · have hsti : (st == 0) = false := by simpa using hst
        have HR : Hid (Sm.hello ⟨st, f, us, t⟩ [a, d] = (Sm.back ⟨st, f, us, t⟩, 250)) := Lib.hid (by unfold Sm.hello; simp [hv, hst])
        clear hv
        go_wp2_with fail
        refine (sDomainValid_any d zd _).mono ?_
        rintro e w3 ⟨rfl, hb3⟩
        rw [HV.out]
        have hB3 := hB.trans (hb3.mono hB.size)
        have hs3 := hb3.size
        have hx1 := (hb3.block _ hs0).trans HX1.out
        have hx2 := (hb3.block _ hs1).trans HX2.out
        clear d0 d1 d2 d3 e0 e1 e2 e3 r0 r1 r2 r3 z0 z1 z2 z3
        have d0 : w3.cell? ⟨w.heap.size, 0, none⟩ = some (.int .i64 st) := cell_at hx1 0 _ rfl
        have d1 : w3.cell? ⟨w.heap.size, 1, none⟩ = some (.string f) := cell_at hx1 1 _ rfl
        have d2 : w3.cell? ⟨w.heap.size, 2, none⟩ = some (.slice A us.length c) := cell_at hx1 2 _ rfl
        have d3 : w3.cell? ⟨w.heap.size, 3, none⟩ = some (.string t) := cell_at hx1 3 _ rfl
        have e0 := free_at hx1 0
        have e1 := free_at hx1 1
        have e2 := free_at hx1 2
        have e3 := free_at hx1 3
        have r0 : w3.cell? ⟨w.heap.size + 1, 0, none⟩ = some (.int .i64 0) := cell_at hx2 0 _ rfl
        have r1 : w3.cell? ⟨w.heap.size + 1, 1, none⟩ = some (.string ⟨#[]⟩) := cell_at hx2 1 _ rfl
        have r2 : w3.cell? ⟨w.heap.size + 1, 2, none⟩ = some (.slice none 0 0) := cell_at hx2 2 _ rfl
        have r3 : w3.cell? ⟨w.heap.size + 1, 3, none⟩ = some (.string ⟨#[]⟩) := cell_at hx2 3 _ rfl
        have z0 := free_at hx2 0
        have z1 := free_at hx2 1
        have z2 := free_at hx2 2
        have z3 := free_at hx2 3
        go_wp2_with fail
        clear d0 d1 d2 d3 e0 e1 e2 e3 r0 r1 r2 r3 z0 z1 z2 z3
        refine Calls.mono (HCB.out st HF.out _) ?_
        rintro e w5 ⟨g5, rfl, hb5⟩
        have hs5 := hb5.size
        have hB5 := hB3.trans (hb5.mono hB3.size)
        have hx5 := (hb5.block (w.heap.size + 1) (by omega)).trans hx2
        have q0 : w5.cell? ⟨w.heap.size + 1, 0, none⟩ = some (.int .i64 0) := cell_at hx5 0 _ rfl
        have q1 : w5.cell? ⟨w.heap.size + 1, 1, none⟩ = some (.string ⟨#[]⟩) := cell_at hx5 1 _ rfl
        have q2 : w5.cell? ⟨w.heap.size + 1, 2, none⟩ = some (.slice none 0 0) := cell_at hx5 2 _ rfl
        have q3 : w5.cell? ⟨w.heap.size + 1, 3, none⟩ = some (.string ⟨#[]⟩) := cell_at hx5 3 _ rfl
        have y0 := free_at hx5 0
        have y1 := free_at hx5 1
        have y2 := free_at hx5 2
        have y3 := free_at hx5 3
        go_wp2_with fail
        refine bodyPost_ret (v := .tuple #[.agg #[.int .i64 (Sm.back ⟨st, f, us, t⟩).st, .string (Sm.back ⟨st, f, us, t⟩).user, .slice (some ⟨g5, 0, none⟩) 0 0, .string ⟨#[]⟩], .int .i64 250]) (by simp [results, Tryz.results39, go_sem, q0, q1, q2, q3]) rfl ?_
        exact Sm.res_backT HR.out (set4 hB5 (by omega) _ _ _ _)
  · have h2i : ¬ (ws.length : Int) = 2 := by omega
    have HR : Hid (Sm.hello ⟨st, f, us, t⟩ ws = (⟨st, f, us, t⟩, 501)) := Lib.hid (by
      unfold Sm.hello
      match ws, h2 with
      | [], _ => rfl
      | [a], _ => rfl
      | [a, b], h2 => exact absurd rfl h2
      | a :: b :: c :: r, _ => rfl)
    clear hwW hx1 hx2 h2
    generalize ws.length = n at h2i ⊢
    go_wp2_with fail
    refine bodyPost_ret (v := .tuple #[.agg #[.int .i64 st, .string f, .slice A us.length c, .string t], .int .i64 501]) (by simp [results, Tryz.results39, go_sem, r0, r1, r2, r3]) rfl ?_
    exact Sm.res_selfT HR.out (HW.out _ (set4 hB (by omega) _ _ _ _)) hcap hcm (set4 hB (by omega) _ _ _ _)
set_option maxRecDepth 100000 in
set_option maxHeartbeats 1600000 in
theorem l21Auth_ty (q : Nat) (st : Int) (f t : ByteArray) (A : Option Addr) (us : List ByteArray) (c : Nat) (w : World) (h : AtTy q w w.heap.size A us) (hcap : us.length ≤ c) (hcm : c ≤ maxLen) (Au : Option Addr) (vs : List U) (cu : Nat) (hu : AtUsers w w.heap.size Au vs) (hvl : vs.length ≤ maxLen) (Aw : Option Addr) (ws : List ByteArray) (cw : Nat) (hw : AtStrs w w.heap.size Aw ws) (hwl : ws.length ≤ maxLen) :
    Calls Tryz.prog 40 #[.agg #[.int .i64 st, .string f, .slice A us.length c, .string t], .slice Au vs.length cu, .slice Aw ws.length cw] w (Sm.ResT q (Sm.auth vs ⟨st, f, us, t⟩ ws) w) := by
  have HW : Hid (∀ w', Below w.heap.size w w' → AtTy q w' w'.heap.size A us) := Lib.hid fun w' hb => (h.below hb).mono hb.size
  obtain ⟨hx1, hx2, hB, hsz⟩ := two_boxes w (.cells #[.int .i64 st, .string f, .slice A us.length c, .string t] 45) (.cells #[.int .i64 0, .string ⟨#[]⟩, .slice none 0 0, .string ⟨#[]⟩] 45)
  go_enter Tryz.func40, Tryz.ntmps40
  go_upto_region 1 with fail
  generalize ((w.alloc (.cells #[.int .i64 st, .string f, .slice A us.length c, .string t] 45)).alloc (.cells #[.int .i64 0, .string ⟨#[]⟩, .slice none 0 0, .string ⟨#[]⟩] 45)) = W at hx1 hx2 hB hsz ⊢
  have hs0 : w.heap.size < W.heap.size := by omega
  have hs1 : w.heap.size + 1 < W.heap.size := by omega
  have d0 : W.cell? ⟨w.heap.size, 0, none⟩ = some (.int .i64 st) := cell_at hx1 0 _ rfl
  have d1 : W.cell? ⟨w.heap.size, 1, none⟩ = some (.string f) := cell_at hx1 1 _ rfl
  have d2 : W.cell? ⟨w.heap.size, 2, none⟩ = some (.slice A us.length c) := cell_at hx1 2 _ rfl
  have d3 : W.cell? ⟨w.heap.size, 3, none⟩ = some (.string t) := cell_at hx1 3 _ rfl
  have e0 := free_at hx1 0
  have e1 := free_at hx1 1
  have e2 := free_at hx1 2
  have e3 := free_at hx1 3
  have r0 : W.cell? ⟨w.heap.size + 1, 0, none⟩ = some (.int .i64 0) := cell_at hx2 0 _ rfl
  have r1 : W.cell? ⟨w.heap.size + 1, 1, none⟩ = some (.string ⟨#[]⟩) := cell_at hx2 1 _ rfl
  have r2 : W.cell? ⟨w.heap.size + 1, 2, none⟩ = some (.slice none 0 0) := cell_at hx2 2 _ rfl
  have r3 : W.cell? ⟨w.heap.size + 1, 3, none⟩ = some (.string ⟨#[]⟩) := cell_at hx2 3 _ rfl
  have z0 := free_at hx2 0
  have z1 := free_at hx2 1
  have z2 := free_at hx2 2
  have z3 := free_at hx2 3
  have hwW := (hw.below hB).mono hB.size
  have HU := Lib.hid ((hu.below hB).mono hB.size)
  by_cases h1 : st = 1
  · by_cases h3 : ws.length = 3
    · obtain ⟨a, m, x, rfl⟩ : ∃ a m x, ws = [a, m, x] := by
        match ws, h3 with
        | [a, b, d], _ => exact ⟨a, b, d, rfl⟩
      obtain ⟨g, off, rfl, hg, hc⟩ := hwW.1 (by simp)
      have c1 : W.cell? ⟨g, off + 1, none⟩ = some (.string m) := hc 1 m rfl
      have c2 : W.cell? ⟨g, off + 2, none⟩ = some (.string x) := hc 2 x rfl
      clear hc h3
      by_cases hm : m = ⟨#[80, 76, 65, 73, 78]⟩
      · have hq : (m.toList == [80, 76, 65, 73, 78]) = true := lit_yes hm
        have HX1 := Lib.hid hx1
        have HX2 := Lib.hid hx2
        clear hx1 hx2
        cases ha : Up.ans vs x.data.toList with
        | none =>
          have HR : Hid (Sm.auth vs ⟨st, f, us, t⟩ [a, m, x] = (⟨st, f, us, t⟩, 535)) := Lib.hid (by unfold Sm.auth; simp [h1, hm, ha])
          have HV : Hid (Up.val (Up.ans vs x.data.toList) = .tuple #[.string ⟨#[]⟩, .bool false]) := Lib.hid (by rw [ha]; rfl)
          clear ha hm
          subst h1
          go_wp2_with fail
          refine (sUsersPlain_any Au vs cu x _ HU.out hvl).mono ?_
          rintro e w3 ⟨rfl, hb3⟩
          rw [HV.out]
          have hB3 := hB.trans (hb3.mono hB.size)
          have hs3 := hb3.size
          have hx1 := (hb3.block _ hs0).trans HX1.out
          have hx2 := (hb3.block _ hs1).trans HX2.out
          have hs03 : w.heap.size < w3.heap.size := by omega
          have hs13 : w.heap.size + 1 < w3.heap.size := by omega
          clear d0 d1 d2 d3 e0 e1 e2 e3 r0 r1 r2 r3 z0 z1 z2 z3
          have d0 : w3.cell? ⟨w.heap.size, 0, none⟩ = some (.int .i64 1) := cell_at hx1 0 _ rfl
          have d1 : w3.cell? ⟨w.heap.size, 1, none⟩ = some (.string f) := cell_at hx1 1 _ rfl
          have d2 : w3.cell? ⟨w.heap.size, 2, none⟩ = some (.slice A us.length c) := cell_at hx1 2 _ rfl
          have d3 : w3.cell? ⟨w.heap.size, 3, none⟩ = some (.string t) := cell_at hx1 3 _ rfl
          have e0 := free_at hx1 0
          have e1 := free_at hx1 1
          have e2 := free_at hx1 2
          have e3 := free_at hx1 3
          have r0 : w3.cell? ⟨w.heap.size + 1, 0, none⟩ = some (.int .i64 0) := cell_at hx2 0 _ rfl
          have r1 : w3.cell? ⟨w.heap.size + 1, 1, none⟩ = some (.string ⟨#[]⟩) := cell_at hx2 1 _ rfl
          have r2 : w3.cell? ⟨w.heap.size + 1, 2, none⟩ = some (.slice none 0 0) := cell_at hx2 2 _ rfl
          have r3 : w3.cell? ⟨w.heap.size + 1, 3, none⟩ = some (.string ⟨#[]⟩) := cell_at hx2 3 _ rfl
          have z0 := free_at hx2 0
          have z1 := free_at hx2 1
          have z2 := free_at hx2 2
          have z3 := free_at hx2 3
          go_wp2_with fail
          refine bodyPost_ret (v := .tuple #[.agg #[.int .i64 1, .string f, .slice A us.length c, .string t], .int .i64 535]) (by simp [results, Tryz.results40, go_sem, r0, r1, r2, r3]) rfl ?_
          exact Sm.res_selfT HR.out (HW.out _ (set4 hB3 (by omega) _ _ _ _)) hcap hcm (set4 hB3 (by omega) _ _ _ _)
        | some n =>
          have HR : Hid (Sm.auth vs ⟨st, f, us, t⟩ [a, m, x] = (⟨2, Ct.mk n, [], Sm.e0⟩, 235)) := Lib.hid (by unfold Sm.auth; simp [h1, hm, ha])
          have HV : Hid (Up.val (Up.ans vs x.data.toList) = .tuple #[.string (Ct.mk n), .bool true]) := Lib.hid (by rw [ha]; rfl)
          clear ha hm
          subst h1
          obtain ⟨y, HY⟩ : ∃ y : ByteArray, Hid (Ct.mk n = y) := ⟨_, Lib.hid rfl⟩
          rw [HY.out] at HV HR
          go_wp2_with fail
          refine (sUsersPlain_any Au vs cu x _ HU.out hvl).mono ?_
          rintro e w3 ⟨rfl, hb3⟩
          rw [HV.out]
          have hB3 := hB.trans (hb3.mono hB.size)
          have hs3 := hb3.size
          have hx1 := (hb3.block _ hs0).trans HX1.out
          have hx2 := (hb3.block _ hs1).trans HX2.out
          have hs03 : w.heap.size < w3.heap.size := by omega
          have hs13 : w.heap.size + 1 < w3.heap.size := by omega
          clear d0 d1 d2 d3 e0 e1 e2 e3 r0 r1 r2 r3 z0 z1 z2 z3
          have d0 : w3.cell? ⟨w.heap.size, 0, none⟩ = some (.int .i64 1) := cell_at hx1 0 _ rfl
          have d1 : w3.cell? ⟨w.heap.size, 1, none⟩ = some (.string f) := cell_at hx1 1 _ rfl
          have d2 : w3.cell? ⟨w.heap.size, 2, none⟩ = some (.slice A us.length c) := cell_at hx1 2 _ rfl
          have d3 : w3.cell? ⟨w.heap.size, 3, none⟩ = some (.string t) := cell_at hx1 3 _ rfl
          have e0 := free_at hx1 0
          have e1 := free_at hx1 1
          have e2 := free_at hx1 2
          have e3 := free_at hx1 3
          have r0 : w3.cell? ⟨w.heap.size + 1, 0, none⟩ = some (.int .i64 0) := cell_at hx2 0 _ rfl
          have r1 : w3.cell? ⟨w.heap.size + 1, 1, none⟩ = some (.string ⟨#[]⟩) := cell_at hx2 1 _ rfl
          have r2 : w3.cell? ⟨w.heap.size + 1, 2, none⟩ = some (.slice none 0 0) := cell_at hx2 2 _ rfl
          have r3 : w3.cell? ⟨w.heap.size + 1, 3, none⟩ = some (.string ⟨#[]⟩) := cell_at hx2 3 _ rfl
          have z0 := free_at hx2 0
          have z1 := free_at hx2 1
          have z2 := free_at hx2 2
          have z3 := free_at hx2 3
          go_wp2_with fail
          refine bodyPost_ret (v := .tuple #[.agg #[.int .i64 2, .string y, .slice (some ⟨w3.heap.size, 0, none⟩) 0 0, .string ⟨#[]⟩], .int .i64 235]) (by simp [results, Tryz.results40, go_sem, r0, r1, r2, r3, hs13]) rfl ?_
          rw [HR.out]
          exact ⟨some ⟨w3.heap.size, 0, none⟩, 0, rfl, AtTy.nil, Nat.le_refl _, Nat.zero_le _, (set4 hB3 (by omega) _ _ _ _).alloc (by simp; omega) _⟩
      · have hq : (m.toList == [80, 76, 65, 73, 78]) = false := lit_no hm
        have HR : Hid (Sm.auth vs ⟨st, f, us, t⟩ [a, m, x] = (⟨st, f, us, t⟩, 501)) := Lib.hid (by unfold Sm.auth; simp [h1, hm])
        clear hm
        subst h1
        go_wp2_with fail
        refine bodyPost_ret (v := .tuple #[.agg #[.int .i64 1, .string f, .slice A us.length c, .string t], .int .i64 501]) (by simp [results, Tryz.results40, go_sem, r0, r1, r2, r3]) rfl ?_
        exact Sm.res_selfT HR.out (HW.out _ (set4 hB (by omega) _ _ _ _)) hcap hcm (set4 hB (by omega) _ _ _ _)
    · have h3i : ¬ (ws.length : Int) = 3 := by omega
      have HR : Hid (Sm.auth vs ⟨st, f, us, t⟩ ws = (⟨st, f, us, t⟩, 501)) := Lib.hid (by
        unfold Sm.auth
        rw [if_neg (by simpa using h1)]
        match ws, h3 with
        | [], _ => rfl
        | [a], _ => rfl
        | [a, b], _ => rfl
        | [a, b, d], h3 => exact absurd rfl h3
        | a :: b :: d :: e :: r, _ => rfl)
      clear hwW h3
      subst h1
      generalize ws.length = n at h3i ⊢
      go_wp2_with fail
      refine bodyPost_ret (v := .tuple #[.agg #[.int .i64 1, .string f, .slice A us.length c, .string t], .int .i64 501]) (by simp [results, Tryz.results40, go_sem, r0, r1, r2, r3]) rfl ?_
      exact Sm.res_selfT HR.out (HW.out _ (set4 hB (by omega) _ _ _ _)) hcap hcm (set4 hB (by omega) _ _ _ _)
  · have h1i : (st == 1) = false := by simpa using h1
    have HR : Hid (Sm.auth vs ⟨st, f, us, t⟩ ws = (⟨st, f, us, t⟩, 503)) := Lib.hid (by unfold Sm.auth; rw [if_pos (by simpa using h1)])
    go_wp2_with fail
    refine bodyPost_ret (v := .tuple #[.agg #[.int .i64 st, .string f, .slice A us.length c, .string t], .int .i64 503]) (by simp [results, Tryz.results40, go_sem, r0, r1, r2, r3]) rfl ?_
    exact Sm.res_selfT HR.out (HW.out _ (set4 hB (by omega) _ _ _ _)) hcap hcm (set4 hB (by omega) _ _ _ _)
set_option maxRecDepth 100000 in
set_option maxHeartbeats 1600000 in
theorem l21Data_ty (q : Nat) (st : Int) (f t : ByteArray) (A : Option Addr) (us : List ByteArray) (c : Nat) (w : World) (h : AtTy q w w.heap.size A us) (hcap : us.length ≤ c) (hcm : c ≤ maxLen) (hst : 2 ≤ st) (ht : t.size ≤ 16777216) (l : ByteArray) (hl : l.size ≤ 16777216) :
    Calls Tryz.prog 38 #[.agg #[.int .i64 st, .string f, .slice A us.length c, .string t], .string l] w (Sm.ResT q (Sm.data ⟨st, f, us, t⟩ l) w) := by
  have HW : Hid (∀ w', Below w.heap.size w w' → AtTy q w' w'.heap.size A us) := Lib.hid fun w' hb => (h.below hb).mono hb.size
  obtain ⟨hx1, hx2, hB, hsz⟩ := two_boxes w (.cells #[.int .i64 st, .string f, .slice A us.length c, .string t] 45) (.cells #[.int .i64 0, .string ⟨#[]⟩, .slice none 0 0, .string ⟨#[]⟩] 45)
  go_enter Tryz.func38, Tryz.ntmps38
  go_upto_region 1 with fail
  generalize ((w.alloc (.cells #[.int .i64 st, .string f, .slice A us.length c, .string t] 45)).alloc (.cells #[.int .i64 0, .string ⟨#[]⟩, .slice none 0 0, .string ⟨#[]⟩] 45)) = W at hx1 hx2 hB hsz ⊢
  have hs0 : w.heap.size < W.heap.size := by omega
  have hs1 : w.heap.size + 1 < W.heap.size := by omega
  have d0 : W.cell? ⟨w.heap.size, 0, none⟩ = some (.int .i64 st) := cell_at hx1 0 _ rfl
  have d1 : W.cell? ⟨w.heap.size, 1, none⟩ = some (.string f) := cell_at hx1 1 _ rfl
  have d2 : W.cell? ⟨w.heap.size, 2, none⟩ = some (.slice A us.length c) := cell_at hx1 2 _ rfl
  have d3 : W.cell? ⟨w.heap.size, 3, none⟩ = some (.string t) := cell_at hx1 3 _ rfl
  have e0 := free_at hx1 0
  have e1 := free_at hx1 1
  have e2 := free_at hx1 2
  have e3 := free_at hx1 3
  have r0 : W.cell? ⟨w.heap.size + 1, 0, none⟩ = some (.int .i64 0) := cell_at hx2 0 _ rfl
  have r1 : W.cell? ⟨w.heap.size + 1, 1, none⟩ = some (.string ⟨#[]⟩) := cell_at hx2 1 _ rfl
  have r2 : W.cell? ⟨w.heap.size + 1, 2, none⟩ = some (.slice none 0 0) := cell_at hx2 2 _ rfl
  have r3 : W.cell? ⟨w.heap.size + 1, 3, none⟩ = some (.string ⟨#[]⟩) := cell_at hx2 3 _ rfl
  have z0 := free_at hx2 0
  have z1 := free_at hx2 1
  have z2 := free_at hx2 2
  have z3 := free_at hx2 3
  by_cases hd : l = ⟨#[46]⟩
  · have q0 : (l.toList == [46]) = true := lit_yes hd
    by_cases h20 : 20 < t.size
    · have h20i : (20 : Int) < (t.size : Int) := by omega
      have HR : Hid (Sm.data ⟨st, f, us, t⟩ l = (Sm.back ⟨st, f, us, t⟩, 552)) := Lib.hid (by unfold Sm.data; rw [if_pos hd, if_pos h20])
      clear hd
      go_wp2_with fail
      refine Calls.mono (l21Back_any st f t A c us (fun h => absurd h (by omega)) _) ?_
      rintro e w5 ⟨g5, rfl, hb5⟩
      have hs5 := hb5.size
      have hB5 := hB.trans (hb5.mono hB.size)
      have hx5 := (hb5.block (w.heap.size + 1) (by omega)).trans hx2
      have q0 : w5.cell? ⟨w.heap.size + 1, 0, none⟩ = some (.int .i64 0) := cell_at hx5 0 _ rfl
      have q1 : w5.cell? ⟨w.heap.size + 1, 1, none⟩ = some (.string ⟨#[]⟩) := cell_at hx5 1 _ rfl
      have q2 : w5.cell? ⟨w.heap.size + 1, 2, none⟩ = some (.slice none 0 0) := cell_at hx5 2 _ rfl
      have q3 : w5.cell? ⟨w.heap.size + 1, 3, none⟩ = some (.string ⟨#[]⟩) := cell_at hx5 3 _ rfl
      have y0 := free_at hx5 0
      have y1 := free_at hx5 1
      have y2 := free_at hx5 2
      have y3 := free_at hx5 3
      go_wp2_with fail
      refine bodyPost_ret (v := .tuple #[.agg #[.int .i64 (Sm.back ⟨st, f, us, t⟩).st, .string (Sm.back ⟨st, f, us, t⟩).user, .slice (some ⟨g5, 0, none⟩) 0 0, .string ⟨#[]⟩], .int .i64 552]) (by simp [results, Tryz.results38, go_sem, q0, q1, q2, q3]) rfl ?_
      exact Sm.res_backT HR.out (set4 hB5 (by omega) _ _ _ _)
    · have h20i : ¬ (20 : Int) < (t.size : Int) := by omega
      have HR : Hid (Sm.data ⟨st, f, us, t⟩ l = (Sm.back ⟨st, f, us, t⟩, 250)) := Lib.hid (by unfold Sm.data; rw [if_pos hd, if_neg h20])
      clear hd
      go_wp2_with fail
      refine Calls.mono (l21Back_any st f t A c us (fun h => absurd h (by omega)) _) ?_
      rintro e w5 ⟨g5, rfl, hb5⟩
      have hs5 := hb5.size
      have hB5 := hB.trans (hb5.mono hB.size)
      have hx5 := (hb5.block (w.heap.size + 1) (by omega)).trans hx2
      have q0 : w5.cell? ⟨w.heap.size + 1, 0, none⟩ = some (.int .i64 0) := cell_at hx5 0 _ rfl
      have q1 : w5.cell? ⟨w.heap.size + 1, 1, none⟩ = some (.string ⟨#[]⟩) := cell_at hx5 1 _ rfl
      have q2 : w5.cell? ⟨w.heap.size + 1, 2, none⟩ = some (.slice none 0 0) := cell_at hx5 2 _ rfl
      have q3 : w5.cell? ⟨w.heap.size + 1, 3, none⟩ = some (.string ⟨#[]⟩) := cell_at hx5 3 _ rfl
      have y0 := free_at hx5 0
      have y1 := free_at hx5 1
      have y2 := free_at hx5 2
      have y3 := free_at hx5 3
      go_wp2_with fail
      refine bodyPost_ret (v := .tuple #[.agg #[.int .i64 (Sm.back ⟨st, f, us, t⟩).st, .string (Sm.back ⟨st, f, us, t⟩).user, .slice (some ⟨g5, 0, none⟩) 0 0, .string ⟨#[]⟩], .int .i64 250]) (by simp [results, Tryz.results38, go_sem, q0, q1, q2, q3]) rfl ?_
      exact Sm.res_backT HR.out (set4 hB5 (by omega) _ _ _ _)
  · have q0 : (l.toList == [46]) = false := lit_no hd
    have HD : Hid (Sm.data ⟨st, f, us, t⟩ l = (⟨st, f, us, Sm.cut21 (t ++ Sm.strip l ++ ⟨#[10]⟩)⟩, 0)) := Lib.hid (by unfold Sm.data; rw [if_neg hd])
    clear hd
    by_cases h0 : 0 < l.size
    · have hne : l.toList.isEmpty = false := by
        have hl1 : l.data.toList.length = l.size := Array.length_toList
        rw [Go.ByteArray.toList_eq]
        cases hq : l.data.toList with
        | nil => rw [hq] at hl1; simp at hl1; omega
        | cons a r => rfl
      have hne2 : (!l.toList.isEmpty) = true := by rw [hne]; rfl
      by_cases h46 : l[0]'h0 = 46
      · have b0 : (((l[0]'h0).toNat : Int) == 46) = true := by rw [h46]; rfl
        have b1 : ((l[0]'h0).toNat : Int) = 46 := by rw [h46]; rfl
        have HST := Lib.hid (Sm.strip_yes h0 h46)
        clear h46
        have hz1 : (1 : Int) ≤ (l.size : Int) := by omega
        have HR : Hid (Sm.data ⟨st, f, us, t⟩ l = (⟨st, f, us, Sm.cut21 (t ++ l.extract 1 l.size ++ ⟨#[10]⟩)⟩, 0)) := Lib.hid (by rw [HD.out, HST.out])
        have HXS : Hid ((t ++ l.extract 1 l.size ++ ⟨#[10]⟩).size = t.size + (l.size - 1) + 1) := Lib.hid (by rw [ByteArray.size_append, ByteArray.size_append, ByteArray.size_extract]; show _ + 1 = _; omega)
        have HE : Hid (∀ k : Nat, k = min (t ++ l.extract 1 l.size ++ ⟨#[10]⟩).size 21 → (t ++ l.extract 1 l.size ++ ⟨#[10]⟩).extract 0 k = Sm.cut21 (t ++ l.extract 1 l.size ++ ⟨#[10]⟩)) := Lib.hid (by intro k hk; unfold Sm.cut21; rw [hk])
        have HBX : Hid (∀ v0 v1 v2 v3 v4, Below w.heap.size w (((((W.setCell ⟨w.heap.size, 3, none⟩ v4).setCell ⟨w.heap.size + 1, 0, none⟩ v0).setCell ⟨w.heap.size + 1, 1, none⟩ v1).setCell ⟨w.heap.size + 1, 2, none⟩ v2).setCell ⟨w.heap.size + 1, 3, none⟩ v3)) := Lib.hid fun v0 v1 v2 v3 v4 => set4 (hB.setCell (p := ⟨w.heap.size, 3, none⟩) (Nat.le_refl _) _) (by omega) _ _ _ _
        go_wp2_with fail
        all_goals
          rw [HE.out _ (by rw [HXS.out]; omega)]
          refine bodyPost_ret (v := .tuple #[.agg #[.int .i64 st, .string f, .slice A us.length c, .string (Sm.cut21 (t ++ l.extract 1 l.size ++ ⟨#[10]⟩))], .int .i64 0]) (by simp [results, Tryz.results38, go_sem, r0, r1, r2, r3]) rfl ?_
          generalize Sm.cut21 (t ++ l.extract 1 l.size ++ ⟨#[10]⟩) = z at HR ⊢
          exact Sm.res_selfT (s := ⟨st, f, us, z⟩) HR.out (HW.out _ (HBX.out _ _ _ _ _)) hcap hcm (HBX.out _ _ _ _ _)
      · have b1 : ¬ ((l[0]'h0).toNat : Int) = 46 := fun e => h46 (UInt8.toNat_inj.1 (by have : (46 : UInt8).toNat = 46 := rfl; omega))
        have b0 : (((l[0]'h0).toNat : Int) == 46) = false := by simpa using b1
        have HST : Hid (Sm.strip l = l) := Lib.hid (Sm.strip_no (fun k => h46))
        clear h46
        have HR : Hid (Sm.data ⟨st, f, us, t⟩ l = (⟨st, f, us, Sm.cut21 (t ++ l ++ ⟨#[10]⟩)⟩, 0)) := Lib.hid (by rw [HD.out, HST.out])
        have HXS : Hid ((t ++ l ++ ⟨#[10]⟩).size = t.size + (l.size) + 1) := Lib.hid (by rw [ByteArray.size_append, ByteArray.size_append]; show _ + 1 = _; omega)
        have HE : Hid (∀ k : Nat, k = min (t ++ l ++ ⟨#[10]⟩).size 21 → (t ++ l ++ ⟨#[10]⟩).extract 0 k = Sm.cut21 (t ++ l ++ ⟨#[10]⟩)) := Lib.hid (by intro k hk; unfold Sm.cut21; rw [hk])
        have HBX : Hid (∀ v0 v1 v2 v3 v4, Below w.heap.size w (((((W.setCell ⟨w.heap.size, 3, none⟩ v4).setCell ⟨w.heap.size + 1, 0, none⟩ v0).setCell ⟨w.heap.size + 1, 1, none⟩ v1).setCell ⟨w.heap.size + 1, 2, none⟩ v2).setCell ⟨w.heap.size + 1, 3, none⟩ v3)) := Lib.hid fun v0 v1 v2 v3 v4 => set4 (hB.setCell (p := ⟨w.heap.size, 3, none⟩) (Nat.le_refl _) _) (by omega) _ _ _ _
        go_wp2_with fail
        all_goals
          rw [HE.out _ (by rw [HXS.out]; omega)]
          refine bodyPost_ret (v := .tuple #[.agg #[.int .i64 st, .string f, .slice A us.length c, .string (Sm.cut21 (t ++ l ++ ⟨#[10]⟩))], .int .i64 0]) (by simp [results, Tryz.results38, go_sem, r0, r1, r2, r3]) rfl ?_
          generalize Sm.cut21 (t ++ l ++ ⟨#[10]⟩) = z at HR ⊢
          exact Sm.res_selfT (s := ⟨st, f, us, z⟩) HR.out (HW.out _ (HBX.out _ _ _ _ _)) hcap hcm (HBX.out _ _ _ _ _)
    · have hne : l.toList.isEmpty = true := by
        have hl1 : l.data.toList.length = l.size := Array.length_toList
        rw [Go.ByteArray.toList_eq, List.isEmpty_iff]
        exact List.eq_nil_of_length_eq_zero (by omega)
      have hne2 : (!l.toList.isEmpty) = false := by rw [hne]; rfl
      have HST : Hid (Sm.strip l = l) := Lib.hid (Sm.strip_no (fun k => absurd k h0))
      have HR : Hid (Sm.data ⟨st, f, us, t⟩ l = (⟨st, f, us, Sm.cut21 (t ++ l ++ ⟨#[10]⟩)⟩, 0)) := Lib.hid (by rw [HD.out, HST.out])
      have HXS : Hid ((t ++ l ++ ⟨#[10]⟩).size = t.size + (l.size) + 1) := Lib.hid (by rw [ByteArray.size_append, ByteArray.size_append]; show _ + 1 = _; omega)
      have HE : Hid (∀ k : Nat, k = min (t ++ l ++ ⟨#[10]⟩).size 21 → (t ++ l ++ ⟨#[10]⟩).extract 0 k = Sm.cut21 (t ++ l ++ ⟨#[10]⟩)) := Lib.hid (by intro k hk; unfold Sm.cut21; rw [hk])
      have HBX : Hid (∀ v0 v1 v2 v3 v4, Below w.heap.size w (((((W.setCell ⟨w.heap.size, 3, none⟩ v4).setCell ⟨w.heap.size + 1, 0, none⟩ v0).setCell ⟨w.heap.size + 1, 1, none⟩ v1).setCell ⟨w.heap.size + 1, 2, none⟩ v2).setCell ⟨w.heap.size + 1, 3, none⟩ v3)) := Lib.hid fun v0 v1 v2 v3 v4 => set4 (hB.setCell (p := ⟨w.heap.size, 3, none⟩) (Nat.le_refl _) _) (by omega) _ _ _ _
      go_wp2_with fail
      all_goals
        rw [HE.out _ (by rw [HXS.out]; omega)]
        refine bodyPost_ret (v := .tuple #[.agg #[.int .i64 st, .string f, .slice A us.length c, .string (Sm.cut21 (t ++ l ++ ⟨#[10]⟩))], .int .i64 0]) (by simp [results, Tryz.results38, go_sem, r0, r1, r2, r3]) rfl ?_
        generalize Sm.cut21 (t ++ l ++ ⟨#[10]⟩) = z at HR ⊢
        exact Sm.res_selfT (s := ⟨st, f, us, z⟩) HR.out (HW.out _ (HBX.out _ _ _ _ _)) hcap hcm (HBX.out _ _ _ _ _)
set_option maxRecDepth 100000 in
set_option maxHeartbeats 1600000 in
theorem l21Mail_ty (q : Nat) (st : Int) (f t : ByteArray) (A : Option Addr) (us : List ByteArray) (c : Nat) (w : World) (h : AtTy q w w.heap.size A us) (hcap : us.length ≤ c) (hcm : c ≤ maxLen) (d l : ByteArray) (hl : l.size ≤ 16777216) :
    Calls Tryz.prog 41 #[.agg #[.int .i64 st, .string f, .slice A us.length c, .string t], .string d, .string l] w (Sm.ResT q (Sm.mail d ⟨st, f, us, t⟩ l) w) := by
  have HW : Hid (∀ w', Below w.heap.size w w' → AtTy q w' w'.heap.size A us) := Lib.hid fun w' hb => (h.below hb).mono hb.size
  have HM : Hid (Sm.mail d ⟨st, f, us, t⟩ l = if st < 2 then (Sm.S.mk st f us t, (530 : Int)) else if ¬ st = 2 then (Sm.S.mk st f us t, (503 : Int)) else match Pa.behind Sm.begF l.data.toList with | some (a, b) => if Ct.mk a = f ∧ Ct.mk b = d then (Sm.S.mk 3 f us t, (250 : Int)) else (Sm.S.mk st f us t, (550 : Int)) | none => (Sm.S.mk st f us t, (501 : Int))) := Lib.hid rfl
  obtain ⟨hx1, hx2, hB, hsz⟩ := two_boxes w (.cells #[.int .i64 st, .string f, .slice A us.length c, .string t] 45) (.cells #[.int .i64 0, .string ⟨#[]⟩, .slice none 0 0, .string ⟨#[]⟩] 45)
  go_enter Tryz.func41, Tryz.ntmps41
  go_upto_region 1 with fail
  generalize ((w.alloc (.cells #[.int .i64 st, .string f, .slice A us.length c, .string t] 45)).alloc (.cells #[.int .i64 0, .string ⟨#[]⟩, .slice none 0 0, .string ⟨#[]⟩] 45)) = W at hx1 hx2 hB hsz ⊢
  have hs0 : w.heap.size < W.heap.size := by omega
  have hs1 : w.heap.size + 1 < W.heap.size := by omega
  have HX1 := Lib.hid hx1
  have HX2 := Lib.hid hx2
  clear hx1 hx2
  go_wp2_with fail
  refine Calls.mono (l21Path_any l ⟨#[77, 65, 73, 76, 32, 70, 82, 79, 77, 58]⟩ hl (by decide) _) ?_
  rintro e w3 ⟨rfl, hb3⟩
  have hB3 := hB.trans (hb3.mono hB.size)
  have hs3 := hb3.size
  have hx1 := (hb3.block _ hs0).trans HX1.out
  have hx2 := (hb3.block _ hs1).trans HX2.out
  have hs03 : w.heap.size < w3.heap.size := by omega
  have hs13 : w.heap.size + 1 < w3.heap.size := by omega
  have d0 : w3.cell? ⟨w.heap.size, 0, none⟩ = some (.int .i64 st) := cell_at hx1 0 _ rfl
  have d1 : w3.cell? ⟨w.heap.size, 1, none⟩ = some (.string f) := cell_at hx1 1 _ rfl
  have d2 : w3.cell? ⟨w.heap.size, 2, none⟩ = some (.slice A us.length c) := cell_at hx1 2 _ rfl
  have d3 : w3.cell? ⟨w.heap.size, 3, none⟩ = some (.string t) := cell_at hx1 3 _ rfl
  have e0 := free_at hx1 0
  have e1 := free_at hx1 1
  have e2 := free_at hx1 2
  have e3 := free_at hx1 3
  have r0 : w3.cell? ⟨w.heap.size + 1, 0, none⟩ = some (.int .i64 0) := cell_at hx2 0 _ rfl
  have r1 : w3.cell? ⟨w.heap.size + 1, 1, none⟩ = some (.string ⟨#[]⟩) := cell_at hx2 1 _ rfl
  have r2 : w3.cell? ⟨w.heap.size + 1, 2, none⟩ = some (.slice none 0 0) := cell_at hx2 2 _ rfl
  have r3 : w3.cell? ⟨w.heap.size + 1, 3, none⟩ = some (.string ⟨#[]⟩) := cell_at hx2 3 _ rfl
  have z0 := free_at hx2 0
  have z1 := free_at hx2 1
  have z2 := free_at hx2 2
  have z3 := free_at hx2 3
  have HVB : Hid (Pa.behind (ByteArray.mk #[77, 65, 73, 76, 32, 70, 82, 79, 77, 58]).data.toList l.data.toList = Pa.behind Sm.begF l.data.toList) := Lib.hid rfl
  rw [HVB.out]
  have HBS : Hid (∀ v0 v1 v2 v3 o, Below w.heap.size w (((((w3.setCell ⟨w.heap.size + 1, 0, none⟩ v0).setCell ⟨w.heap.size + 1, 1, none⟩ v1).setCell ⟨w.heap.size + 1, 2, none⟩ v2).setCell ⟨w.heap.size + 1, 3, none⟩ v3).alloc o)) := Lib.hid fun v0 v1 v2 v3 o => (set4 hB3 (by omega) _ _ _ _).alloc (by simp; omega) _
  cases hp : Pa.behind Sm.begF l.data.toList with
  | none =>
    have HPV : Hid (Pa.val none = .tuple #[.agg #[.string ⟨#[]⟩, .string ⟨#[]⟩], .bool false]) := Lib.hid rfl
    rw [HPV.out]
    by_cases h2 : st < 2
    · have HR : Hid (Sm.mail d ⟨st, f, us, t⟩ l = (⟨st, f, us, t⟩, 530)) := Lib.hid (by rw [HM.out, if_pos h2])
      clear hp
      go_wp2_with fail
      refine bodyPost_ret (v := .tuple #[.agg #[.int .i64 st, .string f, .slice A us.length c, .string t], .int .i64 530]) (by simp [results, Tryz.results41, go_sem, r0, r1, r2, r3, hs13]) rfl ?_
      exact Sm.res_selfT HR.out (HW.out _ (HBS.out _ _ _ _ _)) hcap hcm (HBS.out _ _ _ _ _)
    · by_cases h22 : st = 2
      · have HR : Hid (Sm.mail d ⟨st, f, us, t⟩ l = (⟨st, f, us, t⟩, 501)) := Lib.hid (by rw [HM.out, if_neg h2, if_neg (by simpa using h22), hp])
        clear hp h2
        subst h22
        go_wp2_with fail
        refine bodyPost_ret (v := .tuple #[.agg #[.int .i64 2, .string f, .slice A us.length c, .string t], .int .i64 501]) (by simp [results, Tryz.results41, go_sem, r0, r1, r2, r3, hs13]) rfl ?_
        exact Sm.res_selfT HR.out (HW.out _ (HBS.out _ _ _ _ _)) hcap hcm (HBS.out _ _ _ _ _)
      · have h22i : (st == 2) = false := by simpa using h22
        have HR : Hid (Sm.mail d ⟨st, f, us, t⟩ l = (⟨st, f, us, t⟩, 503)) := Lib.hid (by rw [HM.out, if_neg h2, if_pos h22])
        clear hp
        go_wp2_with fail
        refine bodyPost_ret (v := .tuple #[.agg #[.int .i64 st, .string f, .slice A us.length c, .string t], .int .i64 503]) (by simp [results, Tryz.results41, go_sem, r0, r1, r2, r3, hs13]) rfl ?_
        exact Sm.res_selfT HR.out (HW.out _ (HBS.out _ _ _ _ _)) hcap hcm (HBS.out _ _ _ _ _)
  | some ab =>
    obtain ⟨a, b⟩ := ab
    obtain ⟨x, HX⟩ : ∃ x : ByteArray, Hid (Ct.mk a = x) := ⟨_, Lib.hid rfl⟩
    obtain ⟨y, HY⟩ : ∃ y : ByteArray, Hid (Ct.mk b = y) := ⟨_, Lib.hid rfl⟩
    have HPV : Hid (Pa.val (some (a, b)) = .tuple #[.agg #[.string x, .string y], .bool true]) := Lib.hid (by rw [← HX.out, ← HY.out]; rfl)
    rw [HPV.out]
    by_cases h2 : st < 2
    · have HR : Hid (Sm.mail d ⟨st, f, us, t⟩ l = (⟨st, f, us, t⟩, 530)) := Lib.hid (by rw [HM.out, if_pos h2])
      clear hp
      go_wp2_with fail
      refine bodyPost_ret (v := .tuple #[.agg #[.int .i64 st, .string f, .slice A us.length c, .string t], .int .i64 530]) (by simp [results, Tryz.results41, go_sem, r0, r1, r2, r3, hs13]) rfl ?_
      exact Sm.res_selfT HR.out (HW.out _ (HBS.out _ _ _ _ _)) hcap hcm (HBS.out _ _ _ _ _)
    · by_cases h22 : st = 2
      · have HC : Hid (Sm.mail d ⟨st, f, us, t⟩ l = if x = f ∧ y = d then (Sm.S.mk 3 f us t, (250 : Int)) else (Sm.S.mk st f us t, (550 : Int))) := Lib.hid (by rw [HM.out, if_neg h2, if_neg (by simpa using h22), hp]; dsimp only; rw [HX.out, HY.out])
        clear hp h2
        subst h22
        by_cases hxf : x = f
        · by_cases hyd : y = d
          · have HR := Lib.hid (HC.out.trans (if_pos ⟨hxf, hyd⟩))
            have q1 := two_yes hxf
            have q2 := two_yes hyd
            clear hxf hyd
            go_wp2_with fail
            refine bodyPost_ret (v := .tuple #[.agg #[.int .i64 3, .string f, .slice A us.length c, .string t], .int .i64 250]) (by simp [results, Tryz.results41, go_sem, r0, r1, r2, r3, hs13]) rfl ?_
            have HBX : ∀ v0 v1 v2 v3 v4 o, Below w.heap.size w ((((((w3.setCell ⟨w.heap.size, 0, none⟩ v4).setCell ⟨w.heap.size + 1, 0, none⟩ v0).setCell ⟨w.heap.size + 1, 1, none⟩ v1).setCell ⟨w.heap.size + 1, 2, none⟩ v2).setCell ⟨w.heap.size + 1, 3, none⟩ v3).alloc o) := fun v0 v1 v2 v3 v4 o => (set4 (hB3.setCell (p := ⟨w.heap.size, 0, none⟩) (Nat.le_refl _) _) (by omega) _ _ _ _).alloc (by simp; omega) _
            exact Sm.res_selfT (s := ⟨3, f, us, t⟩) HR.out (HW.out _ (HBX _ _ _ _ _ _)) hcap hcm (HBX _ _ _ _ _ _)
          · have HR := Lib.hid (HC.out.trans (if_neg (fun h => hyd h.2)))
            have q1 := two_yes hxf
            have q2 := two_no hyd
            clear hxf hyd
            go_wp2_with fail
            refine bodyPost_ret (v := .tuple #[.agg #[.int .i64 2, .string f, .slice A us.length c, .string t], .int .i64 550]) (by simp [results, Tryz.results41, go_sem, r0, r1, r2, r3, hs13]) rfl ?_
            exact Sm.res_selfT HR.out (HW.out _ (HBS.out _ _ _ _ _)) hcap hcm (HBS.out _ _ _ _ _)
        · have HR := Lib.hid (HC.out.trans (if_neg (fun h => hxf h.1)))
          have q1 := two_no hxf
          clear hxf
          go_wp2_with fail
          refine bodyPost_ret (v := .tuple #[.agg #[.int .i64 2, .string f, .slice A us.length c, .string t], .int .i64 550]) (by simp [results, Tryz.results41, go_sem, r0, r1, r2, r3, hs13]) rfl ?_
          exact Sm.res_selfT HR.out (HW.out _ (HBS.out _ _ _ _ _)) hcap hcm (HBS.out _ _ _ _ _)
      · have h22i : (st == 2) = false := by simpa using h22
        have HR : Hid (Sm.mail d ⟨st, f, us, t⟩ l = (⟨st, f, us, t⟩, 503)) := Lib.hid (by rw [HM.out, if_neg h2, if_pos h22])
        clear hp
        go_wp2_with fail
        refine bodyPost_ret (v := .tuple #[.agg #[.int .i64 st, .string f, .slice A us.length c, .string t], .int .i64 503]) (by simp [results, Tryz.results41, go_sem, r0, r1, r2, r3, hs13]) rfl ?_
        exact Sm.res_selfT HR.out (HW.out _ (HBS.out _ _ _ _ _)) hcap hcm (HBS.out _ _ _ _ _)
end Go.Proofs.YtpjifcljkgcnlaaGreatDoor
