/- l21Back, l21Hello, l21Auth, l21Mail, l21Data of the specification. (Printed by mksmb.py.) -/
import Derived.Test.YtnbggmmghopphaaSmS
namespace Go.Proofs.Ytnbggmmghopphaa
set_option linter.unusedVariables false
open Go.RowKit
open Us (U)

theorem two_boxes (w : World) (o1 o2 : Obj) : ((w.alloc o1).alloc o2).heap[w.heap.size]? = some o1 ∧ ((w.alloc o1).alloc o2).heap[w.heap.size + 1]? = some o2 ∧ Below w.heap.size w ((w.alloc o1).alloc o2) ∧ ((w.alloc o1).alloc o2).heap.size = w.heap.size + 2 := by
  refine ⟨(Below.heap_alloc (w.alloc o1) o2 w.heap.size (by simp)).trans (heap_alloc_new w o1), ?_, ((Below.refl _ _).alloc (Nat.le_refl _) _).alloc (by simp) _, by simp⟩
  simpa using heap_alloc_new (w.alloc o1) o2
theorem at_none {w : World} {B : Nat} {A : Option Addr} : AtStrs w B A [] := ⟨fun h => absurd h (by simp), fun u hu => absurd hu (by simp)⟩
theorem set4 {B b : Nat} {w W : World} (h : Below B w W) (hb : B ≤ b) (v0 v1 v2 v3 : Value) : Below B w ((((W.setCell ⟨b, 0, none⟩ v0).setCell ⟨b, 1, none⟩ v1).setCell ⟨b, 2, none⟩ v2).setCell ⟨b, 3, none⟩ v3) :=
  (((h.setCell (p := ⟨b, 0, none⟩) hb _).setCell (p := ⟨b, 1, none⟩) hb _).setCell (p := ⟨b, 2, none⟩) hb _).setCell (p := ⟨b, 3, none⟩) hb _
theorem set_heap {W : World} {b i : Nat} {cs : Array Value} {t : TypeId} {v : Value} (h : W.heap[b]? = some (.cells cs t (0, 0))) : (W.setCell ⟨b, i, none⟩ v).heap[b]? = some (.cells (cs.setIfInBounds i v) t (0, 0)) := by
  simp [World.setCell, Array.getElem?_modify, h]
theorem set_heap_ne {W : World} {b b' i : Nat} {v : Value} (h : b ≠ b') : (W.setCell ⟨b, i, none⟩ v).heap[b']? = W.heap[b']? := Below.heap_setCell _ _ _ _ (fun e => h e.symm)

def Sm.val (A : Option Addr) (c : Nat) (s : Sm.S) : Value := .agg #[.int .i64 s.st, .string s.user, .slice A s.tos.length c, .string s.text]
/-- a session and a reply -/
def Sm.Res (r : Sm.S × Int) (w : World) (e : Ending) (w' : World) : Prop :=
  ∃ A c, e = .returned (.tuple #[Sm.val A c r.1, .int .i64 r.2]) ∧ AtStrs w' w'.heap.size A r.1.tos ∧ r.1.tos.length ≤ c ∧ c ≤ maxLen ∧ Below w.heap.size w w'
/-- a session without a sender -/
def Sm.Back (s : Sm.S) (w : World) (e : Ending) (w' : World) : Prop := ∃ g, e = .returned (.agg #[.int .i64 (Sm.back s).st, .string (Sm.back s).user, .slice (some ⟨g, 0, none⟩) 0 0, .string ⟨#[]⟩]) ∧ Below w.heap.size w w'
theorem Sm.res_self {r : Sm.S × Int} {s : Sm.S} {n : Int} (h : r = (s, n)) {w w' : World} {A : Option Addr} {c : Nat} (hat : AtStrs w' w'.heap.size A s.tos) (hc : s.tos.length ≤ c) (hm : c ≤ maxLen) (hB : Below w.heap.size w w') : Sm.Res r w (.returned (.tuple #[Sm.val A c s, .int .i64 n])) w' := by
  subst h; exact ⟨A, c, rfl, hat, hc, hm, hB⟩
theorem Sm.res_back {r : Sm.S × Int} {s : Sm.S} {n : Int} (h : r = (Sm.back s, n)) {w w' : World} {g : Nat} (hB : Below w.heap.size w w') : Sm.Res r w (.returned (.tuple #[.agg #[.int .i64 (Sm.back s).st, .string (Sm.back s).user, .slice (some ⟨g, 0, none⟩) 0 0, .string ⟨#[]⟩], .int .i64 n])) w' := by
  subst h; exact ⟨some ⟨g, 0, none⟩, 0, rfl, at_none, Nat.le_refl _, Nat.zero_le _, hB⟩

set_option maxRecDepth 100000 in
set_option maxHeartbeats 800000 in
theorem l21Back_any (st : Int) (f t : ByteArray) (A : Option Addr) (c : Nat) (us : List ByteArray) (hf : st < 2 → f = ⟨#[]⟩) (w : World) :
    Calls Try.prog 46 #[.agg #[.int .i64 st, .string f, .slice A us.length c, .string t]] w (Sm.Back ⟨st, f, us, t⟩ w) := by
  obtain ⟨hx1, hx2, hB, hsz⟩ := two_boxes w (.cells #[.int .i64 st, .string f, .slice A us.length c, .string t] 25) (.cells #[.int .i64 0, .string ⟨#[]⟩, .slice none 0 0, .string ⟨#[]⟩] 25)
  go_enter Try.func46, Try.ntmps46
  go_upto_region 1 with fail
  generalize ((w.alloc (.cells #[.int .i64 st, .string f, .slice A us.length c, .string t] 25)).alloc (.cells #[.int .i64 0, .string ⟨#[]⟩, .slice none 0 0, .string ⟨#[]⟩] 25)) = W at hx1 hx2 hB hsz ⊢
  have hs0 : w.heap.size < W.heap.size := by omega
  have hs1 : w.heap.size + 1 < W.heap.size := by omega
  have d0 : W.cell? ⟨w.heap.size, 0, none⟩ = some (.int .i64 st) := cell_at hx1 0 _ rfl
  have d1 : W.cell? ⟨w.heap.size, 1, none⟩ = some (.string f) := cell_at hx1 1 _ rfl
  have d2 : W.cell? ⟨w.heap.size, 2, none⟩ = some (.slice A us.length c) := cell_at hx1 2 _ rfl
  have d3 : W.cell? ⟨w.heap.size, 3, none⟩ = some (.string t) := cell_at hx1 3 _ rfl
  have e0 := free_at hx1 0
  have e1 := free_at hx1 1
  have e2 := free_at hx1 2
  have e3 := free_at hx1 3
  have r0 : W.cell? ⟨w.heap.size + 1, 0, none⟩ = some (.int .i64 0) := cell_at hx2 0 _ rfl
  have r1 : W.cell? ⟨w.heap.size + 1, 1, none⟩ = some (.string ⟨#[]⟩) := cell_at hx2 1 _ rfl
  have r2 : W.cell? ⟨w.heap.size + 1, 2, none⟩ = some (.slice none 0 0) := cell_at hx2 2 _ rfl
  have r3 : W.cell? ⟨w.heap.size + 1, 3, none⟩ = some (.string ⟨#[]⟩) := cell_at hx2 3 _ rfl
  have z0 := free_at hx2 0
  have z1 := free_at hx2 1
  have z2 := free_at hx2 2
  have z3 := free_at hx2 3
  clear hx1 hx2
  by_cases h2 : 2 ≤ st
  · have HB : Hid (Sm.back ⟨st, f, us, t⟩ = ⟨2, f, [], Sm.e0⟩) := Lib.hid (by unfold Sm.back; rw [if_pos h2])
    go_wp2_with fail
    refine bodyPost_ret (v := .agg #[.int .i64 2, .string f, .slice (some ⟨w.heap.size + 2, 0, none⟩) 0 0, .string ⟨#[]⟩]) (by simp [results, Try.results46, go_sem, r0, r1, r2, r3, hsz]) rfl ⟨w.heap.size + 2, by rw [HB.out], ?_⟩
    exact (set4 hB (by omega) _ _ _ _).alloc (by simp; omega) _
  · obtain rfl := hf (by omega)
    have HB : Hid (Sm.back ⟨st, ⟨#[]⟩, us, t⟩ = ⟨st, ⟨#[]⟩, [], Sm.e0⟩) := Lib.hid (by unfold Sm.back; rw [if_neg h2])
    go_wp2_with fail
    refine bodyPost_ret (v := .agg #[.int .i64 st, .string ⟨#[]⟩, .slice (some ⟨w.heap.size + 2, 0, none⟩) 0 0, .string ⟨#[]⟩]) (by simp [results, Try.results46, go_sem, r0, r1, r2, r3, hsz]) rfl ⟨w.heap.size + 2, by rw [HB.out], ?_⟩
    exact (set4 hB (by omega) _ _ _ _).alloc (by simp; omega) _

set_option maxRecDepth 100000 in
set_option maxHeartbeats 1600000 in
theorem l21Hello_any (st : Int) (f t : ByteArray) (A : Option Addr) (us : List ByteArray) (c : Nat) (w : World) (h : AtStrs w w.heap.size A us) (hcap : us.length ≤ c) (hcm : c ≤ maxLen) (hf : st < 2 → f = ⟨#[]⟩) (Aw : Option Addr) (ws : List ByteArray) (cw : Nat) (hw : AtStrs w w.heap.size Aw ws) (hws : ∀ u ∈ ws, u.size ≤ 16777216) (hwl : ws.length ≤ maxLen) :
    Calls Try.prog 42 #[.agg #[.int .i64 st, .string f, .slice A us.length c, .string t], .slice Aw ws.length cw] w (Sm.Res (Sm.hello ⟨st, f, us, t⟩ ws) w) := by
  have HW : Hid (∀ w', Below w.heap.size w w' → AtStrs w' w'.heap.size A us) := Lib.hid fun w' hb => (h.below hb).mono hb.size
  have HF := Lib.hid hf
  clear hf
  obtain ⟨hx1, hx2, hB, hsz⟩ := two_boxes w (.cells #[.int .i64 st, .string f, .slice A us.length c, .string t] 25) (.cells #[.int .i64 0, .string ⟨#[]⟩, .slice none 0 0, .string ⟨#[]⟩] 25)
  go_enter Try.func42, Try.ntmps42
  go_upto_region 1 with fail
  generalize ((w.alloc (.cells #[.int .i64 st, .string f, .slice A us.length c, .string t] 25)).alloc (.cells #[.int .i64 0, .string ⟨#[]⟩, .slice none 0 0, .string ⟨#[]⟩] 25)) = W at hx1 hx2 hB hsz ⊢
  have hs0 : w.heap.size < W.heap.size := by omega
  have hs1 : w.heap.size + 1 < W.heap.size := by omega
  have d0 : W.cell? ⟨w.heap.size, 0, none⟩ = some (.int .i64 st) := cell_at hx1 0 _ rfl
  have d1 : W.cell? ⟨w.heap.size, 1, none⟩ = some (.string f) := cell_at hx1 1 _ rfl
  have d2 : W.cell? ⟨w.heap.size, 2, none⟩ = some (.slice A us.length c) := cell_at hx1 2 _ rfl
  have d3 : W.cell? ⟨w.heap.size, 3, none⟩ = some (.string t) := cell_at hx1 3 _ rfl
  have e0 := free_at hx1 0
  have e1 := free_at hx1 1
  have e2 := free_at hx1 2
  have e3 := free_at hx1 3
  have r0 : W.cell? ⟨w.heap.size + 1, 0, none⟩ = some (.int .i64 0) := cell_at hx2 0 _ rfl
  have r1 : W.cell? ⟨w.heap.size + 1, 1, none⟩ = some (.string ⟨#[]⟩) := cell_at hx2 1 _ rfl
  have r2 : W.cell? ⟨w.heap.size + 1, 2, none⟩ = some (.slice none 0 0) := cell_at hx2 2 _ rfl
  have r3 : W.cell? ⟨w.heap.size + 1, 3, none⟩ = some (.string ⟨#[]⟩) := cell_at hx2 3 _ rfl
  have z0 := free_at hx2 0
  have z1 := free_at hx2 1
  have z2 := free_at hx2 2
  have z3 := free_at hx2 3
  have hwW := (hw.below hB).mono hB.size
  by_cases h2 : ws.length = 2
  · obtain ⟨a, d, rfl⟩ : ∃ a d, ws = [a, d] := by
      match ws, h2 with
      | [a, b], _ => exact ⟨a, b, rfl⟩
    obtain ⟨g, off, rfl, hg, hc⟩ := hwW.1 (by simp)
    have c1 : W.cell? ⟨g, off + 1, none⟩ = some (.string d) := hc 1 d rfl
    have zd := hws d (by simp)
    have HX1 := Lib.hid hx1
    have HX2 := Lib.hid hx2
    clear hc h2 hx1 hx2
    have HCB : Hid (∀ st' : Int, (st' < 2 → f = ⟨#[]⟩) → ∀ W', Calls Try.prog 46 #[.agg #[.int .i64 st', .string f, .slice A us.length c, .string t]] W' (Sm.Back ⟨st', f, us, t⟩ W')) := Lib.hid fun st' h' W' => l21Back_any st' f t A c us h' W'
    cases hv : Dm.ok d.data.toList
    · have HR : Hid (Sm.hello ⟨st, f, us, t⟩ [a, d] = (⟨st, f, us, t⟩, 501)) := Lib.hid (by unfold Sm.hello; simp [hv])
      have HV := Lib.hid hv
      clear hv
      go_wp2_with fail
      refine (sDomainValid_any d zd _).mono ?_
      rintro e w3 ⟨rfl, hb3⟩
      rw [HV.out]
      have hB3 := hB.trans (hb3.mono hB.size)
      have hs3 := hb3.size
      have hx1 := (hb3.block _ hs0).trans HX1.out
      have hx2 := (hb3.block _ hs1).trans HX2.out
      clear d0 d1 d2 d3 e0 e1 e2 e3 r0 r1 r2 r3 z0 z1 z2 z3
      have d0 : w3.cell? ⟨w.heap.size, 0, none⟩ = some (.int .i64 st) := cell_at hx1 0 _ rfl
      have d1 : w3.cell? ⟨w.heap.size, 1, none⟩ = some (.string f) := cell_at hx1 1 _ rfl
      have d2 : w3.cell? ⟨w.heap.size, 2, none⟩ = some (.slice A us.length c) := cell_at hx1 2 _ rfl
      have d3 : w3.cell? ⟨w.heap.size, 3, none⟩ = some (.string t) := cell_at hx1 3 _ rfl
      have e0 := free_at hx1 0
      have e1 := free_at hx1 1
      have e2 := free_at hx1 2
      have e3 := free_at hx1 3
      have r0 : w3.cell? ⟨w.heap.size + 1, 0, none⟩ = some (.int .i64 0) := cell_at hx2 0 _ rfl
      have r1 : w3.cell? ⟨w.heap.size + 1, 1, none⟩ = some (.string ⟨#[]⟩) := cell_at hx2 1 _ rfl
      have r2 : w3.cell? ⟨w.heap.size + 1, 2, none⟩ = some (.slice none 0 0) := cell_at hx2 2 _ rfl
      have r3 : w3.cell? ⟨w.heap.size + 1, 3, none⟩ = some (.string ⟨#[]⟩) := cell_at hx2 3 _ rfl
      have z0 := free_at hx2 0
      have z1 := free_at hx2 1
      have z2 := free_at hx2 2
      have z3 := free_at hx2 3
      go_wp2_with fail
      refine bodyPost_ret (v := .tuple #[.agg #[.int .i64 st, .string f, .slice A us.length c, .string t], .int .i64 501]) (by simp [results, Try.results42, go_sem, r0, r1, r2, r3]) rfl ?_
      exact Sm.res_self HR.out (HW.out _ (set4 hB3 (by omega) _ _ _ _)) hcap hcm (set4 hB3 (by omega) _ _ _ _)
    · have HV := Lib.hid hv
      by_cases hst : st = 0
      · subst hst
        have HR : Hid (Sm.hello ⟨0, f, us, t⟩ [a, d] = (Sm.back ⟨1, f, us, t⟩, 250)) := Lib.hid (by unfold Sm.hello; simp [hv])
        clear hv
        go_wp2_with fail
        refine (sDomainValid_any d zd _).mono ?_
        rintro e w3 ⟨rfl, hb3⟩
        rw [HV.out]
        have hB3 := hB.trans (hb3.mono hB.size)
        have hs3 := hb3.size
        have hx1 := (hb3.block _ hs0).trans HX1.out
        have hx2 := (hb3.block _ hs1).trans HX2.out
        clear d0 d1 d2 d3 e0 e1 e2 e3 r0 r1 r2 r3 z0 z1 z2 z3
        have d0 : w3.cell? ⟨w.heap.size, 0, none⟩ = some (.int .i64 0) := cell_at hx1 0 _ rfl
        have d1 : w3.cell? ⟨w.heap.size, 1, none⟩ = some (.string f) := cell_at hx1 1 _ rfl
        have d2 : w3.cell? ⟨w.heap.size, 2, none⟩ = some (.slice A us.length c) := cell_at hx1 2 _ rfl
        have d3 : w3.cell? ⟨w.heap.size, 3, none⟩ = some (.string t) := cell_at hx1 3 _ rfl
        have e0 := free_at hx1 0
        have e1 := free_at hx1 1
        have e2 := free_at hx1 2
        have e3 := free_at hx1 3
        have r0 : w3.cell? ⟨w.heap.size + 1, 0, none⟩ = some (.int .i64 0) := cell_at hx2 0 _ rfl
        have r1 : w3.cell? ⟨w.heap.size + 1, 1, none⟩ = some (.string ⟨#[]⟩) := cell_at hx2 1 _ rfl
        have r2 : w3.cell? ⟨w.heap.size + 1, 2, none⟩ = some (.slice none 0 0) := cell_at hx2 2 _ rfl
        have r3 : w3.cell? ⟨w.heap.size + 1, 3, none⟩ = some (.string ⟨#[]⟩) := cell_at hx2 3 _ rfl
        have z0 := free_at hx2 0
        have z1 := free_at hx2 1
        have z2 := free_at hx2 2
        have z3 := free_at hx2 3
        go_wp2_with fail
        have hB4 : Below w.heap.size w (w3.setCell ⟨w.heap.size, 0, none⟩ (.int .i64 1)) := hB3.setCell (p := ⟨w.heap.size, 0, none⟩) (Nat.le_refl _) _
        have hx24 := (set_heap_ne (W := w3) (i := 0) (v := .int .i64 1) (show w.heap.size ≠ w.heap.size + 1 by omega)).trans hx2
        have hs4 : (w3.setCell ⟨w.heap.size, 0, none⟩ (.int .i64 1)).heap.size = w3.heap.size := by simp
        generalize w3.setCell ⟨w.heap.size, 0, none⟩ (.int .i64 1) = w4 at hB4 hx24 hs4 ⊢
        clear d0 d1 d2 d3 e0 e1 e2 e3 r0 r1 r2 r3 z0 z1 z2 z3
        refine Calls.mono (HCB.out 1 (fun _ => HF.out (by decide)) _) ?_
        rintro e w5 ⟨g5, rfl, hb5⟩
        have hs5 := hb5.size
        have hB5 := hB4.trans (hb5.mono hB4.size)
        have hx5 := (hb5.block (w.heap.size + 1) (by omega)).trans hx24
        have q0 : w5.cell? ⟨w.heap.size + 1, 0, none⟩ = some (.int .i64 0) := cell_at hx5 0 _ rfl
        have q1 : w5.cell? ⟨w.heap.size + 1, 1, none⟩ = some (.string ⟨#[]⟩) := cell_at hx5 1 _ rfl
        have q2 : w5.cell? ⟨w.heap.size + 1, 2, none⟩ = some (.slice none 0 0) := cell_at hx5 2 _ rfl
        have q3 : w5.cell? ⟨w.heap.size + 1, 3, none⟩ = some (.string ⟨#[]⟩) := cell_at hx5 3 _ rfl
        have y0 := free_at hx5 0
        have y1 := free_at hx5 1
        have y2 := free_at hx5 2
        have y3 := free_at hx5 3
        go_wp2_with fail
        refine bodyPost_ret (v := .tuple #[.agg #[.int .i64 (Sm.back ⟨1, f, us, t⟩).st, .string (Sm.back ⟨1, f, us, t⟩).user, .slice (some ⟨g5, 0, none⟩) 0 0, .string ⟨#[]⟩], .int .i64 250]) (by simp [results, Try.results42, go_sem, q0, q1, q2, q3]) rfl ?_
        exact Sm.res_back HR.out (set4 hB5 (by omega) _ _ _ _)
      · have hsti : (st == 0) = false := by simpa using hst
        have HR : Hid (Sm.hello ⟨st, f, us, t⟩ [a, d] = (Sm.back ⟨st, f, us, t⟩, 250)) := Lib.hid (by unfold Sm.hello; simp [hv, hst])
        clear hv
        go_wp2_with fail
        refine (sDomainValid_any d zd _).mono ?_
        rintro e w3 ⟨rfl, hb3⟩
        rw [HV.out]
        have hB3 := hB.trans (hb3.mono hB.size)
        have hs3 := hb3.size
        have hx1 := (hb3.block _ hs0).trans HX1.out
        have hx2 := (hb3.block _ hs1).trans HX2.out
        clear d0 d1 d2 d3 e0 e1 e2 e3 r0 r1 r2 r3 z0 z1 z2 z3
        have d0 : w3.cell? ⟨w.heap.size, 0, none⟩ = some (.int .i64 st) := cell_at hx1 0 _ rfl
        have d1 : w3.cell? ⟨w.heap.size, 1, none⟩ = some (.string f) := cell_at hx1 1 _ rfl
        have d2 : w3.cell? ⟨w.heap.size, 2, none⟩ = some (.slice A us.length c) := cell_at hx1 2 _ rfl
        have d3 : w3.cell? ⟨w.heap.size, 3, none⟩ = some (.string t) := cell_at hx1 3 _ rfl
        have e0 := free_at hx1 0
        have e1 := free_at hx1 1
        have e2 := free_at hx1 2
        have e3 := free_at hx1 3
        have r0 : w3.cell? ⟨w.heap.size + 1, 0, none⟩ = some (.int .i64 0) := cell_at hx2 0 _ rfl
        have r1 : w3.cell? ⟨w.heap.size + 1, 1, none⟩ = some (.string ⟨#[]⟩) := cell_at hx2 1 _ rfl
        have r2 : w3.cell? ⟨w.heap.size + 1, 2, none⟩ = some (.slice none 0 0) := cell_at hx2 2 _ rfl
        have r3 : w3.cell? ⟨w.heap.size + 1, 3, none⟩ = some (.string ⟨#[]⟩) := cell_at hx2 3 _ rfl
        have z0 := free_at hx2 0
        have z1 := free_at hx2 1
        have z2 := free_at hx2 2
        have z3 := free_at hx2 3
        go_wp2_with fail
        clear d0 d1 d2 d3 e0 e1 e2 e3 r0 r1 r2 r3 z0 z1 z2 z3
        refine Calls.mono (HCB.out st HF.out _) ?_
        rintro e w5 ⟨g5, rfl, hb5⟩
        have hs5 := hb5.size
        have hB5 := hB3.trans (hb5.mono hB3.size)
        have hx5 := (hb5.block (w.heap.size + 1) (by omega)).trans hx2
        have q0 : w5.cell? ⟨w.heap.size + 1, 0, none⟩ = some (.int .i64 0) := cell_at hx5 0 _ rfl
        have q1 : w5.cell? ⟨w.heap.size + 1, 1, none⟩ = some (.string ⟨#[]⟩) := cell_at hx5 1 _ rfl
        have q2 : w5.cell? ⟨w.heap.size + 1, 2, none⟩ = some (.slice none 0 0) := cell_at hx5 2 _ rfl
        have q3 : w5.cell? ⟨w.heap.size + 1, 3, none⟩ = some (.string ⟨#[]⟩) := cell_at hx5 3 _ rfl
        have y0 := free_at hx5 0
        have y1 := free_at hx5 1
        have y2 := free_at hx5 2
        have y3 := free_at hx5 3
        go_wp2_with fail
        refine bodyPost_ret (v := .tuple #[.agg #[.int .i64 (Sm.back ⟨st, f, us, t⟩).st, .string (Sm.back ⟨st, f, us, t⟩).user, .slice (some ⟨g5, 0, none⟩) 0 0, .string ⟨#[]⟩], .int .i64 250]) (by simp [results, Try.results42, go_sem, q0, q1, q2, q3]) rfl ?_
        exact Sm.res_back HR.out (set4 hB5 (by omega) _ _ _ _)
  · have h2i : ¬ (ws.length : Int) = 2 := by omega
    have HR : Hid (Sm.hello ⟨st, f, us, t⟩ ws = (⟨st, f, us, t⟩, 501)) := Lib.hid (by
      unfold Sm.hello
      match ws, h2 with
      | [], _ => rfl
      | [a], _ => rfl
      | [a, b], h2 => exact absurd rfl h2
      | a :: b :: c :: r, _ => rfl)
    clear hwW hx1 hx2 h2
    generalize ws.length = n at h2i ⊢
    go_wp2_with fail
    refine bodyPost_ret (v := .tuple #[.agg #[.int .i64 st, .string f, .slice A us.length c, .string t], .int .i64 501]) (by simp [results, Try.results42, go_sem, r0, r1, r2, r3]) rfl ?_
    exact Sm.res_self HR.out (HW.out _ (set4 hB (by omega) _ _ _ _)) hcap hcm (set4 hB (by omega) _ _ _ _)
end Go.Proofs.Ytnbggmmghopphaa
