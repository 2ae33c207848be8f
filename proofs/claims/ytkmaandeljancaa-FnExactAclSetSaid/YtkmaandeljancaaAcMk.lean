/- markGrantS and heldGrantS of the laws. -/
import Derived.Test.YtkmaandeljancaaMk
import Derived.Test.YtkmaandeljancaaAcSet
import Derived.BigQuiet
import Derived.Deep.RegionHeld3
import Derived.Deep.DeepCutAuto
namespace Go.Proofs.Ytkmaandeljancaa
set_option linter.unusedVariables false
open Go.RowKit
open Ac (G)

/-- the marks of n grants, from a number on -/
def Ac.marks (q : Nat) : Nat → List G
  | 0 => []
  | n + 1 => Ac.marks q n ++ [⟨Mk.text (q + 2 * n), ((q + 2 * n + 1 : Nat) : Int)⟩]
theorem Ac.marks_len (q : Nat) : ∀ n, (Ac.marks q n).length = n
  | 0 => rfl
  | n + 1 => by rw [Ac.marks, List.length_append, Ac.marks_len q n]; rfl
theorem Ac.marks_succ (q n : Nat) : Ac.marks q (n + 1) = Ac.marks q n ++ [⟨Mk.text (q + 2 * n), ((q + 2 * n + 1 : Nat) : Int)⟩] := rfl
theorem Ac.marks_get (q : Nat) : ∀ n k, k < n → (Ac.marks q n)[k]? = some ⟨Mk.text (q + 2 * k), ((q + 2 * k + 1 : Nat) : Int)⟩
  | 0, k, h => by omega
  | n + 1, k, h => by
    rw [Ac.marks_succ]
    by_cases hk : k < n
    · rw [List.getElem?_append_left (by rw [Ac.marks_len]; exact hk)]
      exact Ac.marks_get q n k hk
    · obtain rfl : k = n := by omega
      rw [List.getElem?_append_right (by rw [Ac.marks_len]; exact Nat.le_refl _), Ac.marks_len, Nat.sub_self]; rfl
/-- the first k grants are marked -/
def Ac.marked (us : List G) (q k : Nat) : List G := Ac.marks q k ++ us.drop k
theorem Ac.marked_len (us : List G) (q k : Nat) (h : k ≤ us.length) : (Ac.marked us q k).length = us.length := by
  unfold Ac.marked; rw [List.length_append, Ac.marks_len, List.length_drop]; omega
theorem Ac.marked_get (us : List G) (q k : Nat) {u : G} (h : us[k]? = some u) : (Ac.marked us q k)[k]? = some u := by
  unfold Ac.marked
  rw [List.getElem?_append_right (by rw [Ac.marks_len]; exact Nat.le_refl _), Ac.marks_len, Nat.sub_self, List.getElem?_drop, Nat.add_zero, h]
theorem Ac.marked_set (us : List G) (q k : Nat) (h : k < us.length) : (Ac.marked us q k).set k ⟨Mk.text (q + 2 * k), ((q + 2 * k + 1 : Nat) : Int)⟩ = Ac.marked us q (k + 1) := by
  unfold Ac.marked
  rw [List.set_append_right _ _ (by rw [Ac.marks_len]; exact Nat.le_refl _), Ac.marks_len, Nat.sub_self, List.drop_eq_getElem_cons h, List.set_cons_zero, Ac.marks_succ, List.append_assoc]; rfl
theorem Ac.marked_all (us : List G) (q : Nat) : Ac.marked us q us.length = Ac.marks q us.length := by unfold Ac.marked; simp

/-- what marking gives: the list is marked; nothing else has turned -/
def Ac.Mkd (us : List G) (q : Nat) (v : Value) (B : Nat) (w : World) (e : Ending) (w' : World) : Prop :=
  e = .returned (.int .i64 ((q + 2 * us.length : Nat) : Int)) ∧ Ac.Own w' B v (Ac.marks q us.length) ∧ w.grownBy w' v.ownBlock

set_option maxRecDepth 100000 in
set_option maxHeartbeats 1600000 in
theorem markGrantS_any (A : Option Addr) (us : List G) (c B q : Nat) (w : World) (h : Ac.Own w B (.slice A us.length c) us) (hq : 0 < q) (hn : q + 2 * us.length ≤ 100000000) :
    Calls Try.prog 19 #[.slice A us.length c, .int .i64 (q : Int)] w (Ac.Mkd us q (.slice A us.length c) B w) := by
  have hn1 : us.length ≤ 100000000 := by omega
  go_enter Try.func19, Try.ntmps19
  go_wp2_with fail
  go_loopg [1, 5] us.length (fun g m i wr => ∃ k : Nat, k ≤ us.length ∧ Hid (g = us.length - k) ∧ i = .int .i64 k ∧ m = .int .i64 ((q + 2 * k : Nat) : Int) ∧ Hid (wr.ownsRow B 34 2 (.slice A us.length c) us.length ((Ac.marked us q k).flatMap Ac.cells)) ∧ w.grownBy wr (Value.slice A us.length c).ownBlock)
  case atStart => exact ⟨0, Nat.zero_le _, Lib.hid rfl, rfl, rfl, Lib.hid h, World.grownBy.refl w _⟩
  case round =>
    obtain ⟨k, hk, HG, rfl, rfl, HO, hg⟩ := hrel
    by_cases hlt : k < us.length
    · obtain ⟨g, cc, e1, hgb, hgs⟩ := HO.out.form (by omega)
      injection e1 with e1 _ e2
      subst e1; subst e2
      obtain ⟨u, hu⟩ : ∃ u, us[k]? = some u := ⟨_, List.getElem?_eq_getElem hlt⟩
      have HU := Lib.hid (Ac.marked_get us q k hu)
      have HML := Lib.hid (Ac.marked_len us q k hk)
      have HMT := Lib.hid (markText_any (q + 2 * k) (by omega) (by omega))
      obtain ⟨x, hx⟩ : ∃ x : Nat, x = q + 2 * k := ⟨_, rfl⟩
      have HX := Lib.hid hx
      have hxb : (x : Int) ≤ 100000000 := by omega
      have hx0 : (0 : Int) ≤ (x : Int) := by omega
      rw [← hx] at HMT ⊢
      clear hx hu
      go_wp2_with fail
      refine Calls.mono (HMT.out _) ?_
      rintro e w1 ⟨rfl, hb1⟩
      have hgw : w.grownBy w1 (Value.slice (some ⟨g, 0, none⟩) us.length c).ownBlock := grown_trans hg (grown_below hb1)
      have hown1 := own_below HO.out hb1 hgs
      have e0 : w1.cell? ⟨g, k * 2, none⟩ = some (.string u.user) := own_cell (j := 0) Ac.cells_len hown1 HU.out rfl
      have e1 : w1.cell? ⟨g, k * 2 + 1, none⟩ = some (.int .i64 u.rights) := own_cell (j := 1) Ac.cells_len hown1 HU.out rfl
      have f0 : w1.frozen? ⟨g, k * 2, none⟩ = false := hown1.frozenAt _
      have f1 : w1.frozen? ⟨g, k * 2 + 1, none⟩ = false := hown1.frozenAt _
      have hpl : k < (Ac.marked us q k).length := by rw [HML.out]; exact hlt
      have hs1 := own_set (j := 0) (u' := ⟨Mk.text x, u.rights⟩) (v := .string (Mk.text x)) Ac.cells_len hown1 HU.out (by omega) rfl
      have hs2 := own_set (j := 1) (u' := ⟨Mk.text x, ((x + 1 : Nat) : Int)⟩) (v := .int .i64 ((x : Int) + 1)) Ac.cells_len hs1 (List.getElem?_set_self hpl) (by omega) rfl
      have hset : ((Ac.marked us q k).set k ⟨Mk.text x, ((x + 1 : Nat) : Int)⟩) = Ac.marked us q (k + 1) := by rw [HX.out]; exact Ac.marked_set us q k hlt
      rw [List.set_set, hset] at hs2
      have HS := Lib.hid hs2
      have HGW := Lib.hid (grown_set (grown_set (b := g) hgw (k * 2) (.string (Mk.text x))) (k * 2 + 1) (.int .i64 ((x : Int) + 1)))
      clear hs1 hs2 hpl hset hown1 hgw hb1
      go_wp2_with fail
      go_roundg (us.length - (k + 1))
      case measure => have := HG.out; omega
      case rel => exact ⟨k + 1, by omega, Lib.hid rfl, by go_num, by have := HX.out; go_num, HS, HGW.out⟩
    · obtain rfl : k = us.length := by omega
      have ho := HO.out
      rw [Ac.marked_all] at ho
      go_wp2_with fail
      go_ret
      refine ⟨rfl, ?_, hg⟩
      unfold Ac.Own OwnL
      rw [Ac.marks_len]; exact ho

set_option maxRecDepth 100000 in
set_option maxHeartbeats 1600000 in
theorem heldGrantS_any (A : Option Addr) (n c q : Nat) (w : World) (h : AtGrants w w.heap.size A (Ac.marks q n)) (hq : 0 < q) (hn : q + 2 * n ≤ 100000000) :
    Calls Try.prog 20 #[.slice A n c, .int .i64 (q : Int)] w fun e w' => e = .returned (.int .i64 ((q + 2 * n : Nat) : Int)) ∧ Below w.heap.size w w' := by
  have hn1 : n ≤ 100000000 := by omega
  go_enter Try.func20, Try.ntmps20
  go_wp2_with fail
  go_loopg [1, 5] n (fun g m i wr => ∃ k : Nat, k ≤ n ∧ Hid (g = n - k) ∧ i = .int .i64 k ∧ m = .int .i64 ((q + 2 * k : Nat) : Int) ∧ Below w.heap.size w wr)
  case atStart => exact ⟨0, Nat.zero_le _, Lib.hid rfl, rfl, rfl, Below.refl _ _⟩
  case round =>
    obtain ⟨k, hk, HG, rfl, rfl, hb⟩ := hrel
    by_cases hlt : k < n
    · obtain ⟨g, off, rfl, hg, hc⟩ := (h.below hb).1 (by rw [Ac.marks_len]; omega)
      obtain ⟨d1, d2⟩ := hc k _ (Ac.marks_get q n k hlt)
      have HMT := Lib.hid (markText_any (q + 2 * k) (by omega) (by omega))
      obtain ⟨x, hx⟩ : ∃ x : Nat, x = q + 2 * k := ⟨_, rfl⟩
      have HX := Lib.hid hx
      have hxb : (x : Int) ≤ 100000000 := by omega
      have hx0 : (0 : Int) ≤ (x : Int) := by omega
      have hki : (k : Int) < (n : Int) := by omega
      have hk0 : (0 : Int) ≤ (k : Int) := by omega
      rw [← hx] at HMT d1 d2 ⊢
      have d2 : wr.cell? ⟨g, off + k * 2 + 1, none⟩ = some (.int .i64 ((x : Int) + 1)) := d2
      have hgr : g < wr.heap.size := Nat.lt_of_lt_of_le hg hb.size
      clear hx hc
      obtain ⟨wo, rfl⟩ : ∃ wo : World, wo = wr := ⟨_, rfl⟩
      go_upto_region 4 with fail
      go_region_held3 (fun w' => w'.cell? ⟨g, off + k * 2, none⟩ = some (.string (Mk.text x))) (first | go_keep | exact (hb1.cell (p := ⟨g, off + k * 2, none⟩) hgr).trans d1)
        (first | (go_at_call 36; refine Calls.mono (HMT.out _) ?_; rintro e w1 ⟨rfl, hb1⟩))
      have hb1' : Below wo.heap.size wo w1 := ⟨hb1.os, hb1.tape, hb1.output, hb1.size, hb1.block⟩
      have d2 := (hb1'.cell (p := ⟨g, off + k * 2 + 1, none⟩) hgr).trans d2
      go_wp2_with fail
      go_roundg (n - (k + 1))
      case measure => have := HG.out; omega
      case rel => exact ⟨k + 1, by omega, Lib.hid rfl, by go_num, by have := HX.out; go_num, hb.trans (hb1'.mono hb.size)⟩
    · obtain rfl : k = n := by omega
      go_wp2_with fail
      go_ret
      exact ⟨rfl, hb⟩

end Go.Proofs.Ytkmaandeljancaa
