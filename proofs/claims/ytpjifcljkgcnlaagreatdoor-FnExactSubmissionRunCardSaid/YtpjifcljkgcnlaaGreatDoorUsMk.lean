/- A copy of users of the call's own; markUserS, heldSubmission of the laws. -/
import Derived.Test.YtpjifcljkgcnlaaGreatDoorUsEx
import Derived.Test.YtpjifcljkgcnlaaGreatDoorMkX
namespace Go.Proofs.YtpjifcljkgcnlaaGreatDoor
set_option linter.unusedVariables false
open Go.RowKit
open Us (U)

def Us.Own (w : World) (B : Nat) (v : Value) (us : List U) : Prop := OwnL 54 3 Us.cells w B v us

set_option maxRecDepth 100000 in
set_option maxHeartbeats 1600000 in
theorem toUserS_own (A : Option Addr) (us : List U) (c : Nat) (w : World) (h : AtUsers w w.heap.size A us) (hn : us.length ≤ 1048576) :
    Calls Tryz.prog 7 #[.slice A us.length c] w fun e w' => ∃ A' c', e = .returned (.slice A' us.length c') ∧ us.length ≤ c' ∧ c' ≤ maxLen ∧ Us.Own w' w.heap.size (.slice A' us.length c') us ∧ Below w.heap.size w w' := by
  obtain ⟨i0, hi, hz0, hz1, hz2⟩ := info_parts user_info
  have hmk := fun W => run_make_rowN (P := Tryz.prog) 30 54 i0 _ Tryz.underlying30 hi hz0 .i64 .i64 us.length us.length (Nat.le_refl _) (by rw [hz2]; omega) (by omega) W
  rw [hz1] at hmk
  have hml : (madeCells (Value.agg #[.string ⟨#[]⟩, .string ⟨#[]⟩, .int .i64 0]).cells (us.length * 3)).toList = (Us.part us 0).flatMap Us.cells := by
    rw [Us.part_zero]
    exact made_flat (by omega) Us.cells_len rfl
  have HML := Lib.hid hml
  clear hml
  have hown0 : (w.alloc (.cells (madeCells (Value.agg #[.string ⟨#[]⟩, .string ⟨#[]⟩, .int .i64 0]).cells (us.length * 3)) 54)).ownsRow w.heap.size 54 3 (.slice (some ⟨w.heap.size, 0, none⟩) us.length us.length) us.length ((Us.part us 0).flatMap Us.cells) := by
    rw [← HML.out]
    exact World.ownsRow_lit w _ us.length (Nat.le_refl _) (by unfold maxLen; omega) (size_madeCells _ _)
  have H0 := Lib.hid hown0
  clear hown0
  go_enter Tryz.func7, Tryz.ntmps7
  go_wp2_with fail
  go_loopg [4] us.length (fun g i wr => ∃ k : Nat, k ≤ us.length ∧ Hid (g = us.length - k) ∧ i = .int .i64 k ∧ wr.ownsRow w.heap.size 54 3 (.slice (some ⟨w.heap.size, 0, none⟩) us.length us.length) us.length ((Us.part us k).flatMap Us.cells) ∧ Below w.heap.size w wr)
  case atStart => exact ⟨0, Nat.zero_le _, Lib.hid rfl, rfl, H0.out, by go_grown⟩
  case round =>
    obtain ⟨k, hk, HG, rfl, hown, hb⟩ := hrel
    by_cases hlt : k < us.length
    · obtain ⟨g, off, rfl, hg, hc⟩ := (h.below hb).1 (by omega)
      obtain ⟨u, hu⟩ : ∃ u, us[k]? = some u := ⟨_, List.getElem?_eq_getElem hlt⟩
      obtain ⟨d1, d2, d3⟩ := hc k u hu
      have HU := Lib.hid hu
      have HO := Lib.hid hown
      clear hc hu hown
      go_wp2_with fail
      refine (toUser_any u _).mono ?_
      rintro e w1 ⟨rfl, hb1⟩
      have hlt1 := (HO.out.lt _ rfl).2
      have hown1 := own_below HO.out hb1 hlt1
      have e0 : w1.cell? ⟨w.heap.size, k * 3, none⟩ = some (.string ⟨#[]⟩) := own_cell (j := 0) Us.cells_len hown1 (Us.part_get us k hlt) rfl
      have e1 : w1.cell? ⟨w.heap.size, k * 3 + 1, none⟩ = some (.string ⟨#[]⟩) := own_cell (j := 1) Us.cells_len hown1 (Us.part_get us k hlt) rfl
      have e2 : w1.cell? ⟨w.heap.size, k * 3 + 2, none⟩ = some (.int .i64 0) := own_cell (j := 2) Us.cells_len hown1 (Us.part_get us k hlt) rfl
      have f0 : w1.frozen? ⟨w.heap.size, k * 3, none⟩ = false := hown1.frozenAt _
      have f1 : w1.frozen? ⟨w.heap.size, k * 3 + 1, none⟩ = false := hown1.frozenAt _
      have f2 : w1.frozen? ⟨w.heap.size, k * 3 + 2, none⟩ = false := hown1.frozenAt _
      have HO1 := Lib.hid hown1
      clear hown1 d1 d2 d3
      have hpl : k < (Us.part us k).length := by rw [Us.part_len us k hk]; exact hlt
      have hs1 := own_set (j := 0) (u' := ⟨u.name, ⟨#[]⟩, 0⟩) (v := .string u.name) Us.cells_len HO1.out (Us.part_get us k hlt) (by omega) rfl
      have hs2 := own_set (j := 1) (u' := ⟨u.name, u.pass, 0⟩) (v := .string u.pass) Us.cells_len hs1 (List.getElem?_set_self hpl) (by omega) rfl
      have hs3 := own_set (j := 2) (u' := u) (v := .int .i64 u.quota) Us.cells_len hs2 (List.getElem?_set_self (by rw [List.length_set]; exact hpl)) (by omega) rfl
      rw [List.set_set, List.set_set, Us.part_set us k u HU.out] at hs3
      have HS := Lib.hid hs3
      clear hs1 hs2 hs3 hpl
      go_wp2_with fail
      go_roundg (us.length - (k + 1))
      case measure => have := HG.out; omega
      case rel => exact ⟨k + 1, by omega, Lib.hid rfl, by go_num, HS.out, (((hb.trans (hb1.mono hb.size)).setCell (p := ⟨w.heap.size, k * 3, none⟩) (Nat.le_refl _) _).setCell (p := ⟨w.heap.size, k * 3 + 1, none⟩) (Nat.le_refl _) _).setCell (p := ⟨w.heap.size, k * 3 + 2, none⟩) (Nat.le_refl _) _⟩
    · obtain rfl : k = us.length := by omega
      rw [Us.part_all] at hown
      have HAT := Lib.hid hown
      clear hown
      go_wp2_with fail
      go_ret
      exact ⟨_, _, rfl, Nat.le_refl _, by unfold maxLen; omega, HAT.out, hb⟩


/-- the marks of n users, from a number on -/
def Us.marks (q : Nat) : Nat → List U
  | 0 => []
  | n + 1 => Us.marks q n ++ [⟨Mk.text (q + 3 * n), Mk.text (q + 3 * n + 1), ((q + 3 * n + 2 : Nat) : Int)⟩]
theorem Us.marks_len (q : Nat) : ∀ n, (Us.marks q n).length = n
  | 0 => rfl
  | n + 1 => by rw [Us.marks, List.length_append, Us.marks_len q n]; rfl
theorem Us.marks_succ (q n : Nat) : Us.marks q (n + 1) = Us.marks q n ++ [⟨Mk.text (q + 3 * n), Mk.text (q + 3 * n + 1), ((q + 3 * n + 2 : Nat) : Int)⟩] := rfl
/-- the first k users are marked -/
def Us.marked (us : List U) (q k : Nat) : List U := Us.marks q k ++ us.drop k
theorem Us.marked_len (us : List U) (q k : Nat) (h : k ≤ us.length) : (Us.marked us q k).length = us.length := by
  unfold Us.marked; rw [List.length_append, Us.marks_len, List.length_drop]; omega
theorem Us.marked_get (us : List U) (q k : Nat) {u : U} (h : us[k]? = some u) : (Us.marked us q k)[k]? = some u := by
  unfold Us.marked
  rw [List.getElem?_append_right (by rw [Us.marks_len]; exact Nat.le_refl _), Us.marks_len, Nat.sub_self, List.getElem?_drop, Nat.add_zero, h]
theorem Us.marked_set (us : List U) (q k : Nat) (h : k < us.length) : (Us.marked us q k).set k ⟨Mk.text (q + 3 * k), Mk.text (q + 3 * k + 1), ((q + 3 * k + 2 : Nat) : Int)⟩ = Us.marked us q (k + 1) := by
  unfold Us.marked
  rw [List.set_append_right _ _ (by rw [Us.marks_len]; exact Nat.le_refl _), Us.marks_len, Nat.sub_self, List.drop_eq_getElem_cons h, List.set_cons_zero, Us.marks_succ, List.append_assoc]; rfl
theorem Us.marked_all (us : List U) (q : Nat) : Us.marked us q us.length = Us.marks q us.length := by unfold Us.marked; simp

/-- what marking gives: the users are marked; nothing else has turned -/
def Us.Mkd (us : List U) (q : Nat) (v : Value) (B : Nat) (w : World) (e : Ending) (w' : World) : Prop :=
  e = .returned (.int .i64 ((q + 3 * us.length : Nat) : Int)) ∧ Us.Own w' B v (Us.marks q us.length) ∧ w.grownBy w' v.ownBlock

set_option maxRecDepth 100000 in
set_option maxHeartbeats 1600000 in
theorem markUserS_any (A : Option Addr) (us : List U) (c B q : Nat) (w : World) (h : Us.Own w B (.slice A us.length c) us) (hq : 0 < q) (hn : q + 3 * us.length ≤ 100000000) :
    Calls Tryz.prog 14 #[.slice A us.length c, .int .i64 (q : Int)] w (Us.Mkd us q (.slice A us.length c) B w) := by
  have hn1 : us.length ≤ 100000000 := by omega
  go_enter Tryz.func14, Tryz.ntmps14
  go_wp2_with fail
  go_loopg [1, 5] us.length (fun g m i wr => ∃ k : Nat, k ≤ us.length ∧ Hid (g = us.length - k) ∧ i = .int .i64 k ∧ m = .int .i64 ((q + 3 * k : Nat) : Int) ∧ Hid (wr.ownsRow B 54 3 (.slice A us.length c) us.length ((Us.marked us q k).flatMap Us.cells)) ∧ w.grownBy wr (Value.slice A us.length c).ownBlock)
  case atStart => exact ⟨0, Nat.zero_le _, Lib.hid rfl, rfl, rfl, Lib.hid h, World.grownBy.refl w _⟩
  case round =>
    obtain ⟨k, hk, HG, rfl, rfl, HO, hg⟩ := hrel
    by_cases hlt : k < us.length
    · obtain ⟨g, cc, e1, hgb, hgs⟩ := HO.out.form (by omega)
      injection e1 with e1 _ e2
      subst e1; subst e2
      obtain ⟨u, hu⟩ : ∃ u, us[k]? = some u := ⟨_, List.getElem?_eq_getElem hlt⟩
      have HU := Lib.hid (Us.marked_get us q k hu)
      have HML := Lib.hid (Us.marked_len us q k hk)
      have HMT := Lib.hid (markText_any (q + 3 * k) (by omega) (by omega))
      have HM2 := Lib.hid (markText_any (q + 3 * k + 1) (by omega) (by omega))
      obtain ⟨x, hx⟩ : ∃ x : Nat, x = q + 3 * k := ⟨_, rfl⟩
      have HX := Lib.hid hx
      have hxb : (x : Int) ≤ 100000000 := by omega
      have hx0 : (0 : Int) ≤ (x : Int) := by omega
      rw [← hx] at HMT HM2 ⊢
      have hx1 : ((x + 1 : Nat) : Int) = (x : Int) + 1 := by omega
      rw [hx1] at HM2
      clear hx hu hx1
      go_wp2_with fail
      refine Calls.mono (HMT.out _) ?_
      rintro e w1 ⟨rfl, hb1⟩
      have hgw : w.grownBy w1 (Value.slice (some ⟨g, 0, none⟩) us.length c).ownBlock := grown_trans hg (grown_below hb1)
      have hown1 := own_below HO.out hb1 hgs
      have hgs1 : g < w1.heap.size := Nat.lt_of_lt_of_le hgs hb1.size
      have e0 : w1.cell? ⟨g, k * 3, none⟩ = some (.string u.name) := own_cell (j := 0) Us.cells_len hown1 HU.out rfl
      have f0 : w1.frozen? ⟨g, k * 3, none⟩ = false := hown1.frozenAt _
      have hpl : k < (Us.marked us q k).length := by rw [HML.out]; exact hlt
      have HS1 := Lib.hid (own_set (j := 0) (u' := ⟨Mk.text x, u.pass, u.quota⟩) (v := .string (Mk.text x)) Us.cells_len hown1 HU.out (by omega) rfl)
      have HGW := Lib.hid (grown_set (b := g) hgw (k * 3) (.string (Mk.text x)))
      clear hgw hb1 hown1
      go_wp2_with fail
      obtain ⟨wm, hwm⟩ : ∃ wm, wm = w1.setCell ⟨g, k * 3, none⟩ (.string (Mk.text x)) := ⟨_, rfl⟩
      have hgsm : g < wm.heap.size := by rw [hwm]; simpa using hgs1
      simp only [Nat.add_zero] at HS1
      rw [← hwm] at HS1 HGW ⊢
      clear hwm e0 f0
      refine Calls.mono (HM2.out _) ?_
      rintro e w2 ⟨rfl, hb2⟩
      have hgw : w.grownBy w2 (Value.slice (some ⟨g, 0, none⟩) us.length c).ownBlock := grown_trans HGW.out (grown_below hb2)
      have hown2 := own_below HS1.out hb2 hgsm
      have hget := List.getElem?_set_self (a := (⟨Mk.text x, u.pass, u.quota⟩ : U)) hpl
      have e1 : w2.cell? ⟨g, k * 3 + 1, none⟩ = some (.string u.pass) := own_cell (j := 1) Us.cells_len hown2 hget rfl
      have e2 : w2.cell? ⟨g, k * 3 + 2, none⟩ = some (.int .i64 u.quota) := own_cell (j := 2) Us.cells_len hown2 hget rfl
      have f1 : w2.frozen? ⟨g, k * 3 + 1, none⟩ = false := hown2.frozenAt _
      have f2 : w2.frozen? ⟨g, k * 3 + 2, none⟩ = false := hown2.frozenAt _
      have hs2 := own_set (j := 1) (u' := ⟨Mk.text x, Mk.text (x + 1), u.quota⟩) (v := .string (Mk.text (x + 1))) Us.cells_len hown2 hget (by omega) rfl
      have hs3 := own_set (j := 2) (u' := ⟨Mk.text x, Mk.text (x + 1), ((x + 2 : Nat) : Int)⟩) (v := .int .i64 ((x : Int) + 1 + 1)) Us.cells_len hs2 (List.getElem?_set_self (by rw [List.length_set]; exact hpl)) (by omega) (by rw [show ((x + 2 : Nat) : Int) = (x : Int) + 1 + 1 by omega]; rfl)
      have hset : ((Us.marked us q k).set k ⟨Mk.text x, Mk.text (x + 1), ((x + 2 : Nat) : Int)⟩) = Us.marked us q (k + 1) := by rw [HX.out]; exact Us.marked_set us q k hlt
      rw [List.set_set, List.set_set, hset] at hs3
      have HS := Lib.hid hs3
      have HGW2 := Lib.hid (grown_set (grown_set (b := g) hgw (k * 3 + 1) (.string (Mk.text (x + 1)))) (k * 3 + 2) (.int .i64 ((x : Int) + 1 + 1)))
      clear hs2 hs3 hpl hset hown2 hgw hb2 hget HS1 HGW
      go_wp2_with fail
      go_roundg (us.length - (k + 1))
      case measure => have := HG.out; omega
      case rel => exact ⟨k + 1, by omega, Lib.hid rfl, by go_num, by have := HX.out; go_num, HS, HGW2.out⟩
    · obtain rfl : k = us.length := by omega
      have ho := HO.out
      rw [Us.marked_all] at ho
      go_wp2_with fail
      go_ret
      refine ⟨rfl, ?_, hg⟩
      unfold Us.Own OwnL
      rw [Us.marks_len]; exact ho

end Go.Proofs.YtpjifcljkgcnlaaGreatDoor
