/- SubmissionLetter of the program and of the reference. -/
import Derived.Test.YtnbggmmghopphaaSbW
import Derived.Test.YtnbggmmghopphaaSbW2
import Derived.Test.YtnbggmmghopphaaStDraw
import Derived.Deep.RegionHeld3
namespace Go.Proofs.Ytnbggmmghopphaa
set_option linter.unusedVariables false
open Go.RowKit

/-- may the text be completed? -/
def Sb.done (st : Int) (f : ByteArray) (us : List ByteArray) (t : ByteArray) : Bool := Sb.ok st f us t && decide (st = 5) && decide (t.size ≤ 20)
theorem Sb.done_no1 {st : Int} {f t : ByteArray} {us : List ByteArray} (h : Sb.ok st f us t = false) : Sb.done st f us t = false := by unfold Sb.done; rw [h]; rfl
theorem Sb.done_no2 {st : Int} {f t : ByteArray} {us : List ByteArray} (h : ¬ st = 5) : Sb.done st f us t = false := by unfold Sb.done; rw [decide_eq_false h]; simp
theorem Sb.done_no3 {st : Int} {f t : ByteArray} {us : List ByteArray} (h : ¬ t.size ≤ 20) : Sb.done st f us t = false := by unfold Sb.done; rw [decide_eq_false h]; simp
theorem Sb.done_yes {st : Int} {f t : ByteArray} {us : List ByteArray} (h1 : Sb.ok st f us t = true) (h2 : st = 5) (h3 : t.size ≤ 20) : Sb.done st f us t = true := by unfold Sb.done; rw [h1, decide_eq_true h2, decide_eq_true h3]; rfl
/-- what completing gives -/
def Sb.Let (st : Int) (f : ByteArray) (us : List ByteArray) (t : ByteArray) (w : World) (e : Ending) (w' : World) : Prop :=
  (Sb.done st f us t = true → ∃ A c, e = .returned (.tuple #[.agg #[.string f, .slice A us.length c, .string t], .bool true]) ∧ St.Own w' w.heap.size (.slice A us.length c) us) ∧
  (Sb.done st f us t = false → e = .returned (.tuple #[.agg #[.string ⟨#[]⟩, .slice none 0 0, .string ⟨#[]⟩], .bool false])) ∧ Below w.heap.size w w'
theorem St.at_of {w : World} {B : Nat} {A : Option Addr} {us : List ByteArray} (h : AtStrs w B A us) : At w B 1 St.cells A us := fun hl => by
  obtain ⟨g, off, ha, hlt, hc⟩ := h.1 hl
  refine ⟨g, off, ha, hlt, fun i u hu j v hv => ?_⟩
  match j, hv with
  | 0, hv => simp [St.cells] at hv; subst hv; simpa using hc i u hu
  | j + 1, hv => simp [St.cells] at hv
theorem St.cells_one (us : List ByteArray) : ∀ v ∈ us.flatMap St.cells, v.oneCell' = true := by
  intro v hv
  obtain ⟨u, _, hu⟩ := List.mem_flatMap.1 hv
  exact St.cells_one1 u v hu
theorem below_drew {B : Nat} {a w : World} (h : Below B a w) : Below B a w.drew := ⟨h.os, h.tape, h.output, h.size, h.block⟩
theorem own_setNew {α : Type} {E : TypeId} {size : Nat} {f : α → List Value} {w : World} {B : Nat} {v : Value} {us : List α} (ho : OwnL E size f w B v us) {p : Addr} (hp : p.block < B) (u : Value) : OwnL E size f (w.setCell p u) B v us :=
  World.ownsRow.kept ho (row := some p.block) ⟨rfl, rfl, rfl, by simp [World.setCell], fun j hj hne => Below.heap_setCell w p u j (fun e => hne (by rw [e]))⟩ (by
    cases hq : v.ownBlock with
    | none => exact .inl rfl
    | some q => exact .inr fun e => by have h1 := OwnL.blk ho hq; injection e with e; omega)


set_option maxRecDepth 100000 in
set_option maxHeartbeats 3200000 in
theorem sSubmissionLetter_any (st : Int) (f t : ByteArray) (A : Option Addr) (us : List ByteArray) (c : Nat) (w : World) (h : AtStrs w w.heap.size A us) (hcap : us.length ≤ c) (hn : c ≤ maxLen) (hf : f.size ≤ maxLen) (ht : t.size ≤ maxLen) (hul : us.length ≤ 1048576) :
    Calls Try.prog 7 #[.agg #[.int .i64 st, .string f, .slice A us.length c, .string t]] w (Sb.Let st f us t w) := by
  have htl := ht
  unfold maxLen at htl
  have hbx0 := heap_alloc_new w (.cells #[.int .i64 st, .string f, .slice A us.length c, .string t] 25)
  have hB0 : Below w.heap.size w ((w.alloc (.cells #[.int .i64 st, .string f, .slice A us.length c, .string t] 25)).alloc (.cells #[.string ⟨#[]⟩, .slice none 0 0, .string ⟨#[]⟩] 28)) := ((Below.refl _ _).alloc (Nat.le_refl _) _).alloc (by simp) _
  have hbx1 := (Below.heap_alloc (w.alloc (.cells #[.int .i64 st, .string f, .slice A us.length c, .string t] 25)) (.cells #[.string ⟨#[]⟩, .slice none 0 0, .string ⟨#[]⟩] 28) w.heap.size (by simp)).trans hbx0
  have hbl1 := heap_alloc_new (w.alloc (.cells #[.int .i64 st, .string f, .slice A us.length c, .string t] 25)) (.cells #[.string ⟨#[]⟩, .slice none 0 0, .string ⟨#[]⟩] 28)
  rw [show (w.alloc (.cells #[.int .i64 st, .string f, .slice A us.length c, .string t] 25)).heap.size = w.heap.size + 1 by simp] at hbl1
  have hsz1 : ((w.alloc (.cells #[.int .i64 st, .string f, .slice A us.length c, .string t] 25)).alloc (.cells #[.string ⟨#[]⟩, .slice none 0 0, .string ⟨#[]⟩] 28)).heap.size = w.heap.size + 2 := by simp
  go_enter Try.func7, Try.ntmps7
  go_upto_region 1 with fail
  generalize (w.alloc (.cells #[.int .i64 st, .string f, .slice A us.length c, .string t] 25)).alloc (.cells #[.string ⟨#[]⟩, .slice none 0 0, .string ⟨#[]⟩] 28) = w1 at hB0 hbx1 hbl1 hsz1 ⊢
  have hs1 : w.heap.size + 1 < w1.heap.size := by omega
  have d0 : w1.cell? ⟨w.heap.size, 0, none⟩ = some (.int .i64 st) := cell_at hbx1 0 _ rfl
  have d1 : w1.cell? ⟨w.heap.size, 1, none⟩ = some (.string f) := cell_at hbx1 1 _ rfl
  have d2 : w1.cell? ⟨w.heap.size, 2, none⟩ = some (.slice A us.length c) := cell_at hbx1 2 _ rfl
  have d3 : w1.cell? ⟨w.heap.size, 3, none⟩ = some (.string t) := cell_at hbx1 3 _ rfl
  clear hbx0 hbx1 hsz1
  go_wp2_with fail
  refine (sSubmissionValid_any st f t A us c _ ((h.below hB0).mono hB0.size) hcap hn hf ht).mono ?_
  rintro e w2 ⟨rfl, hb2⟩
  have hB2 := hB0.trans (hb2.mono hB0.size)
  have d0 := (hb2.cell (p := ⟨w.heap.size, 0, none⟩) (by simp; omega)).trans d0
  have d1 := (hb2.cell (p := ⟨w.heap.size, 1, none⟩) (by simp; omega)).trans d1
  have d2 := (hb2.cell (p := ⟨w.heap.size, 2, none⟩) (by simp; omega)).trans d2
  have d3 := (hb2.cell (p := ⟨w.heap.size, 3, none⟩) (by simp; omega)).trans d3
  have hbl2 := (hb2.block (w.heap.size + 1) hs1).trans hbl1
  have hs2 : w.heap.size + 1 < w2.heap.size := Nat.lt_of_lt_of_le hs1 hb2.size
  have l0 : w2.cell? ⟨w.heap.size + 1, 0, none⟩ = some (.string ⟨#[]⟩) := cell_at hbl2 0 _ rfl
  have l1 : w2.cell? ⟨w.heap.size + 1, 1, none⟩ = some (.slice none 0 0) := cell_at hbl2 1 _ rfl
  have l2 : w2.cell? ⟨w.heap.size + 1, 2, none⟩ = some (.string ⟨#[]⟩) := cell_at hbl2 2 _ rfl
  have z0 : w2.frozen? ⟨w.heap.size + 1, 0, none⟩ = false := free_at hbl2 0
  have z1 : w2.frozen? ⟨w.heap.size + 1, 1, none⟩ = false := free_at hbl2 1
  have z2 : w2.frozen? ⟨w.heap.size + 1, 2, none⟩ = false := free_at hbl2 2
  have HBL2 := Lib.hid hbl2
  clear hbl1 hbl2 hb2
  have HNO : Hid (Sb.done st f us t = false → ∀ w', Below w.heap.size w w' → Sb.Let st f us t w (.returned (.tuple #[.agg #[.string ⟨#[]⟩, .slice none 0 0, .string ⟨#[]⟩], .bool false])) w') := Lib.hid fun hd w' hb => ⟨fun e => (by rw [hd] at e; cases e), fun _ => rfl, hb⟩
  have HB3 : Hid (∀ v0 v1 v2, Below w.heap.size w (((w2.setCell ⟨w.heap.size + 1, 0, none⟩ v0).setCell ⟨w.heap.size + 1, 1, none⟩ v1).setCell ⟨w.heap.size + 1, 2, none⟩ v2)) := Lib.hid fun v0 v1 v2 =>
    ((hB2.setCell (p := ⟨w.heap.size + 1, 0, none⟩) (by simp) _).setCell (p := ⟨w.heap.size + 1, 1, none⟩) (by simp) _).setCell (p := ⟨w.heap.size + 1, 2, none⟩) (by simp) _
  cases n1 : Sb.ok st f us t
  · have hd := Lib.hid (Sb.done_no1 n1)
    go_wp2_with fail
    refine bodyPost_ret (v := .tuple #[.agg #[.string ⟨#[]⟩, .slice none 0 0, .string ⟨#[]⟩], .bool false]) (by simp [results, Try.results7, go_sem, l0, l1, l2]) rfl ?_
    exact HNO.out hd.out _ (HB3.out _ _ _)
  · by_cases n2 : st = 5
    · have hst : (st == 5) = true := by simpa using n2
      by_cases n3 : t.size ≤ 20
      · have hd := Lib.hid (Sb.done_yes n1 n2 n3)
        have n3i : (t.size : Int) ≤ 20 := by omega
        have hst2 : (st != 5) = false := by simp [n2]
        obtain ⟨i0, hi, hz0, hz1, hz2⟩ := info_parts str_info
        have HB4 : Hid (Below w2.heap.size w2 (w2.alloc (.cells #[] 9)).drew) := Lib.hid (below_drew ((Below.refl w2.heap.size w2).alloc (Nat.le_refl _) (.cells #[] 9)))
        have H0 : Hid ((w2.alloc (.cells #[] 9)).drew.ownsRow w2.heap.size 9 1 (.slice (some ⟨w2.heap.size, 0, none⟩) 0 0) 0 []) := Lib.hid (World.ownsRow_lit (base := w2.heap.size) (e := 9) (size := 1) w2 #[] 0 (Nat.le_refl _) (Nat.zero_le _) rfl)
        have HR1 := Lib.hid (reads_of_at (by omega) St.cells_len (((St.at_of ((h.below hB2).mono hB2.size)).below HB4.out)))
        have K1 := Lib.hid (St.cells_one us)
        have K3 : Hid (0 + us.length ≤ maxLen) := Lib.hid (by unfold maxLen; omega)
        have K4 : Hid ((0 + us.length) * 16 ≤ 140737488355328) := Lib.hid (by omega)
        have K5 : Hid (w2.heap.size ≤ (w2.alloc (.cells #[] 9)).drew.heap.size) := Lib.hid HB4.out.size
        have x1 := (HB4.out.cell (p := ⟨w.heap.size, 1, none⟩) (by simp; omega)).trans d1
        have x2 := (HB4.out.cell (p := ⟨w.heap.size, 2, none⟩) (by simp; omega)).trans d2
        have x3 := (HB4.out.cell (p := ⟨w.heap.size, 3, none⟩) (by simp; omega)).trans d3
        have hs0 : w.heap.size < w2.heap.size := by omega
        subst n2
        clear n1 n3
        go_upto_region 3 with fail
        go_region_held3 (fun w' => w'.cell? ⟨w.heap.size, 1, none⟩ = some (.string f) ∧ w'.cell? ⟨w.heap.size, 2, none⟩ = some (.slice A us.length c) ∧ w'.cell? ⟨w.heap.size, 3, none⟩ = some (.string t)) (first | exact ⟨d1, d2, d3⟩ | exact ⟨x1, x2, x3⟩ | exact ⟨e1, e2, e3⟩ | (refine ⟨?_, ?_, ?_⟩ <;> (simp [go_sem]; first | exact e1 | exact e2 | exact e3)))
          (first
            | (refine step_append_any _ rfl (.tmp 21) (.tmp 23) _ rfl w2.heap.size 9 i0 _ 1 16 Try.underlying23 hi hz0 hz1 hz2 rfl (by omega) _ 0 [] (by simp [Act.eval]) H0.out _ A us.length c _ (by simp [Act.eval]) HR1.out K1.out K3.out K4.out K5.out ?_; intro v wa hown hgr hbk; obtain ⟨A3, c3, rfl⟩ := own_form hown; have hba : Below w2.heap.size w2 wa := HB4.out.grown hgr HB4.out.size (by intro q hq; have hq : w2.heap.size = q := Option.some.inj hq; omega); have e1 := (hba.cell (p := ⟨w.heap.size, 1, none⟩) hs0).trans d1; have e2 := (hba.cell (p := ⟨w.heap.size, 2, none⟩) hs0).trans d2; have e3 := (hba.cell (p := ⟨w.heap.size, 3, none⟩) hs0).trans d3; have HLA := Lib.hid ((hba.block (w.heap.size + 1) hs2).trans HBL2.out); have m0 : wa.cell? ⟨w.heap.size + 1, 0, none⟩ = some (.string ⟨#[]⟩) := cell_at HLA.out 0 _ rfl; have m1 : wa.cell? ⟨w.heap.size + 1, 1, none⟩ = some (.slice none 0 0) := cell_at HLA.out 1 _ rfl; have m2 : wa.cell? ⟨w.heap.size + 1, 2, none⟩ = some (.string ⟨#[]⟩) := cell_at HLA.out 2 _ rfl; have y0 : wa.frozen? ⟨w.heap.size + 1, 0, none⟩ = false := free_at HLA.out 0; have y1 : wa.frozen? ⟨w.heap.size + 1, 1, none⟩ = false := free_at HLA.out 1; have y2 : wa.frozen? ⟨w.heap.size + 1, 2, none⟩ = false := free_at HLA.out 2))
        go_wp2_with fail
        have ho : OwnL 9 1 St.cells wa w2.heap.size (.slice A3 us.length c3) us := by unfold OwnL; simpa using hown
        refine bodyPost_ret (v := .tuple #[.agg #[.string f, .slice A3 us.length c3, .string t], .bool true]) (by simp [results, Try.results7, go_sem, m0, m1, m2]) rfl ?_
        refine ⟨fun _ => ⟨A3, c3, rfl, ?_⟩, fun e => (by rw [hd.out] at e; cases e), (((hB2.trans (hba.mono hB2.size)).setCell (p := ⟨w.heap.size + 1, 0, none⟩) (by simp) _).setCell (p := ⟨w.heap.size + 1, 1, none⟩) (by simp) _).setCell (p := ⟨w.heap.size + 1, 2, none⟩) (by simp) _⟩
        exact (own_setNew (p := ⟨w.heap.size + 1, 2, none⟩) (own_setNew (p := ⟨w.heap.size + 1, 1, none⟩) (own_setNew (p := ⟨w.heap.size + 1, 0, none⟩) ho hs2 _) hs2 _) hs2 _).base (by omega)
      · have hd := Lib.hid (Sb.done_no3 (st := st) (f := f) (us := us) n3)
        have n3i : (20 : Int) < (t.size : Int) := by omega
        have hst2 : (st != 5) = false := by simp [n2]
        subst n2
        clear n3
        go_wp2_with fail
        refine bodyPost_ret (v := .tuple #[.agg #[.string ⟨#[]⟩, .slice none 0 0, .string ⟨#[]⟩], .bool false]) (by simp [results, Try.results7, go_sem, l0, l1, l2]) rfl ?_
        exact HNO.out hd.out _ (HB3.out _ _ _)
    · have hd := Lib.hid (Sb.done_no2 (f := f) (us := us) (t := t) n2)
      have hst2 : (st != 5) = true := by simpa using n2
      go_wp2_with fail
      refine bodyPost_ret (v := .tuple #[.agg #[.string ⟨#[]⟩, .slice none 0 0, .string ⟨#[]⟩], .bool false]) (by simp [results, Try.results7, go_sem, l0, l1, l2]) rfl ?_
      exact HNO.out hd.out _ (HB3.out _ _ _)


set_option maxRecDepth 100000 in
set_option maxHeartbeats 3200000 in
theorem iSubmissionLetter_any (st : Int) (f t : ByteArray) (A : Option Addr) (us : List ByteArray) (c : Nat) (w : World) (h : AtStrs w w.heap.size A us) (hcap : us.length ≤ c) (hn : c ≤ maxLen) (hf : f.size ≤ maxLen) (ht : t.size ≤ maxLen) (hul : us.length ≤ 1048576) :
    Calls Try.prog 6 #[.agg #[.int .i64 st, .string f, .slice A us.length c, .string t]] w (Sb.Let st f us t w) := by
  have htl := ht
  unfold maxLen at htl
  have hbx0 := heap_alloc_new w (.cells #[.int .i64 st, .string f, .slice A us.length c, .string t] 25)
  have hB0 : Below w.heap.size w ((w.alloc (.cells #[.int .i64 st, .string f, .slice A us.length c, .string t] 25)).alloc (.cells #[.string ⟨#[]⟩, .slice none 0 0, .string ⟨#[]⟩] 28)) := ((Below.refl _ _).alloc (Nat.le_refl _) _).alloc (by simp) _
  have hbx1 := (Below.heap_alloc (w.alloc (.cells #[.int .i64 st, .string f, .slice A us.length c, .string t] 25)) (.cells #[.string ⟨#[]⟩, .slice none 0 0, .string ⟨#[]⟩] 28) w.heap.size (by simp)).trans hbx0
  have hbl1 := heap_alloc_new (w.alloc (.cells #[.int .i64 st, .string f, .slice A us.length c, .string t] 25)) (.cells #[.string ⟨#[]⟩, .slice none 0 0, .string ⟨#[]⟩] 28)
  rw [show (w.alloc (.cells #[.int .i64 st, .string f, .slice A us.length c, .string t] 25)).heap.size = w.heap.size + 1 by simp] at hbl1
  have hsz1 : ((w.alloc (.cells #[.int .i64 st, .string f, .slice A us.length c, .string t] 25)).alloc (.cells #[.string ⟨#[]⟩, .slice none 0 0, .string ⟨#[]⟩] 28)).heap.size = w.heap.size + 2 := by simp
  go_enter Try.func6, Try.ntmps6
  go_upto_region 1 with fail
  generalize (w.alloc (.cells #[.int .i64 st, .string f, .slice A us.length c, .string t] 25)).alloc (.cells #[.string ⟨#[]⟩, .slice none 0 0, .string ⟨#[]⟩] 28) = w1 at hB0 hbx1 hbl1 hsz1 ⊢
  have hs1 : w.heap.size + 1 < w1.heap.size := by omega
  have d0 : w1.cell? ⟨w.heap.size, 0, none⟩ = some (.int .i64 st) := cell_at hbx1 0 _ rfl
  have d1 : w1.cell? ⟨w.heap.size, 1, none⟩ = some (.string f) := cell_at hbx1 1 _ rfl
  have d2 : w1.cell? ⟨w.heap.size, 2, none⟩ = some (.slice A us.length c) := cell_at hbx1 2 _ rfl
  have d3 : w1.cell? ⟨w.heap.size, 3, none⟩ = some (.string t) := cell_at hbx1 3 _ rfl
  clear hbx0 hbx1 hsz1
  go_wp2_with fail
  refine (iSubmissionValid_any st f t A us c _ ((h.below hB0).mono hB0.size) hcap hn hf ht).mono ?_
  rintro e w2 ⟨rfl, hb2⟩
  have hB2 := hB0.trans (hb2.mono hB0.size)
  have d0 := (hb2.cell (p := ⟨w.heap.size, 0, none⟩) (by simp; omega)).trans d0
  have d1 := (hb2.cell (p := ⟨w.heap.size, 1, none⟩) (by simp; omega)).trans d1
  have d2 := (hb2.cell (p := ⟨w.heap.size, 2, none⟩) (by simp; omega)).trans d2
  have d3 := (hb2.cell (p := ⟨w.heap.size, 3, none⟩) (by simp; omega)).trans d3
  have hbl2 := (hb2.block (w.heap.size + 1) hs1).trans hbl1
  have hs2 : w.heap.size + 1 < w2.heap.size := Nat.lt_of_lt_of_le hs1 hb2.size
  have l0 : w2.cell? ⟨w.heap.size + 1, 0, none⟩ = some (.string ⟨#[]⟩) := cell_at hbl2 0 _ rfl
  have l1 : w2.cell? ⟨w.heap.size + 1, 1, none⟩ = some (.slice none 0 0) := cell_at hbl2 1 _ rfl
  have l2 : w2.cell? ⟨w.heap.size + 1, 2, none⟩ = some (.string ⟨#[]⟩) := cell_at hbl2 2 _ rfl
  have z0 : w2.frozen? ⟨w.heap.size + 1, 0, none⟩ = false := free_at hbl2 0
  have z1 : w2.frozen? ⟨w.heap.size + 1, 1, none⟩ = false := free_at hbl2 1
  have z2 : w2.frozen? ⟨w.heap.size + 1, 2, none⟩ = false := free_at hbl2 2
  have HBL2 := Lib.hid hbl2
  clear hbl1 hbl2 hb2
  have HNO : Hid (Sb.done st f us t = false → ∀ w', Below w.heap.size w w' → Sb.Let st f us t w (.returned (.tuple #[.agg #[.string ⟨#[]⟩, .slice none 0 0, .string ⟨#[]⟩], .bool false])) w') := Lib.hid fun hd w' hb => ⟨fun e => (by rw [hd] at e; cases e), fun _ => rfl, hb⟩
  have HB3 : Hid (∀ v0 v1 v2, Below w.heap.size w (((w2.setCell ⟨w.heap.size + 1, 0, none⟩ v0).setCell ⟨w.heap.size + 1, 1, none⟩ v1).setCell ⟨w.heap.size + 1, 2, none⟩ v2)) := Lib.hid fun v0 v1 v2 =>
    ((hB2.setCell (p := ⟨w.heap.size + 1, 0, none⟩) (by simp) _).setCell (p := ⟨w.heap.size + 1, 1, none⟩) (by simp) _).setCell (p := ⟨w.heap.size + 1, 2, none⟩) (by simp) _
  cases n1 : Sb.ok st f us t
  · have hd := Lib.hid (Sb.done_no1 n1)
    go_wp2_with fail
    refine bodyPost_ret (v := .tuple #[.agg #[.string ⟨#[]⟩, .slice none 0 0, .string ⟨#[]⟩], .bool false]) (by simp [results, Try.results6, go_sem, l0, l1, l2]) rfl ?_
    exact HNO.out hd.out _ (HB3.out _ _ _)
  · by_cases n2 : st = 5
    · have hst : (st == 5) = true := by simpa using n2
      by_cases n3 : t.size ≤ 20
      · have hd := Lib.hid (Sb.done_yes n1 n2 n3)
        have n3i : (t.size : Int) ≤ 20 := by omega
        have hst2 : (st != 5) = false := by simp [n2]
        obtain ⟨i0, hi, hz0, hz1, hz2⟩ := info_parts str_info
        have HB4 : Hid (Below w2.heap.size w2 (w2.alloc (.cells #[] 9)).drew) := Lib.hid (below_drew ((Below.refl w2.heap.size w2).alloc (Nat.le_refl _) (.cells #[] 9)))
        have H0 : Hid ((w2.alloc (.cells #[] 9)).drew.ownsRow w2.heap.size 9 1 (.slice (some ⟨w2.heap.size, 0, none⟩) 0 0) 0 []) := Lib.hid (World.ownsRow_lit (base := w2.heap.size) (e := 9) (size := 1) w2 #[] 0 (Nat.le_refl _) (Nat.zero_le _) rfl)
        have HR1 := Lib.hid (reads_of_at (by omega) St.cells_len (((St.at_of ((h.below hB2).mono hB2.size)).below HB4.out)))
        have K1 := Lib.hid (St.cells_one us)
        have K3 : Hid (0 + us.length ≤ maxLen) := Lib.hid (by unfold maxLen; omega)
        have K4 : Hid ((0 + us.length) * 16 ≤ 140737488355328) := Lib.hid (by omega)
        have K5 : Hid (w2.heap.size ≤ (w2.alloc (.cells #[] 9)).drew.heap.size) := Lib.hid HB4.out.size
        have x1 := (HB4.out.cell (p := ⟨w.heap.size, 1, none⟩) (by simp; omega)).trans d1
        have x2 := (HB4.out.cell (p := ⟨w.heap.size, 2, none⟩) (by simp; omega)).trans d2
        have x3 := (HB4.out.cell (p := ⟨w.heap.size, 3, none⟩) (by simp; omega)).trans d3
        have hs0 : w.heap.size < w2.heap.size := by omega
        subst n2
        clear n1 n3
        go_upto_region 3 with fail
        go_region_held3 (fun w' => w'.cell? ⟨w.heap.size, 1, none⟩ = some (.string f) ∧ w'.cell? ⟨w.heap.size, 2, none⟩ = some (.slice A us.length c) ∧ w'.cell? ⟨w.heap.size, 3, none⟩ = some (.string t)) (first | exact ⟨d1, d2, d3⟩ | exact ⟨x1, x2, x3⟩ | exact ⟨e1, e2, e3⟩ | (refine ⟨?_, ?_, ?_⟩ <;> (simp [go_sem]; first | exact e1 | exact e2 | exact e3)))
          (first
            | (refine step_append_any _ rfl (.tmp 21) (.tmp 23) _ rfl w2.heap.size 9 i0 _ 1 16 Try.underlying23 hi hz0 hz1 hz2 rfl (by omega) _ 0 [] (by simp [Act.eval]) H0.out _ A us.length c _ (by simp [Act.eval]) HR1.out K1.out K3.out K4.out K5.out ?_; intro v wa hown hgr hbk; obtain ⟨A3, c3, rfl⟩ := own_form hown; have hba : Below w2.heap.size w2 wa := HB4.out.grown hgr HB4.out.size (by intro q hq; have hq : w2.heap.size = q := Option.some.inj hq; omega); have e1 := (hba.cell (p := ⟨w.heap.size, 1, none⟩) hs0).trans d1; have e2 := (hba.cell (p := ⟨w.heap.size, 2, none⟩) hs0).trans d2; have e3 := (hba.cell (p := ⟨w.heap.size, 3, none⟩) hs0).trans d3; have HLA := Lib.hid ((hba.block (w.heap.size + 1) hs2).trans HBL2.out); have m0 : wa.cell? ⟨w.heap.size + 1, 0, none⟩ = some (.string ⟨#[]⟩) := cell_at HLA.out 0 _ rfl; have m1 : wa.cell? ⟨w.heap.size + 1, 1, none⟩ = some (.slice none 0 0) := cell_at HLA.out 1 _ rfl; have m2 : wa.cell? ⟨w.heap.size + 1, 2, none⟩ = some (.string ⟨#[]⟩) := cell_at HLA.out 2 _ rfl; have y0 : wa.frozen? ⟨w.heap.size + 1, 0, none⟩ = false := free_at HLA.out 0; have y1 : wa.frozen? ⟨w.heap.size + 1, 1, none⟩ = false := free_at HLA.out 1; have y2 : wa.frozen? ⟨w.heap.size + 1, 2, none⟩ = false := free_at HLA.out 2))
        go_wp2_with fail
        have ho : OwnL 9 1 St.cells wa w2.heap.size (.slice A3 us.length c3) us := by unfold OwnL; simpa using hown
        refine bodyPost_ret (v := .tuple #[.agg #[.string f, .slice A3 us.length c3, .string t], .bool true]) (by simp [results, Try.results6, go_sem, m0, m1, m2]) rfl ?_
        refine ⟨fun _ => ⟨A3, c3, rfl, ?_⟩, fun e => (by rw [hd.out] at e; cases e), (((hB2.trans (hba.mono hB2.size)).setCell (p := ⟨w.heap.size + 1, 0, none⟩) (by simp) _).setCell (p := ⟨w.heap.size + 1, 1, none⟩) (by simp) _).setCell (p := ⟨w.heap.size + 1, 2, none⟩) (by simp) _⟩
        exact (own_setNew (p := ⟨w.heap.size + 1, 2, none⟩) (own_setNew (p := ⟨w.heap.size + 1, 1, none⟩) (own_setNew (p := ⟨w.heap.size + 1, 0, none⟩) ho hs2 _) hs2 _) hs2 _).base (by omega)
      · have hd := Lib.hid (Sb.done_no3 (st := st) (f := f) (us := us) n3)
        have n3i : (20 : Int) < (t.size : Int) := by omega
        have hst2 : (st != 5) = false := by simp [n2]
        subst n2
        clear n3
        go_wp2_with fail
        refine bodyPost_ret (v := .tuple #[.agg #[.string ⟨#[]⟩, .slice none 0 0, .string ⟨#[]⟩], .bool false]) (by simp [results, Try.results6, go_sem, l0, l1, l2]) rfl ?_
        exact HNO.out hd.out _ (HB3.out _ _ _)
    · have hd := Lib.hid (Sb.done_no2 (f := f) (us := us) (t := t) n2)
      have hst2 : (st != 5) = true := by simpa using n2
      go_wp2_with fail
      refine bodyPost_ret (v := .tuple #[.agg #[.string ⟨#[]⟩, .slice none 0 0, .string ⟨#[]⟩], .bool false]) (by simp [results, Try.results6, go_sem, l0, l1, l2]) rfl ?_
      exact HNO.out hd.out _ (HB3.out _ _ _)

end Go.Proofs.Ytnbggmmghopphaa
