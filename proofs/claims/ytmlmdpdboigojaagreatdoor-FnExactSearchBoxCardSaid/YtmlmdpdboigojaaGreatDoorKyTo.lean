/- Copies of mailboxes and keys (toBox, toKey of the laws): rows of the call's own. -/
import Derived.Test.YtmlmdpdboigojaaGreatDoorKySz
import Derived.Test.YtmlmdpdboigojaaGreatDoorOwT
namespace Go.Proofs.YtmlmdpdboigojaaGreatDoor
set_option linter.unusedVariables false
open Go.RowKit

section
variable {α : Type} {E : TypeId} {n : Nat} {f : α → List Value} {w w' : World} {B : Nat} {v : Value} {us : List α}
theorem OwnL.keepH (h : OwnL E n f w B v us) (hk : ∀ g o, B ≤ g → w.heap[g]? = some o → w'.heap[g]? = some o) : OwnL E n f w' B v us := by
  refine ⟨h.1, ?_⟩
  rcases h.2 with h1 | ⟨g, cap, cur, h2, h3, h4, h5⟩
  · exact .inl h1
  · exact .inr ⟨g, cap, cur, h2, h3, hk g _ h3 h4, h5⟩
theorem keep_set {w : World} {B : Nat} {p : Addr} (hp : p.block < B) (x : Value) : ∀ (g : Nat) (o : Obj), B ≤ g → w.heap[g]? = some o → (w.setCell p x).heap[g]? = some o :=
  fun g o hg ho => (Below.heap_setCell w p x g (by omega)).trans ho
theorem keep_below {w w' : World} {B : Nat} (hb : Below w.heap.size w w') : ∀ (g : Nat) (o : Obj), B ≤ g → w.heap[g]? = some o → w'.heap[g]? = some o :=
  fun g o hg ho => (hb.block g (Array.getElem?_eq_some_iff.1 ho).1).trans ho
end
abbrev Sn.Own (w : World) (B : Nat) (v : Value) (ss : List Sn) : Prop := OwnL 81 2 Sn.cells w B v ss
abbrev Ml.Own (w : World) (B : Nat) (v : Value) (ms : List Ml) : Prop := OwnL 74 3 Ml.cells w B v ms
/-- a key whose rows are the call's own, from block B on -/
def Kx.Own : Nat → World → Nat → Kx → Prop
  | 0, _, _, _ => False
  | d + 1, w, B, x => x.text.size ≤ maxLen ∧ Sn.Own w B (.slice x.A x.set.length x.c) x.set ∧ OwnL 40 5 Kx.cells w B (.slice x.KA x.keys.length x.kc) x.keys ∧ ∀ y ∈ x.keys, Kx.Own d w B y
theorem Kx.Own.keep {w w' : World} {B : Nat} (hk : ∀ g o, B ≤ g → w.heap[g]? = some o → w'.heap[g]? = some o) : ∀ {d : Nat} {x : Kx}, Kx.Own d w B x → Kx.Own d w' B x
  | 0, _, h => h
  | d + 1, x, h => ⟨h.1, OwnL.keepH h.2.1 hk, OwnL.keepH h.2.2.1 hk, fun y hy => Kx.Own.keep hk (h.2.2.2 y hy)⟩
theorem Kx.Own.below {w w' : World} {B d : Nat} {x : Kx} (h : Kx.Own d w B x) (hb : Below w.heap.size w w') : Kx.Own d w' B x := h.keep (keep_below hb)
theorem Kx.Own.set {w : World} {B d : Nat} {x : Kx} (h : Kx.Own d w B x) {p : Addr} (hp : p.block < B) (v : Value) : Kx.Own d (w.setCell p v) B x := h.keep (keep_set hp v)
theorem Kx.Own.base {w : World} {B B' : Nat} (hB : B' ≤ B) : ∀ {d : Nat} {x : Kx}, Kx.Own d w B x → Kx.Own d w B' x
  | 0, _, h => h
  | d + 1, x, h => ⟨h.1, OwnL.base h.2.1 hB, OwnL.base h.2.2.1 hB, fun y hy => Kx.Own.base hB (h.2.2.2 y hy)⟩
theorem Kx.Own.in_ {w : World} {B : Nat} : ∀ {d : Nat} {x : Kx}, Kx.Own d w B x → Kx.In d w w.heap.size x
  | 0, _, h => h
  | d + 1, x, h => ⟨h.1, OwnL.at_ h.2.1 Sn.cells_len rfl, (own_cap h.2.1).1, (own_cap h.2.1).2, OwnL.at_ h.2.2.1 Kx.cells_len rfl, (own_cap h.2.2.1).1, (own_cap h.2.2.1).2, fun y hy => Kx.Own.in_ (h.2.2.2 y hy)⟩

set_option maxHeartbeats 800000 in
theorem toSpan_any (u : Sn) (w : World) :
    Calls Tryz.prog 43 #[.agg #[.int .i64 u.1, .int .i64 u.2]] w fun e w' => e = .returned (.agg #[.int .i64 u.1, .int .i64 u.2]) ∧ Below w.heap.size w w' := by
  go_enter Tryz.func43, Tryz.ntmps43
  go_wp2
  refine bodyPost_ret (v := .agg #[.int .i64 u.1, .int .i64 u.2]) (by simp [results, Tryz.results43, go_sem]) rfl ⟨rfl, ?_⟩
  go_grown

set_option maxHeartbeats 800000 in
theorem toMail_any (u : Ml) (w : World) :
    Calls Tryz.prog 42 #[.agg #[.int .i64 u.uid, .int .i64 u.flags, .string u.text]] w fun e w' => e = .returned (.agg #[.int .i64 u.uid, .int .i64 u.flags, .string u.text]) ∧ Below w.heap.size w w' := by
  go_enter Tryz.func42, Tryz.ntmps42
  go_wp2
  refine bodyPost_ret (v := .agg #[.int .i64 u.uid, .int .i64 u.flags, .string u.text]) (by simp [results, Tryz.results42, go_sem]) rfl ⟨rfl, ?_⟩
  go_grown

set_option maxRecDepth 100000 in
set_option maxHeartbeats 1600000 in
theorem toSpanS_any (A : Option Addr) (us : List Sn) (c : Nat) (w : World) (h : AtSet w w.heap.size A us) (hn : us.length ≤ 1048576) :
    Calls Tryz.prog 24 #[.slice A us.length c] w fun e w' => ∃ A' c', e = .returned (.slice A' us.length c') ∧ Sn.Own w' w.heap.size (.slice A' us.length c') us ∧ Below w.heap.size w w' := by
  obtain ⟨i0, hi, hz0, hz1, hz2⟩ := info_parts span_info
  have hmk := fun W => run_make_rowN (P := Tryz.prog) 37 81 i0 _ Tryz.underlying37 hi hz0 .i64 .i64 us.length us.length (Nat.le_refl _) (by rw [hz2]; omega) (by omega) W
  rw [hz1] at hmk
  have hml : (madeCells (Value.agg #[.int .i64 0, .int .i64 0]).cells (us.length * 2)).toList = (Ky.fill ((0, 0) : Sn) [] us.length).flatMap Sn.cells := by
    rw [Ky.fill_zero]
    exact made_flat (by omega) Sn.cells_len rfl
  have HML := Lib.hid hml
  clear hml
  have hown0 : (w.alloc (.cells (madeCells (Value.agg #[.int .i64 0, .int .i64 0]).cells (us.length * 2)) 81)).ownsRow w.heap.size 81 2 (.slice (some ⟨w.heap.size, 0, none⟩) us.length us.length) us.length ((Ky.fill ((0, 0) : Sn) (us.take 0) us.length).flatMap Sn.cells) := by
    show (w.alloc (.cells (madeCells (Value.agg #[.int .i64 0, .int .i64 0]).cells (us.length * 2)) 81)).ownsRow w.heap.size 81 2 (.slice (some ⟨w.heap.size, 0, none⟩) us.length us.length) us.length ((Ky.fill ((0, 0) : Sn) [] us.length).flatMap Sn.cells)
    rw [← HML.out]
    exact World.ownsRow_lit w _ us.length (Nat.le_refl _) (by unfold maxLen; omega) (size_madeCells _ _)
  have H0 := Lib.hid hown0
  clear hown0
  go_enter Tryz.func24, Tryz.ntmps24
  go_wp2_with fail
  go_loopg [4] us.length (fun g i wr => ∃ k : Nat, k ≤ us.length ∧ Hid (g = us.length - k) ∧ i = .int .i64 k ∧ Hid (wr.ownsRow w.heap.size 81 2 (.slice (some ⟨w.heap.size, 0, none⟩) us.length us.length) us.length ((Ky.fill ((0, 0) : Sn) (us.take k) us.length).flatMap Sn.cells)) ∧ Below w.heap.size w wr)
  case atStart => exact ⟨0, Nat.zero_le _, Lib.hid rfl, rfl, H0, by go_grown⟩
  case round =>
    obtain ⟨k, hk, HG, rfl, HO, hb⟩ := hrel
    by_cases hlt : k < us.length
    · obtain ⟨g, off, rfl, hg, hc⟩ := AtSet.row (h.below hb) (by omega)
      obtain ⟨u, hu⟩ : ∃ u, us[k]? = some u := ⟨_, List.getElem?_eq_getElem hlt⟩
      obtain ⟨d1, d2⟩ := hc k u hu
      have HU := Lib.hid (Ky.take_snoc hu)
      clear hc hu
      go_wp2_with fail
      refine (toSpan_any u _).mono ?_
      rintro e w1 ⟨rfl, hb1⟩
      have hlt1 := (HO.out.lt _ rfl).2
      have hown1 := own_below HO.out hb1 hlt1
      have hpg := Ky.fill_get (z := ((0, 0) : Sn)) (us.take k) us.length k (Ky.take_len hk) hlt
      have e0 : w1.cell? ⟨w.heap.size, k * 2, none⟩ = some (.int .i64 0) := own_cell (j := 0) Sn.cells_len hown1 hpg rfl
      have e1 : w1.cell? ⟨w.heap.size, k * 2 + 1, none⟩ = some (.int .i64 0) := own_cell (j := 1) Sn.cells_len hown1 hpg rfl
      have f0 : w1.frozen? ⟨w.heap.size, k * 2, none⟩ = false := hown1.frozenAt _
      have f1 : w1.frozen? ⟨w.heap.size, k * 2 + 1, none⟩ = false := hown1.frozenAt _
      have hpl : k < (Ky.fill ((0, 0) : Sn) (us.take k) us.length).length := by rw [Ky.fill_len _ _ (by rw [List.length_take]; omega)]; exact hlt
      have hs1 := own_set (j := 0) (u' := ((u.1, 0) : Sn)) (v := .int .i64 u.1) Sn.cells_len hown1 hpg (by omega) rfl
      have hs2 := own_set (j := 1) (u' := u) (v := .int .i64 u.2) Sn.cells_len hs1 (List.getElem?_set_self hpl) (by omega) rfl
      rw [List.set_set, Ky.fill_set _ _ k _ (Ky.take_len hk) hlt, ← HU.out] at hs2
      have HS := Lib.hid hs2
      clear hs1 hs2 hpl hpg hown1 d1 d2
      go_wp2_with fail
      go_roundg (us.length - (k + 1))
      case measure => have := HG.out; omega
      case rel => exact ⟨k + 1, by omega, Lib.hid rfl, by go_num, HS, ((hb.trans (hb1.mono hb.size)).setCell (p := ⟨w.heap.size, k * 2, none⟩) (Nat.le_refl _) _).setCell (p := ⟨w.heap.size, k * 2 + 1, none⟩) (Nat.le_refl _) _⟩
    · obtain rfl : k = us.length := by omega
      have hown := HO.out
      have e9 : us.take us.length = us := List.take_length
      rw [e9, Ky.fill_all] at hown
      have HAT := Lib.hid hown
      clear hown e9
      go_wp2_with fail
      go_ret
      exact ⟨_, _, rfl, HAT.out, hb⟩

set_option maxRecDepth 100000 in
set_option maxHeartbeats 1600000 in
theorem toMailS_any (A : Option Addr) (us : List Ml) (c : Nat) (w : World) (h : AtMails w w.heap.size A us) (hn : us.length ≤ 1048576) :
    Calls Tryz.prog 23 #[.slice A us.length c] w fun e w' => ∃ A' c', e = .returned (.slice A' us.length c') ∧ Ml.Own w' w.heap.size (.slice A' us.length c') us ∧ Below w.heap.size w w' := by
  obtain ⟨i0, hi, hz0, hz1, hz2⟩ := info_parts mail_info
  have hmk := fun W => run_make_rowN (P := Tryz.prog) 33 74 i0 _ Tryz.underlying33 hi hz0 .i64 .i64 us.length us.length (Nat.le_refl _) (by rw [hz2]; omega) (by omega) W
  rw [hz1] at hmk
  have hml : (madeCells (Value.agg #[.int .i64 0, .int .i64 0, .string ⟨#[]⟩]).cells (us.length * 3)).toList = (Ky.fill (⟨0, 0, ⟨#[]⟩⟩ : Ml) [] us.length).flatMap Ml.cells := by
    rw [Ky.fill_zero]
    exact made_flat (by omega) Ml.cells_len rfl
  have HML := Lib.hid hml
  clear hml
  have hown0 : (w.alloc (.cells (madeCells (Value.agg #[.int .i64 0, .int .i64 0, .string ⟨#[]⟩]).cells (us.length * 3)) 74)).ownsRow w.heap.size 74 3 (.slice (some ⟨w.heap.size, 0, none⟩) us.length us.length) us.length ((Ky.fill (⟨0, 0, ⟨#[]⟩⟩ : Ml) (us.take 0) us.length).flatMap Ml.cells) := by
    show (w.alloc (.cells (madeCells (Value.agg #[.int .i64 0, .int .i64 0, .string ⟨#[]⟩]).cells (us.length * 3)) 74)).ownsRow w.heap.size 74 3 (.slice (some ⟨w.heap.size, 0, none⟩) us.length us.length) us.length ((Ky.fill (⟨0, 0, ⟨#[]⟩⟩ : Ml) [] us.length).flatMap Ml.cells)
    rw [← HML.out]
    exact World.ownsRow_lit w _ us.length (Nat.le_refl _) (by unfold maxLen; omega) (size_madeCells _ _)
  have H0 := Lib.hid hown0
  clear hown0
  go_enter Tryz.func23, Tryz.ntmps23
  go_wp2_with fail
  go_loopg [4] us.length (fun g i wr => ∃ k : Nat, k ≤ us.length ∧ Hid (g = us.length - k) ∧ i = .int .i64 k ∧ Hid (wr.ownsRow w.heap.size 74 3 (.slice (some ⟨w.heap.size, 0, none⟩) us.length us.length) us.length ((Ky.fill (⟨0, 0, ⟨#[]⟩⟩ : Ml) (us.take k) us.length).flatMap Ml.cells)) ∧ Below w.heap.size w wr)
  case atStart => exact ⟨0, Nat.zero_le _, Lib.hid rfl, rfl, H0, by go_grown⟩
  case round =>
    obtain ⟨k, hk, HG, rfl, HO, hb⟩ := hrel
    by_cases hlt : k < us.length
    · obtain ⟨g, off, rfl, hg, hc⟩ := AtMails.row (h.below hb) (by omega)
      obtain ⟨u, hu⟩ : ∃ u, us[k]? = some u := ⟨_, List.getElem?_eq_getElem hlt⟩
      obtain ⟨d1, d2, d3⟩ := hc k u hu
      have HU := Lib.hid (Ky.take_snoc hu)
      clear hc hu
      go_wp2_with fail
      refine (toMail_any u _).mono ?_
      rintro e w1 ⟨rfl, hb1⟩
      have hlt1 := (HO.out.lt _ rfl).2
      have hown1 := own_below HO.out hb1 hlt1
      have hpg := Ky.fill_get (z := (⟨0, 0, ⟨#[]⟩⟩ : Ml)) (us.take k) us.length k (Ky.take_len hk) hlt
      have e0 : w1.cell? ⟨w.heap.size, k * 3, none⟩ = some (.int .i64 0) := own_cell (j := 0) Ml.cells_len hown1 hpg rfl
      have e1 : w1.cell? ⟨w.heap.size, k * 3 + 1, none⟩ = some (.int .i64 0) := own_cell (j := 1) Ml.cells_len hown1 hpg rfl
      have e2 : w1.cell? ⟨w.heap.size, k * 3 + 2, none⟩ = some (.string ⟨#[]⟩) := own_cell (j := 2) Ml.cells_len hown1 hpg rfl
      have f0 : w1.frozen? ⟨w.heap.size, k * 3, none⟩ = false := hown1.frozenAt _
      have f1 : w1.frozen? ⟨w.heap.size, k * 3 + 1, none⟩ = false := hown1.frozenAt _
      have f2 : w1.frozen? ⟨w.heap.size, k * 3 + 2, none⟩ = false := hown1.frozenAt _
      have hpl : k < (Ky.fill (⟨0, 0, ⟨#[]⟩⟩ : Ml) (us.take k) us.length).length := by rw [Ky.fill_len _ _ (by rw [List.length_take]; omega)]; exact hlt
      have hs1 := own_set (j := 0) (u' := ⟨u.uid, 0, ⟨#[]⟩⟩) (v := .int .i64 u.uid) Ml.cells_len hown1 hpg (by omega) rfl
      have hs2 := own_set (j := 1) (u' := ⟨u.uid, u.flags, ⟨#[]⟩⟩) (v := .int .i64 u.flags) Ml.cells_len hs1 (List.getElem?_set_self hpl) (by omega) rfl
      have hs3 := own_set (j := 2) (u' := u) (v := .string u.text) Ml.cells_len hs2 (List.getElem?_set_self (by rw [List.length_set]; exact hpl)) (by omega) rfl
      rw [List.set_set, List.set_set, Ky.fill_set _ _ k _ (Ky.take_len hk) hlt, ← HU.out] at hs3
      have HS := Lib.hid hs3
      clear hs1 hs2 hs3 hpl hpg hown1 d1 d2 d3
      go_wp2_with fail
      go_roundg (us.length - (k + 1))
      case measure => have := HG.out; omega
      case rel => exact ⟨k + 1, by omega, Lib.hid rfl, by go_num, HS, (((hb.trans (hb1.mono hb.size)).setCell (p := ⟨w.heap.size, k * 3, none⟩) (Nat.le_refl _) _).setCell (p := ⟨w.heap.size, k * 3 + 1, none⟩) (Nat.le_refl _) _).setCell (p := ⟨w.heap.size, k * 3 + 2, none⟩) (Nat.le_refl _) _⟩
    · obtain rfl : k = us.length := by omega
      have hown := HO.out
      have e9 : us.take us.length = us := List.take_length
      rw [e9, Ky.fill_all] at hown
      have HAT := Lib.hid hown
      clear hown e9
      go_wp2_with fail
      go_ret
      exact ⟨_, _, rfl, HAT.out, hb⟩

set_option maxRecDepth 100000 in
set_option maxHeartbeats 1600000 in
theorem toBox_any (nx : Int) (A : Option Addr) (us : List Ml) (c : Nat) (w : World) (h : AtMails w w.heap.size A us) (hn : us.length ≤ 1048576) :
    Calls Tryz.prog 7 #[.agg #[.int .i64 nx, .slice A us.length c]] w fun e w' => ∃ A' c', e = .returned (.agg #[.int .i64 nx, .slice A' us.length c']) ∧ Ml.Own w' w.heap.size (.slice A' us.length c') us ∧ Below w.heap.size w w' := by
  go_enter Tryz.func7, Tryz.ntmps7
  go_wp2_with fail
  refine (toMailS_any A us c _ (At.mono (At.below h (by go_grown)) (by simp; omega)) hn).mono ?_
  rintro e w1 ⟨A', c', rfl, h1, hb1⟩
  have hB := Below.trans (B := w.heap.size) (a := w) (by go_grown) (hb1.mono (by simp; omega))
  have hx3 : w1.heap[w.heap.size + 1 + 1]? = some (.cells #[.int .i64 nx, .slice none 0 0] 35 (0, 0)) := (hb1.block _ (by simp)).trans (by simpa using heap_alloc_new ((w.alloc _).alloc _) (.cells #[.int .i64 nx, .slice none 0 0] 35 (0, 0)))
  have hx2 : w1.heap[w.heap.size + 1]? = some (.cells #[.int .i64 0, .slice none 0 0] 35 (0, 0)) := (hb1.block _ (by simp)).trans ((Below.heap_alloc _ _ _ (by simp)).trans (by simpa using heap_alloc_new (w.alloc _) (.cells #[.int .i64 0, .slice none 0 0] 35 (0, 0))))
  have p0 : w1.cell? ⟨w.heap.size + 1, 0, none⟩ = some (.int .i64 0) := cell_at hx2 0 _ rfl
  have p1 : w1.cell? ⟨w.heap.size + 1, 1, none⟩ = some (.slice none 0 0) := cell_at hx2 1 _ rfl
  have q0 : w1.cell? ⟨w.heap.size + 1 + 1, 0, none⟩ = some (.int .i64 nx) := cell_at hx3 0 _ rfl
  have q1 : w1.cell? ⟨w.heap.size + 1 + 1, 1, none⟩ = some (.slice none 0 0) := cell_at hx3 1 _ rfl
  have fp0 := free_at hx2 0
  have fp1 := free_at hx2 1
  have fq0 := free_at hx3 0
  have fq1 := free_at hx3 1
  have H1 := Lib.hid h1
  clear hx2 hx3 h1
  go_wp2_with fail
  refine bodyPost_ret (v := .agg #[.int .i64 nx, .slice A' us.length c']) (by simp [results, Tryz.results7, go_sem, p0, p1]) rfl ⟨A', c', rfl, ?_, ?_⟩
  · exact OwnL.base (OwnL.keepH (OwnL.keepH (OwnL.keepH H1.out (keep_set (by simp) _)) (keep_set (by simp) _)) (keep_set (by simp) _)) (by simp; omega)
  · exact ((hB.setCell (p := ⟨w.heap.size + 1 + 1, 1, none⟩) (by simp; omega) _).setCell (p := ⟨w.heap.size + 1, 0, none⟩) (by simp) _).setCell (p := ⟨w.heap.size + 1, 1, none⟩) (by simp) _
end Go.Proofs.YtmlmdpdboigojaaGreatDoor
