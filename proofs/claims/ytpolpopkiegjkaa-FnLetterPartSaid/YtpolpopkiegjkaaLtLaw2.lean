/- FnLetterPart: the walk. -/
import Derived.Test.YtpolpopkiegjkaaLtDraw
import Derived.Test.YtpolpopkiegjkaaLtW
import Derived.Test.YtpolpopkiegjkaaLawKit
import Derived.Test.YtpolpopkiegjkaaStPlain2
import Derived.Deep.RegionHeld3
namespace Go.Proofs.Ytpolpopkiegjkaa
set_option linter.unusedVariables false
open Go.RowKit

def Lt.Drawn (w : World) (e : Ending) (w' : World) : Prop :=
  ∃ f us A c t, f.size ≤ 9 ∧ us.length ≤ 6 ∧ (∀ u ∈ us, u.size ≤ 9) ∧ t.size ≤ 30 ∧ us.length ≤ c ∧ c ≤ maxLen ∧ e = .returned (.agg #[.string f, .slice A us.length c, .string t]) ∧ At w' w'.heap.size 1 St.cells A us ∧ Below w.heap.size w w'
set_option maxHeartbeats 800000 in
theorem drawLetterValid_any (a : Option Addr) (len cap : Nat) (w : World) (h : Bytes w a len cap) :
    Calls Try.prog 37 #[.slice a len cap] w (Lt.Drawn w) := by
  go_enter Try.func37, Try.ntmps37
  go_wp2_with fail
  have h' : Bytes (w.alloc (.cells #[.string ⟨#[]⟩, .slice none 0 0, .string ⟨#[]⟩] 32)) a len cap := by
    obtain ⟨b1, b2, b3⟩ := h
    refine ⟨b1, b2, fun hl => ?_⟩
    obtain ⟨ab, off, e1, e2, e3⟩ := b3 hl
    refine ⟨ab, off, e1, by simp; omega, fun j hj => ?_⟩
    obtain ⟨v, hv, hc⟩ := e3 j hj
    exact ⟨v, hv, (World.cell?_alloc_lt w _ _ e2).trans hc⟩
  have hbx0 := heap_alloc_new w (.cells #[.string ⟨#[]⟩, .slice none 0 0, .string ⟨#[]⟩] 32)
  refine (l6Open_any a len cap _ h').mono ?_
  rintro e w1 ⟨rfl, h1, hb1⟩
  have hbx1 := boxed hb1
  have hB1 := unbox hb1
  have hs1 : w.heap.size < w1.heap.size := by have := hb1.size; simp at this; omega
  rw [show (w.alloc (.cells #[.string ⟨#[]⟩, .slice none 0 0, .string ⟨#[]⟩] 32)).heap.size = w.heap.size + 1 by simp] at h1
  clear hbx0 hb1 h'
  go_wp2_with fail
  refine Calls.mono (l92Letter_any _ _ _ _ (by omega) h1) ?_
  rintro e w2 ⟨f, us, A, c, t, hf, hl, hS, ht, rfl, ho, h2, hg2⟩
  have hbx2 := (hg2.block w.heap.size hs1 (by intro e; injection e with e; omega)).trans hbx1
  have hB2 : Below w.heap.size w w2 := hB1.trans (grown_to_below hg2 (by omega) hB1.size)
  have c0 : w2.cell? ⟨w.heap.size, 0, none⟩ = some (.string ⟨#[]⟩) := cell_at hbx2 0 _ rfl
  have c1 : w2.cell? ⟨w.heap.size, 1, none⟩ = some (.slice none 0 0) := cell_at hbx2 1 _ rfl
  have c2 : w2.cell? ⟨w.heap.size, 2, none⟩ = some (.string ⟨#[]⟩) := cell_at hbx2 2 _ rfl
  have f0 : w2.frozen? ⟨w.heap.size, 0, none⟩ = false := free_at hbx2 0
  have f1 : w2.frozen? ⟨w.heap.size, 1, none⟩ = false := free_at hbx2 1
  have f2' : w2.frozen? ⟨w.heap.size, 2, none⟩ = false := free_at hbx2 2
  clear hbx1 hbx2
  go_wp2_with fail
  refine bodyPost_ret (v := .agg #[.string f, .slice A us.length c, .string t]) (by simp [results, Try.results37, go_sem, c0, c1, c2]) rfl ?_
  have ho3 := ((ho.set (p := ⟨w.heap.size, 0, none⟩) (.inl hs1) (.string f)).set (p := ⟨w.heap.size, 1, none⟩) (.inl hs1) (.slice A us.length c)).set (p := ⟨w.heap.size, 2, none⟩) (.inl hs1) (.string t)
  exact ⟨f, us, A, c, t, hf, hl, hS, ht, (own_cap ho).1, (own_cap ho).2, rfl, OwnL.at_ ho3 St.cells_len rfl,
    ((hB2.setCell (p := ⟨w.heap.size, 0, none⟩) (Nat.le_refl _) _).setCell (p := ⟨w.heap.size, 1, none⟩) (Nat.le_refl _) _).setCell (p := ⟨w.heap.size, 2, none⟩) (Nat.le_refl _) _⟩

theorem St.at_drop {w : World} {B g off c : Nat} {us : List ByteArray} (m : Nat) (h : At w B 1 St.cells (some ⟨g, off, none⟩) us) (hc : us.length ≤ c) :
    ∃ A2 : Addr, (if c = m then some (⟨g, off, none⟩ : Addr) else some ⟨g, off + m, none⟩) = some A2 ∧ At w B 1 St.cells (some A2) (us.drop m) := by
  by_cases hcm : c = m
  · refine ⟨_, if_pos hcm, fun hl => ?_⟩
    rw [List.length_drop] at hl
    omega
  · refine ⟨_, if_neg hcm, fun hl => ?_⟩
    rw [List.length_drop] at hl
    obtain ⟨g', off', ha, hlt, hx⟩ := h (by omega)
    injection ha with ha
    injection ha with ha1 ha2
    subst ha1; subst ha2
    refine ⟨g, off + m, rfl, hlt, fun i u hu j v hv => ?_⟩
    rw [List.getElem?_drop] at hu
    have := hx (m + i) u hu j v hv
    rw [show off + m + i * 1 + j = off + (m + i) * 1 + j by omega]
    exact this
theorem at_take {α : Type} {f : α → List Value} {c : Nat} {w : World} {B : Nat} {A : Option Addr} {us : List α} (m : Nat) (h : At w B c f A us) : At w B c f A (us.take m) := fun hl => by
  rw [List.length_take] at hl
  obtain ⟨g, off, ha, hlt, hx⟩ := h (by omega)
  refine ⟨g, off, ha, hlt, fun i u hu j v hv => hx i u ?_ j v hv⟩
  rw [List.getElem?_take] at hu
  by_cases him : i < m
  · rwa [if_pos him] at hu
  · rw [if_neg him] at hu; cases hu
theorem St.reads_drop {w : World} {B : Nat} {A : Option Addr} {us : List ByteArray} (m : Nat) (h : At w B 1 St.cells A (us.drop m)) : Reads w B 1 A (us.length - m) ((us.drop m).flatMap St.cells) := by
  have := reads_of_at (by omega) St.cells_len h
  rwa [List.length_drop] at this
theorem St.reads_take {w : World} {B : Nat} {A : Option Addr} {us : List ByteArray} (m : Nat) (hm : m ≤ us.length) (h : At w B 1 St.cells A us) : Reads w B 1 A m ((us.take m).flatMap St.cells) := by
  have := reads_of_at (by omega) St.cells_len (at_take m h)
  rwa [List.length_take, Nat.min_eq_left hm] at this
theorem St.cells_one (us : List ByteArray) : ∀ v ∈ us.flatMap St.cells, v.oneCell' = true := by
  intro v hv
  obtain ⟨u, _, hu⟩ := List.mem_flatMap.1 hv
  exact St.cells_one1 u v hu
theorem below_drew {B : Nat} {a w : World} (h : Below B a w) : Below B a w.drew := ⟨h.os, h.tape, h.output, h.size, h.block⟩
theorem Lt.ok_parts {f t : ByteArray} {us : List ByteArray} (h : Lt.ok f us t = true) : Nm.nameOk f.data.toList = true ∧ St.namesOk us = true ∧ 0 < us.length ∧ t.size ≤ 20 := by
  unfold Lt.ok at h
  simp only [Bool.and_eq_true, decide_eq_true_eq] at h
  exact ⟨h.1.1, h.1.2.1, h.1.2.2, h.2⟩
theorem Lt.ok_out {f t : ByteArray} {us : List ByteArray} {k : Nat} (h : Lt.ok f us t = true) (hk : k < us.length) : Lt.ok f (us.take k ++ us.drop (k + 1)) t = decide (1 < us.length) := by
  obtain ⟨h1, h2, h3, h4⟩ := Lt.ok_parts h
  have hlen : (us.take k ++ us.drop (k + 1)).length = us.length - 1 := by simp; omega
  unfold Lt.ok
  rw [h1, St.namesOk_sub h2 (St.out_sub hk), decide_eq_true h4, hlen]
  simp; omega
theorem Lt.ok_twice {f t : ByteArray} {us : List ByteArray} {k : Nat} (hk : k < us.length) : Lt.ok f (us.take (k + 1) ++ us.drop k) t = false := by
  unfold Lt.ok
  rw [St.namesOk_twice hk]; simp

set_option maxRecDepth 100000 in
set_option maxHeartbeats 3200000 in
theorem walkFnLetterPart (a : Option Addr) (len cap : Nat) (b : Option Addr) (len1 cap1 : Nat) (w : World) (h : Bytes w a len cap) (h1 : Bytes w b len1 cap1) :
    Calls Try.prog 9 #[.slice a len cap, .slice b len1 cap1] w fun e w' => e = .returned (.bool true) ∧ Below w.heap.size w w' := by
  by_cases hbig : len ≤ 1048576
  · by_cases hbig1 : len1 ≤ 1048576
    · go_enter Try.func9, Try.ntmps9
      go_wp2_with fail
      refine (drawLetterValid_any a len cap _ h).mono ?_
      rintro e w1 ⟨f, us, A, c, t, hf, hl6, hS, ht, hc1, hc2, rfl, hat, hb1⟩
      have hsz : ∀ u ∈ us, u.size ≤ maxLen := fun u hu => by have := hS u hu; unfold maxLen; omega
      have hfm : f.size ≤ maxLen := by unfold maxLen; omega
      have htm : t.size ≤ maxLen := by unfold maxLen; omega
      have hbw : Below w1.heap.size w1 (w1.alloc (.cells #[.string f, .slice A us.length c, .string t] 32)) := (Below.refl _ _).alloc (Nat.le_refl _) _
      have hat1 := (hat.below hbw).mono hbw.size
      have hbx1 := heap_alloc_new w1 (.cells #[.string f, .slice A us.length c, .string t] 32)
      have hs1 : w1.heap.size < (w1.alloc (.cells #[.string f, .slice A us.length c, .string t] 32)).heap.size := by simp
      have hB1 := hb1.trans (hbw.mono hb1.size)
      go_upto_region 4 with fail
      generalize w1.alloc (.cells #[.string f, .slice A us.length c, .string t] 32) = w2 at hat1 hbx1 hs1 hB1 ⊢
      clear hbw hat
      have d0 : w2.cell? ⟨w1.heap.size, 0, none⟩ = some (.string f) := cell_at hbx1 0 _ rfl
      have d1 : w2.cell? ⟨w1.heap.size, 1, none⟩ = some (.slice A us.length c) := cell_at hbx1 1 _ rfl
      have d2 : w2.cell? ⟨w1.heap.size, 2, none⟩ = some (.string t) := cell_at hbx1 2 _ rfl
      clear hbx1
      go_wp2_with fail
      refine (iLetterValid_any f t A us c _ (at_strs hat1 hsz) hc1 hc2 hfm htm).mono ?_
      rintro e w3 ⟨rfl, hb3⟩
      have d0 := (hb3.cell (p := ⟨w1.heap.size, 0, none⟩) hs1).trans d0
      have d1 := (hb3.cell (p := ⟨w1.heap.size, 1, none⟩) hs1).trans d1
      have d2 := (hb3.cell (p := ⟨w1.heap.size, 2, none⟩) hs1).trans d2
      have hat3 := (hat1.below hb3).mono hb3.size
      have hs3 := Nat.lt_of_lt_of_le hs1 hb3.size
      have hB3 := hB1.trans (hb3.mono hB1.size)
      clear hat1 hs1 hb3
      go_wp2_with fail
      refine (sLetterValid_any f t A us c _ (at_strs hat3 hsz) hc1 hc2 hfm htm).mono ?_
      rintro e w4 ⟨rfl, hb4⟩
      have d0 := (hb4.cell (p := ⟨w1.heap.size, 0, none⟩) hs3).trans d0
      have d1 := (hb4.cell (p := ⟨w1.heap.size, 1, none⟩) hs3).trans d1
      have d2 := (hb4.cell (p := ⟨w1.heap.size, 2, none⟩) hs3).trans d2
      have hat4 := (hat3.below hb4).mono hb4.size
      have hs4 := Nat.lt_of_lt_of_le hs3 hb4.size
      have hB4 := hB3.trans (hb4.mono hB3.size)
      clear hat3 hs3 hb4
      cases hok : Lt.ok f us t
      · go_wp2
        go_ret
        exact ⟨rfl, hB4⟩
      · obtain ⟨_, _, hl1, _⟩ := Lt.ok_parts hok
        have HOK := Lib.hid hok
        clear hok
        obtain ⟨k, hk, hke⟩ : ∃ k : Nat, k < us.length ∧ (len1 : Int) % us.length = k := ⟨len1 % us.length, Nat.mod_lt _ (by omega), by omega⟩
        have hl0b : ¬ ((us.length : Int) = 0) := by omega
        obtain ⟨g, off, rfl, hg, hc⟩ := hat4 (by omega)
        have hat4 : At w4 w4.heap.size 1 St.cells (some ⟨g, off, none⟩) us := fun _ => ⟨g, off, rfl, hg, hc⟩
        obtain ⟨i0, hi, hz0, hz1, hz2⟩ := info_parts str_info
        have hkc : k ≤ c := by omega
        have hkl : k ≤ us.length := by omega
        have hwr : IntKind.i64.wrap ((k : Int) + 1) = (k : Int) + 1 := by rw [IntKind.wrap_i64]; omega
        have hp0 : (0 : Int) ≤ (k : Int) + 1 := by omega
        have hp1 : (k : Int) + 1 ≤ (us.length : Int) := by omega
        have hp3 : (k : Int) + 1 ≤ (c : Int) := by omega
        have hp2 : ((k : Int) + 1).toNat = k + 1 := by omega
        clear hc
        go_upto_region 10 with fail
        rw [hke]
        have hbw : Below w4.heap.size w4 (w4.alloc (.cells #[.string f, .slice (some ⟨g, off, none⟩) us.length c, .string t] 32)) := (Below.refl _ _).alloc (Nat.le_refl _) _
        have hatS := (hat4.below hbw).mono hbw.size
        have hbw' := hbw
        have hbx4 := heap_alloc_new w4 (.cells #[.string f, .slice (some ⟨g, off, none⟩) us.length c, .string t] 32)
        have hsy : w4.heap.size < (w4.alloc (.cells #[.string f, .slice (some ⟨g, off, none⟩) us.length c, .string t] 32)).heap.size := by simp
        have d0 := (hbw.cell (p := ⟨w1.heap.size, 0, none⟩) hs4).trans d0
        have d1 := (hbw.cell (p := ⟨w1.heap.size, 1, none⟩) hs4).trans d1
        have d2 := (hbw.cell (p := ⟨w1.heap.size, 2, none⟩) hs4).trans d2
        have hsx := Nat.lt_trans hs4 hsy
        have hB5 := hB4.trans (hbw.mono hB4.size)
        generalize w4.alloc (.cells #[.string f, .slice (some ⟨g, off, none⟩) us.length c, .string t] 32) = w5 at hatS hbw' hbx4 hsy d0 d1 d2 hsx hB5 ⊢
        have y0 : w5.cell? ⟨w4.heap.size, 0, none⟩ = some (.string f) := cell_at hbx4 0 _ rfl
        have y1 : w5.cell? ⟨w4.heap.size, 1, none⟩ = some (.slice (some ⟨g, off, none⟩) us.length c) := cell_at hbx4 1 _ rfl
        have y2 : w5.cell? ⟨w4.heap.size, 2, none⟩ = some (.string t) := cell_at hbx4 2 _ rfl
        have z1 : w5.frozen? ⟨w4.heap.size, 1, none⟩ = false := free_at hbx4 1
        have hatB := hat4.below hbw'
        have hw4 := hB4.size
        clear hbw' hbx4 hat4 hB4
        have hxne1 : w1.heap.size ≠ w4.heap.size := by omega
        have HB0 : Hid (Below w5.heap.size w5 (w5.alloc (.cells #[] 9)).drew) := Lib.hid (below_drew ((Below.refl w5.heap.size w5).alloc (Nat.le_refl _) (.cells #[] 9)))
        obtain ⟨A2, hA2, hat2⟩ := St.at_drop (k + 1) hatS (by omega : us.length ≤ c)
        have H0 : Hid ((w5.alloc (.cells #[] 9)).drew.ownsRow w5.heap.size 9 1 (.slice (some ⟨w5.heap.size, 0, none⟩) 0 0) 0 []) := Lib.hid (World.ownsRow_lit (base := w5.heap.size) (e := 9) (size := 1) w5 #[] 0 (Nat.le_refl _) (Nat.zero_le _) rfl)
        have HR1 := Lib.hid (St.reads_take (k) (by omega) (hatS.below HB0.out))
        have HR2 : Hid (∀ w', (w5.alloc (.cells #[] 9)).drew.grownBy w' (some w5.heap.size) → Reads w' w5.heap.size 1 (some A2) (us.length - (k + 1)) ((us.drop (k + 1)).flatMap St.cells)) := Lib.hid fun w' hg => St.reads_drop (k + 1) (hat2.below (HB0.out.grown hg HB0.out.size (by intro q hq; injection hq with hq; omega)))
        have K1 := Lib.hid (St.cells_one (us.take (k)))
        have K2 := Lib.hid (St.cells_one (us.drop (k + 1)))
        have K3 : Hid (0 + (k) ≤ maxLen) := Lib.hid (by unfold maxLen; omega)
        have K4 : Hid ((0 + (k)) * 16 ≤ 140737488355328) := Lib.hid (by omega)
        have K5 : Hid (w5.heap.size ≤ (w5.alloc (.cells #[] 9)).drew.heap.size) := Lib.hid HB0.out.size
        have K6 : Hid (0 + (k) + (us.length - (k + 1)) ≤ maxLen) := Lib.hid (by unfold maxLen; omega)
        have K7 : Hid ((0 + (k) + (us.length - (k + 1))) * 16 ≤ 140737488355328) := Lib.hid (by omega)
        have K8 : Hid (∀ w', (w5.alloc (.cells #[] 9)).drew.grownBy w' (some w5.heap.size) → w5.heap.size ≤ w'.heap.size) := Lib.hid fun w' hg => Nat.le_trans HB0.out.size hg.size
        have hxa : (w5.alloc (.cells #[] 9)).drew.cell? ⟨w1.heap.size, 1, none⟩ = some (.slice (some ⟨g, off, none⟩) us.length c) := (HB0.out.cell (p := ⟨w1.heap.size, 1, none⟩) hsx).trans d1
        have HXA := Lib.hid hxa
        have hya : (w5.alloc (.cells #[] 9)).drew.cell? ⟨w4.heap.size, 1, none⟩ = some (.slice (some ⟨g, off, none⟩) us.length c) := (HB0.out.cell (p := ⟨w4.heap.size, 1, none⟩) hsy).trans y1
        have HYA := Lib.hid hya
        have hza : (w5.alloc (.cells #[] 9)).drew.frozen? ⟨w4.heap.size, 1, none⟩ = false := (HB0.out.frozen (p := ⟨w4.heap.size, 1, none⟩) hsy).trans z1
        have HZA := Lib.hid hza
        clear hat2 hya hza
        go_region_held3 (fun w' => w'.cell? ⟨w1.heap.size, 1, none⟩ = some (.slice (some ⟨g, off, none⟩) us.length c)) (first | exact d1 | exact hxa | exact hxb | exact hxc | (rw [World.cell?_setCell_other _ _ _ _ (by intro e; injection e with e; omega)]; exact hxc))
          (first
            | (refine step_append_any _ rfl (.tmp 42) (.tmp 46) _ rfl w5.heap.size 9 i0 _ 1 16 Try.underlying27 hi hz0 hz1 hz2 rfl (by omega) _ 0 [] (by simp [Act.eval]) H0.out w5.heap.size (some ⟨g, off, none⟩) (k) c _ (by simp [Act.eval]) HR1.out K1.out K3.out K4.out K5.out ?_; intro v wa hown hgr hbk; have hba : Below w5.heap.size w5 wa := HB0.out.grown hgr HB0.out.size (by intro q hq; have hq : w5.heap.size = q := Option.some.inj hq; omega); have hxb := (hba.cell (p := ⟨w1.heap.size, 1, none⟩) hsx).trans d1)
            | (refine step_append_any _ rfl (.tmp 47) (.tmp 52) _ rfl w5.heap.size 9 i0 _ 1 16 Try.underlying27 hi hz0 hz1 hz2 rfl (by omega) _ (0 + (k)) _ (by simp [Act.eval]) hown w5.heap.size (some A2) (us.length - (k + 1)) (c - (k + 1)) _ (by simp [Act.eval]) (HR2.out _ hgr) K2.out K6.out K7.out (K8.out _ hgr) ?_; intro v2 wb hown2 hgr2 hbk2; obtain ⟨A3, c3, rfl⟩ := own_form hown2; have hbb : Below w5.heap.size w5 wb := hba.grown hgr2 (K8.out _ hgr) (by intro q hq; exact hbk.elim (fun e => by rw [e] at hq; have hq : w5.heap.size = q := Option.some.inj hq; omega) (fun e => by rw [e] at hq; have hq := Option.some.inj hq; have := HB0.out.size; omega)); have hxc := (hbb.cell (p := ⟨w1.heap.size, 1, none⟩) hsx).trans d1; have hyc := (hbb.cell (p := ⟨w4.heap.size, 1, none⟩) hsy).trans y1; have hzc := (hbb.frozen (p := ⟨w4.heap.size, 1, none⟩) hsy).trans z1))
        have hzl1 : (us.take k ++ us.drop (k + 1)).length = k + (us.length - (k + 1)) := by simp; omega
        have hfl : [] ++ (us.take k).flatMap St.cells ++ (us.drop (k + 1)).flatMap St.cells = (us.take k ++ us.drop (k + 1)).flatMap St.cells := by rw [List.flatMap_append]; rfl
        rw [hfl, Nat.zero_add] at hown2
        have hown3 : OwnL 9 1 St.cells wb w5.heap.size (.slice A3 (k + (us.length - (k + 1))) c3) (us.take k ++ us.drop (k + 1)) := by unfold OwnL; rw [hzl1]; exact hown2
        have hcap3 := own_cap hown2
        have ho6 := hown3.set (p := ⟨w4.heap.size, 1, none⟩) (.inl hsy) (.slice A3 (k + (us.length - (k + 1))) c3)
        have hatY := OwnL.at_ ho6 St.cells_len hzl1
        have d0 := (World.cell?_setCell_other wb ⟨w4.heap.size, 1, none⟩ ⟨w1.heap.size, 0, none⟩ (.slice A3 (k + (us.length - (k + 1))) c3) (by intro e; injection e with e; omega)).trans ((hbb.cell (p := ⟨w1.heap.size, 0, none⟩) hsx).trans d0)
        have d1 := (World.cell?_setCell_other wb ⟨w4.heap.size, 1, none⟩ ⟨w1.heap.size, 1, none⟩ (.slice A3 (k + (us.length - (k + 1))) c3) (by intro e; injection e with e; omega)).trans hxc
        have d2 := (World.cell?_setCell_other wb ⟨w4.heap.size, 1, none⟩ ⟨w1.heap.size, 2, none⟩ (.slice A3 (k + (us.length - (k + 1))) c3) (by intro e; injection e with e; omega)).trans ((hbb.cell (p := ⟨w1.heap.size, 2, none⟩) hsx).trans d2)
        have y0 := (World.cell?_setCell_other wb ⟨w4.heap.size, 1, none⟩ ⟨w4.heap.size, 0, none⟩ (.slice A3 (k + (us.length - (k + 1))) c3) (by intro e; injection e with _ e; cases e)).trans ((hbb.cell (p := ⟨w4.heap.size, 0, none⟩) hsy).trans y0)
        have y2 := (World.cell?_setCell_other wb ⟨w4.heap.size, 1, none⟩ ⟨w4.heap.size, 2, none⟩ (.slice A3 (k + (us.length - (k + 1))) c3) (by intro e; injection e with _ e; cases e)).trans ((hbb.cell (p := ⟨w4.heap.size, 2, none⟩) hsy).trans y2)
        have y1 : (wb.setCell ⟨w4.heap.size, 1, none⟩ (.slice A3 (k + (us.length - (k + 1))) c3)).cell? ⟨w4.heap.size, 1, none⟩ = some (.slice A3 (k + (us.length - (k + 1))) c3) := by simp [go_sem, hyc]
        have hatB : At (wb.setCell ⟨w4.heap.size, 1, none⟩ (.slice A3 (k + (us.length - (k + 1))) c3)) w4.heap.size 1 St.cells (some ⟨g, off, none⟩) us := hatB.keep fun i hi => (Below.heap_setCell _ _ _ _ (by simp; omega)).trans (hbb.block i (by omega))
        have hB6 := (hB5.trans (hbb.mono hB5.size)).setCell (p := ⟨w4.heap.size, 1, none⟩) hw4 (.slice A3 (k + (us.length - (k + 1))) c3)
        have hs6 : w5.heap.size ≤ (wb.setCell ⟨w4.heap.size, 1, none⟩ (.slice A3 (k + (us.length - (k + 1))) c3)).heap.size := by simpa [World.setCell] using hbb.size
        clear hown2 hown3 ho6 hfl hatS HB0 H0 HR1 HR2 K1 K2 K3 K4 K5 K6 K7 K8 hxa HXA HYA HZA hxb hxc hyc hzc hba hbb hbk hbk2 hgr hgr2 hown hB5 hA2 z1
        generalize wb.setCell ⟨w4.heap.size, 1, none⟩ (.slice A3 (k + (us.length - (k + 1))) c3) = w6 at hatY d0 d1 d2 y0 y1 y2 hatB hB6 hs6 ⊢
        go_upto_region 12 with fail
        have hbw : Below w6.heap.size w6 (w6.alloc (.cells #[.string f, .slice (some ⟨g, off, none⟩) us.length c, .string t] 32)) := (Below.refl _ _).alloc (Nat.le_refl _) _
        have hatS := (hatB.mono (by omega : w4.heap.size ≤ w6.heap.size)).below hbw |>.mono hbw.size
        have hatY := hatY.below hbw
        have hbx6 := heap_alloc_new w6 (.cells #[.string f, .slice (some ⟨g, off, none⟩) us.length c, .string t] 32)
        have hsz2 : w6.heap.size < (w6.alloc (.cells #[.string f, .slice (some ⟨g, off, none⟩) us.length c, .string t] 32)).heap.size := by simp
        have d0 := (hbw.cell (p := ⟨w1.heap.size, 0, none⟩) (by simp; omega)).trans d0
        have d1 := (hbw.cell (p := ⟨w1.heap.size, 1, none⟩) (by simp; omega)).trans d1
        have d2 := (hbw.cell (p := ⟨w1.heap.size, 2, none⟩) (by simp; omega)).trans d2
        have y0 := (hbw.cell (p := ⟨w4.heap.size, 0, none⟩) (by simp; omega)).trans y0
        have y1 := (hbw.cell (p := ⟨w4.heap.size, 1, none⟩) (by simp; omega)).trans y1
        have y2 := (hbw.cell (p := ⟨w4.heap.size, 2, none⟩) (by simp; omega)).trans y2
        have hB7 := hB6.trans (hbw.mono hB6.size)
        generalize w6.alloc (.cells #[.string f, .slice (some ⟨g, off, none⟩) us.length c, .string t] 32) = w7 at hatS hatY hbx6 hsz2 d0 d1 d2 y0 y1 y2 hB7 ⊢
        have hsx : w1.heap.size < w7.heap.size := by omega
        have hsy7 : w4.heap.size < w7.heap.size := by omega
        have u0 : w7.cell? ⟨w6.heap.size, 0, none⟩ = some (.string f) := cell_at hbx6 0 _ rfl
        have u1 : w7.cell? ⟨w6.heap.size, 1, none⟩ = some (.slice (some ⟨g, off, none⟩) us.length c) := cell_at hbx6 1 _ rfl
        have u2 : w7.cell? ⟨w6.heap.size, 2, none⟩ = some (.string t) := cell_at hbx6 2 _ rfl
        have v1 : w7.frozen? ⟨w6.heap.size, 1, none⟩ = false := free_at hbx6 1
        clear hbw hbx6 hatB hB6
        have hxne2 : w1.heap.size ≠ w6.heap.size := by omega
        have HB0 : Hid (Below w7.heap.size w7 (w7.alloc (.cells #[] 9)).drew) := Lib.hid (below_drew ((Below.refl w7.heap.size w7).alloc (Nat.le_refl _) (.cells #[] 9)))
        obtain ⟨A2, hA2, hat2⟩ := St.at_drop (k) hatS (by omega : us.length ≤ c)
        have H0 : Hid ((w7.alloc (.cells #[] 9)).drew.ownsRow w7.heap.size 9 1 (.slice (some ⟨w7.heap.size, 0, none⟩) 0 0) 0 []) := Lib.hid (World.ownsRow_lit (base := w7.heap.size) (e := 9) (size := 1) w7 #[] 0 (Nat.le_refl _) (Nat.zero_le _) rfl)
        have HR1 := Lib.hid (St.reads_take (k + 1) (by omega) (hatS.below HB0.out))
        have HR2 : Hid (∀ w', (w7.alloc (.cells #[] 9)).drew.grownBy w' (some w7.heap.size) → Reads w' w7.heap.size 1 (some A2) (us.length - (k)) ((us.drop (k)).flatMap St.cells)) := Lib.hid fun w' hg => St.reads_drop (k) (hat2.below (HB0.out.grown hg HB0.out.size (by intro q hq; injection hq with hq; omega)))
        have K1 := Lib.hid (St.cells_one (us.take (k + 1)))
        have K2 := Lib.hid (St.cells_one (us.drop (k)))
        have K3 : Hid (0 + (k + 1) ≤ maxLen) := Lib.hid (by unfold maxLen; omega)
        have K4 : Hid ((0 + (k + 1)) * 16 ≤ 140737488355328) := Lib.hid (by omega)
        have K5 : Hid (w7.heap.size ≤ (w7.alloc (.cells #[] 9)).drew.heap.size) := Lib.hid HB0.out.size
        have K6 : Hid (0 + (k + 1) + (us.length - (k)) ≤ maxLen) := Lib.hid (by unfold maxLen; omega)
        have K7 : Hid ((0 + (k + 1) + (us.length - (k))) * 16 ≤ 140737488355328) := Lib.hid (by omega)
        have K8 : Hid (∀ w', (w7.alloc (.cells #[] 9)).drew.grownBy w' (some w7.heap.size) → w7.heap.size ≤ w'.heap.size) := Lib.hid fun w' hg => Nat.le_trans HB0.out.size hg.size
        have hxa : (w7.alloc (.cells #[] 9)).drew.cell? ⟨w1.heap.size, 1, none⟩ = some (.slice (some ⟨g, off, none⟩) us.length c) := (HB0.out.cell (p := ⟨w1.heap.size, 1, none⟩) hsx).trans d1
        have HXA := Lib.hid hxa
        have hya : (w7.alloc (.cells #[] 9)).drew.cell? ⟨w6.heap.size, 1, none⟩ = some (.slice (some ⟨g, off, none⟩) us.length c) := (HB0.out.cell (p := ⟨w6.heap.size, 1, none⟩) hsz2).trans u1
        have HYA := Lib.hid hya
        have hza : (w7.alloc (.cells #[] 9)).drew.frozen? ⟨w6.heap.size, 1, none⟩ = false := (HB0.out.frozen (p := ⟨w6.heap.size, 1, none⟩) hsz2).trans v1
        have HZA := Lib.hid hza
        clear hat2 hya hza
        go_region_held3 (fun w' => w'.cell? ⟨w1.heap.size, 1, none⟩ = some (.slice (some ⟨g, off, none⟩) us.length c)) (first | exact d1 | exact hxa | exact hxb | exact hxc | (rw [World.cell?_setCell_other _ _ _ _ (by intro e; injection e with e; omega)]; exact hxc))
          (first
            | (refine step_append_any _ rfl (.tmp 56) (.tmp 61) _ rfl w7.heap.size 9 i0 _ 1 16 Try.underlying27 hi hz0 hz1 hz2 rfl (by omega) _ 0 [] (by simp [Act.eval]) H0.out w7.heap.size (some ⟨g, off, none⟩) (k + 1) c _ (by simp [Act.eval]) HR1.out K1.out K3.out K4.out K5.out ?_; intro v wc hown hgr hbk; have hba : Below w7.heap.size w7 wc := HB0.out.grown hgr HB0.out.size (by intro q hq; have hq : w7.heap.size = q := Option.some.inj hq; omega); have hxb := (hba.cell (p := ⟨w1.heap.size, 1, none⟩) hsx).trans d1)
            | (refine step_append_any _ rfl (.tmp 62) (.tmp 66) _ rfl w7.heap.size 9 i0 _ 1 16 Try.underlying27 hi hz0 hz1 hz2 rfl (by omega) _ (0 + (k + 1)) _ (by simp [Act.eval]) hown w7.heap.size (some A2) (us.length - (k)) (c - (k)) _ (by simp [Act.eval]) (HR2.out _ hgr) K2.out K6.out K7.out (K8.out _ hgr) ?_; intro v2 wd hown2 hgr2 hbk2; obtain ⟨A5, c5, rfl⟩ := own_form hown2; have hbd : Below w7.heap.size w7 wd := hba.grown hgr2 (K8.out _ hgr) (by intro q hq; exact hbk.elim (fun e => by rw [e] at hq; have hq : w7.heap.size = q := Option.some.inj hq; omega) (fun e => by rw [e] at hq; have hq := Option.some.inj hq; have := HB0.out.size; omega)); have hxc := (hbd.cell (p := ⟨w1.heap.size, 1, none⟩) hsx).trans d1; have hyc := (hbd.cell (p := ⟨w6.heap.size, 1, none⟩) hsz2).trans u1; have hzc := (hbd.frozen (p := ⟨w6.heap.size, 1, none⟩) hsz2).trans v1))
        have hzl2 : (us.take (k + 1) ++ us.drop k).length = k + 1 + (us.length - k) := by simp; omega
        have hfl : [] ++ (us.take (k + 1)).flatMap St.cells ++ (us.drop k).flatMap St.cells = (us.take (k + 1) ++ us.drop k).flatMap St.cells := by rw [List.flatMap_append]; rfl
        rw [hfl, Nat.zero_add] at hown2
        have hown3 : OwnL 9 1 St.cells wd w7.heap.size (.slice A5 (k + 1 + (us.length - k)) c5) (us.take (k + 1) ++ us.drop k) := by unfold OwnL; rw [hzl2]; exact hown2
        have hcap5 := own_cap hown2
        have ho8 := hown3.set (p := ⟨w6.heap.size, 1, none⟩) (.inl hsz2) (.slice A5 (k + 1 + (us.length - k)) c5)
        have hatZ := OwnL.at_ ho8 St.cells_len hzl2
        have y0 := (World.cell?_setCell_other wd ⟨w6.heap.size, 1, none⟩ ⟨w4.heap.size, 0, none⟩ (.slice A5 (k + 1 + (us.length - k)) c5) (by intro e; injection e with e; omega)).trans ((hbd.cell (p := ⟨w4.heap.size, 0, none⟩) hsy7).trans y0)
        have y1 := (World.cell?_setCell_other wd ⟨w6.heap.size, 1, none⟩ ⟨w4.heap.size, 1, none⟩ (.slice A5 (k + 1 + (us.length - k)) c5) (by intro e; injection e with e; omega)).trans ((hbd.cell (p := ⟨w4.heap.size, 1, none⟩) hsy7).trans y1)
        have y2 := (World.cell?_setCell_other wd ⟨w6.heap.size, 1, none⟩ ⟨w4.heap.size, 2, none⟩ (.slice A5 (k + 1 + (us.length - k)) c5) (by intro e; injection e with e; omega)).trans ((hbd.cell (p := ⟨w4.heap.size, 2, none⟩) hsy7).trans y2)
        have d1 := (World.cell?_setCell_other wd ⟨w6.heap.size, 1, none⟩ ⟨w1.heap.size, 1, none⟩ (.slice A5 (k + 1 + (us.length - k)) c5) (by intro e; injection e with e; omega)).trans hxc
        have u0 := (World.cell?_setCell_other wd ⟨w6.heap.size, 1, none⟩ ⟨w6.heap.size, 0, none⟩ (.slice A5 (k + 1 + (us.length - k)) c5) (by intro e; injection e with _ e; cases e)).trans ((hbd.cell (p := ⟨w6.heap.size, 0, none⟩) hsz2).trans u0)
        have u2 := (World.cell?_setCell_other wd ⟨w6.heap.size, 1, none⟩ ⟨w6.heap.size, 2, none⟩ (.slice A5 (k + 1 + (us.length - k)) c5) (by intro e; injection e with _ e; cases e)).trans ((hbd.cell (p := ⟨w6.heap.size, 2, none⟩) hsz2).trans u2)
        have u1 : (wd.setCell ⟨w6.heap.size, 1, none⟩ (.slice A5 (k + 1 + (us.length - k)) c5)).cell? ⟨w6.heap.size, 1, none⟩ = some (.slice A5 (k + 1 + (us.length - k)) c5) := by simp [go_sem, hyc]
        have hatY : At (wd.setCell ⟨w6.heap.size, 1, none⟩ (.slice A5 (k + 1 + (us.length - k)) c5)) w6.heap.size 1 St.cells A3 (us.take k ++ us.drop (k + 1)) := (hatY.below (hbd.mono (by omega))).keep fun i hi => Below.heap_setCell _ _ _ _ (by simp; omega)
        have hw6 : w.heap.size ≤ w6.heap.size := by omega
        have hB8 := (hB7.trans (hbd.mono hB7.size)).setCell (p := ⟨w6.heap.size, 1, none⟩) hw6 (.slice A5 (k + 1 + (us.length - k)) c5)
        have hs8 : w7.heap.size ≤ (wd.setCell ⟨w6.heap.size, 1, none⟩ (.slice A5 (k + 1 + (us.length - k)) c5)).heap.size := by simpa [World.setCell] using hbd.size
        clear hown2 hown3 ho8 hfl hatS HB0 H0 HR1 HR2 K1 K2 K3 K4 K5 K6 K7 K8 hxa HXA HYA HZA hxb hxc hyc hzc hba hbd hbk hbk2 hgr hgr2 hown hB7 hA2 v1
        generalize (wd.setCell ⟨w6.heap.size, 1, none⟩ (.slice A5 (k + 1 + (us.length - k)) c5)) = w8 at hatZ hatY y0 y1 y2 d1 u0 u1 u2 hB8 hs8 ⊢
        have hm3 : ∀ u ∈ us.take k ++ us.drop (k + 1), u.size ≤ maxLen := fun u hu => by
          rcases List.mem_append.1 hu with h | h
          · exact hsz u (List.mem_of_mem_take h)
          · exact hsz u (List.mem_of_mem_drop h)
        have hm5 : ∀ u ∈ us.take (k + 1) ++ us.drop k, u.size ≤ maxLen := fun u hu => by
          rcases List.mem_append.1 hu with h | h
          · exact hsz u (List.mem_of_mem_take h)
          · exact hsz u (List.mem_of_mem_drop h)
        have HC1 : Hid (∀ w', Below w8.heap.size w8 w' → Calls Try.prog 21 #[.agg #[.string f, .slice A3 (k + (us.length - (k + 1))) c3, .string t]] w' fun e w'' => e = .returned (.bool (decide (1 < us.length))) ∧ Below w'.heap.size w' w'') := Lib.hid fun w' hb => by
          have := iLetterValid_any f t A3 _ c3 w' (at_strs (((hatY.mono (by omega)).below hb).mono hb.size) hm3) (by rw [hzl1]; exact hcap3.1) hcap3.2 hfm htm
          rwa [hzl1, Lt.ok_out HOK.out hk] at this
        have HC2 : Hid (∀ w', Below w8.heap.size w8 w' → Calls Try.prog 21 #[.agg #[.string f, .slice A5 (k + 1 + (us.length - k)) c5, .string t]] w' fun e w'' => e = .returned (.bool false) ∧ Below w'.heap.size w' w'') := Lib.hid fun w' hb => by
          have := iLetterValid_any f t A5 _ c5 w' (at_strs ((hatZ.below hb).mono hb.size) hm5) (by rw [hzl2]; exact hcap5.1) hcap5.2 hfm htm
          rwa [hzl2, Lt.ok_twice hk] at this
        have hs48 : w4.heap.size < w8.heap.size := by omega
        have hs18 : w1.heap.size < w8.heap.size := by omega
        have hs68 : w6.heap.size < w8.heap.size := by omega
        have hb8 : Below w8.heap.size w8 w8.drew := below_drew (Below.refl _ _)
        clear hm3 hm5 hzl1 hzl2 hcap3 hcap5 hatY hatZ HOK hsz d0 d2
        go_upto_region 13 with fail
        by_cases hgt : 1 < us.length
        · rw [decide_eq_true hgt] at HC1
          have hgti : (1 : Int) < (us.length : Int) := by omega
          go_region_held3 (fun w' => w'.cell? ⟨w4.heap.size, 0, none⟩ = some (.string f) ∧ w'.cell? ⟨w4.heap.size, 1, none⟩ = some (.slice A3 (k + (us.length - (k + 1))) c3) ∧ w'.cell? ⟨w4.heap.size, 2, none⟩ = some (.string t) ∧ w'.cell? ⟨w1.heap.size, 1, none⟩ = some (.slice (some ⟨g, off, none⟩) us.length c) ∧ w'.cell? ⟨w6.heap.size, 0, none⟩ = some (.string f) ∧ w'.cell? ⟨w6.heap.size, 1, none⟩ = some (.slice A5 (k + 1 + (us.length - k)) c5) ∧ w'.cell? ⟨w6.heap.size, 2, none⟩ = some (.string t)) (first | exact ⟨y0, y1, y2, d1, u0, u1, u2⟩ | exact ⟨(hbf.cell (p := ⟨w4.heap.size, 0, none⟩) hs48).trans y0, (hbf.cell (p := ⟨w4.heap.size, 1, none⟩) hs48).trans y1, (hbf.cell (p := ⟨w4.heap.size, 2, none⟩) hs48).trans y2, (hbf.cell (p := ⟨w1.heap.size, 1, none⟩) hs18).trans d1, (hbf.cell (p := ⟨w6.heap.size, 0, none⟩) hs68).trans u0, (hbf.cell (p := ⟨w6.heap.size, 1, none⟩) hs68).trans u1, (hbf.cell (p := ⟨w6.heap.size, 2, none⟩) hs68).trans u2⟩ | exact ⟨(hbe.cell (p := ⟨w4.heap.size, 0, none⟩) hs48).trans y0, (hbe.cell (p := ⟨w4.heap.size, 1, none⟩) hs48).trans y1, (hbe.cell (p := ⟨w4.heap.size, 2, none⟩) hs48).trans y2, (hbe.cell (p := ⟨w1.heap.size, 1, none⟩) hs18).trans d1, (hbe.cell (p := ⟨w6.heap.size, 0, none⟩) hs68).trans u0, (hbe.cell (p := ⟨w6.heap.size, 1, none⟩) hs68).trans u1, (hbe.cell (p := ⟨w6.heap.size, 2, none⟩) hs68).trans u2⟩)
            (first
              | (go_at_call 21; (with_reducible refine Calls.mono (HC1.out _ hb8) ?_); rintro e we ⟨rfl, hbe'⟩; have hbe : Below w8.heap.size w8 we := hb8.trans hbe')
              | (go_at_call 21; (with_reducible refine Calls.mono (HC2.out _ hbe) ?_); rintro e wf ⟨rfl, hbf'⟩; have hbf : Below w8.heap.size w8 wf := hbe.trans (hbf'.mono hbe.size)))
          go_wp2_with fail
          go_ret
          exact ⟨rfl, hB8.trans (hbf.mono hB8.size)⟩
        · rw [decide_eq_false hgt] at HC1
          have hgti : decide ((1 : Int) < (us.length : Int)) = false := by simp; omega
          go_region_held3 (fun w' => w'.cell? ⟨w4.heap.size, 0, none⟩ = some (.string f) ∧ w'.cell? ⟨w4.heap.size, 1, none⟩ = some (.slice A3 (k + (us.length - (k + 1))) c3) ∧ w'.cell? ⟨w4.heap.size, 2, none⟩ = some (.string t) ∧ w'.cell? ⟨w1.heap.size, 1, none⟩ = some (.slice (some ⟨g, off, none⟩) us.length c) ∧ w'.cell? ⟨w6.heap.size, 0, none⟩ = some (.string f) ∧ w'.cell? ⟨w6.heap.size, 1, none⟩ = some (.slice A5 (k + 1 + (us.length - k)) c5) ∧ w'.cell? ⟨w6.heap.size, 2, none⟩ = some (.string t)) (first | exact ⟨y0, y1, y2, d1, u0, u1, u2⟩ | exact ⟨(hbf.cell (p := ⟨w4.heap.size, 0, none⟩) hs48).trans y0, (hbf.cell (p := ⟨w4.heap.size, 1, none⟩) hs48).trans y1, (hbf.cell (p := ⟨w4.heap.size, 2, none⟩) hs48).trans y2, (hbf.cell (p := ⟨w1.heap.size, 1, none⟩) hs18).trans d1, (hbf.cell (p := ⟨w6.heap.size, 0, none⟩) hs68).trans u0, (hbf.cell (p := ⟨w6.heap.size, 1, none⟩) hs68).trans u1, (hbf.cell (p := ⟨w6.heap.size, 2, none⟩) hs68).trans u2⟩ | exact ⟨(hbe.cell (p := ⟨w4.heap.size, 0, none⟩) hs48).trans y0, (hbe.cell (p := ⟨w4.heap.size, 1, none⟩) hs48).trans y1, (hbe.cell (p := ⟨w4.heap.size, 2, none⟩) hs48).trans y2, (hbe.cell (p := ⟨w1.heap.size, 1, none⟩) hs18).trans d1, (hbe.cell (p := ⟨w6.heap.size, 0, none⟩) hs68).trans u0, (hbe.cell (p := ⟨w6.heap.size, 1, none⟩) hs68).trans u1, (hbe.cell (p := ⟨w6.heap.size, 2, none⟩) hs68).trans u2⟩)
            (first
              | (go_at_call 21; (with_reducible refine Calls.mono (HC1.out _ hb8) ?_); rintro e we ⟨rfl, hbe'⟩; have hbe : Below w8.heap.size w8 we := hb8.trans hbe')
              | (go_at_call 21; (with_reducible refine Calls.mono (HC2.out _ hbe) ?_); rintro e wf ⟨rfl, hbf'⟩; have hbf : Below w8.heap.size w8 wf := hbe.trans (hbf'.mono hbe.size)))
          go_wp2_with fail
          go_ret
          exact ⟨rfl, hB8.trans (hbf.mono hB8.size)⟩
    · go_enter Try.func9, Try.ntmps9
      go_wp2
      go_ret
      exact ⟨rfl, Below.refl _ _⟩
  · go_enter Try.func9, Try.ntmps9
    go_wp2
    go_ret
    exact ⟨rfl, Below.refl _ _⟩

end Go.Proofs.Ytpolpopkiegjkaa
