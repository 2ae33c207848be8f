/- FnExactSubmissionLine: the walk. (Printed by mkxl.py.) -/
import Derived.Test.YtnbggmmghopphaaGreatDoorSmUu
import Derived.Test.YtnbggmmghopphaaGreatDoorLwOw
import Derived.Test.YtnbggmmghopphaaGreatDoorSbEx
import Derived.Test.YtnbggmmghopphaaGreatDoorSbTo
import Derived.Test.YtnbggmmghopphaaGreatDoorUsMk
namespace Go.Proofs.YtnbggmmghopphaaGreatDoor
set_option linter.unusedVariables false
open Go.RowKit Go.ChangeShapes Go.WideShapes Go.Deep
open Us (U)

theorem Xl.apart {α : Type} {E : TypeId} {size : Nat} {f : α → List Value} {w w' : World} {B2 : Nat} {v1 v2 : Value} {us2 : List α}
    (ho : OwnL E size f w B2 v2 us2) (h1 : ∀ q, v1.ownBlock = some q → v2.ownBlock = some q → False) (hg : w.grownBy w' v1.ownBlock) : OwnL E size f w' B2 v2 us2 :=
  World.ownsRow.kept ho hg (by
    cases hq : v2.ownBlock with
    | none => exact .inl rfl
    | some q => exact .inr fun e => h1 q e.symm hq)
theorem Xl.us_own {w : World} {B : Nat} {A : Option Addr} {us : List U} {c : Nat} (ho : Us.Own w B (.slice A us.length c) us) (hs : ∀ u ∈ us, u.name.size ≤ maxLen ∧ u.pass.size ≤ maxLen) : AtUsers w w.heap.size A us :=
  at_users (OwnL.at_ ho Us.cells_len rfl) hs

set_option maxRecDepth 100000 in
set_option maxHeartbeats 6400000 in
theorem walkFnExactSubmissionLine (st : Int) (f : ByteArray) (A : Option Addr) (us : List ByteArray) (c : Nat) (t : ByteArray) (Au : Option Addr) (vs : List U) (cu : Nat) (d l : ByteArray) (w : World)
    (h : AtStrs w w.heap.size A us) (hcap : us.length ≤ c) (hcm : c ≤ maxLen) (hf : f.size ≤ maxLen) (ht : t.size ≤ maxLen) (hu : AtUsers w w.heap.size Au vs) (hvl : vs.length ≤ maxLen) (hdm : d.size ≤ maxLen) (hlm : l.size ≤ maxLen) (m : Int) (hm : w.cell? ⟨0, 0, none⟩ = some (.int .i64 m)) :
    Calls Tryz.prog 15 #[.agg #[.int .i64 st, .string f, .slice A us.length c, .string t], .slice Au vs.length cu, .string d, .string l] w fun e w' => e = .returned (.bool true) ∧ Below w.heap.size w w' := by
  by_cases hbig : d.size ≤ 1048576
  · by_cases hbig2 : l.size ≤ 1048576
    · have hn : us.length ≤ maxLen := Nat.le_trans hcap hcm
      have hpos := Po.base_pos hm
      have hbd : ¬ (1048576 : Int) < (d.size : Int) := by omega
      have hbl : ¬ (1048576 : Int) < (l.size : Int) := by omega
      have hdz : d.size ≤ 16777216 := by omega
      have hlz : l.size ≤ 16777216 := by omega
      obtain ⟨R, hR⟩ : ∃ R, R = Sm.ans vs d ⟨st, f, us, t⟩ l := ⟨_, rfl⟩
      obtain ⟨⟨so, fo, uo, to_⟩, no⟩ := R
      have HR := Lib.hid hR.symm
      have hul3 : uo.length ≤ 3 := by have := (Sm.ans_sizes vs d ⟨st, f, us, t⟩ l).1; rw [← hR] at this; exact this
      have HUO : Hid (∀ u ∈ uo, u.size ≤ maxLen) := Lib.hid (by have := (Sm.ans_sizes vs d ⟨st, f, us, t⟩ l).2.1; rw [← hR] at this; exact this)
      have hulm : uo.length ≤ maxLen := by unfold maxLen; omega
      clear hR
      have hbox : Below w.heap.size w (w.alloc (.cells #[.int .i64 st, .string f, .slice A us.length c, .string t] 68)) := (Below.refl _ _).alloc (Nat.le_refl _) _
      go_enter Tryz.func15, Tryz.ntmps15
      go_wp2_with fail
      refine Calls.mono (szSubmission_any st f t A us c _ _ ((h.below hbox).mono hbox.size) hn hf ht (by omega) (by omega)) ?_
      rintro e w1 ⟨r, rfl, hmr, hle, hq, hb1⟩
      have HQ := Lib.hid hq
      have HD1 := Lib.hid (boxed hb1)
      have HB1 := Lib.hid (unbox hb1)
      have hld : w.heap.size < w1.heap.size := (Array.getElem?_eq_some_iff.1 HD1.out).1
      clear hq hb1
      by_cases hneg : r < 0
      · go_wp2_with fail
        go_ret
        exact ⟨rfl, HB1.out⟩
      · have hlen := HQ.out (by omega)
        have HUS : Hid (∀ u ∈ us, u.size ≤ maxLen) := Lib.hid h.2
        go_wp2_with fail
        refine Calls.mono (szUserS_any Au vs cu r _ ((hu.below HB1.out).mono HB1.out.size) hvl (by omega) (by omega)) ?_
        rintro e w2 ⟨r2, rfl, hmr2, hle2, hq2, hb⟩
        have HQ2 := Lib.hid hq2
        clear hq2
        have hs2 := hb.size
        have HB2 := Lib.hid (HB1.out.trans (hb.mono HB1.out.size))
        have HD2 := Lib.hid ((hb.block w.heap.size (by omega)).trans HD1.out)
        clear HB1 HD1 hb
        by_cases hneg2 : r2 < 0
        · go_wp2_with fail
          go_ret
          exact ⟨rfl, HB2.out⟩
        · have hvlen := (HQ2.out (by omega)).1
          have HVS : Hid (∀ u ∈ vs, u.name.size ≤ maxLen ∧ u.pass.size ≤ maxLen) := Lib.hid hu.2
          have d0 : w2.cell? ⟨w.heap.size, 0, none⟩ = some (.int .i64 st) := cell_at HD2.out 0 _ rfl
          have d1 : w2.cell? ⟨w.heap.size, 1, none⟩ = some (.string f) := cell_at HD2.out 1 _ rfl
          have d2 : w2.cell? ⟨w.heap.size, 2, none⟩ = some (.slice A us.length c) := cell_at HD2.out 2 _ rfl
          have d3 : w2.cell? ⟨w.heap.size, 3, none⟩ = some (.string t) := cell_at HD2.out 3 _ rfl
          go_wp2_with fail
          refine Calls.mono (toSubmission_any st f t A us c _ ((h.below HB2.out).mono HB2.out.size) hlen) ?_
          rintro e w3 ⟨A3, c3, rfl, hc3, hc3', h3, hb⟩
          clear d0 d1 d2 d3
          have hs3 := hb.size
          have HB3 := Lib.hid (HB2.out.trans (hb.mono HB2.out.size))
          have HD3 := Lib.hid ((hb.block w.heap.size (by omega)).trans HD2.out)
          clear HB2 HD2 hb
          have HT3 := Lib.hid (h3)
          clear h3
          have d0 : w3.cell? ⟨w.heap.size, 0, none⟩ = some (.int .i64 st) := cell_at HD3.out 0 _ rfl
          have d1 : w3.cell? ⟨w.heap.size, 1, none⟩ = some (.string f) := cell_at HD3.out 1 _ rfl
          have d2 : w3.cell? ⟨w.heap.size, 2, none⟩ = some (.slice A us.length c) := cell_at HD3.out 2 _ rfl
          have d3 : w3.cell? ⟨w.heap.size, 3, none⟩ = some (.string t) := cell_at HD3.out 3 _ rfl
          go_wp2_with fail
          refine Calls.mono (toUserS_any Au vs cu _ ((hu.below HB3.out).mono HB3.out.size) hvlen) ?_
          rintro e w4 ⟨A4, c4, rfl, hc4, hc4', h4, hb⟩
          clear d0 d1 d2 d3
          have hs4 := hb.size
          have HB4 := Lib.hid (HB3.out.trans (hb.mono HB3.out.size))
          have HD4 := Lib.hid ((hb.block w.heap.size (by omega)).trans HD3.out)
          have HT4 := Lib.hid (HT3.out.below (hb.mono (by omega)))
          clear HB3 HD3 HT3 hb
          have HV4 := Lib.hid h4
          clear h4
          have d0 : w4.cell? ⟨w.heap.size, 0, none⟩ = some (.int .i64 st) := cell_at HD4.out 0 _ rfl
          have d1 : w4.cell? ⟨w.heap.size, 1, none⟩ = some (.string f) := cell_at HD4.out 1 _ rfl
          have d2 : w4.cell? ⟨w.heap.size, 2, none⟩ = some (.slice A us.length c) := cell_at HD4.out 2 _ rfl
          have d3 : w4.cell? ⟨w.heap.size, 3, none⟩ = some (.string t) := cell_at HD4.out 3 _ rfl
          go_wp2_with fail
          refine Calls.mono (sLine_any st f t A3 us c3 _ (HT4.out.mono (by omega)) hc3 hc3' hf ht A4 vs c4 HV4.out hvl d l hdz hlz HR.out) ?_
          rintro e w5 ⟨A5, c5, rfl, h5, hc5, hc5', hb⟩
          clear d0 d1 d2 d3
          have hs5 := hb.size
          have HB5 := Lib.hid (HB4.out.trans (hb.mono HB4.out.size))
          have HD5 := Lib.hid ((hb.block w.heap.size (by omega)).trans HD4.out)
          have HT5 := Lib.hid (HT4.out.below (hb.mono (by omega)))
          clear HB4 HD4 HT4 hb
          clear HT5 HV4
          have HW5 := Lib.hid (h5)
          clear h5
          have hE := Below.alloc (Below.refl w5.heap.size w5) (Nat.le_refl _) (.cells #[.int .i64 so, .string fo, .slice A5 uo.length c5, .string to_] 36)
          have hx := heap_alloc_new w5 (.cells #[.int .i64 so, .string fo, .slice A5 uo.length c5, .string to_] 36)
          go_upto_region 13 with fail
          generalize w5.alloc (.cells #[.int .i64 so, .string fo, .slice A5 uo.length c5, .string to_] 36) = w6 at hE hx ⊢
          have hlo := (Array.getElem?_eq_some_iff.1 hx).1
          obtain ⟨po, hp⟩ : ∃ p, p = w5.heap.size := ⟨_, rfl⟩
          have hgo : w5.heap.size ≤ po := by omega
          have hko : po ≤ w5.heap.size := by omega
          rw [← hp] at hx hlo ⊢
          clear hp
          have HNEW := Lib.hid hx
          clear hx
          have hs6 := hE.size
          have HB6 := Lib.hid (HB5.out.trans (hE.mono HB5.out.size))
          have HD6 := Lib.hid ((hE.block w.heap.size (by omega)).trans HD5.out)
          have HW6 := Lib.hid (HW5.out.below (hE.mono (by omega)))
          clear HB5 HD5 HW5 hE
          have HO6 := HNEW
          clear HNEW
          have d0 : w6.cell? ⟨w.heap.size, 0, none⟩ = some (.int .i64 st) := cell_at HD6.out 0 _ rfl
          have d1 : w6.cell? ⟨w.heap.size, 1, none⟩ = some (.string f) := cell_at HD6.out 1 _ rfl
          have d2 : w6.cell? ⟨w.heap.size, 2, none⟩ = some (.slice A us.length c) := cell_at HD6.out 2 _ rfl
          have d3 : w6.cell? ⟨w.heap.size, 3, none⟩ = some (.string t) := cell_at HD6.out 3 _ rfl
          have o0 : w6.cell? ⟨po, 0, none⟩ = some (.int .i64 so) := cell_at HO6.out 0 _ rfl
          have o1 : w6.cell? ⟨po, 1, none⟩ = some (.string fo) := cell_at HO6.out 1 _ rfl
          have o2 : w6.cell? ⟨po, 2, none⟩ = some (.slice A5 uo.length c5) := cell_at HO6.out 2 _ rfl
          have o3 : w6.cell? ⟨po, 3, none⟩ = some (.string to_) := cell_at HO6.out 3 _ rfl
          go_wp2_with fail
          refine Calls.mono (toSubmission_own st f t A us c _ ((h.below HB6.out).mono HB6.out.size) hlen) ?_
          rintro e w7 ⟨A7, c7, rfl, hc7, hc7', ho7, hb⟩
          clear d0 d1 d2 d3 o0 o1 o2 o3
          have hs7 := hb.size
          have HB7 := Lib.hid (HB6.out.trans (hb.mono HB6.out.size))
          have HD7 := Lib.hid ((hb.block w.heap.size (by omega)).trans HD6.out)
          have HO7 := Lib.hid ((hb.block po (by omega)).trans HO6.out)
          have HW7 := Lib.hid (HW6.out.below (hb.mono (by omega)))
          clear HB6 HD6 HO6 HW6 hb
          have HOX7 := Lib.hid ho7
          have HLX : Hid (∀ q, (Value.slice A7 us.length c7).ownBlock = some q → w6.heap.size ≤ q) := Lib.hid fun q hq => OwnL.blk ho7 hq
          have HHX : Hid (∀ q, (Value.slice A7 us.length c7).ownBlock = some q → q < w7.heap.size) := Lib.hid fun q hq => OwnL.blt ho7 hq
          clear ho7
          have hE := Below.alloc (Below.refl w7.heap.size w7) (Nat.le_refl _) (.cells #[.int .i64 st, .string f, .slice A7 us.length c7, .string t] 36)
          have hx := heap_alloc_new w7 (.cells #[.int .i64 st, .string f, .slice A7 us.length c7, .string t] 36)
          go_upto_region 14 with fail
          generalize w7.alloc (.cells #[.int .i64 st, .string f, .slice A7 us.length c7, .string t] 36) = w8 at hE hx ⊢
          have hlx := (Array.getElem?_eq_some_iff.1 hx).1
          obtain ⟨px, hp⟩ : ∃ p, p = w7.heap.size := ⟨_, rfl⟩
          have hgx : w7.heap.size ≤ px := by omega
          have hkx : px ≤ w7.heap.size := by omega
          rw [← hp] at hx hlx ⊢
          clear hp
          have HNEW := Lib.hid hx
          clear hx
          have hs8 := hE.size
          have HB8 := Lib.hid (HB7.out.trans (hE.mono HB7.out.size))
          have HD8 := Lib.hid ((hE.block w.heap.size (by omega)).trans HD7.out)
          have HO8 := Lib.hid ((hE.block po (by omega)).trans HO7.out)
          have HW8 := Lib.hid (HW7.out.below (hE.mono (by omega)))
          have HOX8 := Lib.hid (OwnL.below HOX7.out hE)
          clear HB7 HD7 HO7 HW7 HOX7 hE
          have HX8 := HNEW
          clear HNEW
          have d0 : w8.cell? ⟨w.heap.size, 0, none⟩ = some (.int .i64 st) := cell_at HD8.out 0 _ rfl
          have d1 : w8.cell? ⟨w.heap.size, 1, none⟩ = some (.string f) := cell_at HD8.out 1 _ rfl
          have d2 : w8.cell? ⟨w.heap.size, 2, none⟩ = some (.slice A us.length c) := cell_at HD8.out 2 _ rfl
          have d3 : w8.cell? ⟨w.heap.size, 3, none⟩ = some (.string t) := cell_at HD8.out 3 _ rfl
          have o0 : w8.cell? ⟨po, 0, none⟩ = some (.int .i64 so) := cell_at HO8.out 0 _ rfl
          have o1 : w8.cell? ⟨po, 1, none⟩ = some (.string fo) := cell_at HO8.out 1 _ rfl
          have o2 : w8.cell? ⟨po, 2, none⟩ = some (.slice A5 uo.length c5) := cell_at HO8.out 2 _ rfl
          have o3 : w8.cell? ⟨po, 3, none⟩ = some (.string to_) := cell_at HO8.out 3 _ rfl
          have x0 : w8.cell? ⟨px, 0, none⟩ = some (.int .i64 st) := cell_at HX8.out 0 _ rfl
          have x1 : w8.cell? ⟨px, 1, none⟩ = some (.string f) := cell_at HX8.out 1 _ rfl
          have x2 : w8.cell? ⟨px, 2, none⟩ = some (.slice A7 us.length c7) := cell_at HX8.out 2 _ rfl
          have x3 : w8.cell? ⟨px, 3, none⟩ = some (.string t) := cell_at HX8.out 3 _ rfl
          go_wp2_with fail
          refine Calls.mono (toUserS_own Au vs cu _ ((hu.below HB8.out).mono HB8.out.size) hvlen) ?_
          rintro e w9 ⟨A9, c9, rfl, hc9, hc9', ho9, hb⟩
          clear d0 d1 d2 d3 o0 o1 o2 o3 x0 x1 x2 x3
          have hs9 := hb.size
          have HB9 := Lib.hid (HB8.out.trans (hb.mono HB8.out.size))
          have HD9 := Lib.hid ((hb.block w.heap.size (by omega)).trans HD8.out)
          have HO9 := Lib.hid ((hb.block po (by omega)).trans HO8.out)
          have HX9 := Lib.hid ((hb.block px (by omega)).trans HX8.out)
          have HW9 := Lib.hid (HW8.out.below (hb.mono (by omega)))
          have HOX9 := Lib.hid (OwnL.below HOX8.out hb)
          clear HB8 HD8 HO8 HX8 HW8 HOX8 hb
          have HOV9 := Lib.hid ho9
          have HLV : Hid (∀ q, (Value.slice A9 vs.length c9).ownBlock = some q → w8.heap.size ≤ q) := Lib.hid fun q hq => OwnL.blk ho9 hq
          have HHV : Hid (∀ q, (Value.slice A9 vs.length c9).ownBlock = some q → q < w9.heap.size) := Lib.hid fun q hq => OwnL.blt ho9 hq
          clear ho9
          have d0 : w9.cell? ⟨w.heap.size, 0, none⟩ = some (.int .i64 st) := cell_at HD9.out 0 _ rfl
          have d1 : w9.cell? ⟨w.heap.size, 1, none⟩ = some (.string f) := cell_at HD9.out 1 _ rfl
          have d2 : w9.cell? ⟨w.heap.size, 2, none⟩ = some (.slice A us.length c) := cell_at HD9.out 2 _ rfl
          have d3 : w9.cell? ⟨w.heap.size, 3, none⟩ = some (.string t) := cell_at HD9.out 3 _ rfl
          have o0 : w9.cell? ⟨po, 0, none⟩ = some (.int .i64 so) := cell_at HO9.out 0 _ rfl
          have o1 : w9.cell? ⟨po, 1, none⟩ = some (.string fo) := cell_at HO9.out 1 _ rfl
          have o2 : w9.cell? ⟨po, 2, none⟩ = some (.slice A5 uo.length c5) := cell_at HO9.out 2 _ rfl
          have o3 : w9.cell? ⟨po, 3, none⟩ = some (.string to_) := cell_at HO9.out 3 _ rfl
          have x0 : w9.cell? ⟨px, 0, none⟩ = some (.int .i64 st) := cell_at HX9.out 0 _ rfl
          have x1 : w9.cell? ⟨px, 1, none⟩ = some (.string f) := cell_at HX9.out 1 _ rfl
          have x2 : w9.cell? ⟨px, 2, none⟩ = some (.slice A7 us.length c7) := cell_at HX9.out 2 _ rfl
          have x3 : w9.cell? ⟨px, 3, none⟩ = some (.string t) := cell_at HX9.out 3 _ rfl
          go_wp2_with fail
          refine Calls.mono (iLineW_any st f t A7 us c7 _ (Lw.strs_own HOX9.out rfl HUS.out) hc7 hc7' hf ht A9 vs c9 (Xl.us_own HOV9.out HVS.out) hvl d l hdz hlz m (Po.mem HB9.out hm hpos) HR.out) ?_
          rintro e w10 ⟨A10, c10, rfl, ho10, hc10, hc10', hb⟩
          clear d0 d1 d2 d3 o0 o1 o2 o3 x0 x1 x2 x3
          have hs10 := hb.size
          have HB10 := Lib.hid (HB9.out.trans (hb.mono HB9.out.size))
          have HD10 := Lib.hid ((hb.block w.heap.size (by omega)).trans HD9.out)
          have HO10 := Lib.hid ((hb.block po (by omega)).trans HO9.out)
          have HX10 := Lib.hid ((hb.block px (by omega)).trans HX9.out)
          have HW10 := Lib.hid (HW9.out.below (hb.mono (by omega)))
          have HOX10 := Lib.hid (OwnL.below HOX9.out hb)
          have HOV10 := Lib.hid (OwnL.below HOV9.out hb)
          clear HB9 HD9 HO9 HX9 HW9 HOX9 HOV9 hb
          have HOG10 := Lib.hid ho10
          have HLG : Hid (∀ q, (Value.slice A10 uo.length c10).ownBlock = some q → w9.heap.size ≤ q) := Lib.hid fun q hq => OwnL.blk ho10 hq
          have HHG : Hid (∀ q, (Value.slice A10 uo.length c10).ownBlock = some q → q < w10.heap.size) := Lib.hid fun q hq => OwnL.blt ho10 hq
          clear ho10
          have hE := Below.alloc (Below.refl w10.heap.size w10) (Nat.le_refl _) (.cells #[.int .i64 so, .string fo, .slice A10 uo.length c10, .string to_] 36)
          have hx := heap_alloc_new w10 (.cells #[.int .i64 so, .string fo, .slice A10 uo.length c10, .string to_] 36)
          go_upto_region 16 with fail
          generalize w10.alloc (.cells #[.int .i64 so, .string fo, .slice A10 uo.length c10, .string to_] 36) = w11 at hE hx ⊢
          have hlg := (Array.getElem?_eq_some_iff.1 hx).1
          obtain ⟨pg, hp⟩ : ∃ p, p = w10.heap.size := ⟨_, rfl⟩
          have hgg : w10.heap.size ≤ pg := by omega
          have hkg : pg ≤ w10.heap.size := by omega
          rw [← hp] at hx hlg ⊢
          clear hp
          have HNEW := Lib.hid hx
          clear hx
          have hs11 := hE.size
          have HB11 := Lib.hid (HB10.out.trans (hE.mono HB10.out.size))
          have HD11 := Lib.hid ((hE.block w.heap.size (by omega)).trans HD10.out)
          have HO11 := Lib.hid ((hE.block po (by omega)).trans HO10.out)
          have HX11 := Lib.hid ((hE.block px (by omega)).trans HX10.out)
          have HW11 := Lib.hid (HW10.out.below (hE.mono (by omega)))
          have HOX11 := Lib.hid (OwnL.below HOX10.out hE)
          have HOV11 := Lib.hid (OwnL.below HOV10.out hE)
          have HOG11 := Lib.hid (OwnL.below HOG10.out hE)
          clear HB10 HD10 HO10 HX10 HW10 HOX10 HOV10 HOG10 hE
          have HG11 := HNEW
          clear HNEW
          have d0 : w11.cell? ⟨w.heap.size, 0, none⟩ = some (.int .i64 st) := cell_at HD11.out 0 _ rfl
          have d1 : w11.cell? ⟨w.heap.size, 1, none⟩ = some (.string f) := cell_at HD11.out 1 _ rfl
          have d2 : w11.cell? ⟨w.heap.size, 2, none⟩ = some (.slice A us.length c) := cell_at HD11.out 2 _ rfl
          have d3 : w11.cell? ⟨w.heap.size, 3, none⟩ = some (.string t) := cell_at HD11.out 3 _ rfl
          have o0 : w11.cell? ⟨po, 0, none⟩ = some (.int .i64 so) := cell_at HO11.out 0 _ rfl
          have o1 : w11.cell? ⟨po, 1, none⟩ = some (.string fo) := cell_at HO11.out 1 _ rfl
          have o2 : w11.cell? ⟨po, 2, none⟩ = some (.slice A5 uo.length c5) := cell_at HO11.out 2 _ rfl
          have o3 : w11.cell? ⟨po, 3, none⟩ = some (.string to_) := cell_at HO11.out 3 _ rfl
          have x0 : w11.cell? ⟨px, 0, none⟩ = some (.int .i64 st) := cell_at HX11.out 0 _ rfl
          have x1 : w11.cell? ⟨px, 1, none⟩ = some (.string f) := cell_at HX11.out 1 _ rfl
          have x2 : w11.cell? ⟨px, 2, none⟩ = some (.slice A7 us.length c7) := cell_at HX11.out 2 _ rfl
          have x3 : w11.cell? ⟨px, 3, none⟩ = some (.string t) := cell_at HX11.out 3 _ rfl
          have g0 : w11.cell? ⟨pg, 0, none⟩ = some (.int .i64 so) := cell_at HG11.out 0 _ rfl
          have g1 : w11.cell? ⟨pg, 1, none⟩ = some (.string fo) := cell_at HG11.out 1 _ rfl
          have g2 : w11.cell? ⟨pg, 2, none⟩ = some (.slice A10 uo.length c10) := cell_at HG11.out 2 _ rfl
          have g3 : w11.cell? ⟨pg, 3, none⟩ = some (.string to_) := cell_at HG11.out 3 _ rfl
          go_wp2_with fail
          refine Calls.mono (eqSubmission_any so fo to_ A10 A5 uo c10 c5 _ (Lw.strs_own HOG11.out rfl HUO.out) (HW11.out.mono (by omega)) hulm) ?_
          rintro e w12 ⟨rfl, hb⟩
          clear d0 d1 d2 d3 o0 o1 o2 o3 x0 x1 x2 x3 g0 g1 g2 g3
          have hs12 := hb.size
          have HB12 := Lib.hid (HB11.out.trans (hb.mono HB11.out.size))
          have HD12 := Lib.hid ((hb.block w.heap.size (by omega)).trans HD11.out)
          have HO12 := Lib.hid ((hb.block po (by omega)).trans HO11.out)
          have HX12 := Lib.hid ((hb.block px (by omega)).trans HX11.out)
          have HG12 := Lib.hid ((hb.block pg (by omega)).trans HG11.out)
          have HW12 := Lib.hid (HW11.out.below (hb.mono (by omega)))
          have HOX12 := Lib.hid (OwnL.below HOX11.out hb)
          have HOV12 := Lib.hid (OwnL.below HOV11.out hb)
          have HOG12 := Lib.hid (OwnL.below HOG11.out hb)
          clear HB11 HD11 HO11 HX11 HG11 HW11 HOX11 HOV11 HOG11 hb
          have d0 : w12.cell? ⟨w.heap.size, 0, none⟩ = some (.int .i64 st) := cell_at HD12.out 0 _ rfl
          have d1 : w12.cell? ⟨w.heap.size, 1, none⟩ = some (.string f) := cell_at HD12.out 1 _ rfl
          have d2 : w12.cell? ⟨w.heap.size, 2, none⟩ = some (.slice A us.length c) := cell_at HD12.out 2 _ rfl
          have d3 : w12.cell? ⟨w.heap.size, 3, none⟩ = some (.string t) := cell_at HD12.out 3 _ rfl
          have o0 : w12.cell? ⟨po, 0, none⟩ = some (.int .i64 so) := cell_at HO12.out 0 _ rfl
          have o1 : w12.cell? ⟨po, 1, none⟩ = some (.string fo) := cell_at HO12.out 1 _ rfl
          have o2 : w12.cell? ⟨po, 2, none⟩ = some (.slice A5 uo.length c5) := cell_at HO12.out 2 _ rfl
          have o3 : w12.cell? ⟨po, 3, none⟩ = some (.string to_) := cell_at HO12.out 3 _ rfl
          have x0 : w12.cell? ⟨px, 0, none⟩ = some (.int .i64 st) := cell_at HX12.out 0 _ rfl
          have x1 : w12.cell? ⟨px, 1, none⟩ = some (.string f) := cell_at HX12.out 1 _ rfl
          have x2 : w12.cell? ⟨px, 2, none⟩ = some (.slice A7 us.length c7) := cell_at HX12.out 2 _ rfl
          have x3 : w12.cell? ⟨px, 3, none⟩ = some (.string t) := cell_at HX12.out 3 _ rfl
          have g0 : w12.cell? ⟨pg, 0, none⟩ = some (.int .i64 so) := cell_at HG12.out 0 _ rfl
          have g1 : w12.cell? ⟨pg, 1, none⟩ = some (.string fo) := cell_at HG12.out 1 _ rfl
          have g2 : w12.cell? ⟨pg, 2, none⟩ = some (.slice A10 uo.length c10) := cell_at HG12.out 2 _ rfl
          have g3 : w12.cell? ⟨pg, 3, none⟩ = some (.string to_) := cell_at HG12.out 3 _ rfl
          have H9 : Hid (AtStrs w12.drew w12.drew.heap.size A us) := Lib.hid (((h.below HB12.out).mono HB12.out.size))
          have HX9 := Lib.hid (Lw.strs_own HOX12.out rfl HUS.out)
          have hltx : px < w12.heap.size := by omega
          go_upto_region 18 with fail
          go_cut [72] (fun v wx => v = .bool false ∧ Below w12.heap.size w12 wx)
          case first =>
            go_region_with ((first
              | (go_at_call 52; refine (toSubmission_any st f t A us c _ H9.out hlen).mono ?_; rintro e wa ⟨Aa, ca, rfl, hca, hca', ha, hba⟩; have hba' : Below w12.heap.size w12 wa := ⟨hba.os, hba.tape, hba.output, hba.size, hba.block⟩; have x0 := (hba'.cell (p := ⟨px, 0, none⟩) hltx).trans x0; have x1 := (hba'.cell (p := ⟨px, 1, none⟩) hltx).trans x1; have x2 := (hba'.cell (p := ⟨px, 2, none⟩) hltx).trans x2; have x3 := (hba'.cell (p := ⟨px, 3, none⟩) hltx).trans x3)
              | (go_at_call 53; refine (eqSubmission_any st f t A7 Aa us c7 ca _ ((HX9.out.below hba').mono hba'.size) ha hn).mono ?_; rintro e wb ⟨rfl, hbb⟩)))
            all_goals
              go_wp2_with fail
              go_meet
              exact ⟨rfl, hba'.trans (hbb.mono hba'.size)⟩
          obtain ⟨rfl, hb⟩ := hcut
          obtain ⟨w13, hwm⟩ : ∃ wm, wm = wc := ⟨_, rfl⟩
          subst hwm
          clear H9 HX9
          clear d0 d1 d2 d3 o0 o1 o2 o3 x0 x1 x2 x3 g0 g1 g2 g3
          have hs13 := hb.size
          have HB13 := Lib.hid (HB12.out.trans (hb.mono HB12.out.size))
          have HD13 := Lib.hid ((hb.block w.heap.size (by omega)).trans HD12.out)
          have HO13 := Lib.hid ((hb.block po (by omega)).trans HO12.out)
          have HX13 := Lib.hid ((hb.block px (by omega)).trans HX12.out)
          have HG13 := Lib.hid ((hb.block pg (by omega)).trans HG12.out)
          have HW13 := Lib.hid (HW12.out.below (hb.mono (by omega)))
          have HOX13 := Lib.hid (OwnL.below HOX12.out hb)
          have HOV13 := Lib.hid (OwnL.below HOV12.out hb)
          have HOG13 := Lib.hid (OwnL.below HOG12.out hb)
          clear HB12 HD12 HO12 HX12 HG12 HW12 HOX12 HOV12 HOG12 hb
          have d0 : w13.cell? ⟨w.heap.size, 0, none⟩ = some (.int .i64 st) := cell_at HD13.out 0 _ rfl
          have d1 : w13.cell? ⟨w.heap.size, 1, none⟩ = some (.string f) := cell_at HD13.out 1 _ rfl
          have d2 : w13.cell? ⟨w.heap.size, 2, none⟩ = some (.slice A us.length c) := cell_at HD13.out 2 _ rfl
          have d3 : w13.cell? ⟨w.heap.size, 3, none⟩ = some (.string t) := cell_at HD13.out 3 _ rfl
          have o0 : w13.cell? ⟨po, 0, none⟩ = some (.int .i64 so) := cell_at HO13.out 0 _ rfl
          have o1 : w13.cell? ⟨po, 1, none⟩ = some (.string fo) := cell_at HO13.out 1 _ rfl
          have o2 : w13.cell? ⟨po, 2, none⟩ = some (.slice A5 uo.length c5) := cell_at HO13.out 2 _ rfl
          have o3 : w13.cell? ⟨po, 3, none⟩ = some (.string to_) := cell_at HO13.out 3 _ rfl
          have x0 : w13.cell? ⟨px, 0, none⟩ = some (.int .i64 st) := cell_at HX13.out 0 _ rfl
          have x1 : w13.cell? ⟨px, 1, none⟩ = some (.string f) := cell_at HX13.out 1 _ rfl
          have x2 : w13.cell? ⟨px, 2, none⟩ = some (.slice A7 us.length c7) := cell_at HX13.out 2 _ rfl
          have x3 : w13.cell? ⟨px, 3, none⟩ = some (.string t) := cell_at HX13.out 3 _ rfl
          have g0 : w13.cell? ⟨pg, 0, none⟩ = some (.int .i64 so) := cell_at HG13.out 0 _ rfl
          have g1 : w13.cell? ⟨pg, 1, none⟩ = some (.string fo) := cell_at HG13.out 1 _ rfl
          have g2 : w13.cell? ⟨pg, 2, none⟩ = some (.slice A10 uo.length c10) := cell_at HG13.out 2 _ rfl
          have g3 : w13.cell? ⟨pg, 3, none⟩ = some (.string to_) := cell_at HG13.out 3 _ rfl
          go_wp2_with fail
          refine Calls.mono (toUserS_any Au vs cu _ ((hu.below HB13.out).mono HB13.out.size) hvlen) ?_
          rintro e w14 ⟨A14, c14, rfl, hc14, hc14', h14, hb⟩
          clear d0 d1 d2 d3 o0 o1 o2 o3 x0 x1 x2 x3 g0 g1 g2 g3
          have hs14 := hb.size
          have HB14 := Lib.hid (HB13.out.trans (hb.mono HB13.out.size))
          have HD14 := Lib.hid ((hb.block w.heap.size (by omega)).trans HD13.out)
          have HO14 := Lib.hid ((hb.block po (by omega)).trans HO13.out)
          have HX14 := Lib.hid ((hb.block px (by omega)).trans HX13.out)
          have HG14 := Lib.hid ((hb.block pg (by omega)).trans HG13.out)
          have HW14 := Lib.hid (HW13.out.below (hb.mono (by omega)))
          have HOX14 := Lib.hid (OwnL.below HOX13.out hb)
          have HOV14 := Lib.hid (OwnL.below HOV13.out hb)
          have HOG14 := Lib.hid (OwnL.below HOG13.out hb)
          clear HB13 HD13 HO13 HX13 HG13 HW13 HOX13 HOV13 HOG13 hb
          have HU14 := Lib.hid h14
          clear h14
          have d0 : w14.cell? ⟨w.heap.size, 0, none⟩ = some (.int .i64 st) := cell_at HD14.out 0 _ rfl
          have d1 : w14.cell? ⟨w.heap.size, 1, none⟩ = some (.string f) := cell_at HD14.out 1 _ rfl
          have d2 : w14.cell? ⟨w.heap.size, 2, none⟩ = some (.slice A us.length c) := cell_at HD14.out 2 _ rfl
          have d3 : w14.cell? ⟨w.heap.size, 3, none⟩ = some (.string t) := cell_at HD14.out 3 _ rfl
          have o0 : w14.cell? ⟨po, 0, none⟩ = some (.int .i64 so) := cell_at HO14.out 0 _ rfl
          have o1 : w14.cell? ⟨po, 1, none⟩ = some (.string fo) := cell_at HO14.out 1 _ rfl
          have o2 : w14.cell? ⟨po, 2, none⟩ = some (.slice A5 uo.length c5) := cell_at HO14.out 2 _ rfl
          have o3 : w14.cell? ⟨po, 3, none⟩ = some (.string to_) := cell_at HO14.out 3 _ rfl
          have x0 : w14.cell? ⟨px, 0, none⟩ = some (.int .i64 st) := cell_at HX14.out 0 _ rfl
          have x1 : w14.cell? ⟨px, 1, none⟩ = some (.string f) := cell_at HX14.out 1 _ rfl
          have x2 : w14.cell? ⟨px, 2, none⟩ = some (.slice A7 us.length c7) := cell_at HX14.out 2 _ rfl
          have x3 : w14.cell? ⟨px, 3, none⟩ = some (.string t) := cell_at HX14.out 3 _ rfl
          have g0 : w14.cell? ⟨pg, 0, none⟩ = some (.int .i64 so) := cell_at HG14.out 0 _ rfl
          have g1 : w14.cell? ⟨pg, 1, none⟩ = some (.string fo) := cell_at HG14.out 1 _ rfl
          have g2 : w14.cell? ⟨pg, 2, none⟩ = some (.slice A10 uo.length c10) := cell_at HG14.out 2 _ rfl
          have g3 : w14.cell? ⟨pg, 3, none⟩ = some (.string to_) := cell_at HG14.out 3 _ rfl
          go_wp2_with fail
          refine Calls.mono (eqUserS_any A9 A14 vs c9 c14 _ (Xl.us_own HOV14.out HVS.out) HU14.out hvl) ?_
          rintro e w15 ⟨rfl, hb⟩
          clear d0 d1 d2 d3 o0 o1 o2 o3 x0 x1 x2 x3 g0 g1 g2 g3
          have hs15 := hb.size
          have HB15 := Lib.hid (HB14.out.trans (hb.mono HB14.out.size))
          have HD15 := Lib.hid ((hb.block w.heap.size (by omega)).trans HD14.out)
          have HO15 := Lib.hid ((hb.block po (by omega)).trans HO14.out)
          have HX15 := Lib.hid ((hb.block px (by omega)).trans HX14.out)
          have HG15 := Lib.hid ((hb.block pg (by omega)).trans HG14.out)
          have HW15 := Lib.hid (HW14.out.below (hb.mono (by omega)))
          have HOX15 := Lib.hid (OwnL.below HOX14.out hb)
          have HOV15 := Lib.hid (OwnL.below HOV14.out hb)
          have HOG15 := Lib.hid (OwnL.below HOG14.out hb)
          clear HB14 HD14 HO14 HX14 HG14 HW14 HOX14 HOV14 HOG14 hb
          clear HU14
          have d0 : w15.cell? ⟨w.heap.size, 0, none⟩ = some (.int .i64 st) := cell_at HD15.out 0 _ rfl
          have d1 : w15.cell? ⟨w.heap.size, 1, none⟩ = some (.string f) := cell_at HD15.out 1 _ rfl
          have d2 : w15.cell? ⟨w.heap.size, 2, none⟩ = some (.slice A us.length c) := cell_at HD15.out 2 _ rfl
          have d3 : w15.cell? ⟨w.heap.size, 3, none⟩ = some (.string t) := cell_at HD15.out 3 _ rfl
          have o0 : w15.cell? ⟨po, 0, none⟩ = some (.int .i64 so) := cell_at HO15.out 0 _ rfl
          have o1 : w15.cell? ⟨po, 1, none⟩ = some (.string fo) := cell_at HO15.out 1 _ rfl
          have o2 : w15.cell? ⟨po, 2, none⟩ = some (.slice A5 uo.length c5) := cell_at HO15.out 2 _ rfl
          have o3 : w15.cell? ⟨po, 3, none⟩ = some (.string to_) := cell_at HO15.out 3 _ rfl
          have x0 : w15.cell? ⟨px, 0, none⟩ = some (.int .i64 st) := cell_at HX15.out 0 _ rfl
          have x1 : w15.cell? ⟨px, 1, none⟩ = some (.string f) := cell_at HX15.out 1 _ rfl
          have x2 : w15.cell? ⟨px, 2, none⟩ = some (.slice A7 us.length c7) := cell_at HX15.out 2 _ rfl
          have x3 : w15.cell? ⟨px, 3, none⟩ = some (.string t) := cell_at HX15.out 3 _ rfl
          have g0 : w15.cell? ⟨pg, 0, none⟩ = some (.int .i64 so) := cell_at HG15.out 0 _ rfl
          have g1 : w15.cell? ⟨pg, 1, none⟩ = some (.string fo) := cell_at HG15.out 1 _ rfl
          have g2 : w15.cell? ⟨pg, 2, none⟩ = some (.slice A10 uo.length c10) := cell_at HG15.out 2 _ rfl
          have g3 : w15.cell? ⟨pg, 3, none⟩ = some (.string to_) := cell_at HG15.out 3 _ rfl
          go_wp2_with fail
          refine Calls.mono (markSubmission_any st f t A7 us c7 _ 1 _ HOX15.out (by omega) (by omega)) ?_
          rintro e w16 ⟨rfl, _, hg⟩
          clear d0 d1 d2 d3 o0 o1 o2 o3 x0 x1 x2 x3 g0 g1 g2 g3
          have hs16 := hg.size
          have HB16 := Lib.hid (HB15.out.grown hg HB15.out.size (fun q hq => by have h1 := HLX.out q hq; have := HB15.out.size; omega))
          have HD16 := Lib.hid ((hg.block w.heap.size (by omega) (fun e => by have h1 := HLX.out _ e.symm; have h2 := HHX.out _ e.symm; omega)).trans HD15.out)
          have HO16 := Lib.hid ((hg.block po (by omega) (fun e => by have h1 := HLX.out _ e.symm; have h2 := HHX.out _ e.symm; omega)).trans HO15.out)
          have HX16 := Lib.hid ((hg.block px (by omega) (fun e => by have h1 := HLX.out _ e.symm; have h2 := HHX.out _ e.symm; omega)).trans HX15.out)
          have HG16 := Lib.hid ((hg.block pg (by omega) (fun e => by have h1 := HLX.out _ e.symm; have h2 := HHX.out _ e.symm; omega)).trans HG15.out)
          have HW16 := Lib.hid (HW15.out.keep fun i hi => hg.block i (by omega) (fun e => by have h1 := HLX.out _ e.symm; have h2 := HHX.out _ e.symm; omega))
          have HOV16 := Lib.hid (Xl.apart HOV15.out (fun q h1 h2 => by have a1 := HLX.out q h1; have a2 := HHX.out q h1; have b1 := HLV.out q h2; have b2 := HHV.out q h2; omega) hg)
          have HOG16 := Lib.hid (Xl.apart HOG15.out (fun q h1 h2 => by have a1 := HLX.out q h1; have a2 := HHX.out q h1; have b1 := HLG.out q h2; have b2 := HHG.out q h2; omega) hg)
          clear HB15 HD15 HO15 HX15 HG15 HW15 HOV15 HOG15 HOX15 hg
          obtain ⟨k16, hk16⟩ : ∃ k : Nat, k = 1 + us.length := ⟨_, rfl⟩
          rw [← hk16]
          have hk16a : 0 < k16 := by omega
          have hk16b : k16 ≤ 1048577 := by omega
          clear hk16
          have d0 : w16.cell? ⟨w.heap.size, 0, none⟩ = some (.int .i64 st) := cell_at HD16.out 0 _ rfl
          have d1 : w16.cell? ⟨w.heap.size, 1, none⟩ = some (.string f) := cell_at HD16.out 1 _ rfl
          have d2 : w16.cell? ⟨w.heap.size, 2, none⟩ = some (.slice A us.length c) := cell_at HD16.out 2 _ rfl
          have d3 : w16.cell? ⟨w.heap.size, 3, none⟩ = some (.string t) := cell_at HD16.out 3 _ rfl
          have o0 : w16.cell? ⟨po, 0, none⟩ = some (.int .i64 so) := cell_at HO16.out 0 _ rfl
          have o1 : w16.cell? ⟨po, 1, none⟩ = some (.string fo) := cell_at HO16.out 1 _ rfl
          have o2 : w16.cell? ⟨po, 2, none⟩ = some (.slice A5 uo.length c5) := cell_at HO16.out 2 _ rfl
          have o3 : w16.cell? ⟨po, 3, none⟩ = some (.string to_) := cell_at HO16.out 3 _ rfl
          have x0 : w16.cell? ⟨px, 0, none⟩ = some (.int .i64 st) := cell_at HX16.out 0 _ rfl
          have x1 : w16.cell? ⟨px, 1, none⟩ = some (.string f) := cell_at HX16.out 1 _ rfl
          have x2 : w16.cell? ⟨px, 2, none⟩ = some (.slice A7 us.length c7) := cell_at HX16.out 2 _ rfl
          have x3 : w16.cell? ⟨px, 3, none⟩ = some (.string t) := cell_at HX16.out 3 _ rfl
          have g0 : w16.cell? ⟨pg, 0, none⟩ = some (.int .i64 so) := cell_at HG16.out 0 _ rfl
          have g1 : w16.cell? ⟨pg, 1, none⟩ = some (.string fo) := cell_at HG16.out 1 _ rfl
          have g2 : w16.cell? ⟨pg, 2, none⟩ = some (.slice A10 uo.length c10) := cell_at HG16.out 2 _ rfl
          have g3 : w16.cell? ⟨pg, 3, none⟩ = some (.string to_) := cell_at HG16.out 3 _ rfl
          go_wp2_with fail
          refine Calls.mono (markUserS_any A9 vs c9 _ k16 _ HOV16.out (by omega) (by omega)) ?_
          rintro e w17 ⟨rfl, _, hg⟩
          clear d0 d1 d2 d3 o0 o1 o2 o3 x0 x1 x2 x3 g0 g1 g2 g3
          have hs17 := hg.size
          have HB17 := Lib.hid (HB16.out.grown hg HB16.out.size (fun q hq => by have h1 := HLV.out q hq; have := HB16.out.size; omega))
          have HD17 := Lib.hid ((hg.block w.heap.size (by omega) (fun e => by have h1 := HLV.out _ e.symm; have h2 := HHV.out _ e.symm; omega)).trans HD16.out)
          have HO17 := Lib.hid ((hg.block po (by omega) (fun e => by have h1 := HLV.out _ e.symm; have h2 := HHV.out _ e.symm; omega)).trans HO16.out)
          have HX17 := Lib.hid ((hg.block px (by omega) (fun e => by have h1 := HLV.out _ e.symm; have h2 := HHV.out _ e.symm; omega)).trans HX16.out)
          have HG17 := Lib.hid ((hg.block pg (by omega) (fun e => by have h1 := HLV.out _ e.symm; have h2 := HHV.out _ e.symm; omega)).trans HG16.out)
          have HW17 := Lib.hid (HW16.out.keep fun i hi => hg.block i (by omega) (fun e => by have h1 := HLV.out _ e.symm; have h2 := HHV.out _ e.symm; omega))
          have HOG17 := Lib.hid (Xl.apart HOG16.out (fun q h1 h2 => by have a1 := HLV.out q h1; have a2 := HHV.out q h1; have b1 := HLG.out q h2; have b2 := HHG.out q h2; omega) hg)
          clear HB16 HD16 HO16 HX16 HG16 HW16 HOG16 HOV16 hg
          have hk17 : ¬ (((k16 + 3 * vs.length : Nat) : Int) < 0) := by omega
          generalize ((k16 + 3 * vs.length : Nat) : Int) = k17 at hk17 ⊢
          have d0 : w17.cell? ⟨w.heap.size, 0, none⟩ = some (.int .i64 st) := cell_at HD17.out 0 _ rfl
          have d1 : w17.cell? ⟨w.heap.size, 1, none⟩ = some (.string f) := cell_at HD17.out 1 _ rfl
          have d2 : w17.cell? ⟨w.heap.size, 2, none⟩ = some (.slice A us.length c) := cell_at HD17.out 2 _ rfl
          have d3 : w17.cell? ⟨w.heap.size, 3, none⟩ = some (.string t) := cell_at HD17.out 3 _ rfl
          have o0 : w17.cell? ⟨po, 0, none⟩ = some (.int .i64 so) := cell_at HO17.out 0 _ rfl
          have o1 : w17.cell? ⟨po, 1, none⟩ = some (.string fo) := cell_at HO17.out 1 _ rfl
          have o2 : w17.cell? ⟨po, 2, none⟩ = some (.slice A5 uo.length c5) := cell_at HO17.out 2 _ rfl
          have o3 : w17.cell? ⟨po, 3, none⟩ = some (.string to_) := cell_at HO17.out 3 _ rfl
          have x0 : w17.cell? ⟨px, 0, none⟩ = some (.int .i64 st) := cell_at HX17.out 0 _ rfl
          have x1 : w17.cell? ⟨px, 1, none⟩ = some (.string f) := cell_at HX17.out 1 _ rfl
          have x2 : w17.cell? ⟨px, 2, none⟩ = some (.slice A7 us.length c7) := cell_at HX17.out 2 _ rfl
          have x3 : w17.cell? ⟨px, 3, none⟩ = some (.string t) := cell_at HX17.out 3 _ rfl
          have g0 : w17.cell? ⟨pg, 0, none⟩ = some (.int .i64 so) := cell_at HG17.out 0 _ rfl
          have g1 : w17.cell? ⟨pg, 1, none⟩ = some (.string fo) := cell_at HG17.out 1 _ rfl
          have g2 : w17.cell? ⟨pg, 2, none⟩ = some (.slice A10 uo.length c10) := cell_at HG17.out 2 _ rfl
          have g3 : w17.cell? ⟨pg, 3, none⟩ = some (.string to_) := cell_at HG17.out 3 _ rfl
          go_wp2_with fail
          refine Calls.mono (eqSubmission_any so fo to_ A10 A5 uo c10 c5 _ (Lw.strs_own HOG17.out rfl HUO.out) (HW17.out.mono (by omega)) hulm) ?_
          rintro e w18 ⟨rfl, hb⟩
          clear d0 d1 d2 d3 o0 o1 o2 o3 x0 x1 x2 x3 g0 g1 g2 g3
          have hs18 := hb.size
          have HB18 := Lib.hid (HB17.out.trans (hb.mono HB17.out.size))
          have HD18 := Lib.hid ((hb.block w.heap.size (by omega)).trans HD17.out)
          have HO18 := Lib.hid ((hb.block po (by omega)).trans HO17.out)
          have HX18 := Lib.hid ((hb.block px (by omega)).trans HX17.out)
          have HG18 := Lib.hid ((hb.block pg (by omega)).trans HG17.out)
          have HW18 := Lib.hid (HW17.out.below (hb.mono (by omega)))
          have HOG18 := Lib.hid (OwnL.below HOG17.out hb)
          clear HB17 HD17 HO17 HX17 HG17 HW17 HOG17 hb
          have d0 : w18.cell? ⟨w.heap.size, 0, none⟩ = some (.int .i64 st) := cell_at HD18.out 0 _ rfl
          have d1 : w18.cell? ⟨w.heap.size, 1, none⟩ = some (.string f) := cell_at HD18.out 1 _ rfl
          have d2 : w18.cell? ⟨w.heap.size, 2, none⟩ = some (.slice A us.length c) := cell_at HD18.out 2 _ rfl
          have d3 : w18.cell? ⟨w.heap.size, 3, none⟩ = some (.string t) := cell_at HD18.out 3 _ rfl
          have o0 : w18.cell? ⟨po, 0, none⟩ = some (.int .i64 so) := cell_at HO18.out 0 _ rfl
          have o1 : w18.cell? ⟨po, 1, none⟩ = some (.string fo) := cell_at HO18.out 1 _ rfl
          have o2 : w18.cell? ⟨po, 2, none⟩ = some (.slice A5 uo.length c5) := cell_at HO18.out 2 _ rfl
          have o3 : w18.cell? ⟨po, 3, none⟩ = some (.string to_) := cell_at HO18.out 3 _ rfl
          have x0 : w18.cell? ⟨px, 0, none⟩ = some (.int .i64 st) := cell_at HX18.out 0 _ rfl
          have x1 : w18.cell? ⟨px, 1, none⟩ = some (.string f) := cell_at HX18.out 1 _ rfl
          have x2 : w18.cell? ⟨px, 2, none⟩ = some (.slice A7 us.length c7) := cell_at HX18.out 2 _ rfl
          have x3 : w18.cell? ⟨px, 3, none⟩ = some (.string t) := cell_at HX18.out 3 _ rfl
          have g0 : w18.cell? ⟨pg, 0, none⟩ = some (.int .i64 so) := cell_at HG18.out 0 _ rfl
          have g1 : w18.cell? ⟨pg, 1, none⟩ = some (.string fo) := cell_at HG18.out 1 _ rfl
          have g2 : w18.cell? ⟨pg, 2, none⟩ = some (.slice A10 uo.length c10) := cell_at HG18.out 2 _ rfl
          have g3 : w18.cell? ⟨pg, 3, none⟩ = some (.string to_) := cell_at HG18.out 3 _ rfl
          go_wp2_with fail
          refine Calls.mono (markSubmission_any so fo to_ A10 uo c10 _ 1 _ HOG18.out (by omega) (by omega)) ?_
          rintro e w19 ⟨rfl, ho19, hg⟩
          clear d0 d1 d2 d3 o0 o1 o2 o3 x0 x1 x2 x3 g0 g1 g2 g3
          have hs19 := hg.size
          have HB19 := Lib.hid (HB18.out.grown hg HB18.out.size (fun q hq => by have h1 := HLG.out q hq; have := HB18.out.size; omega))
          have HD19 := Lib.hid ((hg.block w.heap.size (by omega) (fun e => by have h1 := HLG.out _ e.symm; have h2 := HHG.out _ e.symm; omega)).trans HD18.out)
          have HO19 := Lib.hid ((hg.block po (by omega) (fun e => by have h1 := HLG.out _ e.symm; have h2 := HHG.out _ e.symm; omega)).trans HO18.out)
          have HX19 := Lib.hid ((hg.block px (by omega) (fun e => by have h1 := HLG.out _ e.symm; have h2 := HHG.out _ e.symm; omega)).trans HX18.out)
          have HG19 := Lib.hid ((hg.block pg (by omega) (fun e => by have h1 := HLG.out _ e.symm; have h2 := HHG.out _ e.symm; omega)).trans HG18.out)
          have HW19 := Lib.hid (HW18.out.keep fun i hi => hg.block i (by omega) (fun e => by have h1 := HLG.out _ e.symm; have h2 := HHG.out _ e.symm; omega))
          clear HB18 HD18 HO18 HX18 HG18 HW18 HOG18 hg
          have HM19 := Lib.hid (Lw.strs_own ho19 (St.marks_len 1 _) (St.marks_sizes 1 uo.length (by omega)))
          have hm19 : ¬ (((1 + uo.length : Nat) : Int) < 0) := by omega
          have HH := Lib.hid (fun w' (hb : Below w19.heap.size w19 w') => heldSubmission_any so fo to_ A10 uo.length c10 1 w' ((HM19.out.below hb).mono hb.size) (by omega) (by omega))
          clear ho19
          generalize ((1 + uo.length : Nat) : Int) = m19 at hm19 HH ⊢
          have HSN : Hid (Below w19.heap.size w19 w19) := Lib.hid (Below.refl _ _)
          have d0 : w19.cell? ⟨w.heap.size, 0, none⟩ = some (.int .i64 st) := cell_at HD19.out 0 _ rfl
          have d1 : w19.cell? ⟨w.heap.size, 1, none⟩ = some (.string f) := cell_at HD19.out 1 _ rfl
          have d2 : w19.cell? ⟨w.heap.size, 2, none⟩ = some (.slice A us.length c) := cell_at HD19.out 2 _ rfl
          have d3 : w19.cell? ⟨w.heap.size, 3, none⟩ = some (.string t) := cell_at HD19.out 3 _ rfl
          have o0 : w19.cell? ⟨po, 0, none⟩ = some (.int .i64 so) := cell_at HO19.out 0 _ rfl
          have o1 : w19.cell? ⟨po, 1, none⟩ = some (.string fo) := cell_at HO19.out 1 _ rfl
          have o2 : w19.cell? ⟨po, 2, none⟩ = some (.slice A5 uo.length c5) := cell_at HO19.out 2 _ rfl
          have o3 : w19.cell? ⟨po, 3, none⟩ = some (.string to_) := cell_at HO19.out 3 _ rfl
          have x0 : w19.cell? ⟨px, 0, none⟩ = some (.int .i64 st) := cell_at HX19.out 0 _ rfl
          have x1 : w19.cell? ⟨px, 1, none⟩ = some (.string f) := cell_at HX19.out 1 _ rfl
          have x2 : w19.cell? ⟨px, 2, none⟩ = some (.slice A7 us.length c7) := cell_at HX19.out 2 _ rfl
          have x3 : w19.cell? ⟨px, 3, none⟩ = some (.string t) := cell_at HX19.out 3 _ rfl
          have g0 : w19.cell? ⟨pg, 0, none⟩ = some (.int .i64 so) := cell_at HG19.out 0 _ rfl
          have g1 : w19.cell? ⟨pg, 1, none⟩ = some (.string fo) := cell_at HG19.out 1 _ rfl
          have g2 : w19.cell? ⟨pg, 2, none⟩ = some (.slice A10 uo.length c10) := cell_at HG19.out 2 _ rfl
          have g3 : w19.cell? ⟨pg, 3, none⟩ = some (.string to_) := cell_at HG19.out 3 _ rfl
          go_wp2_with fail
          refine Calls.mono (HH.out _ HSN.out) ?_
          rintro e w20 ⟨rfl, hb⟩
          have HSP := Lib.hid (HSN.out.trans (hb.mono HSN.out.size))
          clear HSN
          have HSN := HSP
          clear HSP
          clear d0 d1 d2 d3 o0 o1 o2 o3 x0 x1 x2 x3 g0 g1 g2 g3
          have hs20 := hb.size
          have HB20 := Lib.hid (HB19.out.trans (hb.mono HB19.out.size))
          have HD20 := Lib.hid ((hb.block w.heap.size (by omega)).trans HD19.out)
          have HO20 := Lib.hid ((hb.block po (by omega)).trans HO19.out)
          have HX20 := Lib.hid ((hb.block px (by omega)).trans HX19.out)
          have HG20 := Lib.hid ((hb.block pg (by omega)).trans HG19.out)
          have HW20 := Lib.hid (HW19.out.below (hb.mono (by omega)))
          clear HB19 HD19 HO19 HX19 HG19 HW19 hb
          have d0 : w20.cell? ⟨w.heap.size, 0, none⟩ = some (.int .i64 st) := cell_at HD20.out 0 _ rfl
          have d1 : w20.cell? ⟨w.heap.size, 1, none⟩ = some (.string f) := cell_at HD20.out 1 _ rfl
          have d2 : w20.cell? ⟨w.heap.size, 2, none⟩ = some (.slice A us.length c) := cell_at HD20.out 2 _ rfl
          have d3 : w20.cell? ⟨w.heap.size, 3, none⟩ = some (.string t) := cell_at HD20.out 3 _ rfl
          have o0 : w20.cell? ⟨po, 0, none⟩ = some (.int .i64 so) := cell_at HO20.out 0 _ rfl
          have o1 : w20.cell? ⟨po, 1, none⟩ = some (.string fo) := cell_at HO20.out 1 _ rfl
          have o2 : w20.cell? ⟨po, 2, none⟩ = some (.slice A5 uo.length c5) := cell_at HO20.out 2 _ rfl
          have o3 : w20.cell? ⟨po, 3, none⟩ = some (.string to_) := cell_at HO20.out 3 _ rfl
          have x0 : w20.cell? ⟨px, 0, none⟩ = some (.int .i64 st) := cell_at HX20.out 0 _ rfl
          have x1 : w20.cell? ⟨px, 1, none⟩ = some (.string f) := cell_at HX20.out 1 _ rfl
          have x2 : w20.cell? ⟨px, 2, none⟩ = some (.slice A7 us.length c7) := cell_at HX20.out 2 _ rfl
          have x3 : w20.cell? ⟨px, 3, none⟩ = some (.string t) := cell_at HX20.out 3 _ rfl
          have g0 : w20.cell? ⟨pg, 0, none⟩ = some (.int .i64 so) := cell_at HG20.out 0 _ rfl
          have g1 : w20.cell? ⟨pg, 1, none⟩ = some (.string fo) := cell_at HG20.out 1 _ rfl
          have g2 : w20.cell? ⟨pg, 2, none⟩ = some (.slice A10 uo.length c10) := cell_at HG20.out 2 _ rfl
          have g3 : w20.cell? ⟨pg, 3, none⟩ = some (.string to_) := cell_at HG20.out 3 _ rfl
          go_wp2_with fail
          refine Calls.mono (toSubmission_any st f t A us c _ ((h.below HB20.out).mono HB20.out.size) hlen) ?_
          rintro e w21 ⟨A21, c21, rfl, hc21, hc21', h21, hb⟩
          have HSP := Lib.hid (HSN.out.trans (hb.mono HSN.out.size))
          clear HSN
          have HSN := HSP
          clear HSP
          clear d0 d1 d2 d3 o0 o1 o2 o3 x0 x1 x2 x3 g0 g1 g2 g3
          have hs21 := hb.size
          have HB21 := Lib.hid (HB20.out.trans (hb.mono HB20.out.size))
          have HD21 := Lib.hid ((hb.block w.heap.size (by omega)).trans HD20.out)
          have HO21 := Lib.hid ((hb.block po (by omega)).trans HO20.out)
          have HX21 := Lib.hid ((hb.block px (by omega)).trans HX20.out)
          have HG21 := Lib.hid ((hb.block pg (by omega)).trans HG20.out)
          have HW21 := Lib.hid (HW20.out.below (hb.mono (by omega)))
          clear HB20 HD20 HO20 HX20 HG20 HW20 hb
          have HT21 := Lib.hid (h21)
          clear h21
          have d0 : w21.cell? ⟨w.heap.size, 0, none⟩ = some (.int .i64 st) := cell_at HD21.out 0 _ rfl
          have d1 : w21.cell? ⟨w.heap.size, 1, none⟩ = some (.string f) := cell_at HD21.out 1 _ rfl
          have d2 : w21.cell? ⟨w.heap.size, 2, none⟩ = some (.slice A us.length c) := cell_at HD21.out 2 _ rfl
          have d3 : w21.cell? ⟨w.heap.size, 3, none⟩ = some (.string t) := cell_at HD21.out 3 _ rfl
          have o0 : w21.cell? ⟨po, 0, none⟩ = some (.int .i64 so) := cell_at HO21.out 0 _ rfl
          have o1 : w21.cell? ⟨po, 1, none⟩ = some (.string fo) := cell_at HO21.out 1 _ rfl
          have o2 : w21.cell? ⟨po, 2, none⟩ = some (.slice A5 uo.length c5) := cell_at HO21.out 2 _ rfl
          have o3 : w21.cell? ⟨po, 3, none⟩ = some (.string to_) := cell_at HO21.out 3 _ rfl
          have x0 : w21.cell? ⟨px, 0, none⟩ = some (.int .i64 st) := cell_at HX21.out 0 _ rfl
          have x1 : w21.cell? ⟨px, 1, none⟩ = some (.string f) := cell_at HX21.out 1 _ rfl
          have x2 : w21.cell? ⟨px, 2, none⟩ = some (.slice A7 us.length c7) := cell_at HX21.out 2 _ rfl
          have x3 : w21.cell? ⟨px, 3, none⟩ = some (.string t) := cell_at HX21.out 3 _ rfl
          have g0 : w21.cell? ⟨pg, 0, none⟩ = some (.int .i64 so) := cell_at HG21.out 0 _ rfl
          have g1 : w21.cell? ⟨pg, 1, none⟩ = some (.string fo) := cell_at HG21.out 1 _ rfl
          have g2 : w21.cell? ⟨pg, 2, none⟩ = some (.slice A10 uo.length c10) := cell_at HG21.out 2 _ rfl
          have g3 : w21.cell? ⟨pg, 3, none⟩ = some (.string to_) := cell_at HG21.out 3 _ rfl
          go_wp2_with fail
          refine Calls.mono (toUserS_any Au vs cu _ ((hu.below HB21.out).mono HB21.out.size) hvlen) ?_
          rintro e w22 ⟨A22, c22, rfl, hc22, hc22', h22, hb⟩
          have HSP := Lib.hid (HSN.out.trans (hb.mono HSN.out.size))
          clear HSN
          have HSN := HSP
          clear HSP
          clear d0 d1 d2 d3 o0 o1 o2 o3 x0 x1 x2 x3 g0 g1 g2 g3
          have hs22 := hb.size
          have HB22 := Lib.hid (HB21.out.trans (hb.mono HB21.out.size))
          have HD22 := Lib.hid ((hb.block w.heap.size (by omega)).trans HD21.out)
          have HO22 := Lib.hid ((hb.block po (by omega)).trans HO21.out)
          have HX22 := Lib.hid ((hb.block px (by omega)).trans HX21.out)
          have HG22 := Lib.hid ((hb.block pg (by omega)).trans HG21.out)
          have HW22 := Lib.hid (HW21.out.below (hb.mono (by omega)))
          have HT22 := Lib.hid (HT21.out.below (hb.mono (by omega)))
          clear HB21 HD21 HO21 HX21 HG21 HW21 HT21 hb
          have HV22 := Lib.hid h22
          clear h22
          have d0 : w22.cell? ⟨w.heap.size, 0, none⟩ = some (.int .i64 st) := cell_at HD22.out 0 _ rfl
          have d1 : w22.cell? ⟨w.heap.size, 1, none⟩ = some (.string f) := cell_at HD22.out 1 _ rfl
          have d2 : w22.cell? ⟨w.heap.size, 2, none⟩ = some (.slice A us.length c) := cell_at HD22.out 2 _ rfl
          have d3 : w22.cell? ⟨w.heap.size, 3, none⟩ = some (.string t) := cell_at HD22.out 3 _ rfl
          have o0 : w22.cell? ⟨po, 0, none⟩ = some (.int .i64 so) := cell_at HO22.out 0 _ rfl
          have o1 : w22.cell? ⟨po, 1, none⟩ = some (.string fo) := cell_at HO22.out 1 _ rfl
          have o2 : w22.cell? ⟨po, 2, none⟩ = some (.slice A5 uo.length c5) := cell_at HO22.out 2 _ rfl
          have o3 : w22.cell? ⟨po, 3, none⟩ = some (.string to_) := cell_at HO22.out 3 _ rfl
          have x0 : w22.cell? ⟨px, 0, none⟩ = some (.int .i64 st) := cell_at HX22.out 0 _ rfl
          have x1 : w22.cell? ⟨px, 1, none⟩ = some (.string f) := cell_at HX22.out 1 _ rfl
          have x2 : w22.cell? ⟨px, 2, none⟩ = some (.slice A7 us.length c7) := cell_at HX22.out 2 _ rfl
          have x3 : w22.cell? ⟨px, 3, none⟩ = some (.string t) := cell_at HX22.out 3 _ rfl
          have g0 : w22.cell? ⟨pg, 0, none⟩ = some (.int .i64 so) := cell_at HG22.out 0 _ rfl
          have g1 : w22.cell? ⟨pg, 1, none⟩ = some (.string fo) := cell_at HG22.out 1 _ rfl
          have g2 : w22.cell? ⟨pg, 2, none⟩ = some (.slice A10 uo.length c10) := cell_at HG22.out 2 _ rfl
          have g3 : w22.cell? ⟨pg, 3, none⟩ = some (.string to_) := cell_at HG22.out 3 _ rfl
          go_wp2_with fail
          refine Calls.mono (iLine_any st f t A21 us c21 _ (HT22.out.mono (by omega)) hc21 hc21' hf ht A22 vs c22 HV22.out hvl d l hdz hlz m (Po.mem HB22.out hm hpos) HR.out) ?_
          rintro e w23 ⟨A23, c23, rfl, h23, hc23, hc23', hb⟩
          have HSP := Lib.hid (HSN.out.trans (hb.mono HSN.out.size))
          clear HSN
          have HSN := HSP
          clear HSP
          clear d0 d1 d2 d3 o0 o1 o2 o3 x0 x1 x2 x3 g0 g1 g2 g3
          have hs23 := hb.size
          have HB23 := Lib.hid (HB22.out.trans (hb.mono HB22.out.size))
          have HD23 := Lib.hid ((hb.block w.heap.size (by omega)).trans HD22.out)
          have HO23 := Lib.hid ((hb.block po (by omega)).trans HO22.out)
          have HX23 := Lib.hid ((hb.block px (by omega)).trans HX22.out)
          have HG23 := Lib.hid ((hb.block pg (by omega)).trans HG22.out)
          have HW23 := Lib.hid (HW22.out.below (hb.mono (by omega)))
          have HT23 := Lib.hid (HT22.out.below (hb.mono (by omega)))
          clear HB22 HD22 HO22 HX22 HG22 HW22 HT22 hb
          clear HT23 HV22
          have HYL23 := Lib.hid (h23)
          clear h23
          have hF := Below.alloc (Below.refl w23.heap.size w23) (Nat.le_refl _) (.cells #[.int .i64 so, .string fo, .slice A23 uo.length c23, .string to_] 36)
          have HSP := Lib.hid (HSN.out.trans (hF.mono HSN.out.size))
          clear hF
          have hE := Below.alloc (Below.refl w23.heap.size w23) (Nat.le_refl _) (.cells #[.int .i64 so, .string fo, .slice A23 uo.length c23, .string to_] 36)
          have hx := heap_alloc_new w23 (.cells #[.int .i64 so, .string fo, .slice A23 uo.length c23, .string to_] 36)
          go_upto_region 36 with fail
          generalize w23.alloc (.cells #[.int .i64 so, .string fo, .slice A23 uo.length c23, .string to_] 36) = w24 at hE hx HSP ⊢
          have hly := (Array.getElem?_eq_some_iff.1 hx).1
          obtain ⟨py, hp⟩ : ∃ p, p = w23.heap.size := ⟨_, rfl⟩
          have hgy : w23.heap.size ≤ py := by omega
          have hky : py ≤ w23.heap.size := by omega
          rw [← hp] at hx hly ⊢
          clear hp
          have HNEW := Lib.hid hx
          clear hx
          have hs24 := hE.size
          have HB24 := Lib.hid (HB23.out.trans (hE.mono HB23.out.size))
          have HD24 := Lib.hid ((hE.block w.heap.size (by omega)).trans HD23.out)
          have HO24 := Lib.hid ((hE.block po (by omega)).trans HO23.out)
          have HX24 := Lib.hid ((hE.block px (by omega)).trans HX23.out)
          have HG24 := Lib.hid ((hE.block pg (by omega)).trans HG23.out)
          have HW24 := Lib.hid (HW23.out.below (hE.mono (by omega)))
          have HYL24 := Lib.hid (HYL23.out.below (hE.mono (by omega)))
          clear HB23 HD23 HO23 HX23 HG23 HW23 HYL23 hE
          have HY24 := HNEW
          clear HNEW
          clear HSN
          have HSN := HSP
          clear HSP
          have d0 : w24.cell? ⟨w.heap.size, 0, none⟩ = some (.int .i64 st) := cell_at HD24.out 0 _ rfl
          have d1 : w24.cell? ⟨w.heap.size, 1, none⟩ = some (.string f) := cell_at HD24.out 1 _ rfl
          have d2 : w24.cell? ⟨w.heap.size, 2, none⟩ = some (.slice A us.length c) := cell_at HD24.out 2 _ rfl
          have d3 : w24.cell? ⟨w.heap.size, 3, none⟩ = some (.string t) := cell_at HD24.out 3 _ rfl
          have o0 : w24.cell? ⟨po, 0, none⟩ = some (.int .i64 so) := cell_at HO24.out 0 _ rfl
          have o1 : w24.cell? ⟨po, 1, none⟩ = some (.string fo) := cell_at HO24.out 1 _ rfl
          have o2 : w24.cell? ⟨po, 2, none⟩ = some (.slice A5 uo.length c5) := cell_at HO24.out 2 _ rfl
          have o3 : w24.cell? ⟨po, 3, none⟩ = some (.string to_) := cell_at HO24.out 3 _ rfl
          have x0 : w24.cell? ⟨px, 0, none⟩ = some (.int .i64 st) := cell_at HX24.out 0 _ rfl
          have x1 : w24.cell? ⟨px, 1, none⟩ = some (.string f) := cell_at HX24.out 1 _ rfl
          have x2 : w24.cell? ⟨px, 2, none⟩ = some (.slice A7 us.length c7) := cell_at HX24.out 2 _ rfl
          have x3 : w24.cell? ⟨px, 3, none⟩ = some (.string t) := cell_at HX24.out 3 _ rfl
          have g0 : w24.cell? ⟨pg, 0, none⟩ = some (.int .i64 so) := cell_at HG24.out 0 _ rfl
          have g1 : w24.cell? ⟨pg, 1, none⟩ = some (.string fo) := cell_at HG24.out 1 _ rfl
          have g2 : w24.cell? ⟨pg, 2, none⟩ = some (.slice A10 uo.length c10) := cell_at HG24.out 2 _ rfl
          have g3 : w24.cell? ⟨pg, 3, none⟩ = some (.string to_) := cell_at HG24.out 3 _ rfl
          have y0 : w24.cell? ⟨py, 0, none⟩ = some (.int .i64 so) := cell_at HY24.out 0 _ rfl
          have y1 : w24.cell? ⟨py, 1, none⟩ = some (.string fo) := cell_at HY24.out 1 _ rfl
          have y2 : w24.cell? ⟨py, 2, none⟩ = some (.slice A23 uo.length c23) := cell_at HY24.out 2 _ rfl
          have y3 : w24.cell? ⟨py, 3, none⟩ = some (.string to_) := cell_at HY24.out 3 _ rfl
          go_wp2_with fail
          refine Calls.mono (eqSubmission_any so fo to_ A23 A5 uo c23 c5 _ (HYL24.out.mono (by omega)) (HW24.out.mono (by omega)) hulm) ?_
          rintro e w25 ⟨rfl, hb⟩
          have HSP := Lib.hid (HSN.out.trans (hb.mono HSN.out.size))
          clear HSN
          have HSN := HSP
          clear HSP
          clear d0 d1 d2 d3 o0 o1 o2 o3 x0 x1 x2 x3 g0 g1 g2 g3 y0 y1 y2 y3
          have hs25 := hb.size
          have HB25 := Lib.hid (HB24.out.trans (hb.mono HB24.out.size))
          have HD25 := Lib.hid ((hb.block w.heap.size (by omega)).trans HD24.out)
          have HO25 := Lib.hid ((hb.block po (by omega)).trans HO24.out)
          have HX25 := Lib.hid ((hb.block px (by omega)).trans HX24.out)
          have HG25 := Lib.hid ((hb.block pg (by omega)).trans HG24.out)
          have HY25 := Lib.hid ((hb.block py (by omega)).trans HY24.out)
          have HW25 := Lib.hid (HW24.out.below (hb.mono (by omega)))
          have HYL25 := Lib.hid (HYL24.out.below (hb.mono (by omega)))
          clear HB24 HD24 HO24 HX24 HG24 HY24 HW24 HYL24 hb
          have d0 : w25.cell? ⟨w.heap.size, 0, none⟩ = some (.int .i64 st) := cell_at HD25.out 0 _ rfl
          have d1 : w25.cell? ⟨w.heap.size, 1, none⟩ = some (.string f) := cell_at HD25.out 1 _ rfl
          have d2 : w25.cell? ⟨w.heap.size, 2, none⟩ = some (.slice A us.length c) := cell_at HD25.out 2 _ rfl
          have d3 : w25.cell? ⟨w.heap.size, 3, none⟩ = some (.string t) := cell_at HD25.out 3 _ rfl
          have o0 : w25.cell? ⟨po, 0, none⟩ = some (.int .i64 so) := cell_at HO25.out 0 _ rfl
          have o1 : w25.cell? ⟨po, 1, none⟩ = some (.string fo) := cell_at HO25.out 1 _ rfl
          have o2 : w25.cell? ⟨po, 2, none⟩ = some (.slice A5 uo.length c5) := cell_at HO25.out 2 _ rfl
          have o3 : w25.cell? ⟨po, 3, none⟩ = some (.string to_) := cell_at HO25.out 3 _ rfl
          have x0 : w25.cell? ⟨px, 0, none⟩ = some (.int .i64 st) := cell_at HX25.out 0 _ rfl
          have x1 : w25.cell? ⟨px, 1, none⟩ = some (.string f) := cell_at HX25.out 1 _ rfl
          have x2 : w25.cell? ⟨px, 2, none⟩ = some (.slice A7 us.length c7) := cell_at HX25.out 2 _ rfl
          have x3 : w25.cell? ⟨px, 3, none⟩ = some (.string t) := cell_at HX25.out 3 _ rfl
          have g0 : w25.cell? ⟨pg, 0, none⟩ = some (.int .i64 so) := cell_at HG25.out 0 _ rfl
          have g1 : w25.cell? ⟨pg, 1, none⟩ = some (.string fo) := cell_at HG25.out 1 _ rfl
          have g2 : w25.cell? ⟨pg, 2, none⟩ = some (.slice A10 uo.length c10) := cell_at HG25.out 2 _ rfl
          have g3 : w25.cell? ⟨pg, 3, none⟩ = some (.string to_) := cell_at HG25.out 3 _ rfl
          have y0 : w25.cell? ⟨py, 0, none⟩ = some (.int .i64 so) := cell_at HY25.out 0 _ rfl
          have y1 : w25.cell? ⟨py, 1, none⟩ = some (.string fo) := cell_at HY25.out 1 _ rfl
          have y2 : w25.cell? ⟨py, 2, none⟩ = some (.slice A23 uo.length c23) := cell_at HY25.out 2 _ rfl
          have y3 : w25.cell? ⟨py, 3, none⟩ = some (.string to_) := cell_at HY25.out 3 _ rfl
          go_wp2_with fail
          refine Calls.mono (HH.out _ HSN.out) ?_
          rintro e w26 ⟨rfl, hb⟩
          clear d0 d1 d2 d3 o0 o1 o2 o3 x0 x1 x2 x3 g0 g1 g2 g3 y0 y1 y2 y3
          have hs26 := hb.size
          have HB26 := Lib.hid (HB25.out.trans (hb.mono HB25.out.size))
          have HD26 := Lib.hid ((hb.block w.heap.size (by omega)).trans HD25.out)
          have HO26 := Lib.hid ((hb.block po (by omega)).trans HO25.out)
          have HX26 := Lib.hid ((hb.block px (by omega)).trans HX25.out)
          have HG26 := Lib.hid ((hb.block pg (by omega)).trans HG25.out)
          have HY26 := Lib.hid ((hb.block py (by omega)).trans HY25.out)
          have HW26 := Lib.hid (HW25.out.below (hb.mono (by omega)))
          have HYL26 := Lib.hid (HYL25.out.below (hb.mono (by omega)))
          clear HB25 HD25 HO25 HX25 HG25 HY25 HW25 HYL25 hb
          go_wp2_with fail
          go_ret
          exact ⟨rfl, HB26.out⟩
    · have hbd : ¬ (1048576 : Int) < (d.size : Int) := by omega
      have hbl : (1048576 : Int) < (l.size : Int) := by omega
      have hbox : Below w.heap.size w (w.alloc (.cells #[.int .i64 st, .string f, .slice A us.length c, .string t] 68)) := (Below.refl _ _).alloc (Nat.le_refl _) _
      go_enter Tryz.func15, Tryz.ntmps15
      go_wp2_with fail
      go_ret
      exact ⟨rfl, hbox⟩
  · have hbd : (1048576 : Int) < (d.size : Int) := by omega
    have hbox : Below w.heap.size w (w.alloc (.cells #[.int .i64 st, .string f, .slice A us.length c, .string t] 68)) := (Below.refl _ _).alloc (Nat.le_refl _) _
    go_enter Tryz.func15, Tryz.ntmps15
    go_wp2_with fail
    go_ret
    exact ⟨rfl, hbox⟩
end Go.Proofs.YtnbggmmghopphaaGreatDoor
