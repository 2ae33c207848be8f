/- FnExactSubmissionLetter: the walk. -/
import Derived.Test.YtjoohmokjliecaaSbLaw1
import Derived.Test.YtjoohmokjliecaaSbTo
import Derived.Test.YtjoohmokjliecaaSbMk
import Derived.Test.YtjoohmokjliecaaLtEx
namespace Go.Proofs.Ytjoohmokjliecaa
set_option linter.unusedVariables false
open Go.RowKit Go.ChangeShapes Go.WideShapes Go.Deep

theorem Sb.apart {w w' : World} {B2 : Nat} {v1 v2 : Value} {us2 : List ByteArray}
    (ho : St.Own w B2 v2 us2) (h1 : ∀ q, v1.ownBlock = some q → q < B2) (hg : w.grownBy w' v1.ownBlock) : St.Own w' B2 v2 us2 :=
  World.ownsRow.kept ho hg (by
    cases hq : v2.ownBlock with
    | none => exact .inl rfl
    | some q => exact .inr fun e => by have h2 := OwnL.blk ho hq; have h3 := h1 q e.symm; omega)

theorem St.strs_own {w : World} {B : Nat} {A : Option Addr} {us : List ByteArray} {c n : Nat} (ho : St.Own w B (.slice A n c) us) (hn : us.length = n) (hs : ∀ u ∈ us, u.size ≤ maxLen) : AtStrs w w.heap.size A us :=
  at_strs (OwnL.at_ ho St.cells_len hn) hs

/-- what both sides give, in one form -/
theorem Sb.let_calls (st : Int) (f t : ByteArray) (us : List ByteArray) (hf : f.size ≤ maxLen) (ht : t.size ≤ maxLen) (hul : us.length ≤ 1048576) (hus : ∀ u ∈ us, u.size ≤ maxLen) :
    ∃ (g : ByteArray) (ls : List ByteArray) (s : ByteArray) (b : Bool), ls.length ≤ 1048576 ∧ (∀ u ∈ ls, u.size ≤ maxLen) ∧
      (∀ (A : Option Addr) (c : Nat) (w : World), AtStrs w w.heap.size A us → us.length ≤ c → c ≤ maxLen → Calls Try.prog 12 #[.agg #[.int .i64 st, .string f, .slice A us.length c, .string t]] w fun e w' => ∃ A' c', e = .returned (.tuple #[.agg #[.string g, .slice A' ls.length c', .string s], .bool b]) ∧ St.Own w' w.heap.size (.slice A' ls.length c') ls ∧ Below w.heap.size w w') ∧
      (∀ (A : Option Addr) (c : Nat) (w : World), AtStrs w w.heap.size A us → us.length ≤ c → c ≤ maxLen → Calls Try.prog 14 #[.agg #[.int .i64 st, .string f, .slice A us.length c, .string t]] w fun e w' => ∃ A' c', e = .returned (.tuple #[.agg #[.string g, .slice A' ls.length c', .string s], .bool b]) ∧ St.Own w' w.heap.size (.slice A' ls.length c') ls ∧ Below w.heap.size w w') := by
  cases hd : Sb.done st f us t
  · refine ⟨⟨#[]⟩, [], ⟨#[]⟩, false, by simp, by simp, fun A c w h h1 h2 => ?_, fun A c w h h1 h2 => ?_⟩
    · refine (sSubmissionLetter_any st f t A us c w h h1 h2 hf ht hul).mono ?_
      rintro e w' ⟨_, hno, hb⟩
      exact ⟨none, 0, hno hd, World.ownsRow_nil _ _ _ _, hb⟩
    · refine (iSubmissionLetter_any st f t A us c w h h1 h2 hf ht hul).mono ?_
      rintro e w' ⟨_, hno, hb⟩
      exact ⟨none, 0, hno hd, World.ownsRow_nil _ _ _ _, hb⟩
  · refine ⟨f, us, t, true, hul, hus, fun A c w h h1 h2 => ?_, fun A c w h h1 h2 => ?_⟩
    · refine (sSubmissionLetter_any st f t A us c w h h1 h2 hf ht hul).mono ?_
      rintro e w' ⟨hyes, _, hb⟩
      obtain ⟨A', c', he, ho⟩ := hyes hd
      exact ⟨A', c', he, ho, hb⟩
    · refine (iSubmissionLetter_any st f t A us c w h h1 h2 hf ht hul).mono ?_
      rintro e w' ⟨hyes, _, hb⟩
      obtain ⟨A', c', he, ho⟩ := hyes hd
      exact ⟨A', c', he, ho, hb⟩

set_option maxRecDepth 100000 in
set_option maxHeartbeats 6400000 in
theorem walkFnExactSubmissionLetter (st : Int) (f : ByteArray) (A : Option Addr) (us : List ByteArray) (c : Nat) (t : ByteArray) (w : World) (h : AtStrs w w.heap.size A us) (hcap : us.length ≤ c) (hcm : c ≤ maxLen) (hf : f.size ≤ maxLen) (ht : t.size ≤ maxLen) :
    Calls Try.prog 3 #[.agg #[.int .i64 st, .string f, .slice A us.length c, .string t]] w fun e w' => e = .returned (.bool true) ∧ Below w.heap.size w w' := by
  have hn : us.length ≤ maxLen := Nat.le_trans hcap hcm
  have hbox : Below w.heap.size w (w.alloc (.cells #[.int .i64 st, .string f, .slice A us.length c, .string t] 24)) := (Below.refl _ _).alloc (Nat.le_refl _) _
  go_enter Try.func3, Try.ntmps3
  go_wp2_with fail
  refine (szSubmission_any st f t A us c _ _ ((h.below hbox).mono hbox.size) hn hf ht (by omega) (by omega)).mono ?_
  rintro e w1 ⟨r, rfl, hm, hle, hq, hb1⟩
  have HQ := Lib.hid hq
  have HD1 := Lib.hid (boxed hb1)
  have hB1 := unbox hb1
  have hlt1 := (Array.getElem?_eq_some_iff.1 HD1.out).1
  clear hq
  by_cases hneg : r < 0
  · go_wp2_with fail
    go_ret
    exact ⟨rfl, hB1⟩
  · have hlen := HQ.out (by omega)
    obtain ⟨g, ls, s, b, HR⟩ : ∃ g ls s b, Hid _ := by
      obtain ⟨g, ls, s, b, hR⟩ := Sb.let_calls st f t us hf ht hlen h.2
      exact ⟨g, ls, s, b, Lib.hid hR⟩
    have hlsl := HR.out.1
    have hlsm : ls.length ≤ maxLen := by unfold maxLen; omega
    have HSS := Lib.hid HR.out.2.1
    have h1 := (h.below hB1).mono hB1.size
    have d0 : w1.cell? ⟨w.heap.size, 0, none⟩ = some (.int .i64 st) := cell_at HD1.out 0 _ rfl
    have d1 : w1.cell? ⟨w.heap.size, 1, none⟩ = some (.string f) := cell_at HD1.out 1 _ rfl
    have d2 : w1.cell? ⟨w.heap.size, 2, none⟩ = some (.slice A us.length c) := cell_at HD1.out 2 _ rfl
    have d3 : w1.cell? ⟨w.heap.size, 3, none⟩ = some (.string t) := cell_at HD1.out 3 _ rfl
    go_wp2_with fail
    refine (toSubmission_any st f t A us c _ h1 hlen).mono ?_
    rintro e w2 ⟨A2, c2, rfl, hc2, hc2', h2, hb2⟩
    go_wp2_with fail
    refine (HR.out.2.2.1 A2 c2 _ h2 hc2 hc2').mono ?_
    rintro e w3 ⟨A3, c3, rfl, ho3, hb3⟩
    have hB23 := hb2.trans (hb3.mono hb2.size)
    have hB3 := hB1.trans (hB23.mono hB1.size)
    have HW3 := Lib.hid (St.strs_own ho3 rfl HSS.out)
    have HD3 := Lib.hid ((hB23.block w.heap.size hlt1).trans HD1.out)
    have hlt3 : w.heap.size < w3.heap.size := Nat.lt_of_lt_of_le hlt1 hB23.size
    have hE4 := Below.alloc (Below.refl w3.heap.size w3) (Nat.le_refl _) (.cells #[.string g, .slice A3 ls.length c3, .string s] 27)
    have hx4 := heap_alloc_new w3 (.cells #[.string g, .slice A3 ls.length c3, .string s] 27)
    clear d0 d1 d2 d3 h2 hb2 hb3 hb1 ho3
    go_upto_region 6 with fail
    generalize w3.alloc (.cells #[.string g, .slice A3 ls.length c3, .string s] 27) = w4 at hE4 hx4 ⊢
    have HL4 := Lib.hid hx4
    have hlt4 := (Array.getElem?_eq_some_iff.1 hx4).1
    clear hx4
    obtain ⟨p4, hp4⟩ : ∃ p, p = w3.heap.size := ⟨_, rfl⟩
    have hp4' : w3.heap.size ≤ p4 := by omega
    rw [← hp4] at hlt4 HL4 ⊢
    have hp40 : w.heap.size < p4 := by omega
    clear hp4
    have hB4 := hB3.trans (hE4.mono hB3.size)
    have HW4 := Lib.hid (HW3.out.below (hE4.mono (by omega)))
    have HD4 := Lib.hid ((hE4.block w.heap.size hlt3).trans HD3.out)
    clear hE4 HW3 HD3
    have d0 : w4.cell? ⟨w.heap.size, 0, none⟩ = some (.int .i64 st) := cell_at HD4.out 0 _ rfl
    have d1 : w4.cell? ⟨w.heap.size, 1, none⟩ = some (.string f) := cell_at HD4.out 1 _ rfl
    have d2 : w4.cell? ⟨w.heap.size, 2, none⟩ = some (.slice A us.length c) := cell_at HD4.out 2 _ rfl
    have d3 : w4.cell? ⟨w.heap.size, 3, none⟩ = some (.string t) := cell_at HD4.out 3 _ rfl
    go_wp2_with fail
    refine (toSubmission_own st f t A us c _ ((h.below hB4).mono hB4.size) hlen).mono ?_
    rintro e w5 ⟨A5, c5, rfl, hc5, hc5', ho5, hb5⟩
    have hB5 := hB4.trans (hb5.mono hB4.size)
    have hlt4' : w.heap.size < w4.heap.size := by omega
    have HW5 := Lib.hid (HW4.out.below (hb5.mono (by omega)))
    have HD5 := Lib.hid ((hb5.block w.heap.size hlt4').trans HD4.out)
    have HL5 := Lib.hid ((hb5.block p4 hlt4).trans HL4.out)
    have hlt45 : p4 < w5.heap.size := Nat.lt_of_lt_of_le hlt4 hb5.size
    have hs45 := hb5.size
    have HQ5 : Hid (∀ q, (Value.slice A5 us.length c5).ownBlock = some q → q < w5.heap.size) := Lib.hid fun q hq => OwnL.blt ho5 hq
    have HQ5' : Hid (∀ q, (Value.slice A5 us.length c5).ownBlock = some q → w4.heap.size ≤ q) := Lib.hid fun q hq => OwnL.blk ho5 hq
    have hE6 := Below.alloc (Below.refl w5.heap.size w5) (Nat.le_refl _) (.cells #[.int .i64 st, .string f, .slice A5 us.length c5, .string t] 30)
    have hx6 := heap_alloc_new w5 (.cells #[.int .i64 st, .string f, .slice A5 us.length c5, .string t] 30)
    clear d0 d1 d2 d3 hb5 HW4 HD4 HL4
    go_upto_region 7 with fail
    generalize w5.alloc (.cells #[.int .i64 st, .string f, .slice A5 us.length c5, .string t] 30) = w6 at hE6 hx6 ⊢
    have HX6 := Lib.hid hx6
    have hlt6 := (Array.getElem?_eq_some_iff.1 hx6).1
    clear hx6
    obtain ⟨p6, hp6⟩ : ∃ p, p = w5.heap.size := ⟨_, rfl⟩
    rw [← hp6] at hlt6 HX6 ⊢
    have hp46 : p4 < p6 := by omega
    have hp5w : p6 ≤ w5.heap.size := by omega
    have hw5p : w5.heap.size ≤ p6 := by omega
    clear hp6
    have hB6 := hB5.trans (hE6.mono hB5.size)
    have ho56 := OwnL.below ho5 hE6
    have HW6 := Lib.hid (HW5.out.below (hE6.mono (by omega)))
    have HD6 := Lib.hid ((hE6.block w.heap.size (by omega)).trans HD5.out)
    have HL6 := Lib.hid ((hE6.block p4 hlt45).trans HL5.out)
    have HU6 := Lib.hid (St.strs_own ho56 rfl h.2)
    have hs56 := hE6.size
    clear hE6 HW5 HD5 HL5 ho5
    have x0 : w6.cell? ⟨p6, 0, none⟩ = some (.int .i64 st) := cell_at HX6.out 0 _ rfl
    have x1 : w6.cell? ⟨p6, 1, none⟩ = some (.string f) := cell_at HX6.out 1 _ rfl
    have x2 : w6.cell? ⟨p6, 2, none⟩ = some (.slice A5 us.length c5) := cell_at HX6.out 2 _ rfl
    have x3 : w6.cell? ⟨p6, 3, none⟩ = some (.string t) := cell_at HX6.out 3 _ rfl
    go_wp2_with fail
    refine (HR.out.2.2.2 A5 c5 _ HU6.out hc5 hc5').mono ?_
    rintro e w7 ⟨A7, c7, rfl, ho7, hb7⟩
    have hB7 := hB6.trans (hb7.mono hB6.size)
    have ho57 := OwnL.below ho56 hb7
    have HW7 := Lib.hid (HW6.out.below (hb7.mono (by omega)))
    have HD7 := Lib.hid ((hb7.block w.heap.size (by omega)).trans HD6.out)
    have HL7 := Lib.hid ((hb7.block p4 (by omega)).trans HL6.out)
    have HX7 := Lib.hid ((hb7.block p6 hlt6).trans HX6.out)
    have hs67 := hb7.size
    have HQ7 : Hid (∀ q, (Value.slice A7 ls.length c7).ownBlock = some q → w6.heap.size ≤ q) := Lib.hid fun q hq => OwnL.blk ho7 hq
    have HQ7' : Hid (∀ q, (Value.slice A7 ls.length c7).ownBlock = some q → q < w7.heap.size) := Lib.hid fun q hq => OwnL.blt ho7 hq
    have hE8 := Below.alloc (Below.refl w7.heap.size w7) (Nat.le_refl _) (.cells #[.string g, .slice A7 ls.length c7, .string s] 27)
    have hx8 := heap_alloc_new w7 (.cells #[.string g, .slice A7 ls.length c7, .string s] 27)
    clear x0 x1 x2 x3 hb7 HW6 HD6 HL6 HX6 ho56
    go_upto_region 8 with fail
    generalize w7.alloc (.cells #[.string g, .slice A7 ls.length c7, .string s] 27) = w8 at hE8 hx8 ⊢
    have HG8 := Lib.hid hx8
    have hlt8 := (Array.getElem?_eq_some_iff.1 hx8).1
    clear hx8
    obtain ⟨p8, hp8⟩ : ∃ p, p = w7.heap.size := ⟨_, rfl⟩
    rw [← hp8] at hlt8 HG8 ⊢
    have hp68 : p6 < p8 := by omega
    have hw7p : w7.heap.size ≤ p8 := by omega
    have hw7p' : p8 ≤ w7.heap.size := by omega
    clear hp8
    have hB8 := hB7.trans (hE8.mono hB7.size)
    have ho58 := OwnL.below ho57 hE8
    have ho78 := OwnL.below ho7 hE8
    have HW8 := Lib.hid (HW7.out.below (hE8.mono (by omega)))
    have HD8 := Lib.hid ((hE8.block w.heap.size (by omega)).trans HD7.out)
    have HL8 := Lib.hid ((hE8.block p4 (by omega)).trans HL7.out)
    have HX8 := Lib.hid ((hE8.block p6 (by omega)).trans HX7.out)
    have HV8 := Lib.hid (St.strs_own ho78 rfl HSS.out)
    have hs78 := hE8.size
    clear hE8 HW7 HD7 HL7 HX7 ho57 ho7
    have l0 : w8.cell? ⟨p4, 0, none⟩ = some (.string g) := cell_at HL8.out 0 _ rfl
    have l1 : w8.cell? ⟨p4, 1, none⟩ = some (.slice A3 ls.length c3) := cell_at HL8.out 1 _ rfl
    have l2 : w8.cell? ⟨p4, 2, none⟩ = some (.string s) := cell_at HL8.out 2 _ rfl
    have g0 : w8.cell? ⟨p8, 0, none⟩ = some (.string g) := cell_at HG8.out 0 _ rfl
    have g1 : w8.cell? ⟨p8, 1, none⟩ = some (.slice A7 ls.length c7) := cell_at HG8.out 1 _ rfl
    have g2 : w8.cell? ⟨p8, 2, none⟩ = some (.string s) := cell_at HG8.out 2 _ rfl
    go_wp2_with fail
    refine Calls.mono (eqLetter_any g s A7 A3 ls c7 c3 _ HV8.out (HW8.out.mono (by omega)) hlsm) ?_
    rintro e w9 ⟨rfl, hb9⟩
    have hB9 := hB8.trans (hb9.mono hB8.size)
    have ho59 := OwnL.below ho58 hb9
    have ho79 := OwnL.below ho78 hb9
    have HW9 := Lib.hid (HW8.out.below (hb9.mono (by omega)))
    have HD9 := Lib.hid ((hb9.block w.heap.size (by omega)).trans HD8.out)
    have HL9 := Lib.hid ((hb9.block p4 (by omega)).trans HL8.out)
    have HX9 := Lib.hid ((hb9.block p6 (by omega)).trans HX8.out)
    have HG9 := Lib.hid ((hb9.block p8 hlt8).trans HG8.out)
    have hs89 := hb9.size
    have HU9 := Lib.hid (St.strs_own ho59 rfl h.2)
    clear hb9 l0 l1 l2 g0 g1 g2 HW8 HD8 HL8 HX8 HG8 ho58 ho78
    have d0 : w9.cell? ⟨w.heap.size, 0, none⟩ = some (.int .i64 st) := cell_at HD9.out 0 _ rfl
    have d1 : w9.cell? ⟨w.heap.size, 1, none⟩ = some (.string f) := cell_at HD9.out 1 _ rfl
    have d2 : w9.cell? ⟨w.heap.size, 2, none⟩ = some (.slice A us.length c) := cell_at HD9.out 2 _ rfl
    have d3 : w9.cell? ⟨w.heap.size, 3, none⟩ = some (.string t) := cell_at HD9.out 3 _ rfl
    have x0 : w9.cell? ⟨p6, 0, none⟩ = some (.int .i64 st) := cell_at HX9.out 0 _ rfl
    have x1 : w9.cell? ⟨p6, 1, none⟩ = some (.string f) := cell_at HX9.out 1 _ rfl
    have x2 : w9.cell? ⟨p6, 2, none⟩ = some (.slice A5 us.length c5) := cell_at HX9.out 2 _ rfl
    have x3 : w9.cell? ⟨p6, 3, none⟩ = some (.string t) := cell_at HX9.out 3 _ rfl
    have H9 : Hid (AtStrs w9.drew w9.drew.heap.size A us) := Lib.hid ((h.below hB9).mono hB9.size)
    have hltx : p6 < w9.heap.size := by omega
    go_upto_region 10 with fail
    go_cut [45] (fun v wx => v = .bool false ∧ Below w9.heap.size w9 wx)
    case first =>
      go_region_with ((first
        | (go_at_call 13; refine (toSubmission_any st f t A us c _ H9.out hlen).mono ?_; rintro e wa ⟨Aa, ca, rfl, hca, hca', ha, hba⟩; have hba' : Below w9.heap.size w9 wa := ⟨hba.os, hba.tape, hba.output, hba.size, hba.block⟩; have x0 := (hba'.cell (p := ⟨p6, 0, none⟩) hltx).trans x0; have x1 := (hba'.cell (p := ⟨p6, 1, none⟩) hltx).trans x1; have x2 := (hba'.cell (p := ⟨p6, 2, none⟩) hltx).trans x2; have x3 := (hba'.cell (p := ⟨p6, 3, none⟩) hltx).trans x3)
        | (go_at_call 16; refine (eqSubmission_any st f t A5 Aa us c5 ca _ ((HU9.out.below hba').mono hba'.size) ha hn).mono ?_; rintro e wb ⟨rfl, hbb⟩)))
      all_goals
        go_wp2_with fail
        go_meet
        exact ⟨rfl, hba'.trans (hbb.mono hba'.size)⟩
    case rest =>
      obtain ⟨rfl, hb10⟩ := hcut
      have hB10 := hB9.trans (hb10.mono hB9.size)
      have ho510 := OwnL.below ho59 hb10
      have ho710 := OwnL.below ho79 hb10
      have HW10 := Lib.hid (HW9.out.below (hb10.mono (by omega)))
      have HD10 := Lib.hid ((hb10.block w.heap.size (by omega)).trans HD9.out)
      have HL10 := Lib.hid ((hb10.block p4 (by omega)).trans HL9.out)
      have HX10 := Lib.hid ((hb10.block p6 (by omega)).trans HX9.out)
      have HG10 := Lib.hid ((hb10.block p8 (by omega)).trans HG9.out)
      have hs910 := hb10.size
      clear hb10 d0 d1 d2 d3 x0 x1 x2 x3 HW9 HD9 HL9 HX9 HG9 ho59 ho79 H9 HU9
      obtain ⟨w10, hw10⟩ : ∃ w10, w10 = wc := ⟨_, rfl⟩
      subst hw10
      have x0 : w10.cell? ⟨p6, 0, none⟩ = some (.int .i64 st) := cell_at HX10.out 0 _ rfl
      have x1 : w10.cell? ⟨p6, 1, none⟩ = some (.string f) := cell_at HX10.out 1 _ rfl
      have x2 : w10.cell? ⟨p6, 2, none⟩ = some (.slice A5 us.length c5) := cell_at HX10.out 2 _ rfl
      have x3 : w10.cell? ⟨p6, 3, none⟩ = some (.string t) := cell_at HX10.out 3 _ rfl
      go_wp2_with fail
      refine Calls.mono (markSubmission_any st f t A5 us c5 _ 1 _ ho510 (by omega) (by omega)) ?_
      rintro e w11 ⟨rfl, _, hg11⟩
      have hs1011 := hg11.size
      have ho711 := Sb.apart (v1 := .slice A5 us.length c5) ho710 (fun q hq => Nat.lt_of_lt_of_le (HQ5.out q hq) hs56) hg11
      have hB11 := hB10.grown hg11 hB10.size (fun q hq => Nat.le_trans (by omega) (HQ5'.out q hq))
      have HW11 : Hid (AtStrs w11 w3.heap.size A3 ls) := Lib.hid (HW10.out.keep fun i hi => hg11.block i (by omega) (fun e => by have := HQ5'.out i e.symm; omega))
      have HD11 := Lib.hid ((hg11.block w.heap.size (by omega) (fun e => by have := HQ5'.out _ e.symm; omega)).trans HD10.out)
      have HL11 := Lib.hid ((hg11.block p4 (by omega) (fun e => by have := HQ5'.out _ e.symm; omega)).trans HL10.out)
      have HG11 := Lib.hid ((hg11.block p8 (by omega) (fun e => by have := HQ5.out _ e.symm; omega)).trans HG10.out)
      have HV11 := Lib.hid (St.strs_own ho711 rfl HSS.out)
      have hk11 : ¬ (((1 + us.length : Nat) : Int) < 0) := by omega
      clear hg11 HW10 HD10 HL10 HX10 HG10 ho510 ho710 x0 x1 x2 x3
      generalize ((1 + us.length : Nat) : Int) = k11 at hk11 ⊢
      have l0 : w11.cell? ⟨p4, 0, none⟩ = some (.string g) := cell_at HL11.out 0 _ rfl
      have l1 : w11.cell? ⟨p4, 1, none⟩ = some (.slice A3 ls.length c3) := cell_at HL11.out 1 _ rfl
      have l2 : w11.cell? ⟨p4, 2, none⟩ = some (.string s) := cell_at HL11.out 2 _ rfl
      have g0 : w11.cell? ⟨p8, 0, none⟩ = some (.string g) := cell_at HG11.out 0 _ rfl
      have g1 : w11.cell? ⟨p8, 1, none⟩ = some (.slice A7 ls.length c7) := cell_at HG11.out 1 _ rfl
      have g2 : w11.cell? ⟨p8, 2, none⟩ = some (.string s) := cell_at HG11.out 2 _ rfl
      go_wp2_with fail
      refine Calls.mono (eqLetter_any g s A7 A3 ls c7 c3 _ HV11.out (HW11.out.mono (by omega)) hlsm) ?_
      rintro e w12 ⟨rfl, hb12⟩
      have hB12 := hB11.trans (hb12.mono hB11.size)
      have ho712 := OwnL.below ho711 hb12
      have HW12 := Lib.hid (HW11.out.below (hb12.mono (by omega)))
      have HD12 := Lib.hid ((hb12.block w.heap.size (by omega)).trans HD11.out)
      have HL12 := Lib.hid ((hb12.block p4 (by omega)).trans HL11.out)
      have HG12 := Lib.hid ((hb12.block p8 (by omega)).trans HG11.out)
      have hs1112 := hb12.size
      clear hb12 HW11 HD11 HL11 HG11 ho711 l0 l1 l2 g0 g1 g2
      have g0 : w12.cell? ⟨p8, 0, none⟩ = some (.string g) := cell_at HG12.out 0 _ rfl
      have g1 : w12.cell? ⟨p8, 1, none⟩ = some (.slice A7 ls.length c7) := cell_at HG12.out 1 _ rfl
      have g2 : w12.cell? ⟨p8, 2, none⟩ = some (.string s) := cell_at HG12.out 2 _ rfl
      go_wp2_with fail
      refine Calls.mono (markLetter_any g s A7 ls c7 _ 1 _ ho712 (by omega) (by omega)) ?_
      rintro e w13 ⟨rfl, ho713, hg13⟩
      have hs1213 := hg13.size
      have hB13 := hB12.grown hg13 hB12.size (fun q hq => Nat.le_trans (by omega) (HQ7.out q hq))
      have HW13 : Hid (AtStrs w13 w3.heap.size A3 ls) := Lib.hid (HW12.out.keep fun i hi => hg13.block i (by omega) (fun e => by have := HQ7.out i e.symm; omega))
      have HD13 := Lib.hid ((hg13.block w.heap.size (by omega) (fun e => by have := HQ7.out _ e.symm; omega)).trans HD12.out)
      have HL13 := Lib.hid ((hg13.block p4 (by omega) (fun e => by have := HQ7.out _ e.symm; omega)).trans HL12.out)
      have HG13 := Lib.hid ((hg13.block p8 (by omega) (fun e => by have := HQ7'.out _ e.symm; omega)).trans HG12.out)
      have HM13 := Lib.hid (St.strs_own ho713 (St.marks_len 1 _) (St.marks_sizes 1 ls.length (by omega)))
      have hm13 : ¬ (((1 + ls.length : Nat) : Int) < 0) := by omega
      have HH := Lib.hid (fun w' (hb : Below w13.heap.size w13 w') => heldLetter_any g s A7 ls.length c7 1 w' ((HM13.out.below hb).mono hb.size) (by omega) (by omega))
      clear hg13 HW12 HD12 HL12 HG12 ho712 ho713 g0 g1 g2
      generalize ((1 + ls.length : Nat) : Int) = m13 at hm13 HH ⊢
      have g0 : w13.cell? ⟨p8, 0, none⟩ = some (.string g) := cell_at HG13.out 0 _ rfl
      have g1 : w13.cell? ⟨p8, 1, none⟩ = some (.slice A7 ls.length c7) := cell_at HG13.out 1 _ rfl
      have g2 : w13.cell? ⟨p8, 2, none⟩ = some (.string s) := cell_at HG13.out 2 _ rfl
      go_wp2_with fail
      refine Calls.mono (HH.out _ (Below.refl _ _)) ?_
      rintro e w14 ⟨rfl, hb14⟩
      have hB14 := hB13.trans (hb14.mono hB13.size)
      have HW14 := Lib.hid (HW13.out.below (hb14.mono (by omega)))
      have HD14 := Lib.hid ((hb14.block w.heap.size (by omega)).trans HD13.out)
      have HL14 := Lib.hid ((hb14.block p4 (by omega)).trans HL13.out)
      have HG14 := Lib.hid ((hb14.block p8 (by omega)).trans HG13.out)
      have hs1314 := hb14.size
      clear HW13 HD13 HL13 HG13 g0 g1 g2
      have d0 : w14.cell? ⟨w.heap.size, 0, none⟩ = some (.int .i64 st) := cell_at HD14.out 0 _ rfl
      have d1 : w14.cell? ⟨w.heap.size, 1, none⟩ = some (.string f) := cell_at HD14.out 1 _ rfl
      have d2 : w14.cell? ⟨w.heap.size, 2, none⟩ = some (.slice A us.length c) := cell_at HD14.out 2 _ rfl
      have d3 : w14.cell? ⟨w.heap.size, 3, none⟩ = some (.string t) := cell_at HD14.out 3 _ rfl
      go_wp2_with fail
      refine Calls.mono (toSubmission_any st f t A us c _ ((h.below hB14).mono hB14.size) hlen) ?_
      rintro e w15 ⟨A15, c15, rfl, hc15, hc15', h15, hb15⟩
      have hB15 := hB14.trans (hb15.mono hB14.size)
      have hs1415 := hb15.size
      go_wp2_with fail
      refine Calls.mono (HR.out.2.2.2 A15 c15 _ h15 hc15 hc15') ?_
      rintro e w16 ⟨A16, c16, rfl, ho16, hb16⟩
      have hB16 := hB15.trans (hb16.mono hB15.size)
      have hs1516 := hb16.size
      have hbb := hb15.trans (hb16.mono hb15.size)
      have HW16 := Lib.hid (HW14.out.below (hbb.mono (by omega)))
      have HL16 := Lib.hid ((hbb.block p4 (by omega)).trans HL14.out)
      have HG16 := Lib.hid ((hbb.block p8 (by omega)).trans HG14.out)
      have hD16 := hb14.trans (hbb.mono hs1314)
      clear hbb hb15 hb16 hb14 d0 d1 d2 d3 h15 HW14 HD14 HL14 HG14
      have hE17 := Below.alloc (Below.refl w16.heap.size w16) (Nat.le_refl _) (.cells #[.string g, .slice A16 ls.length c16, .string s] 27)
      have hx17 := heap_alloc_new w16 (.cells #[.string g, .slice A16 ls.length c16, .string s] 27)
      go_upto_region 25 with fail
      generalize w16.alloc (.cells #[.string g, .slice A16 ls.length c16, .string s] 27) = w17 at hE17 hx17 ⊢
      have HH17 := Lib.hid hx17
      clear hx17
      obtain ⟨p17, hp17⟩ : ∃ p, p = w16.heap.size := ⟨_, rfl⟩
      rw [← hp17] at HH17 ⊢
      clear hp17
      have hs1617 := hE17.size
      have hB17 := hB16.trans (hE17.mono hB16.size)
      have ho17 := OwnL.below ho16 hE17
      have HW17 := Lib.hid (HW16.out.below (hE17.mono (by omega)))
      have HL17 := Lib.hid ((hE17.block p4 (by omega)).trans HL16.out)
      have HG17 := Lib.hid ((hE17.block p8 (by omega)).trans HG16.out)
      have hD17 := hD16.trans (hE17.mono (by omega))
      have HV17 := Lib.hid (St.strs_own ho17 rfl HSS.out)
      clear hE17 hD16 HW16 HL16 HG16 ho16 ho17
      have l0 : w17.cell? ⟨p4, 0, none⟩ = some (.string g) := cell_at HL17.out 0 _ rfl
      have l1 : w17.cell? ⟨p4, 1, none⟩ = some (.slice A3 ls.length c3) := cell_at HL17.out 1 _ rfl
      have l2 : w17.cell? ⟨p4, 2, none⟩ = some (.string s) := cell_at HL17.out 2 _ rfl
      have y0 : w17.cell? ⟨p17, 0, none⟩ = some (.string g) := cell_at HH17.out 0 _ rfl
      have y1 : w17.cell? ⟨p17, 1, none⟩ = some (.slice A16 ls.length c16) := cell_at HH17.out 1 _ rfl
      have y2 : w17.cell? ⟨p17, 2, none⟩ = some (.string s) := cell_at HH17.out 2 _ rfl
      go_wp2_with fail
      refine Calls.mono (eqLetter_any g s A16 A3 ls c16 c3 _ HV17.out (HW17.out.mono (by omega)) hlsm) ?_
      rintro e w18 ⟨rfl, hb18⟩
      have hB18 := hB17.trans (hb18.mono hB17.size)
      have HG18 := Lib.hid ((hb18.block p8 (by omega)).trans HG17.out)
      have hD18 := hD17.trans (hb18.mono hD17.size)
      clear hb18 HW17 HL17 HG17 l0 l1 l2 y0 y1 y2
      have g0 : w18.cell? ⟨p8, 0, none⟩ = some (.string g) := cell_at HG18.out 0 _ rfl
      have g1 : w18.cell? ⟨p8, 1, none⟩ = some (.slice A7 ls.length c7) := cell_at HG18.out 1 _ rfl
      have g2 : w18.cell? ⟨p8, 2, none⟩ = some (.string s) := cell_at HG18.out 2 _ rfl
      go_wp2_with fail
      refine Calls.mono (HH.out _ hD18) ?_
      rintro e w19 ⟨rfl, hb19⟩
      go_wp2_with fail
      go_ret
      exact ⟨rfl, hB18.trans (hb19.mono hB18.size)⟩

end Go.Proofs.Ytjoohmokjliecaa
