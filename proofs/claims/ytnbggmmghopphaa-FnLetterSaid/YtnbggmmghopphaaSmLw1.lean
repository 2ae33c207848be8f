/- FnLetterStage, FnLetter: the walks. (Printed by mksmn.py.) -/
import Derived.Test.YtnbggmmghopphaaSmL
import Derived.Test.YtnbggmmghopphaaSmN
import Derived.Test.YtnbggmmghopphaaLawKit
import Derived.Test.YtnbggmmghopphaaLtW
namespace Go.Proofs.Ytnbggmmghopphaa
set_option linter.unusedVariables false
open Go.RowKit

theorem Sb.let_strs {w w' : World} {A : Option Addr} {us : List ByteArray} {c : Nat} (ho : St.Own w' w.heap.size (.slice A us.length c) us) (hs : ∀ u ∈ us, u.size ≤ maxLen) : AtStrs w' w'.heap.size A us := at_strs (OwnL.at_ ho St.cells_len rfl) hs
theorem Sb.let_ok {st : Int} {f t : ByteArray} {us : List ByteArray} (h1 : Sb.ok st f us t = true) (h2 : st = 5) (h3 : t.size ≤ 20) : Lt.ok f us t = true := by
  rw [Sb.ok5 h2] at h1
  simp only [Bool.and_eq_true] at h1
  rw [Lt.yes h1.1 (by simpa [Sb.recv] using h1.2.1), decide_eq_true h3]

set_option maxRecDepth 100000 in
set_option maxHeartbeats 6400000 in
theorem walkFnLetterStage (a : Option Addr) (len cap : Nat) (w : World) (h : Bytes w a len cap) :
    Calls Try.prog 3 #[.slice a len cap] w fun e w' => e = .returned (.bool true) ∧ Below w.heap.size w w' := by
  by_cases hbig : len ≤ 1048576
  · have hbi : ¬ (1048576 : Int) < (len : Int) := by omega
    go_enter Try.func3, Try.ntmps3
    go_wp2_with fail
    refine Calls.mono (drawSubmissionLetter_any a len cap _ h) ?_
    rintro e w1 ⟨st, f, A, us, c, t, hsm, hcap, hcm, rfl, hat, hb1⟩
    have hx2 := heap_alloc_new w1 (.cells #[.int .i64 st, .string f, .slice A us.length c, .string t] 25)
    have hE := Below.alloc (Below.refl w1.heap.size w1) (Nat.le_refl _) (.cells #[.int .i64 st, .string f, .slice A us.length c, .string t] 25)
    have hs2 : w1.heap.size < (w1.alloc (.cells #[.int .i64 st, .string f, .slice A us.length c, .string t] 25)).heap.size := by simp
    go_upto_region 4 with fail
    generalize w1.alloc (.cells #[.int .i64 st, .string f, .slice A us.length c, .string t] 25) = w2 at hx2 hE hs2 ⊢
    obtain ⟨b2, hb2⟩ : ∃ b, b = w1.heap.size := ⟨_, rfl⟩
    have HAT := Lib.hid ((hat.below hE).mono hE.size)
    have HB2 := Lib.hid (hb1.trans (hE.mono hb1.size))
    rw [← hb2] at hx2 hs2 ⊢
    have HX2 := Lib.hid hx2
    have hul : us.length ≤ 1048576 := (Sm.small_max hsm).2.2
    have hfm := (Sm.small_max hsm).1
    have htm := (Sm.small_max hsm).2.1
    have HUS : Hid (∀ u ∈ us, u.size ≤ maxLen) := Lib.hid hat.2
    have hnl : us.length ≤ maxLen := Nat.le_trans hcap hcm
    clear hb2 hb1 hE hat hsm hx2
    have d0 : w2.cell? ⟨b2, 0, none⟩ = some (.int .i64 st) := cell_at HX2.out 0 _ rfl
    have d1 : w2.cell? ⟨b2, 1, none⟩ = some (.string f) := cell_at HX2.out 1 _ rfl
    have d2 : w2.cell? ⟨b2, 2, none⟩ = some (.slice A us.length c) := cell_at HX2.out 2 _ rfl
    have d3 : w2.cell? ⟨b2, 3, none⟩ = some (.string t) := cell_at HX2.out 3 _ rfl
    cases n1 : Sb.ok st f us t
    · have HD := Lib.hid (Sb.done_no1 n1)
      have N1 := Lib.hid n1
      clear n1
      go_wp2_with fail
      refine Calls.mono (iSubmissionLetter_any st f t A us c _ HAT.out hcap hcm hfm htm hul) ?_
      rintro e w3 ⟨_, hno, hb3⟩
      obtain rfl := hno HD.out
      clear hno
      have hx4 := heap_alloc_new w3 (.cells #[.string ⟨#[]⟩, .slice none 0 0, .string ⟨#[]⟩] 28)
      have hE4 := Below.alloc (Below.refl w3.heap.size w3) (Nat.le_refl _) (.cells #[.string ⟨#[]⟩, .slice none 0 0, .string ⟨#[]⟩] 28)
      have hs4 : w3.heap.size < (w3.alloc (.cells #[.string ⟨#[]⟩, .slice none 0 0, .string ⟨#[]⟩] 28)).heap.size := by simp
      clear d0 d1 d2 d3
      go_upto_region 5 with fail
      generalize w3.alloc (.cells #[.string ⟨#[]⟩, .slice none 0 0, .string ⟨#[]⟩] 28) = w4 at hx4 hE4 hs4 ⊢
      have hE24 := hb3.trans (hE4.mono hb3.size)
      obtain ⟨b4, hb4⟩ : ∃ b, b = w3.heap.size := ⟨_, rfl⟩
      have hs34 : w2.heap.size ≤ b4 := by have := hb3.size; omega
      have HAT4 := Lib.hid ((HAT.out.below hE24).mono hE24.size)
      have HB4 := Lib.hid (HB2.out.trans (hE24.mono HB2.out.size))
      have HX4s := Lib.hid ((hE24.block b2 hs2).trans HX2.out)
      rw [← hb4] at hx4 hs4 ⊢
      have HX4 := Lib.hid hx4
      clear hb4 hE4 hE24 hb3 hx4
      have d0 : w4.cell? ⟨b2, 0, none⟩ = some (.int .i64 st) := cell_at HX4s.out 0 _ rfl
      have d1 : w4.cell? ⟨b2, 1, none⟩ = some (.string f) := cell_at HX4s.out 1 _ rfl
      have d2 : w4.cell? ⟨b2, 2, none⟩ = some (.slice A us.length c) := cell_at HX4s.out 2 _ rfl
      have d3 : w4.cell? ⟨b2, 3, none⟩ = some (.string t) := cell_at HX4s.out 3 _ rfl
      go_wp2_with fail
      refine Calls.mono (sSubmissionLetter_any st f t A us c _ HAT4.out hcap hcm hfm htm hul) ?_
      rintro e w5 ⟨_, hno, hb5⟩
      obtain rfl := hno HD.out
      clear hno
      have hx6 := heap_alloc_new w5 (.cells #[.string ⟨#[]⟩, .slice none 0 0, .string ⟨#[]⟩] 28)
      have hE6 := Below.alloc (Below.refl w5.heap.size w5) (Nat.le_refl _) (.cells #[.string ⟨#[]⟩, .slice none 0 0, .string ⟨#[]⟩] 28)
      have hs6 : w5.heap.size < (w5.alloc (.cells #[.string ⟨#[]⟩, .slice none 0 0, .string ⟨#[]⟩] 28)).heap.size := by simp
      clear d0 d1 d2 d3
      go_upto_region 6 with fail
      generalize w5.alloc (.cells #[.string ⟨#[]⟩, .slice none 0 0, .string ⟨#[]⟩] 28) = w6 at hx6 hE6 hs6 ⊢
      have hE46 := hb5.trans (hE6.mono hb5.size)
      obtain ⟨b6, hb6⟩ : ∃ b, b = w5.heap.size := ⟨_, rfl⟩
      have hs56 : w4.heap.size ≤ b6 := by have := hb5.size; omega
      have HAT6 := Lib.hid ((HAT4.out.below hE46).mono hE46.size)
      have HB6 := Lib.hid (HB4.out.trans (hE46.mono HB4.out.size))
      have HX6s := Lib.hid ((hE46.block b2 (by omega)).trans HX4s.out)
      have HX6a := Lib.hid ((hE46.block b4 hs4).trans HX4.out)
      rw [← hb6] at hx6 hs6 ⊢
      have HX6 := Lib.hid hx6
      clear hb6 hE6 hE46 hb5 hx6
      have d0 : w6.cell? ⟨b2, 0, none⟩ = some (.int .i64 st) := cell_at HX6s.out 0 _ rfl
      have d1 : w6.cell? ⟨b2, 1, none⟩ = some (.string f) := cell_at HX6s.out 1 _ rfl
      have d2 : w6.cell? ⟨b2, 2, none⟩ = some (.slice A us.length c) := cell_at HX6s.out 2 _ rfl
      have d3 : w6.cell? ⟨b2, 3, none⟩ = some (.string t) := cell_at HX6s.out 3 _ rfl
      have l0 : w6.cell? ⟨b4, 0, none⟩ = some (.string ⟨#[]⟩) := cell_at HX6a.out 0 _ rfl
      have l1 : w6.cell? ⟨b4, 1, none⟩ = some (.slice none 0 0) := cell_at HX6a.out 1 _ rfl
      have l2 : w6.cell? ⟨b4, 2, none⟩ = some (.string ⟨#[]⟩) := cell_at HX6a.out 2 _ rfl
      have m0 : w6.cell? ⟨b6, 0, none⟩ = some (.string ⟨#[]⟩) := cell_at HX6.out 0 _ rfl
      have m1 : w6.cell? ⟨b6, 1, none⟩ = some (.slice none 0 0) := cell_at HX6.out 1 _ rfl
      have m2 : w6.cell? ⟨b6, 2, none⟩ = some (.string ⟨#[]⟩) := cell_at HX6.out 2 _ rfl
      go_wp2_with fail
      refine Calls.mono (sameLetter_any ⟨#[]⟩ ⟨#[]⟩ none none [] 0 0 _ at_none at_none (Nat.zero_le _)) ?_
      rintro e w7 ⟨rfl, hb7⟩
      have HB7 := Lib.hid (HB6.out.trans (hb7.mono HB6.out.size))
      have HX7s := Lib.hid ((hb7.block b2 (by omega)).trans HX6s.out)
      have HAT7 := Lib.hid ((HAT6.out.below hb7).mono hb7.size)
      have HX7a := Lib.hid ((hb7.block b4 (by omega)).trans HX6a.out)
      have HX7m := Lib.hid ((hb7.block b6 hs6).trans HX6.out)
      have hs7 := hb7.size
      clear hb7 d0 d1 d2 d3 l0 l1 l2 m0 m1 m2
      have d0 : w7.cell? ⟨b2, 0, none⟩ = some (.int .i64 st) := cell_at HX7s.out 0 _ rfl
      have d1 : w7.cell? ⟨b2, 1, none⟩ = some (.string f) := cell_at HX7s.out 1 _ rfl
      have d2 : w7.cell? ⟨b2, 2, none⟩ = some (.slice A us.length c) := cell_at HX7s.out 2 _ rfl
      have d3 : w7.cell? ⟨b2, 3, none⟩ = some (.string t) := cell_at HX7s.out 3 _ rfl
      have l0 : w7.cell? ⟨b4, 0, none⟩ = some (.string ⟨#[]⟩) := cell_at HX7a.out 0 _ rfl
      have l1 : w7.cell? ⟨b4, 1, none⟩ = some (.slice none 0 0) := cell_at HX7a.out 1 _ rfl
      have l2 : w7.cell? ⟨b4, 2, none⟩ = some (.string ⟨#[]⟩) := cell_at HX7a.out 2 _ rfl
      go_wp2_with fail
      refine Calls.mono (iSubmissionValid_any st f t A us c _ HAT7.out hcap hcm hfm htm) ?_
      rintro e w8 ⟨rfl, hb8⟩
      have HX8s := Lib.hid ((hb8.block b2 (by omega)).trans HX7s.out)
      clear d0 d1 d2 d3
      have d0 : w8.cell? ⟨b2, 0, none⟩ = some (.int .i64 st) := cell_at HX8s.out 0 _ rfl
      have d1 : w8.cell? ⟨b2, 1, none⟩ = some (.string f) := cell_at HX8s.out 1 _ rfl
      have d2 : w8.cell? ⟨b2, 2, none⟩ = some (.slice A us.length c) := cell_at HX8s.out 2 _ rfl
      have d3 : w8.cell? ⟨b2, 3, none⟩ = some (.string t) := cell_at HX8s.out 3 _ rfl
      rw [N1.out]
      go_wp2_with fail
      go_ret
      exact ⟨rfl, HB7.out.trans (hb8.mono HB7.out.size)⟩
    · by_cases n2 : st = 5
      · by_cases n3 : t.size ≤ 20
        · have HD := Lib.hid (Sb.done_yes n1 n2 n3)
          have n3i : (t.size : Int) ≤ 20 := by omega
          have n3b : decide ((t.size : Int) ≤ 20) = true := by simpa using n3i
          have n2i : (st == 5) = true := by simpa using n2
          have N1 := Lib.hid n1
          clear n1 n2 n3
          go_wp2_with fail
          refine Calls.mono (iSubmissionLetter_any st f t A us c _ HAT.out hcap hcm hfm htm hul) ?_
          rintro e w3 ⟨hyes, _, hb3⟩
          obtain ⟨A3, c3, rfl, ho3⟩ := hyes HD.out
          have HA3 := Lib.hid (Sb.let_strs ho3 HUS.out)
          clear ho3 hyes
          have hx4 := heap_alloc_new w3 (.cells #[.string f, .slice A3 us.length c3, .string t] 28)
          have hE4 := Below.alloc (Below.refl w3.heap.size w3) (Nat.le_refl _) (.cells #[.string f, .slice A3 us.length c3, .string t] 28)
          have hs4 : w3.heap.size < (w3.alloc (.cells #[.string f, .slice A3 us.length c3, .string t] 28)).heap.size := by simp
          clear d0 d1 d2 d3
          go_upto_region 5 with fail
          generalize w3.alloc (.cells #[.string f, .slice A3 us.length c3, .string t] 28) = w4 at hx4 hE4 hs4 ⊢
          have hE24 := hb3.trans (hE4.mono hb3.size)
          obtain ⟨b4, hb4⟩ : ∃ b, b = w3.heap.size := ⟨_, rfl⟩
          have hs34 : w2.heap.size ≤ b4 := by have := hb3.size; omega
          have HAT4 := Lib.hid ((HAT.out.below hE24).mono hE24.size)
          have HB4 := Lib.hid (HB2.out.trans (hE24.mono HB2.out.size))
          have HX4s := Lib.hid ((hE24.block b2 hs2).trans HX2.out)
          have HA34 := Lib.hid ((HA3.out.below hE4).mono hE4.size)
          rw [← hb4] at hx4 hs4 ⊢
          have HX4 := Lib.hid hx4
          clear hb4 hE4 hE24 hb3 hx4
          have d0 : w4.cell? ⟨b2, 0, none⟩ = some (.int .i64 st) := cell_at HX4s.out 0 _ rfl
          have d1 : w4.cell? ⟨b2, 1, none⟩ = some (.string f) := cell_at HX4s.out 1 _ rfl
          have d2 : w4.cell? ⟨b2, 2, none⟩ = some (.slice A us.length c) := cell_at HX4s.out 2 _ rfl
          have d3 : w4.cell? ⟨b2, 3, none⟩ = some (.string t) := cell_at HX4s.out 3 _ rfl
          go_wp2_with fail
          refine Calls.mono (sSubmissionLetter_any st f t A us c _ HAT4.out hcap hcm hfm htm hul) ?_
          rintro e w5 ⟨hyes, _, hb5⟩
          obtain ⟨A5, c5, rfl, ho5⟩ := hyes HD.out
          have HA5 := Lib.hid (Sb.let_strs ho5 HUS.out)
          clear ho5 hyes
          have hx6 := heap_alloc_new w5 (.cells #[.string f, .slice A5 us.length c5, .string t] 28)
          have hE6 := Below.alloc (Below.refl w5.heap.size w5) (Nat.le_refl _) (.cells #[.string f, .slice A5 us.length c5, .string t] 28)
          have hs6 : w5.heap.size < (w5.alloc (.cells #[.string f, .slice A5 us.length c5, .string t] 28)).heap.size := by simp
          clear d0 d1 d2 d3
          go_upto_region 6 with fail
          generalize w5.alloc (.cells #[.string f, .slice A5 us.length c5, .string t] 28) = w6 at hx6 hE6 hs6 ⊢
          have hE46 := hb5.trans (hE6.mono hb5.size)
          obtain ⟨b6, hb6⟩ : ∃ b, b = w5.heap.size := ⟨_, rfl⟩
          have hs56 : w4.heap.size ≤ b6 := by have := hb5.size; omega
          have HAT6 := Lib.hid ((HAT4.out.below hE46).mono hE46.size)
          have HB6 := Lib.hid (HB4.out.trans (hE46.mono HB4.out.size))
          have HX6s := Lib.hid ((hE46.block b2 (by omega)).trans HX4s.out)
          have HX6a := Lib.hid ((hE46.block b4 hs4).trans HX4.out)
          have HA36 := Lib.hid ((HA34.out.below hE46).mono hE46.size)
          have HA56 := Lib.hid ((HA5.out.below hE6).mono hE6.size)
          rw [← hb6] at hx6 hs6 ⊢
          have HX6 := Lib.hid hx6
          clear hb6 hE6 hE46 hb5 hx6
          have d0 : w6.cell? ⟨b2, 0, none⟩ = some (.int .i64 st) := cell_at HX6s.out 0 _ rfl
          have d1 : w6.cell? ⟨b2, 1, none⟩ = some (.string f) := cell_at HX6s.out 1 _ rfl
          have d2 : w6.cell? ⟨b2, 2, none⟩ = some (.slice A us.length c) := cell_at HX6s.out 2 _ rfl
          have d3 : w6.cell? ⟨b2, 3, none⟩ = some (.string t) := cell_at HX6s.out 3 _ rfl
          have l0 : w6.cell? ⟨b4, 0, none⟩ = some (.string f) := cell_at HX6a.out 0 _ rfl
          have l1 : w6.cell? ⟨b4, 1, none⟩ = some (.slice A3 us.length c3) := cell_at HX6a.out 1 _ rfl
          have l2 : w6.cell? ⟨b4, 2, none⟩ = some (.string t) := cell_at HX6a.out 2 _ rfl
          have m0 : w6.cell? ⟨b6, 0, none⟩ = some (.string f) := cell_at HX6.out 0 _ rfl
          have m1 : w6.cell? ⟨b6, 1, none⟩ = some (.slice A5 us.length c5) := cell_at HX6.out 1 _ rfl
          have m2 : w6.cell? ⟨b6, 2, none⟩ = some (.string t) := cell_at HX6.out 2 _ rfl
          go_wp2_with fail
          refine Calls.mono (sameLetter_any f t A3 A5 us c3 c5 _ HA36.out HA56.out hnl) ?_
          rintro e w7 ⟨rfl, hb7⟩
          have HB7 := Lib.hid (HB6.out.trans (hb7.mono HB6.out.size))
          have HX7s := Lib.hid ((hb7.block b2 (by omega)).trans HX6s.out)
          have HAT7 := Lib.hid ((HAT6.out.below hb7).mono hb7.size)
          have HX7a := Lib.hid ((hb7.block b4 (by omega)).trans HX6a.out)
          have HX7m := Lib.hid ((hb7.block b6 hs6).trans HX6.out)
          have HA37 := Lib.hid ((HA36.out.below hb7).mono hb7.size)
          have hs7 := hb7.size
          clear hb7 d0 d1 d2 d3 l0 l1 l2 m0 m1 m2
          have d0 : w7.cell? ⟨b2, 0, none⟩ = some (.int .i64 st) := cell_at HX7s.out 0 _ rfl
          have d1 : w7.cell? ⟨b2, 1, none⟩ = some (.string f) := cell_at HX7s.out 1 _ rfl
          have d2 : w7.cell? ⟨b2, 2, none⟩ = some (.slice A us.length c) := cell_at HX7s.out 2 _ rfl
          have d3 : w7.cell? ⟨b2, 3, none⟩ = some (.string t) := cell_at HX7s.out 3 _ rfl
          have l0 : w7.cell? ⟨b4, 0, none⟩ = some (.string f) := cell_at HX7a.out 0 _ rfl
          have l1 : w7.cell? ⟨b4, 1, none⟩ = some (.slice A3 us.length c3) := cell_at HX7a.out 1 _ rfl
          have l2 : w7.cell? ⟨b4, 2, none⟩ = some (.string t) := cell_at HX7a.out 2 _ rfl
          go_wp2_with fail
          refine Calls.mono (iSubmissionValid_any st f t A us c _ HAT7.out hcap hcm hfm htm) ?_
          rintro e w8 ⟨rfl, hb8⟩
          have HX8s := Lib.hid ((hb8.block b2 (by omega)).trans HX7s.out)
          clear d0 d1 d2 d3
          have d0 : w8.cell? ⟨b2, 0, none⟩ = some (.int .i64 st) := cell_at HX8s.out 0 _ rfl
          have d1 : w8.cell? ⟨b2, 1, none⟩ = some (.string f) := cell_at HX8s.out 1 _ rfl
          have d2 : w8.cell? ⟨b2, 2, none⟩ = some (.slice A us.length c) := cell_at HX8s.out 2 _ rfl
          have d3 : w8.cell? ⟨b2, 3, none⟩ = some (.string t) := cell_at HX8s.out 3 _ rfl
          rw [N1.out]
          go_wp2_with fail
          go_ret
          exact ⟨rfl, HB7.out.trans (hb8.mono HB7.out.size)⟩
        · have HD := Lib.hid (Sb.done_no3 (st := st) (f := f) (us := us) n3)
          have n3i : ¬ (t.size : Int) ≤ 20 := by omega
          have n3b : decide ((t.size : Int) ≤ 20) = false := decide_eq_false n3i
          have n2i : (st == 5) = true := by simpa using n2
          have N1 := Lib.hid n1
          clear n1 n2 n3
          go_wp2_with fail
          refine Calls.mono (iSubmissionLetter_any st f t A us c _ HAT.out hcap hcm hfm htm hul) ?_
          rintro e w3 ⟨_, hno, hb3⟩
          obtain rfl := hno HD.out
          clear hno
          have hx4 := heap_alloc_new w3 (.cells #[.string ⟨#[]⟩, .slice none 0 0, .string ⟨#[]⟩] 28)
          have hE4 := Below.alloc (Below.refl w3.heap.size w3) (Nat.le_refl _) (.cells #[.string ⟨#[]⟩, .slice none 0 0, .string ⟨#[]⟩] 28)
          have hs4 : w3.heap.size < (w3.alloc (.cells #[.string ⟨#[]⟩, .slice none 0 0, .string ⟨#[]⟩] 28)).heap.size := by simp
          clear d0 d1 d2 d3
          go_upto_region 5 with fail
          generalize w3.alloc (.cells #[.string ⟨#[]⟩, .slice none 0 0, .string ⟨#[]⟩] 28) = w4 at hx4 hE4 hs4 ⊢
          have hE24 := hb3.trans (hE4.mono hb3.size)
          obtain ⟨b4, hb4⟩ : ∃ b, b = w3.heap.size := ⟨_, rfl⟩
          have hs34 : w2.heap.size ≤ b4 := by have := hb3.size; omega
          have HAT4 := Lib.hid ((HAT.out.below hE24).mono hE24.size)
          have HB4 := Lib.hid (HB2.out.trans (hE24.mono HB2.out.size))
          have HX4s := Lib.hid ((hE24.block b2 hs2).trans HX2.out)
          rw [← hb4] at hx4 hs4 ⊢
          have HX4 := Lib.hid hx4
          clear hb4 hE4 hE24 hb3 hx4
          have d0 : w4.cell? ⟨b2, 0, none⟩ = some (.int .i64 st) := cell_at HX4s.out 0 _ rfl
          have d1 : w4.cell? ⟨b2, 1, none⟩ = some (.string f) := cell_at HX4s.out 1 _ rfl
          have d2 : w4.cell? ⟨b2, 2, none⟩ = some (.slice A us.length c) := cell_at HX4s.out 2 _ rfl
          have d3 : w4.cell? ⟨b2, 3, none⟩ = some (.string t) := cell_at HX4s.out 3 _ rfl
          go_wp2_with fail
          refine Calls.mono (sSubmissionLetter_any st f t A us c _ HAT4.out hcap hcm hfm htm hul) ?_
          rintro e w5 ⟨_, hno, hb5⟩
          obtain rfl := hno HD.out
          clear hno
          have hx6 := heap_alloc_new w5 (.cells #[.string ⟨#[]⟩, .slice none 0 0, .string ⟨#[]⟩] 28)
          have hE6 := Below.alloc (Below.refl w5.heap.size w5) (Nat.le_refl _) (.cells #[.string ⟨#[]⟩, .slice none 0 0, .string ⟨#[]⟩] 28)
          have hs6 : w5.heap.size < (w5.alloc (.cells #[.string ⟨#[]⟩, .slice none 0 0, .string ⟨#[]⟩] 28)).heap.size := by simp
          clear d0 d1 d2 d3
          go_upto_region 6 with fail
          generalize w5.alloc (.cells #[.string ⟨#[]⟩, .slice none 0 0, .string ⟨#[]⟩] 28) = w6 at hx6 hE6 hs6 ⊢
          have hE46 := hb5.trans (hE6.mono hb5.size)
          obtain ⟨b6, hb6⟩ : ∃ b, b = w5.heap.size := ⟨_, rfl⟩
          have hs56 : w4.heap.size ≤ b6 := by have := hb5.size; omega
          have HAT6 := Lib.hid ((HAT4.out.below hE46).mono hE46.size)
          have HB6 := Lib.hid (HB4.out.trans (hE46.mono HB4.out.size))
          have HX6s := Lib.hid ((hE46.block b2 (by omega)).trans HX4s.out)
          have HX6a := Lib.hid ((hE46.block b4 hs4).trans HX4.out)
          rw [← hb6] at hx6 hs6 ⊢
          have HX6 := Lib.hid hx6
          clear hb6 hE6 hE46 hb5 hx6
          have d0 : w6.cell? ⟨b2, 0, none⟩ = some (.int .i64 st) := cell_at HX6s.out 0 _ rfl
          have d1 : w6.cell? ⟨b2, 1, none⟩ = some (.string f) := cell_at HX6s.out 1 _ rfl
          have d2 : w6.cell? ⟨b2, 2, none⟩ = some (.slice A us.length c) := cell_at HX6s.out 2 _ rfl
          have d3 : w6.cell? ⟨b2, 3, none⟩ = some (.string t) := cell_at HX6s.out 3 _ rfl
          have l0 : w6.cell? ⟨b4, 0, none⟩ = some (.string ⟨#[]⟩) := cell_at HX6a.out 0 _ rfl
          have l1 : w6.cell? ⟨b4, 1, none⟩ = some (.slice none 0 0) := cell_at HX6a.out 1 _ rfl
          have l2 : w6.cell? ⟨b4, 2, none⟩ = some (.string ⟨#[]⟩) := cell_at HX6a.out 2 _ rfl
          have m0 : w6.cell? ⟨b6, 0, none⟩ = some (.string ⟨#[]⟩) := cell_at HX6.out 0 _ rfl
          have m1 : w6.cell? ⟨b6, 1, none⟩ = some (.slice none 0 0) := cell_at HX6.out 1 _ rfl
          have m2 : w6.cell? ⟨b6, 2, none⟩ = some (.string ⟨#[]⟩) := cell_at HX6.out 2 _ rfl
          go_wp2_with fail
          refine Calls.mono (sameLetter_any ⟨#[]⟩ ⟨#[]⟩ none none [] 0 0 _ at_none at_none (Nat.zero_le _)) ?_
          rintro e w7 ⟨rfl, hb7⟩
          have HB7 := Lib.hid (HB6.out.trans (hb7.mono HB6.out.size))
          have HX7s := Lib.hid ((hb7.block b2 (by omega)).trans HX6s.out)
          have HAT7 := Lib.hid ((HAT6.out.below hb7).mono hb7.size)
          have HX7a := Lib.hid ((hb7.block b4 (by omega)).trans HX6a.out)
          have HX7m := Lib.hid ((hb7.block b6 hs6).trans HX6.out)
          have hs7 := hb7.size
          clear hb7 d0 d1 d2 d3 l0 l1 l2 m0 m1 m2
          have d0 : w7.cell? ⟨b2, 0, none⟩ = some (.int .i64 st) := cell_at HX7s.out 0 _ rfl
          have d1 : w7.cell? ⟨b2, 1, none⟩ = some (.string f) := cell_at HX7s.out 1 _ rfl
          have d2 : w7.cell? ⟨b2, 2, none⟩ = some (.slice A us.length c) := cell_at HX7s.out 2 _ rfl
          have d3 : w7.cell? ⟨b2, 3, none⟩ = some (.string t) := cell_at HX7s.out 3 _ rfl
          have l0 : w7.cell? ⟨b4, 0, none⟩ = some (.string ⟨#[]⟩) := cell_at HX7a.out 0 _ rfl
          have l1 : w7.cell? ⟨b4, 1, none⟩ = some (.slice none 0 0) := cell_at HX7a.out 1 _ rfl
          have l2 : w7.cell? ⟨b4, 2, none⟩ = some (.string ⟨#[]⟩) := cell_at HX7a.out 2 _ rfl
          go_wp2_with fail
          refine Calls.mono (iSubmissionValid_any st f t A us c _ HAT7.out hcap hcm hfm htm) ?_
          rintro e w8 ⟨rfl, hb8⟩
          have HX8s := Lib.hid ((hb8.block b2 (by omega)).trans HX7s.out)
          clear d0 d1 d2 d3
          have d0 : w8.cell? ⟨b2, 0, none⟩ = some (.int .i64 st) := cell_at HX8s.out 0 _ rfl
          have d1 : w8.cell? ⟨b2, 1, none⟩ = some (.string f) := cell_at HX8s.out 1 _ rfl
          have d2 : w8.cell? ⟨b2, 2, none⟩ = some (.slice A us.length c) := cell_at HX8s.out 2 _ rfl
          have d3 : w8.cell? ⟨b2, 3, none⟩ = some (.string t) := cell_at HX8s.out 3 _ rfl
          rw [N1.out]
          go_wp2_with fail
          go_ret
          exact ⟨rfl, HB7.out.trans (hb8.mono HB7.out.size)⟩
      · have HD := Lib.hid (Sb.done_no2 (f := f) (us := us) (t := t) n2)
        have n2i : (st == 5) = false := by simpa using n2
        have N1 := Lib.hid n1
        clear n1 n2
        go_wp2_with fail
        refine Calls.mono (iSubmissionLetter_any st f t A us c _ HAT.out hcap hcm hfm htm hul) ?_
        rintro e w3 ⟨_, hno, hb3⟩
        obtain rfl := hno HD.out
        clear hno
        have hx4 := heap_alloc_new w3 (.cells #[.string ⟨#[]⟩, .slice none 0 0, .string ⟨#[]⟩] 28)
        have hE4 := Below.alloc (Below.refl w3.heap.size w3) (Nat.le_refl _) (.cells #[.string ⟨#[]⟩, .slice none 0 0, .string ⟨#[]⟩] 28)
        have hs4 : w3.heap.size < (w3.alloc (.cells #[.string ⟨#[]⟩, .slice none 0 0, .string ⟨#[]⟩] 28)).heap.size := by simp
        clear d0 d1 d2 d3
        go_upto_region 5 with fail
        generalize w3.alloc (.cells #[.string ⟨#[]⟩, .slice none 0 0, .string ⟨#[]⟩] 28) = w4 at hx4 hE4 hs4 ⊢
        have hE24 := hb3.trans (hE4.mono hb3.size)
        obtain ⟨b4, hb4⟩ : ∃ b, b = w3.heap.size := ⟨_, rfl⟩
        have hs34 : w2.heap.size ≤ b4 := by have := hb3.size; omega
        have HAT4 := Lib.hid ((HAT.out.below hE24).mono hE24.size)
        have HB4 := Lib.hid (HB2.out.trans (hE24.mono HB2.out.size))
        have HX4s := Lib.hid ((hE24.block b2 hs2).trans HX2.out)
        rw [← hb4] at hx4 hs4 ⊢
        have HX4 := Lib.hid hx4
        clear hb4 hE4 hE24 hb3 hx4
        have d0 : w4.cell? ⟨b2, 0, none⟩ = some (.int .i64 st) := cell_at HX4s.out 0 _ rfl
        have d1 : w4.cell? ⟨b2, 1, none⟩ = some (.string f) := cell_at HX4s.out 1 _ rfl
        have d2 : w4.cell? ⟨b2, 2, none⟩ = some (.slice A us.length c) := cell_at HX4s.out 2 _ rfl
        have d3 : w4.cell? ⟨b2, 3, none⟩ = some (.string t) := cell_at HX4s.out 3 _ rfl
        go_wp2_with fail
        refine Calls.mono (sSubmissionLetter_any st f t A us c _ HAT4.out hcap hcm hfm htm hul) ?_
        rintro e w5 ⟨_, hno, hb5⟩
        obtain rfl := hno HD.out
        clear hno
        have hx6 := heap_alloc_new w5 (.cells #[.string ⟨#[]⟩, .slice none 0 0, .string ⟨#[]⟩] 28)
        have hE6 := Below.alloc (Below.refl w5.heap.size w5) (Nat.le_refl _) (.cells #[.string ⟨#[]⟩, .slice none 0 0, .string ⟨#[]⟩] 28)
        have hs6 : w5.heap.size < (w5.alloc (.cells #[.string ⟨#[]⟩, .slice none 0 0, .string ⟨#[]⟩] 28)).heap.size := by simp
        clear d0 d1 d2 d3
        go_upto_region 6 with fail
        generalize w5.alloc (.cells #[.string ⟨#[]⟩, .slice none 0 0, .string ⟨#[]⟩] 28) = w6 at hx6 hE6 hs6 ⊢
        have hE46 := hb5.trans (hE6.mono hb5.size)
        obtain ⟨b6, hb6⟩ : ∃ b, b = w5.heap.size := ⟨_, rfl⟩
        have hs56 : w4.heap.size ≤ b6 := by have := hb5.size; omega
        have HAT6 := Lib.hid ((HAT4.out.below hE46).mono hE46.size)
        have HB6 := Lib.hid (HB4.out.trans (hE46.mono HB4.out.size))
        have HX6s := Lib.hid ((hE46.block b2 (by omega)).trans HX4s.out)
        have HX6a := Lib.hid ((hE46.block b4 hs4).trans HX4.out)
        rw [← hb6] at hx6 hs6 ⊢
        have HX6 := Lib.hid hx6
        clear hb6 hE6 hE46 hb5 hx6
        have d0 : w6.cell? ⟨b2, 0, none⟩ = some (.int .i64 st) := cell_at HX6s.out 0 _ rfl
        have d1 : w6.cell? ⟨b2, 1, none⟩ = some (.string f) := cell_at HX6s.out 1 _ rfl
        have d2 : w6.cell? ⟨b2, 2, none⟩ = some (.slice A us.length c) := cell_at HX6s.out 2 _ rfl
        have d3 : w6.cell? ⟨b2, 3, none⟩ = some (.string t) := cell_at HX6s.out 3 _ rfl
        have l0 : w6.cell? ⟨b4, 0, none⟩ = some (.string ⟨#[]⟩) := cell_at HX6a.out 0 _ rfl
        have l1 : w6.cell? ⟨b4, 1, none⟩ = some (.slice none 0 0) := cell_at HX6a.out 1 _ rfl
        have l2 : w6.cell? ⟨b4, 2, none⟩ = some (.string ⟨#[]⟩) := cell_at HX6a.out 2 _ rfl
        have m0 : w6.cell? ⟨b6, 0, none⟩ = some (.string ⟨#[]⟩) := cell_at HX6.out 0 _ rfl
        have m1 : w6.cell? ⟨b6, 1, none⟩ = some (.slice none 0 0) := cell_at HX6.out 1 _ rfl
        have m2 : w6.cell? ⟨b6, 2, none⟩ = some (.string ⟨#[]⟩) := cell_at HX6.out 2 _ rfl
        go_wp2_with fail
        refine Calls.mono (sameLetter_any ⟨#[]⟩ ⟨#[]⟩ none none [] 0 0 _ at_none at_none (Nat.zero_le _)) ?_
        rintro e w7 ⟨rfl, hb7⟩
        have HB7 := Lib.hid (HB6.out.trans (hb7.mono HB6.out.size))
        have HX7s := Lib.hid ((hb7.block b2 (by omega)).trans HX6s.out)
        have HAT7 := Lib.hid ((HAT6.out.below hb7).mono hb7.size)
        have HX7a := Lib.hid ((hb7.block b4 (by omega)).trans HX6a.out)
        have HX7m := Lib.hid ((hb7.block b6 hs6).trans HX6.out)
        have hs7 := hb7.size
        clear hb7 d0 d1 d2 d3 l0 l1 l2 m0 m1 m2
        have d0 : w7.cell? ⟨b2, 0, none⟩ = some (.int .i64 st) := cell_at HX7s.out 0 _ rfl
        have d1 : w7.cell? ⟨b2, 1, none⟩ = some (.string f) := cell_at HX7s.out 1 _ rfl
        have d2 : w7.cell? ⟨b2, 2, none⟩ = some (.slice A us.length c) := cell_at HX7s.out 2 _ rfl
        have d3 : w7.cell? ⟨b2, 3, none⟩ = some (.string t) := cell_at HX7s.out 3 _ rfl
        have l0 : w7.cell? ⟨b4, 0, none⟩ = some (.string ⟨#[]⟩) := cell_at HX7a.out 0 _ rfl
        have l1 : w7.cell? ⟨b4, 1, none⟩ = some (.slice none 0 0) := cell_at HX7a.out 1 _ rfl
        have l2 : w7.cell? ⟨b4, 2, none⟩ = some (.string ⟨#[]⟩) := cell_at HX7a.out 2 _ rfl
        go_wp2_with fail
        refine Calls.mono (iSubmissionValid_any st f t A us c _ HAT7.out hcap hcm hfm htm) ?_
        rintro e w8 ⟨rfl, hb8⟩
        have HX8s := Lib.hid ((hb8.block b2 (by omega)).trans HX7s.out)
        clear d0 d1 d2 d3
        have d0 : w8.cell? ⟨b2, 0, none⟩ = some (.int .i64 st) := cell_at HX8s.out 0 _ rfl
        have d1 : w8.cell? ⟨b2, 1, none⟩ = some (.string f) := cell_at HX8s.out 1 _ rfl
        have d2 : w8.cell? ⟨b2, 2, none⟩ = some (.slice A us.length c) := cell_at HX8s.out 2 _ rfl
        have d3 : w8.cell? ⟨b2, 3, none⟩ = some (.string t) := cell_at HX8s.out 3 _ rfl
        rw [N1.out]
        go_wp2_with fail
        go_ret
        exact ⟨rfl, HB7.out.trans (hb8.mono HB7.out.size)⟩
  · have hbi : (1048576 : Int) < (len : Int) := by omega
    go_enter Try.func3, Try.ntmps3
    go_wp2_with fail
    go_ret
    exact ⟨rfl, Below.refl _ _⟩

set_option maxRecDepth 100000 in
set_option maxHeartbeats 6400000 in
theorem walkFnLetter (a : Option Addr) (len cap : Nat) (w : World) (h : Bytes w a len cap) :
    Calls Try.prog 4 #[.slice a len cap] w fun e w' => e = .returned (.bool true) ∧ Below w.heap.size w w' := by
  by_cases hbig : len ≤ 1048576
  · have hbi : ¬ (1048576 : Int) < (len : Int) := by omega
    go_enter Try.func4, Try.ntmps4
    go_wp2_with fail
    refine Calls.mono (drawSubmissionLetter_any a len cap _ h) ?_
    rintro e w1 ⟨st, f, A, us, c, t, hsm, hcap, hcm, rfl, hat, hb1⟩
    have hx2 := heap_alloc_new w1 (.cells #[.int .i64 st, .string f, .slice A us.length c, .string t] 25)
    have hE := Below.alloc (Below.refl w1.heap.size w1) (Nat.le_refl _) (.cells #[.int .i64 st, .string f, .slice A us.length c, .string t] 25)
    have hs2 : w1.heap.size < (w1.alloc (.cells #[.int .i64 st, .string f, .slice A us.length c, .string t] 25)).heap.size := by simp
    go_upto_region 4 with fail
    generalize w1.alloc (.cells #[.int .i64 st, .string f, .slice A us.length c, .string t] 25) = w2 at hx2 hE hs2 ⊢
    obtain ⟨b2, hb2⟩ : ∃ b, b = w1.heap.size := ⟨_, rfl⟩
    have HAT := Lib.hid ((hat.below hE).mono hE.size)
    have HB2 := Lib.hid (hb1.trans (hE.mono hb1.size))
    rw [← hb2] at hx2 hs2 ⊢
    have HX2 := Lib.hid hx2
    have hul : us.length ≤ 1048576 := (Sm.small_max hsm).2.2
    have hfm := (Sm.small_max hsm).1
    have htm := (Sm.small_max hsm).2.1
    have HUS : Hid (∀ u ∈ us, u.size ≤ maxLen) := Lib.hid hat.2
    have hnl : us.length ≤ maxLen := Nat.le_trans hcap hcm
    clear hb2 hb1 hE hat hsm hx2
    have d0 : w2.cell? ⟨b2, 0, none⟩ = some (.int .i64 st) := cell_at HX2.out 0 _ rfl
    have d1 : w2.cell? ⟨b2, 1, none⟩ = some (.string f) := cell_at HX2.out 1 _ rfl
    have d2 : w2.cell? ⟨b2, 2, none⟩ = some (.slice A us.length c) := cell_at HX2.out 2 _ rfl
    have d3 : w2.cell? ⟨b2, 3, none⟩ = some (.string t) := cell_at HX2.out 3 _ rfl
    cases n1 : Sb.ok st f us t
    · have HD := Lib.hid (Sb.done_no1 n1)
      have N1 := Lib.hid n1
      clear n1
      go_wp2_with fail
      refine Calls.mono (iSubmissionLetter_any st f t A us c _ HAT.out hcap hcm hfm htm hul) ?_
      rintro e w3 ⟨_, hno, hb3⟩
      obtain rfl := hno HD.out
      clear hno
      have hx4 := heap_alloc_new w3 (.cells #[.string ⟨#[]⟩, .slice none 0 0, .string ⟨#[]⟩] 28)
      have hE4 := Below.alloc (Below.refl w3.heap.size w3) (Nat.le_refl _) (.cells #[.string ⟨#[]⟩, .slice none 0 0, .string ⟨#[]⟩] 28)
      have hs4 : w3.heap.size < (w3.alloc (.cells #[.string ⟨#[]⟩, .slice none 0 0, .string ⟨#[]⟩] 28)).heap.size := by simp
      clear d0 d1 d2 d3
      go_upto_region 5 with fail
      generalize w3.alloc (.cells #[.string ⟨#[]⟩, .slice none 0 0, .string ⟨#[]⟩] 28) = w4 at hx4 hE4 hs4 ⊢
      have hE24 := hb3.trans (hE4.mono hb3.size)
      obtain ⟨b4, hb4⟩ : ∃ b, b = w3.heap.size := ⟨_, rfl⟩
      have hs34 : w2.heap.size ≤ b4 := by have := hb3.size; omega
      have HAT4 := Lib.hid ((HAT.out.below hE24).mono hE24.size)
      have HB4 := Lib.hid (HB2.out.trans (hE24.mono HB2.out.size))
      have HX4s := Lib.hid ((hE24.block b2 hs2).trans HX2.out)
      rw [← hb4] at hx4 hs4 ⊢
      have HX4 := Lib.hid hx4
      clear hb4 hE4 hE24 hb3 hx4
      have d0 : w4.cell? ⟨b2, 0, none⟩ = some (.int .i64 st) := cell_at HX4s.out 0 _ rfl
      have d1 : w4.cell? ⟨b2, 1, none⟩ = some (.string f) := cell_at HX4s.out 1 _ rfl
      have d2 : w4.cell? ⟨b2, 2, none⟩ = some (.slice A us.length c) := cell_at HX4s.out 2 _ rfl
      have d3 : w4.cell? ⟨b2, 3, none⟩ = some (.string t) := cell_at HX4s.out 3 _ rfl
      go_wp2_with fail
      refine Calls.mono (sSubmissionLetter_any st f t A us c _ HAT4.out hcap hcm hfm htm hul) ?_
      rintro e w5 ⟨_, hno, hb5⟩
      obtain rfl := hno HD.out
      clear hno
      have hx6 := heap_alloc_new w5 (.cells #[.string ⟨#[]⟩, .slice none 0 0, .string ⟨#[]⟩] 28)
      have hE6 := Below.alloc (Below.refl w5.heap.size w5) (Nat.le_refl _) (.cells #[.string ⟨#[]⟩, .slice none 0 0, .string ⟨#[]⟩] 28)
      have hs6 : w5.heap.size < (w5.alloc (.cells #[.string ⟨#[]⟩, .slice none 0 0, .string ⟨#[]⟩] 28)).heap.size := by simp
      clear d0 d1 d2 d3
      go_upto_region 6 with fail
      generalize w5.alloc (.cells #[.string ⟨#[]⟩, .slice none 0 0, .string ⟨#[]⟩] 28) = w6 at hx6 hE6 hs6 ⊢
      have hE46 := hb5.trans (hE6.mono hb5.size)
      obtain ⟨b6, hb6⟩ : ∃ b, b = w5.heap.size := ⟨_, rfl⟩
      have hs56 : w4.heap.size ≤ b6 := by have := hb5.size; omega
      have HAT6 := Lib.hid ((HAT4.out.below hE46).mono hE46.size)
      have HB6 := Lib.hid (HB4.out.trans (hE46.mono HB4.out.size))
      have HX6s := Lib.hid ((hE46.block b2 (by omega)).trans HX4s.out)
      have HX6a := Lib.hid ((hE46.block b4 hs4).trans HX4.out)
      rw [← hb6] at hx6 hs6 ⊢
      have HX6 := Lib.hid hx6
      clear hb6 hE6 hE46 hb5 hx6
      have d0 : w6.cell? ⟨b2, 0, none⟩ = some (.int .i64 st) := cell_at HX6s.out 0 _ rfl
      have d1 : w6.cell? ⟨b2, 1, none⟩ = some (.string f) := cell_at HX6s.out 1 _ rfl
      have d2 : w6.cell? ⟨b2, 2, none⟩ = some (.slice A us.length c) := cell_at HX6s.out 2 _ rfl
      have d3 : w6.cell? ⟨b2, 3, none⟩ = some (.string t) := cell_at HX6s.out 3 _ rfl
      have l0 : w6.cell? ⟨b4, 0, none⟩ = some (.string ⟨#[]⟩) := cell_at HX6a.out 0 _ rfl
      have l1 : w6.cell? ⟨b4, 1, none⟩ = some (.slice none 0 0) := cell_at HX6a.out 1 _ rfl
      have l2 : w6.cell? ⟨b4, 2, none⟩ = some (.string ⟨#[]⟩) := cell_at HX6a.out 2 _ rfl
      have m0 : w6.cell? ⟨b6, 0, none⟩ = some (.string ⟨#[]⟩) := cell_at HX6.out 0 _ rfl
      have m1 : w6.cell? ⟨b6, 1, none⟩ = some (.slice none 0 0) := cell_at HX6.out 1 _ rfl
      have m2 : w6.cell? ⟨b6, 2, none⟩ = some (.string ⟨#[]⟩) := cell_at HX6.out 2 _ rfl
      go_wp2_with fail
      refine Calls.mono (sameLetter_any ⟨#[]⟩ ⟨#[]⟩ none none [] 0 0 _ at_none at_none (Nat.zero_le _)) ?_
      rintro e w7 ⟨rfl, hb7⟩
      have HB7 := Lib.hid (HB6.out.trans (hb7.mono HB6.out.size))
      have HX7s := Lib.hid ((hb7.block b2 (by omega)).trans HX6s.out)
      have HAT7 := Lib.hid ((HAT6.out.below hb7).mono hb7.size)
      have HX7a := Lib.hid ((hb7.block b4 (by omega)).trans HX6a.out)
      have HX7m := Lib.hid ((hb7.block b6 hs6).trans HX6.out)
      have hs7 := hb7.size
      clear hb7 d0 d1 d2 d3 l0 l1 l2 m0 m1 m2
      have d0 : w7.cell? ⟨b2, 0, none⟩ = some (.int .i64 st) := cell_at HX7s.out 0 _ rfl
      have d1 : w7.cell? ⟨b2, 1, none⟩ = some (.string f) := cell_at HX7s.out 1 _ rfl
      have d2 : w7.cell? ⟨b2, 2, none⟩ = some (.slice A us.length c) := cell_at HX7s.out 2 _ rfl
      have d3 : w7.cell? ⟨b2, 3, none⟩ = some (.string t) := cell_at HX7s.out 3 _ rfl
      have l0 : w7.cell? ⟨b4, 0, none⟩ = some (.string ⟨#[]⟩) := cell_at HX7a.out 0 _ rfl
      have l1 : w7.cell? ⟨b4, 1, none⟩ = some (.slice none 0 0) := cell_at HX7a.out 1 _ rfl
      have l2 : w7.cell? ⟨b4, 2, none⟩ = some (.string ⟨#[]⟩) := cell_at HX7a.out 2 _ rfl
      have m0 : w7.cell? ⟨b6, 0, none⟩ = some (.string ⟨#[]⟩) := cell_at HX7m.out 0 _ rfl
      have m1 : w7.cell? ⟨b6, 1, none⟩ = some (.slice none 0 0) := cell_at HX7m.out 1 _ rfl
      have m2 : w7.cell? ⟨b6, 2, none⟩ = some (.string ⟨#[]⟩) := cell_at HX7m.out 2 _ rfl
      go_wp2_with fail
      refine Calls.mono (sameLetter_any ⟨#[]⟩ ⟨#[]⟩ none none [] 0 0 _ at_none at_none (Nat.zero_le _)) ?_
      rintro e w8 ⟨rfl, hb8⟩
      go_wp2_with fail
      go_ret
      exact ⟨rfl, HB7.out.trans (hb8.mono HB7.out.size)⟩
    · by_cases n2 : st = 5
      · by_cases n3 : t.size ≤ 20
        · have HD := Lib.hid (Sb.done_yes n1 n2 n3)
          have n3i : (t.size : Int) ≤ 20 := by omega
          have n3b : decide ((t.size : Int) ≤ 20) = true := by simpa using n3i
          have n2i : (st == 5) = true := by simpa using n2
          have HLT : Hid (Lt.ok f us t = true) := Lib.hid (Sb.let_ok n1 n2 n3)
          have N1 := Lib.hid n1
          clear n1 n2 n3
          go_wp2_with fail
          refine Calls.mono (iSubmissionLetter_any st f t A us c _ HAT.out hcap hcm hfm htm hul) ?_
          rintro e w3 ⟨hyes, _, hb3⟩
          obtain ⟨A3, c3, rfl, ho3⟩ := hyes HD.out
          have hcap3 := (own_cap ho3).1
          have hcm3 := (own_cap ho3).2
          have HA3 := Lib.hid (Sb.let_strs ho3 HUS.out)
          clear ho3 hyes
          have hx4 := heap_alloc_new w3 (.cells #[.string f, .slice A3 us.length c3, .string t] 28)
          have hE4 := Below.alloc (Below.refl w3.heap.size w3) (Nat.le_refl _) (.cells #[.string f, .slice A3 us.length c3, .string t] 28)
          have hs4 : w3.heap.size < (w3.alloc (.cells #[.string f, .slice A3 us.length c3, .string t] 28)).heap.size := by simp
          clear d0 d1 d2 d3
          go_upto_region 5 with fail
          generalize w3.alloc (.cells #[.string f, .slice A3 us.length c3, .string t] 28) = w4 at hx4 hE4 hs4 ⊢
          have hE24 := hb3.trans (hE4.mono hb3.size)
          obtain ⟨b4, hb4⟩ : ∃ b, b = w3.heap.size := ⟨_, rfl⟩
          have hs34 : w2.heap.size ≤ b4 := by have := hb3.size; omega
          have HAT4 := Lib.hid ((HAT.out.below hE24).mono hE24.size)
          have HB4 := Lib.hid (HB2.out.trans (hE24.mono HB2.out.size))
          have HX4s := Lib.hid ((hE24.block b2 hs2).trans HX2.out)
          have HA34 := Lib.hid ((HA3.out.below hE4).mono hE4.size)
          rw [← hb4] at hx4 hs4 ⊢
          have HX4 := Lib.hid hx4
          clear hb4 hE4 hE24 hb3 hx4
          have d0 : w4.cell? ⟨b2, 0, none⟩ = some (.int .i64 st) := cell_at HX4s.out 0 _ rfl
          have d1 : w4.cell? ⟨b2, 1, none⟩ = some (.string f) := cell_at HX4s.out 1 _ rfl
          have d2 : w4.cell? ⟨b2, 2, none⟩ = some (.slice A us.length c) := cell_at HX4s.out 2 _ rfl
          have d3 : w4.cell? ⟨b2, 3, none⟩ = some (.string t) := cell_at HX4s.out 3 _ rfl
          go_wp2_with fail
          refine Calls.mono (sSubmissionLetter_any st f t A us c _ HAT4.out hcap hcm hfm htm hul) ?_
          rintro e w5 ⟨hyes, _, hb5⟩
          obtain ⟨A5, c5, rfl, ho5⟩ := hyes HD.out
          have HA5 := Lib.hid (Sb.let_strs ho5 HUS.out)
          clear ho5 hyes
          have hx6 := heap_alloc_new w5 (.cells #[.string f, .slice A5 us.length c5, .string t] 28)
          have hE6 := Below.alloc (Below.refl w5.heap.size w5) (Nat.le_refl _) (.cells #[.string f, .slice A5 us.length c5, .string t] 28)
          have hs6 : w5.heap.size < (w5.alloc (.cells #[.string f, .slice A5 us.length c5, .string t] 28)).heap.size := by simp
          clear d0 d1 d2 d3
          go_upto_region 6 with fail
          generalize w5.alloc (.cells #[.string f, .slice A5 us.length c5, .string t] 28) = w6 at hx6 hE6 hs6 ⊢
          have hE46 := hb5.trans (hE6.mono hb5.size)
          obtain ⟨b6, hb6⟩ : ∃ b, b = w5.heap.size := ⟨_, rfl⟩
          have hs56 : w4.heap.size ≤ b6 := by have := hb5.size; omega
          have HAT6 := Lib.hid ((HAT4.out.below hE46).mono hE46.size)
          have HB6 := Lib.hid (HB4.out.trans (hE46.mono HB4.out.size))
          have HX6s := Lib.hid ((hE46.block b2 (by omega)).trans HX4s.out)
          have HX6a := Lib.hid ((hE46.block b4 hs4).trans HX4.out)
          have HA36 := Lib.hid ((HA34.out.below hE46).mono hE46.size)
          have HA56 := Lib.hid ((HA5.out.below hE6).mono hE6.size)
          rw [← hb6] at hx6 hs6 ⊢
          have HX6 := Lib.hid hx6
          clear hb6 hE6 hE46 hb5 hx6
          have d0 : w6.cell? ⟨b2, 0, none⟩ = some (.int .i64 st) := cell_at HX6s.out 0 _ rfl
          have d1 : w6.cell? ⟨b2, 1, none⟩ = some (.string f) := cell_at HX6s.out 1 _ rfl
          have d2 : w6.cell? ⟨b2, 2, none⟩ = some (.slice A us.length c) := cell_at HX6s.out 2 _ rfl
          have d3 : w6.cell? ⟨b2, 3, none⟩ = some (.string t) := cell_at HX6s.out 3 _ rfl
          have l0 : w6.cell? ⟨b4, 0, none⟩ = some (.string f) := cell_at HX6a.out 0 _ rfl
          have l1 : w6.cell? ⟨b4, 1, none⟩ = some (.slice A3 us.length c3) := cell_at HX6a.out 1 _ rfl
          have l2 : w6.cell? ⟨b4, 2, none⟩ = some (.string t) := cell_at HX6a.out 2 _ rfl
          have m0 : w6.cell? ⟨b6, 0, none⟩ = some (.string f) := cell_at HX6.out 0 _ rfl
          have m1 : w6.cell? ⟨b6, 1, none⟩ = some (.slice A5 us.length c5) := cell_at HX6.out 1 _ rfl
          have m2 : w6.cell? ⟨b6, 2, none⟩ = some (.string t) := cell_at HX6.out 2 _ rfl
          go_wp2_with fail
          refine Calls.mono (sameLetter_any f t A3 A5 us c3 c5 _ HA36.out HA56.out hnl) ?_
          rintro e w7 ⟨rfl, hb7⟩
          have HB7 := Lib.hid (HB6.out.trans (hb7.mono HB6.out.size))
          have HX7s := Lib.hid ((hb7.block b2 (by omega)).trans HX6s.out)
          have HAT7 := Lib.hid ((HAT6.out.below hb7).mono hb7.size)
          have HX7a := Lib.hid ((hb7.block b4 (by omega)).trans HX6a.out)
          have HX7m := Lib.hid ((hb7.block b6 hs6).trans HX6.out)
          have HA37 := Lib.hid ((HA36.out.below hb7).mono hb7.size)
          have hs7 := hb7.size
          clear hb7 d0 d1 d2 d3 l0 l1 l2 m0 m1 m2
          have d0 : w7.cell? ⟨b2, 0, none⟩ = some (.int .i64 st) := cell_at HX7s.out 0 _ rfl
          have d1 : w7.cell? ⟨b2, 1, none⟩ = some (.string f) := cell_at HX7s.out 1 _ rfl
          have d2 : w7.cell? ⟨b2, 2, none⟩ = some (.slice A us.length c) := cell_at HX7s.out 2 _ rfl
          have d3 : w7.cell? ⟨b2, 3, none⟩ = some (.string t) := cell_at HX7s.out 3 _ rfl
          have l0 : w7.cell? ⟨b4, 0, none⟩ = some (.string f) := cell_at HX7a.out 0 _ rfl
          have l1 : w7.cell? ⟨b4, 1, none⟩ = some (.slice A3 us.length c3) := cell_at HX7a.out 1 _ rfl
          have l2 : w7.cell? ⟨b4, 2, none⟩ = some (.string t) := cell_at HX7a.out 2 _ rfl
          go_wp2_with fail
          refine Calls.mono (iLetterValid_any f t A3 us c3 _ HA37.out hcap3 hcm3 hfm htm) ?_
          rintro e w8 ⟨rfl, hb8⟩
          rw [HLT.out]
          have HX8s := Lib.hid ((hb8.block b2 (by omega)).trans HX7s.out)
          have HX8a := Lib.hid ((hb8.block b4 (by omega)).trans HX7a.out)
          have HB8 := Lib.hid (HB7.out.trans (hb8.mono HB7.out.size))
          have HA8 := Lib.hid ((HA37.out.below hb8).mono hb8.size)
          have HAT8 := Lib.hid ((HAT7.out.below hb8).mono hb8.size)
          clear d0 d1 d2 d3 l0 l1 l2 hb8
          have d0 : w8.cell? ⟨b2, 0, none⟩ = some (.int .i64 st) := cell_at HX8s.out 0 _ rfl
          have d1 : w8.cell? ⟨b2, 1, none⟩ = some (.string f) := cell_at HX8s.out 1 _ rfl
          have d2 : w8.cell? ⟨b2, 2, none⟩ = some (.slice A us.length c) := cell_at HX8s.out 2 _ rfl
          have d3 : w8.cell? ⟨b2, 3, none⟩ = some (.string t) := cell_at HX8s.out 3 _ rfl
          have l0 : w8.cell? ⟨b4, 0, none⟩ = some (.string f) := cell_at HX8a.out 0 _ rfl
          have l1 : w8.cell? ⟨b4, 1, none⟩ = some (.slice A3 us.length c3) := cell_at HX8a.out 1 _ rfl
          have l2 : w8.cell? ⟨b4, 2, none⟩ = some (.string t) := cell_at HX8a.out 2 _ rfl
          go_wp2_with fail
          refine Calls.mono (sameLetter_any f t A3 A us c3 c _ HA8.out HAT8.out hnl) ?_
          rintro e w9 ⟨rfl, hb9⟩
          go_wp2_with fail
          go_ret
          exact ⟨rfl, HB8.out.trans (hb9.mono HB8.out.size)⟩
        · have HD := Lib.hid (Sb.done_no3 (st := st) (f := f) (us := us) n3)
          have n3i : ¬ (t.size : Int) ≤ 20 := by omega
          have n3b : decide ((t.size : Int) ≤ 20) = false := decide_eq_false n3i
          have n2i : (st == 5) = true := by simpa using n2
          have N1 := Lib.hid n1
          clear n1 n2 n3
          go_wp2_with fail
          refine Calls.mono (iSubmissionLetter_any st f t A us c _ HAT.out hcap hcm hfm htm hul) ?_
          rintro e w3 ⟨_, hno, hb3⟩
          obtain rfl := hno HD.out
          clear hno
          have hx4 := heap_alloc_new w3 (.cells #[.string ⟨#[]⟩, .slice none 0 0, .string ⟨#[]⟩] 28)
          have hE4 := Below.alloc (Below.refl w3.heap.size w3) (Nat.le_refl _) (.cells #[.string ⟨#[]⟩, .slice none 0 0, .string ⟨#[]⟩] 28)
          have hs4 : w3.heap.size < (w3.alloc (.cells #[.string ⟨#[]⟩, .slice none 0 0, .string ⟨#[]⟩] 28)).heap.size := by simp
          clear d0 d1 d2 d3
          go_upto_region 5 with fail
          generalize w3.alloc (.cells #[.string ⟨#[]⟩, .slice none 0 0, .string ⟨#[]⟩] 28) = w4 at hx4 hE4 hs4 ⊢
          have hE24 := hb3.trans (hE4.mono hb3.size)
          obtain ⟨b4, hb4⟩ : ∃ b, b = w3.heap.size := ⟨_, rfl⟩
          have hs34 : w2.heap.size ≤ b4 := by have := hb3.size; omega
          have HAT4 := Lib.hid ((HAT.out.below hE24).mono hE24.size)
          have HB4 := Lib.hid (HB2.out.trans (hE24.mono HB2.out.size))
          have HX4s := Lib.hid ((hE24.block b2 hs2).trans HX2.out)
          rw [← hb4] at hx4 hs4 ⊢
          have HX4 := Lib.hid hx4
          clear hb4 hE4 hE24 hb3 hx4
          have d0 : w4.cell? ⟨b2, 0, none⟩ = some (.int .i64 st) := cell_at HX4s.out 0 _ rfl
          have d1 : w4.cell? ⟨b2, 1, none⟩ = some (.string f) := cell_at HX4s.out 1 _ rfl
          have d2 : w4.cell? ⟨b2, 2, none⟩ = some (.slice A us.length c) := cell_at HX4s.out 2 _ rfl
          have d3 : w4.cell? ⟨b2, 3, none⟩ = some (.string t) := cell_at HX4s.out 3 _ rfl
          go_wp2_with fail
          refine Calls.mono (sSubmissionLetter_any st f t A us c _ HAT4.out hcap hcm hfm htm hul) ?_
          rintro e w5 ⟨_, hno, hb5⟩
          obtain rfl := hno HD.out
          clear hno
          have hx6 := heap_alloc_new w5 (.cells #[.string ⟨#[]⟩, .slice none 0 0, .string ⟨#[]⟩] 28)
          have hE6 := Below.alloc (Below.refl w5.heap.size w5) (Nat.le_refl _) (.cells #[.string ⟨#[]⟩, .slice none 0 0, .string ⟨#[]⟩] 28)
          have hs6 : w5.heap.size < (w5.alloc (.cells #[.string ⟨#[]⟩, .slice none 0 0, .string ⟨#[]⟩] 28)).heap.size := by simp
          clear d0 d1 d2 d3
          go_upto_region 6 with fail
          generalize w5.alloc (.cells #[.string ⟨#[]⟩, .slice none 0 0, .string ⟨#[]⟩] 28) = w6 at hx6 hE6 hs6 ⊢
          have hE46 := hb5.trans (hE6.mono hb5.size)
          obtain ⟨b6, hb6⟩ : ∃ b, b = w5.heap.size := ⟨_, rfl⟩
          have hs56 : w4.heap.size ≤ b6 := by have := hb5.size; omega
          have HAT6 := Lib.hid ((HAT4.out.below hE46).mono hE46.size)
          have HB6 := Lib.hid (HB4.out.trans (hE46.mono HB4.out.size))
          have HX6s := Lib.hid ((hE46.block b2 (by omega)).trans HX4s.out)
          have HX6a := Lib.hid ((hE46.block b4 hs4).trans HX4.out)
          rw [← hb6] at hx6 hs6 ⊢
          have HX6 := Lib.hid hx6
          clear hb6 hE6 hE46 hb5 hx6
          have d0 : w6.cell? ⟨b2, 0, none⟩ = some (.int .i64 st) := cell_at HX6s.out 0 _ rfl
          have d1 : w6.cell? ⟨b2, 1, none⟩ = some (.string f) := cell_at HX6s.out 1 _ rfl
          have d2 : w6.cell? ⟨b2, 2, none⟩ = some (.slice A us.length c) := cell_at HX6s.out 2 _ rfl
          have d3 : w6.cell? ⟨b2, 3, none⟩ = some (.string t) := cell_at HX6s.out 3 _ rfl
          have l0 : w6.cell? ⟨b4, 0, none⟩ = some (.string ⟨#[]⟩) := cell_at HX6a.out 0 _ rfl
          have l1 : w6.cell? ⟨b4, 1, none⟩ = some (.slice none 0 0) := cell_at HX6a.out 1 _ rfl
          have l2 : w6.cell? ⟨b4, 2, none⟩ = some (.string ⟨#[]⟩) := cell_at HX6a.out 2 _ rfl
          have m0 : w6.cell? ⟨b6, 0, none⟩ = some (.string ⟨#[]⟩) := cell_at HX6.out 0 _ rfl
          have m1 : w6.cell? ⟨b6, 1, none⟩ = some (.slice none 0 0) := cell_at HX6.out 1 _ rfl
          have m2 : w6.cell? ⟨b6, 2, none⟩ = some (.string ⟨#[]⟩) := cell_at HX6.out 2 _ rfl
          go_wp2_with fail
          refine Calls.mono (sameLetter_any ⟨#[]⟩ ⟨#[]⟩ none none [] 0 0 _ at_none at_none (Nat.zero_le _)) ?_
          rintro e w7 ⟨rfl, hb7⟩
          have HB7 := Lib.hid (HB6.out.trans (hb7.mono HB6.out.size))
          have HX7s := Lib.hid ((hb7.block b2 (by omega)).trans HX6s.out)
          have HAT7 := Lib.hid ((HAT6.out.below hb7).mono hb7.size)
          have HX7a := Lib.hid ((hb7.block b4 (by omega)).trans HX6a.out)
          have HX7m := Lib.hid ((hb7.block b6 hs6).trans HX6.out)
          have hs7 := hb7.size
          clear hb7 d0 d1 d2 d3 l0 l1 l2 m0 m1 m2
          have d0 : w7.cell? ⟨b2, 0, none⟩ = some (.int .i64 st) := cell_at HX7s.out 0 _ rfl
          have d1 : w7.cell? ⟨b2, 1, none⟩ = some (.string f) := cell_at HX7s.out 1 _ rfl
          have d2 : w7.cell? ⟨b2, 2, none⟩ = some (.slice A us.length c) := cell_at HX7s.out 2 _ rfl
          have d3 : w7.cell? ⟨b2, 3, none⟩ = some (.string t) := cell_at HX7s.out 3 _ rfl
          have l0 : w7.cell? ⟨b4, 0, none⟩ = some (.string ⟨#[]⟩) := cell_at HX7a.out 0 _ rfl
          have l1 : w7.cell? ⟨b4, 1, none⟩ = some (.slice none 0 0) := cell_at HX7a.out 1 _ rfl
          have l2 : w7.cell? ⟨b4, 2, none⟩ = some (.string ⟨#[]⟩) := cell_at HX7a.out 2 _ rfl
          have m0 : w7.cell? ⟨b6, 0, none⟩ = some (.string ⟨#[]⟩) := cell_at HX7m.out 0 _ rfl
          have m1 : w7.cell? ⟨b6, 1, none⟩ = some (.slice none 0 0) := cell_at HX7m.out 1 _ rfl
          have m2 : w7.cell? ⟨b6, 2, none⟩ = some (.string ⟨#[]⟩) := cell_at HX7m.out 2 _ rfl
          go_wp2_with fail
          refine Calls.mono (sameLetter_any ⟨#[]⟩ ⟨#[]⟩ none none [] 0 0 _ at_none at_none (Nat.zero_le _)) ?_
          rintro e w8 ⟨rfl, hb8⟩
          go_wp2_with fail
          go_ret
          exact ⟨rfl, HB7.out.trans (hb8.mono HB7.out.size)⟩
      · have HD := Lib.hid (Sb.done_no2 (f := f) (us := us) (t := t) n2)
        have n2i : (st == 5) = false := by simpa using n2
        have N1 := Lib.hid n1
        clear n1 n2
        go_wp2_with fail
        refine Calls.mono (iSubmissionLetter_any st f t A us c _ HAT.out hcap hcm hfm htm hul) ?_
        rintro e w3 ⟨_, hno, hb3⟩
        obtain rfl := hno HD.out
        clear hno
        have hx4 := heap_alloc_new w3 (.cells #[.string ⟨#[]⟩, .slice none 0 0, .string ⟨#[]⟩] 28)
        have hE4 := Below.alloc (Below.refl w3.heap.size w3) (Nat.le_refl _) (.cells #[.string ⟨#[]⟩, .slice none 0 0, .string ⟨#[]⟩] 28)
        have hs4 : w3.heap.size < (w3.alloc (.cells #[.string ⟨#[]⟩, .slice none 0 0, .string ⟨#[]⟩] 28)).heap.size := by simp
        clear d0 d1 d2 d3
        go_upto_region 5 with fail
        generalize w3.alloc (.cells #[.string ⟨#[]⟩, .slice none 0 0, .string ⟨#[]⟩] 28) = w4 at hx4 hE4 hs4 ⊢
        have hE24 := hb3.trans (hE4.mono hb3.size)
        obtain ⟨b4, hb4⟩ : ∃ b, b = w3.heap.size := ⟨_, rfl⟩
        have hs34 : w2.heap.size ≤ b4 := by have := hb3.size; omega
        have HAT4 := Lib.hid ((HAT.out.below hE24).mono hE24.size)
        have HB4 := Lib.hid (HB2.out.trans (hE24.mono HB2.out.size))
        have HX4s := Lib.hid ((hE24.block b2 hs2).trans HX2.out)
        rw [← hb4] at hx4 hs4 ⊢
        have HX4 := Lib.hid hx4
        clear hb4 hE4 hE24 hb3 hx4
        have d0 : w4.cell? ⟨b2, 0, none⟩ = some (.int .i64 st) := cell_at HX4s.out 0 _ rfl
        have d1 : w4.cell? ⟨b2, 1, none⟩ = some (.string f) := cell_at HX4s.out 1 _ rfl
        have d2 : w4.cell? ⟨b2, 2, none⟩ = some (.slice A us.length c) := cell_at HX4s.out 2 _ rfl
        have d3 : w4.cell? ⟨b2, 3, none⟩ = some (.string t) := cell_at HX4s.out 3 _ rfl
        go_wp2_with fail
        refine Calls.mono (sSubmissionLetter_any st f t A us c _ HAT4.out hcap hcm hfm htm hul) ?_
        rintro e w5 ⟨_, hno, hb5⟩
        obtain rfl := hno HD.out
        clear hno
        have hx6 := heap_alloc_new w5 (.cells #[.string ⟨#[]⟩, .slice none 0 0, .string ⟨#[]⟩] 28)
        have hE6 := Below.alloc (Below.refl w5.heap.size w5) (Nat.le_refl _) (.cells #[.string ⟨#[]⟩, .slice none 0 0, .string ⟨#[]⟩] 28)
        have hs6 : w5.heap.size < (w5.alloc (.cells #[.string ⟨#[]⟩, .slice none 0 0, .string ⟨#[]⟩] 28)).heap.size := by simp
        clear d0 d1 d2 d3
        go_upto_region 6 with fail
        generalize w5.alloc (.cells #[.string ⟨#[]⟩, .slice none 0 0, .string ⟨#[]⟩] 28) = w6 at hx6 hE6 hs6 ⊢
        have hE46 := hb5.trans (hE6.mono hb5.size)
        obtain ⟨b6, hb6⟩ : ∃ b, b = w5.heap.size := ⟨_, rfl⟩
        have hs56 : w4.heap.size ≤ b6 := by have := hb5.size; omega
        have HAT6 := Lib.hid ((HAT4.out.below hE46).mono hE46.size)
        have HB6 := Lib.hid (HB4.out.trans (hE46.mono HB4.out.size))
        have HX6s := Lib.hid ((hE46.block b2 (by omega)).trans HX4s.out)
        have HX6a := Lib.hid ((hE46.block b4 hs4).trans HX4.out)
        rw [← hb6] at hx6 hs6 ⊢
        have HX6 := Lib.hid hx6
        clear hb6 hE6 hE46 hb5 hx6
        have d0 : w6.cell? ⟨b2, 0, none⟩ = some (.int .i64 st) := cell_at HX6s.out 0 _ rfl
        have d1 : w6.cell? ⟨b2, 1, none⟩ = some (.string f) := cell_at HX6s.out 1 _ rfl
        have d2 : w6.cell? ⟨b2, 2, none⟩ = some (.slice A us.length c) := cell_at HX6s.out 2 _ rfl
        have d3 : w6.cell? ⟨b2, 3, none⟩ = some (.string t) := cell_at HX6s.out 3 _ rfl
        have l0 : w6.cell? ⟨b4, 0, none⟩ = some (.string ⟨#[]⟩) := cell_at HX6a.out 0 _ rfl
        have l1 : w6.cell? ⟨b4, 1, none⟩ = some (.slice none 0 0) := cell_at HX6a.out 1 _ rfl
        have l2 : w6.cell? ⟨b4, 2, none⟩ = some (.string ⟨#[]⟩) := cell_at HX6a.out 2 _ rfl
        have m0 : w6.cell? ⟨b6, 0, none⟩ = some (.string ⟨#[]⟩) := cell_at HX6.out 0 _ rfl
        have m1 : w6.cell? ⟨b6, 1, none⟩ = some (.slice none 0 0) := cell_at HX6.out 1 _ rfl
        have m2 : w6.cell? ⟨b6, 2, none⟩ = some (.string ⟨#[]⟩) := cell_at HX6.out 2 _ rfl
        go_wp2_with fail
        refine Calls.mono (sameLetter_any ⟨#[]⟩ ⟨#[]⟩ none none [] 0 0 _ at_none at_none (Nat.zero_le _)) ?_
        rintro e w7 ⟨rfl, hb7⟩
        have HB7 := Lib.hid (HB6.out.trans (hb7.mono HB6.out.size))
        have HX7s := Lib.hid ((hb7.block b2 (by omega)).trans HX6s.out)
        have HAT7 := Lib.hid ((HAT6.out.below hb7).mono hb7.size)
        have HX7a := Lib.hid ((hb7.block b4 (by omega)).trans HX6a.out)
        have HX7m := Lib.hid ((hb7.block b6 hs6).trans HX6.out)
        have hs7 := hb7.size
        clear hb7 d0 d1 d2 d3 l0 l1 l2 m0 m1 m2
        have d0 : w7.cell? ⟨b2, 0, none⟩ = some (.int .i64 st) := cell_at HX7s.out 0 _ rfl
        have d1 : w7.cell? ⟨b2, 1, none⟩ = some (.string f) := cell_at HX7s.out 1 _ rfl
        have d2 : w7.cell? ⟨b2, 2, none⟩ = some (.slice A us.length c) := cell_at HX7s.out 2 _ rfl
        have d3 : w7.cell? ⟨b2, 3, none⟩ = some (.string t) := cell_at HX7s.out 3 _ rfl
        have l0 : w7.cell? ⟨b4, 0, none⟩ = some (.string ⟨#[]⟩) := cell_at HX7a.out 0 _ rfl
        have l1 : w7.cell? ⟨b4, 1, none⟩ = some (.slice none 0 0) := cell_at HX7a.out 1 _ rfl
        have l2 : w7.cell? ⟨b4, 2, none⟩ = some (.string ⟨#[]⟩) := cell_at HX7a.out 2 _ rfl
        have m0 : w7.cell? ⟨b6, 0, none⟩ = some (.string ⟨#[]⟩) := cell_at HX7m.out 0 _ rfl
        have m1 : w7.cell? ⟨b6, 1, none⟩ = some (.slice none 0 0) := cell_at HX7m.out 1 _ rfl
        have m2 : w7.cell? ⟨b6, 2, none⟩ = some (.string ⟨#[]⟩) := cell_at HX7m.out 2 _ rfl
        go_wp2_with fail
        refine Calls.mono (sameLetter_any ⟨#[]⟩ ⟨#[]⟩ none none [] 0 0 _ at_none at_none (Nat.zero_le _)) ?_
        rintro e w8 ⟨rfl, hb8⟩
        go_wp2_with fail
        go_ret
        exact ⟨rfl, HB7.out.trans (hb8.mono HB7.out.size)⟩
  · have hbi : (1048576 : Int) < (len : Int) := by omega
    go_enter Try.func4, Try.ntmps4
    go_wp2_with fail
    go_ret
    exact ⟨rfl, Below.refl _ _⟩
end Go.Proofs.Ytnbggmmghopphaa
