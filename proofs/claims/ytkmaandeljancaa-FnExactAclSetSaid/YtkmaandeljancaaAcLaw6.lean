/- toGrantS of the laws, again: the copy lies in memory of the call's own. FnExactAclSet: the walk. -/
import Derived.Test.YtkmaandeljancaaAcMk
import Derived.Test.YtkmaandeljancaaAcISet
namespace Go.Proofs.Ytkmaandeljancaa
set_option linter.unusedVariables false
open Go.RowKit Go.ChangeShapes Go.WideShapes Go.Deep
open Ac (G)

set_option maxRecDepth 100000 in
set_option maxHeartbeats 1600000 in
theorem toGrantS_own (A : Option Addr) (us : List G) (c : Nat) (w : World) (h : AtGrants w w.heap.size A us) (hn : us.length ≤ 1048576) :
    Calls Try.prog 17 #[.slice A us.length c] w fun e w' => ∃ A' c', e = .returned (.slice A' us.length c') ∧ us.length ≤ c' ∧ c' ≤ maxLen ∧ Ac.Own w' w.heap.size (.slice A' us.length c') us ∧ Below w.heap.size w w' := by
  obtain ⟨i0, hi, hz0, hz1, hz2⟩ := info_parts grant_info
  have hmk := fun W => run_make_rowN (P := Try.prog) 23 34 i0 _ Try.underlying23 hi hz0 .i64 .i64 us.length us.length (Nat.le_refl _) (by rw [hz2]; omega) (by omega) W
  rw [hz1] at hmk
  have hml : (madeCells (Value.agg #[.string ⟨#[]⟩, .int .i64 0]).cells (us.length * 2)).toList = (Ac.part us 0).flatMap Ac.cells := by
    rw [Ac.part_zero]
    exact made_flat (by omega) Ac.cells_len rfl
  have HML := Lib.hid hml
  clear hml
  have hown0 : (w.alloc (.cells (madeCells (Value.agg #[.string ⟨#[]⟩, .int .i64 0]).cells (us.length * 2)) 34)).ownsRow w.heap.size 34 2 (.slice (some ⟨w.heap.size, 0, none⟩) us.length us.length) us.length ((Ac.part us 0).flatMap Ac.cells) := by
    rw [← HML.out]
    exact World.ownsRow_lit w _ us.length (Nat.le_refl _) (by unfold maxLen; omega) (size_madeCells _ _)
  have H0 := Lib.hid hown0
  clear hown0
  go_enter Try.func17, Try.ntmps17
  go_wp2_with fail
  go_loopg [4] us.length (fun g i wr => ∃ k : Nat, k ≤ us.length ∧ Hid (g = us.length - k) ∧ i = .int .i64 k ∧ wr.ownsRow w.heap.size 34 2 (.slice (some ⟨w.heap.size, 0, none⟩) us.length us.length) us.length ((Ac.part us k).flatMap Ac.cells) ∧ Below w.heap.size w wr)
  case atStart => exact ⟨0, Nat.zero_le _, Lib.hid rfl, rfl, H0.out, by go_grown⟩
  case round =>
    obtain ⟨k, hk, HG, rfl, hown, hb⟩ := hrel
    by_cases hlt : k < us.length
    · obtain ⟨g, off, rfl, hg, hc⟩ := (h.below hb).1 (by omega)
      obtain ⟨u, hu⟩ : ∃ u, us[k]? = some u := ⟨_, List.getElem?_eq_getElem hlt⟩
      obtain ⟨d1, d2⟩ := hc k u hu
      have HU := Lib.hid hu
      have HO := Lib.hid hown
      clear hc hu hown
      go_wp2_with fail
      refine (toGrant_any u _).mono ?_
      rintro e w1 ⟨rfl, hb1⟩
      have hlt1 := (HO.out.lt _ rfl).2
      have hown1 := own_below HO.out hb1 hlt1
      have e0 : w1.cell? ⟨w.heap.size, k * 2, none⟩ = some (.string ⟨#[]⟩) := own_cell (j := 0) Ac.cells_len hown1 (Ac.part_get us k hlt) rfl
      have e1 : w1.cell? ⟨w.heap.size, k * 2 + 1, none⟩ = some (.int .i64 0) := own_cell (j := 1) Ac.cells_len hown1 (Ac.part_get us k hlt) rfl
      have f0 : w1.frozen? ⟨w.heap.size, k * 2, none⟩ = false := hown1.frozenAt _
      have f1 : w1.frozen? ⟨w.heap.size, k * 2 + 1, none⟩ = false := hown1.frozenAt _
      have HO1 := Lib.hid hown1
      clear hown1 d1 d2
      have hpl : k < (Ac.part us k).length := by rw [Ac.part_len us k hk]; exact hlt
      have hs1 := own_set (j := 0) (u' := ⟨u.user, 0⟩) (v := .string u.user) Ac.cells_len HO1.out (Ac.part_get us k hlt) (by omega) rfl
      have hs2 := own_set (j := 1) (u' := u) (v := .int .i64 u.rights) Ac.cells_len hs1 (List.getElem?_set_self hpl) (by omega) rfl
      rw [List.set_set, Ac.part_set us k u HU.out] at hs2
      have HS := Lib.hid hs2
      clear hs1 hs2 hpl
      go_wp2_with fail
      go_roundg (us.length - (k + 1))
      case measure => have := HG.out; omega
      case rel => exact ⟨k + 1, by omega, Lib.hid rfl, by go_num, HS.out, ((hb.trans (hb1.mono hb.size)).setCell (p := ⟨w.heap.size, k * 2, none⟩) (Nat.le_refl _) _).setCell (p := ⟨w.heap.size, k * 2 + 1, none⟩) (Nat.le_refl _) _⟩
    · obtain rfl : k = us.length := by omega
      rw [Ac.part_all] at hown
      have HAT := Lib.hid hown
      clear hown
      go_wp2_with fail
      go_ret
      exact ⟨_, _, rfl, Nat.le_refl _, by unfold maxLen; omega, HAT.out, hb⟩

theorem Ac.set_sizes' {us : List G} {s : ByteArray} {r : Int} (h : ∀ u ∈ us, u.user.size ≤ maxLen) (hs : s.size ≤ maxLen) : ∀ u ∈ (Ac.set us s r).1, u.user.size ≤ maxLen := by
  unfold Ac.set
  split
  · split
    · intro u hu
      rcases Ac.build_mem us s r u hu with h1 | rfl
      · exact h u h1
      · exact hs
    · exact h
  · simp
theorem Ac.set_len' {us : List G} {s : ByteArray} {r : Int} : (Ac.set us s r).1.length ≤ us.length + 1 := by
  unfold Ac.set
  split
  · split
    · exact Ac.build_len us s r
    · exact Nat.le_succ _
  · simp
theorem Ac.apart {E2 : TypeId} {s2 : Nat} {β : Type} {f2 : β → List Value} {w w' : World} {B2 : Nat} {v1 v2 : Value} {us2 : List β}
    (ho : OwnL E2 s2 f2 w B2 v2 us2) (h1 : ∀ q, v1.ownBlock = some q → q < B2) (hg : w.grownBy w' v1.ownBlock) : OwnL E2 s2 f2 w' B2 v2 us2 :=
  World.ownsRow.kept ho hg (by
    cases hq : v2.ownBlock with
    | none => exact .inl rfl
    | some q => exact .inr fun e => by have h2 := OwnL.blk ho hq; have h3 := h1 q e.symm; omega)

set_option maxRecDepth 100000 in
set_option maxHeartbeats 3200000 in
theorem walkFnExactAclSet (A : Option Addr) (us : List G) (c : Nat) (s : ByteArray) (r0 : Int) (w : World) (h : AtGrants w w.heap.size A us) (hn : us.length ≤ maxLen) (hs : s.size ≤ maxLen) (hr0 : (Lit.int .i64 r0).wf = true) :
    Calls Try.prog 7 #[.slice A us.length c, .string s, .int .i64 r0] w fun e w' => e = .returned (.bool true) ∧ Below w.heap.size w w' := by
  clear hr0
  have hsl := hs
  unfold maxLen at hsl
  by_cases hb0 : 1048576 < s.size
  · go_enter Try.func7, Try.ntmps7
    go_wp2_with fail
    go_ret
    exact ⟨rfl, Below.refl _ _⟩
  go_enter Try.func7, Try.ntmps7
  go_wp2_with fail
  refine (szGrantS_any A us c _ _ h hn (by omega) (by omega)).mono ?_
  rintro e w1 ⟨r, rfl, hm, hle, hq, hb1⟩
  have HQ := Lib.hid hq
  clear hq
  by_cases hneg : r < 0
  · go_wp2_with fail
    go_ret
    exact ⟨rfl, hb1⟩
  · have hlen := (HQ.out (by omega)).1
    have hsz := h.2
    have h1 := (h.below hb1).mono hb1.size
    have HSS := Lib.hid (Ac.set_sizes' (r := r0) hsz hs)
    have HSL := Lib.hid (Ac.set_len' (us := us) (s := s) (r := r0))
    go_wp2_with fail
    refine (toGrantS_any A us c _ h1 hlen).mono ?_
    rintro e w2 ⟨A2, c2, rfl, hc2, hc2', h2, hb2⟩
    have hB2 := hb1.trans (hb2.mono hb1.size)
    go_wp2_with fail
    refine (sAclSet_any A2 us c2 s r0 _ h2 hn hs).mono ?_
    rintro e w3 ⟨A3, c3, rfl, ho3, hb3⟩
    have hB3 := hB2.trans (hb3.mono hB2.size)
    have hW3 := at_grants (OwnL.at_ ho3 Ac.cells_len rfl) HSS.out
    obtain ⟨st, hst⟩ : ∃ st, Ac.set us s r0 = st := ⟨_, rfl⟩
    have HST := Lib.hid hst
    rw [hst] at HSL HSS hW3 ⊢
    clear hst h2 ho3 hb1 hb2 hb3
    obtain ⟨vs, ok⟩ := st
    simp only at HSL HSS hW3 ⊢
    have hvl : vs.length ≤ 1048577 := by have := HSL.out; omega
    have hvm : vs.length ≤ maxLen := by unfold maxLen; omega
    go_wp2_with fail
    refine Calls.mono (toGrantS_own A us c _ ((h.below hB3).mono hB3.size) hlen) ?_
    rintro e w4 ⟨A4, c4, rfl, hc4, hc4', ho4, hb4⟩
    have hB4 := hB3.trans (hb4.mono hB3.size)
    have HX4 := Lib.hid (at_grants (OwnL.at_ ho4 Ac.cells_len rfl) hsz)
    have HQ4 : Hid (∀ q, (Value.slice A4 us.length c4).ownBlock = some q → q < w4.heap.size) := Lib.hid fun q hq => OwnL.blt ho4 hq
    go_wp2_with fail
    refine Calls.mono (iAclSet_any A4 us c4 s r0 _ HX4.out hn hs) ?_
    rintro e w5 ⟨A5, c5, rfl, ho5, hb5⟩
    rw [HST.out] at ho5 ⊢
    simp only at ho5 ⊢
    have ho45 := OwnL.below ho4 hb5
    have hB5 := hB4.trans (hb5.mono hB4.size)
    have hC5 := hb4.trans (hb5.mono hb4.size)
    have hs3' := hb4.size
    have HW5 := Lib.hid ((hW3.below hC5).mono hC5.size)
    have HG5 := Lib.hid (at_grants (OwnL.at_ ho5 Ac.cells_len rfl) HSS.out)
    have hs45 := hb5.size
    clear ho4 hb4 hb5
    go_wp2_with fail
    refine Calls.mono (eqGrantS_any A5 A3 vs c5 c3 _ HG5.out HW5.out hvm) ?_
    rintro e w6 ⟨rfl, hb6⟩
    have ho46 := OwnL.below ho45 hb6
    have ho56 := OwnL.below ho5 hb6
    have hB6 := hB5.trans (hb6.mono hB5.size)
    have hC6 := hC5.trans (hb6.mono hC5.size)
    clear ho45 ho5 hb6
    go_wp2_with fail
    refine Calls.mono (toGrantS_any A us c _ ((h.below hB6).mono hB6.size) hlen) ?_
    rintro e w7 ⟨A7, c7, rfl, hc7, hc7', h7, hb7⟩
    have ho47 := OwnL.below ho46 hb7
    have ho57 := OwnL.below ho56 hb7
    have hB7 := hB6.trans (hb7.mono hB6.size)
    have hC7 := hC6.trans (hb7.mono hC6.size)
    have HX7 := Lib.hid (at_grants (OwnL.at_ ho47 Ac.cells_len rfl) hsz)
    clear ho46 ho56 hb7
    go_wp2_with fail
    refine Calls.mono (eqGrantS_any A4 A7 us c4 c7 _ HX7.out h7 hn) ?_
    rintro e w8 ⟨rfl, hb8⟩
    have ho48 := OwnL.below ho47 hb8
    have ho58 := OwnL.below ho57 hb8
    have hB8 := hB7.trans (hb8.mono hB7.size)
    have hC8 := hC7.trans (hb8.mono hC7.size)
    clear ho47 ho57 hb8 h7
    go_wp2_with fail
    refine Calls.mono (markGrantS_any A4 us c4 _ 1 _ ho48 (by omega) (by omega)) ?_
    rintro e w9 ⟨rfl, ho49, hg9⟩
    have ho59 := Ac.apart (v1 := .slice A4 us.length c4) ho58 HQ4.out hg9
    have hB9 := hB8.grown hg9 hB8.size (fun q hq => Nat.le_trans hB3.size (OwnL.blk ho48 hq))
    have hC9 := hC8.grown hg9 hC8.size (fun q hq => OwnL.blk ho48 hq)
    have HW9 := Lib.hid ((hW3.below hC9).mono hC9.size)
    have HG9 := Lib.hid (at_grants (OwnL.at_ ho59 Ac.cells_len rfl) HSS.out)
    have hk9 : ¬ (((1 + 2 * us.length : Nat) : Int) < 0) := by omega
    clear ho48 ho58 hg9
    generalize ((1 + 2 * us.length : Nat) : Int) = k9 at hk9 ⊢
    go_wp2_with fail
    refine Calls.mono (eqGrantS_any A5 A3 vs c5 c3 _ HG9.out HW9.out hvm) ?_
    rintro e w10 ⟨rfl, hb10⟩
    have ho510 := OwnL.below ho59 hb10
    have hB10 := hB9.trans (hb10.mono hB9.size)
    have hC10 := hC9.trans (hb10.mono hC9.size)
    clear ho59 hb10 ho49
    go_wp2_with fail
    refine Calls.mono (markGrantS_any A5 vs c5 _ 1 _ ho510 (by omega) (by omega)) ?_
    rintro e w11 ⟨rfl, ho511, hg11⟩
    have hB11 := hB10.grown hg11 hB10.size (fun q hq => Nat.le_trans hB4.size (OwnL.blk ho510 hq))
    have hC11 := hC10.grown hg11 hC10.size (fun q hq => Nat.le_trans hs3' (OwnL.blk ho510 hq))
    have HMS : Hid (∀ u ∈ Ac.marks 1 vs.length, u.user.size ≤ maxLen) := Lib.hid fun u hu => by
      obtain ⟨i, hi, rfl⟩ := List.mem_iff_getElem.1 hu
      rw [Ac.marks_len] at hi
      have := Ac.marks_get 1 vs.length i hi
      rw [List.getElem?_eq_getElem (by rw [Ac.marks_len]; exact hi)] at this
      injection this with this
      rw [this]
      have := Mk.text_size (1 + 2 * i)
      show (Mk.text (1 + 2 * i)).size ≤ maxLen
      unfold maxLen; omega
    have HG11 := Lib.hid (at_grants (OwnL.at_ ho511 Ac.cells_len (Ac.marks_len 1 _)) HMS.out)
    have hm11 : ¬ (((1 + 2 * vs.length : Nat) : Int) < 0) := by omega
    have HH := Lib.hid (fun w' (hb : Below w11.heap.size w11 w') => heldGrantS_any A5 vs.length c5 1 w' ((HG11.out.below hb).mono hb.size) (by omega) (by omega))
    clear ho510 hg11 ho511
    generalize ((1 + 2 * vs.length : Nat) : Int) = m11 at hm11 HH ⊢
    go_wp2_with fail
    refine Calls.mono (HH.out _ (Below.refl _ _)) ?_
    rintro e w12 ⟨rfl, hb12⟩
    have hB12 := hB11.trans (hb12.mono hB11.size)
    have hC12 := hC11.trans (hb12.mono hC11.size)
    go_wp2_with fail
    refine Calls.mono (toGrantS_any A us c _ ((h.below hB12).mono hB12.size) hlen) ?_
    rintro e w13 ⟨A13, c13, rfl, hc13, hc13', h13, hb13⟩
    have hB13 := hB12.trans (hb13.mono hB12.size)
    have hC13 := hC12.trans (hb13.mono hC12.size)
    have hD13 := hb12.trans (hb13.mono hb12.size)
    go_wp2_with fail
    refine Calls.mono (iAclSet_any A13 us c13 s r0 _ h13 hn hs) ?_
    rintro e w14 ⟨A14, c14, rfl, ho14, hb14⟩
    rw [HST.out] at ho14 ⊢
    simp only at ho14 ⊢
    have hB14 := hB13.trans (hb14.mono hB13.size)
    have hC14 := hC13.trans (hb14.mono hC13.size)
    have hD14 := hD13.trans (hb14.mono hD13.size)
    have HW14 := Lib.hid ((hW3.below hC14).mono hC14.size)
    have HG14 := Lib.hid (at_grants (OwnL.at_ ho14 Ac.cells_len rfl) HSS.out)
    clear ho14 hb12 hb13 hb14 h13
    go_wp2_with fail
    refine Calls.mono (eqGrantS_any A14 A3 vs c14 c3 _ HG14.out HW14.out hvm) ?_
    rintro e w15 ⟨rfl, hb15⟩
    have hB15 := hB14.trans (hb15.mono hB14.size)
    have hD15 := hD14.trans (hb15.mono hD14.size)
    go_wp2_with fail
    refine Calls.mono (HH.out _ hD15) ?_
    rintro e w16 ⟨rfl, hb16⟩
    go_wp2_with fail
    go_ret
    exact ⟨rfl, hB15.trans (hb16.mono hB15.size)⟩

end Go.Proofs.Ytkmaandeljancaa
