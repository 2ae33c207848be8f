/- The law FnExactSearchBox holds: for every input the call returns true, and the arguments read as before. The listed variables of unicode/utf8 start as the program's text lays them (the given tie). -/
import Derived.Test.YtmlmdpdboigojaaGreatDoorRows
import Derived.Test.YtmlmdpdboigojaaGreatDoorCards
import Derived.Test.YtmlmdpdboigojaaGreatDoorTie
import Derived.Test.YtmlmdpdboigojaaGreatDoorLwWrap7
import Derived.Test.YtmlmdpdboigojaaGreatDoorLwFnExactSearchBox
import Derived.Test.YtmlmdpdboigojaaGreatDoorKyOp
import Derived.Test.YtmlmdpdboigojaaGreatDoorLawKit
import Derived.SevenTiedAt
import Derived.OpenVars
import Derived.ChangeVars
namespace Go.Proofs.YtmlmdpdboigojaaGreatDoor.fnExactSearchBox
open Go.ChangeShapes Go.WideShapes Go.ChangeAt Go.RowKit
open Go.ChangeMaps (open_string shut_string)
set_option linter.unusedVariables false

theorem laidOut : laidOutB Tryz.prog = true := by kernel_rfl

set_option maxRecDepth 100000 in
theorem lifted (os : Os) (started : os.Started) (H : Type) (enc : TypeId × Value → H) :
    ReturnsInHanded {} Tryz.checked os 3 .any (fun w args => (Rows.fnExactSearchBoxSpec.pre enc Tryz.prog Tryz.f3 [] false w args ∧ laidMetH Tryz.prog seatLaid w) ∧ sizedMet enc Tryz.prog Tryz.f3 (OpenSpec.ofChange Rows.fnExactSearchBoxSpec) false w args) (Rows.fnExactSearchBoxSpec.post enc Tryz.prog Tryz.f3 false true false false) := by
  refine lw_wrap started (by kernel_rfl) Tryz.func3
    (ChangeSpec.witness_shaped (enc := enc) (C := Tryz.checked) (os := os) (X := fun w _ => laidMetH Tryz.prog seatLaid w) false (World.laidAll Tryz.prog os seatLaid) #[.agg #[.int .i64 0, .slice none 0 0], .agg #[.int .i64 0, .int .i64 0, .string ⟨#[]⟩, .slice none 0 0, .slice none 0 0]] 8 (World.laidAll_os _ _ _)
      (World.shaped_of_ZipB (by kernel_rfl) (by kernel_rfl)) (by kernel_rfl) (by kernel_rfl) (by kernel_rfl) (seat_met os _)) ?_
  intro W base args ds gs before hsh hlaid hval0 hW
  have hval : ∀ (j : Nat) t v, Tryz.f3.params[j]? = some t → args[j]? = some v → Value.okWide Tryz.prog W .any base t v := hval0
  have hW' := hW
  obtain ⟨m, hm⟩ := mem_cell hsh
  obtain ⟨p, q, hA0, hV, rfl, hfz, hnd⟩ := hW
  have hA : DataW.TrodAll enc Tryz.prog W 0 (fun _ => true) true Tryz.f3.params.toList args.toList ds p := hA0
  rw [Tryz.params3] at hA hval
  obtain ⟨v0, vs0, d0, ds0, p0, q0, hargs, rfl, rfl, h0, r0⟩ := trodAll_cons hA
  obtain ⟨v1, vs1, d1, ds1, p1, q1, rfl, rfl, rfl, h1, r1⟩ := trodAll_cons r0
  obtain ⟨rfl, rfl, rfl⟩ := trodAll_nil r1
  obtain rfl : args = #[v0, v1] := by cases args; simp_all
  have hV0 := hV
  obtain ⟨_, _, _, _, dg, _, rfl, _⟩ := trodVars_one hV
  obtain ⟨cs0, rfl, hsz0⟩ := okWide_struct Tryz.underlying24 (hval 0 24 v0 rfl rfl)
  have k0 := h0
  have lt0 : ∀ x ∈ p0, x.block < W.heap.size := by obtain ⟨m, hm⟩ := k0; exact DataW.trod_lt m _ _ _ hm
  obtain ⟨fuel0, hf0⟩ := h0
  obtain ⟨nx, a0, ms, c0, rfl, hl0, hm0, w0, z0⟩ := open_box hsz0 hf0
  obtain ⟨cs1, rfl, hsz1⟩ := okWide_struct Tryz.underlying28 (hval 1 28 v1 rfl rfl)
  have k1 := h1
  have lt1 : ∀ x ∈ p1, x.block < W.heap.size := by obtain ⟨m, hm⟩ := k1; exact DataW.trod_lt m _ _ _ hm
  obtain ⟨fuel1, hf1⟩ := h1
  obtain ⟨n1, rfl⟩ : ∃ n, fuel1 = n + 1 := by
    cases fuel1 with
    | zero => simp [DataW.trod] at hf1
    | succ n => exact ⟨n, rfl⟩
  obtain ⟨x1, e1, w1⟩ := open_key _ _ _ hf1
  obtain rfl : cs1 = #[.int .i64 x1.kind, .int .i64 x1.flag, .string x1.text, .slice x1.A x1.set.length x1.c, .slice x1.KA x1.keys.length x1.kc] := Array.toList_inj.1 e1
  clear hA0 hval0
  refine (walkFnExactSearchBox nx a0 ms c0 n1 x1 m W w0 z0 (Nat.le_trans hl0 hm0) w1 (flags_laid hlaid) hm).mono fun e W' ⟨he, bel⟩ => ?_
  subst he
  exact ⟨_, rfl, _, _, _, [], _, _, hW', trodAll_mk1 (shut_bool Tryz.underlying4 _), (trodAll_cons_mk (Below.trod laidOut (by kernel_rfl) (of_decide_eq_true (by kernel_rfl)) k0 bel lt0) (trodAll_cons_mk (Below.trod laidOut (by kernel_rfl) (of_decide_eq_true (by kernel_rfl)) k1 bel lt1) trodAll_mk0)), Below.trodVars laidOut bel (by kernel_rfl) hV0, bel.frame _, fun h => by cases h⟩

theorem f_place : (Rows.fnExactSearchBoxRow.inPlace == Tryz.pinned.checked.prog.inPlace 3) = true := by kernel_rfl
theorem f_unf : (Rows.fnExactSearchBoxRow.unfollowed == Tryz.pinned.checked.prog.unfollowed 3) = true := by kernel_rfl
theorem f_rec : (Rows.fnExactSearchBoxRow.recurses == Tryz.pinned.checked.prog.recurses 3) = true := by kernel_rfl
theorem f_nam : (Rows.fnExactSearchBoxRow.named == Tryz.pinned.checked.prog.varsNamed 3) = true := by kernel_rfl
theorem f_goes : false = Rows.fnExactSearchBoxRow.goesBy Tryz.pinned.checked.prog := by kernel_rfl
theorem f_func : Tryz.pinned.checked.prog.funcNamed Rows.fnExactSearchBoxRow.func = some 3 := by kernel_rfl
theorem f_got : Tryz.pinned.checked.prog.funcs[3]? = some Tryz.f3 := by kernel_rfl
theorem f_wf : Rows.fnExactSearchBoxRow.wf (OpenSpec.ofChange Rows.fnExactSearchBoxSpec) = true := by kernel_rfl
theorem f_wft : Rows.fnExactSearchBoxRow.wfByText (OpenSpec.ofChange Rows.fnExactSearchBoxSpec) = true := by kernel_rfl
theorem f_main : Tryz.pinned.checked.prog.mainIs = some (Rows.fnExactSearchBoxCard.stood.harness.1, Rows.fnExactSearchBoxCard.stood.harness.2.toList) := fact_main.trans (by kernel_rfl)
theorem f_stand : ([24, 28].all fun u => !Tryz.pinned.checked.prog.wantsStandIn u) = true := by kernel_rfl
set_option maxHeartbeats 40000000 in
theorem closed : joinedFacts Tryz.pinned.checked.prog 3 Tryz.f3 Rows.fnExactSearchBoxSpec Rows.fnExactSearchBoxRow = true :=
  lw_both (lw_both (lw_both (lw_both (lw_both (lw_both (lw_both (lw_both (lw_both (lw_both (lw_both (lw_both (lw_both (lw_both (lw_both (lw_both (lw_both (lw_both (lw_both (lw_both (lw_both (lw_both (lw_both (lw_both (lw_both (lw_both (lw_both (lw_both (lw_both (lw_both (lw_both f_wf fact_laid) fact_rowed) (by as_aux_lemma => kernel_rfl)) (by as_aux_lemma => kernel_rfl)) (by as_aux_lemma => kernel_rfl)) fact_stops) (by as_aux_lemma => kernel_rfl)) fact_knobs) f_place) f_unf) f_rec) f_nam) (by as_aux_lemma => kernel_rfl)) (by as_aux_lemma => kernel_rfl)) (by as_aux_lemma => kernel_rfl)) (by as_aux_lemma => kernel_rfl)) (by as_aux_lemma => kernel_rfl)) (by as_aux_lemma => kernel_rfl)) (by as_aux_lemma => kernel_rfl)) (by as_aux_lemma => kernel_rfl)) (by as_aux_lemma => kernel_rfl)) (by rw [fact_keys]; kernel_rfl)) (by as_aux_lemma => kernel_rfl)) fact_heard) fact_enter) (by rw [fact_lifted]; kernel_rfl)) (by rw [fact_make]; kernel_rfl)) (by as_aux_lemma => kernel_rfl)) (by as_aux_lemma => kernel_rfl)) (by as_aux_lemma => kernel_rfl)) (by as_aux_lemma => kernel_rfl)
set_option maxHeartbeats 40000000 in
theorem over : Rows.fnExactSearchBoxRow.holds Tryz.pinned (OpenSpec.ofChange Rows.fnExactSearchBoxSpec) :=
  OpenClaim.holds_of_wide 3 Tryz.f3 rfl rfl rfl rfl rfl rfl rfl ⟨rfl, rfl, rfl, rfl, rfl⟩ rfl rfl rfl rfl rfl f_func f_got closed
    (of_decide_eq_true (by kernel_rfl)) (by unfold Func.isWrapper; first | (rw [if_pos (by decide +kernel)]; kernel_rfl) | (rw [if_neg (by decide +kernel)]; exact ⟨rfl, rfl⟩))
    (fun os started H enc _ => lifted os started H enc)

set_option maxHeartbeats 40000000 in
theorem proved : Rows.FnExactSearchBoxCardSaid :=
  Claim7.holds_tied_plain_at .later [] [.data, .data, .pinned, .pinned] true Rows.fnExactSearchBoxCard.stood.harness true over (fun _ h => by cases h) f_wft (fun _ h => by cases h) fnExactSearchBox_row_tie rfl ⟨rfl, rfl⟩ f_main rfl
    (fun f fn hf hfn => by
      obtain rfl : f = 3 := (Option.some.inj (f_func.symm.trans hf)).symm
      obtain rfl : fn = Tryz.f3 := (Option.some.inj (f_got.symm.trans hfn)).symm
      refine ⟨fact_looks, fun j t ht => ?_⟩
      rw [Tryz.params3] at ht
      have hm := Array.mem_of_getElem? ht
      have hm' : t ∈ [24, 28] := by simpa using hm
      have := List.all_eq_true.1 f_stand t hm'
      simpa using this)
    f_goes
#print axioms proved
end Go.Proofs.YtmlmdpdboigojaaGreatDoor.fnExactSearchBox
