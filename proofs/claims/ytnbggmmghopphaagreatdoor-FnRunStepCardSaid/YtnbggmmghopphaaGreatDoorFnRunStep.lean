/- The law FnRunStep holds: for every input the call returns true, and the arguments read as before. The listed variables of unicode/utf8 start as the program's text lays them (the given tie). -/
import Derived.Test.YtnbggmmghopphaaGreatDoorRows
import Derived.Test.YtnbggmmghopphaaGreatDoorCards
import Derived.Test.YtnbggmmghopphaaGreatDoorTie
import Derived.Test.YtnbggmmghopphaaGreatDoorLwWrap
import Derived.Test.YtnbggmmghopphaaGreatDoorLwFnRunStep
import Derived.Test.YtnbggmmghopphaaGreatDoorLawKit
import Derived.SevenTiedAt
namespace Go.Proofs.YtnbggmmghopphaaGreatDoor.fnRunStep
open Go.ChangeShapes Go.WideShapes Go.ChangeAt Go.RowKit
open Go.ChangeMaps (open_string shut_string)
set_option linter.unusedVariables false

theorem laidOut : laidOutB Tryz.prog = true := by kernel_rfl

set_option maxRecDepth 100000 in
theorem lifted (os : Os) (started : os.Started) (H : Type) (enc : TypeId × Value → H) :
    ReturnsInHanded {} Tryz.checked os 3 .any (fun w args => (Rows.fnRunStepSpec.pre enc Tryz.prog Tryz.f3 [] false w args ∧ laidMetH Tryz.prog seatLaid w) ∧ sizedMet enc Tryz.prog Tryz.f3 (OpenSpec.ofChange Rows.fnRunStepSpec) false w args) (Rows.fnRunStepSpec.post enc Tryz.prog Tryz.f3 false true false false) := by
  refine lw_wrap started (by kernel_rfl) Tryz.func3
    (ChangeSpec.witness_shaped (enc := enc) (C := Tryz.checked) (os := os) (X := fun w _ => laidMetH Tryz.prog seatLaid w) false (World.laidAll Tryz.prog os seatLaid) #[.slice none 0 0] 8 (World.laidAll_os _ _ _)
      (World.shaped_of_ZipB (by kernel_rfl) (by kernel_rfl)) (by kernel_rfl) (by kernel_rfl) (by kernel_rfl) (seat_met os _)) ?_
  intro W base args ds gs before hsh hval0 hW
  have hval : ∀ (j : Nat) t v, Tryz.f3.params[j]? = some t → args[j]? = some v → Value.okWide Tryz.prog W .any base t v := hval0
  have hW' := hW
  obtain ⟨m, hm⟩ := mem_cell hsh
  obtain ⟨p, q, hA0, hV, rfl, hfz, hnd⟩ := hW
  have hA : DataW.TrodAll enc Tryz.prog W 0 (fun _ => true) true Tryz.f3.params.toList args.toList ds p := hA0
  rw [Tryz.params3] at hA hval
  obtain ⟨v0, vs0, d0, ds0, p0, q0, hargs, rfl, rfl, h0, r0⟩ := trodAll_cons hA
  obtain ⟨rfl, rfl, rfl⟩ := trodAll_nil r0
  obtain rfl : args = #[v0] := by cases args; simp_all
  obtain ⟨rfl, rfl⟩ := trodVars_none hV
  obtain ⟨a0, len0, cap0, rfl⟩ := okWide_slice Tryz.underlying22 (hval 0 22 v0 rfl rfl)
  have k0 := h0
  have lt0 : ∀ x ∈ p0, x.block < W.heap.size := by obtain ⟨m, hm⟩ := k0; exact DataW.trod_lt m _ _ _ hm
  have w0 : Bytes W a0 len0 cap0 := by
    obtain ⟨fuel, hf⟩ := h0
    rcases open_ints Tryz.underlying22 Tryz.underlying5 (by kernel_rfl) hf with ⟨hcs, _⟩ | ⟨x, l, c, zs, hcs, _, hl, hm, hz, _, hcell, hwz⟩
    · simp [Value.cells] at hcs
      obtain ⟨rfl, rfl, rfl⟩ := hcs
      exact bytes_nil W
    · simp [Value.cells] at hcs
      obtain ⟨rfl, rfl, rfl⟩ := hcs
      exact bytes_of hl hm (by simpa using hz) hcell hwz
  clear hA0 hval0
  refine (walkFnRunStep a0 len0 cap0 W w0 m hm).mono fun e W' ⟨he, bel⟩ => ?_
  subst he
  exact ⟨_, rfl, _, _, _, [], _, [], hW', trodAll_mk1 (shut_bool Tryz.underlying4 _), (trodAll_cons_mk (Below.trod laidOut (by kernel_rfl) (of_decide_eq_true (by kernel_rfl)) k0 bel lt0) trodAll_mk0), rfl, bel.frame _, fun h => by cases h⟩

theorem f_place : (Rows.fnRunStepRow.inPlace == Tryz.pinned.checked.prog.inPlace 3) = true := by kernel_rfl
theorem f_unf : (Rows.fnRunStepRow.unfollowed == Tryz.pinned.checked.prog.unfollowed 3) = true := by kernel_rfl
theorem f_rec : (Rows.fnRunStepRow.recurses == Tryz.pinned.checked.prog.recurses 3) = true := by kernel_rfl
theorem f_nam : (Rows.fnRunStepRow.named == Tryz.pinned.checked.prog.varsNamed 3) = true := by kernel_rfl
theorem f_goes : false = Rows.fnRunStepRow.goesBy Tryz.pinned.checked.prog := by kernel_rfl
theorem f_func : Tryz.pinned.checked.prog.funcNamed Rows.fnRunStepRow.func = some 3 := by kernel_rfl
theorem f_got : Tryz.pinned.checked.prog.funcs[3]? = some Tryz.f3 := by kernel_rfl
theorem f_wf : Rows.fnRunStepRow.wf (OpenSpec.ofChange Rows.fnRunStepSpec) = true := by kernel_rfl
theorem f_wft : Rows.fnRunStepRow.wfByText (OpenSpec.ofChange Rows.fnRunStepSpec) = true := by kernel_rfl
theorem f_main : Tryz.pinned.checked.prog.mainIs = some (Rows.fnRunStepCard.stood.harness.1, Rows.fnRunStepCard.stood.harness.2.toList) := fact_main.trans (by kernel_rfl)
theorem f_stand : ([22].all fun u => !Tryz.pinned.checked.prog.wantsStandIn u) = true := by kernel_rfl
set_option maxHeartbeats 40000000 in
theorem closed : joinedFacts Tryz.pinned.checked.prog 3 Tryz.f3 Rows.fnRunStepSpec Rows.fnRunStepRow = true :=
  lw_both (lw_both (lw_both (lw_both (lw_both (lw_both (lw_both (lw_both (lw_both (lw_both (lw_both (lw_both (lw_both (lw_both (lw_both (lw_both (lw_both (lw_both (lw_both (lw_both (lw_both (lw_both (lw_both (lw_both (lw_both (lw_both (lw_both (lw_both (lw_both (lw_both (lw_both f_wf fact_laid) fact_rowed) (by as_aux_lemma => kernel_rfl)) (by as_aux_lemma => kernel_rfl)) (by as_aux_lemma => kernel_rfl)) fact_stops) (by as_aux_lemma => kernel_rfl)) fact_knobs) f_place) f_unf) f_rec) f_nam) (by as_aux_lemma => kernel_rfl)) (by as_aux_lemma => kernel_rfl)) (by as_aux_lemma => kernel_rfl)) (by as_aux_lemma => kernel_rfl)) (by as_aux_lemma => kernel_rfl)) (by as_aux_lemma => kernel_rfl)) (by as_aux_lemma => kernel_rfl)) (by as_aux_lemma => kernel_rfl)) (by as_aux_lemma => kernel_rfl)) (by rw [fact_keys]; kernel_rfl)) (by as_aux_lemma => kernel_rfl)) fact_heard) fact_enter) (by rw [fact_lifted]; kernel_rfl)) (by rw [fact_make]; kernel_rfl)) (by as_aux_lemma => kernel_rfl)) (by as_aux_lemma => kernel_rfl)) (by as_aux_lemma => kernel_rfl)) (by as_aux_lemma => kernel_rfl)
set_option maxHeartbeats 40000000 in
theorem over : Rows.fnRunStepRow.holds Tryz.pinned (OpenSpec.ofChange Rows.fnRunStepSpec) :=
  OpenClaim.holds_of_wide 3 Tryz.f3 rfl rfl rfl rfl rfl rfl rfl ⟨rfl, rfl, rfl, rfl, rfl⟩ rfl rfl rfl rfl rfl f_func f_got closed
    (of_decide_eq_true (by kernel_rfl)) (by unfold Func.isWrapper; first | (rw [if_pos (by decide +kernel)]; kernel_rfl) | (rw [if_neg (by decide +kernel)]; exact ⟨rfl, rfl⟩))
    (fun os started H enc _ => lifted os started H enc)

set_option maxHeartbeats 40000000 in
theorem proved : Rows.FnRunStepCardSaid :=
  Claim7.holds_tied_plain_at .later [] [.data, .pinned] true Rows.fnRunStepCard.stood.harness false over (fun _ h => by cases h) f_wft (fun _ h => by cases h) fnRunStep_row_tie rfl ⟨rfl, rfl⟩ f_main rfl
    (fun f fn hf hfn => by
      obtain rfl : f = 3 := (Option.some.inj (f_func.symm.trans hf)).symm
      obtain rfl : fn = Tryz.f3 := (Option.some.inj (f_got.symm.trans hfn)).symm
      refine ⟨fact_looks, fun j t ht => ?_⟩
      rw [Tryz.params3] at ht
      have hm := Array.mem_of_getElem? ht
      have hm' : t ∈ [22] := by simpa using hm
      have := List.all_eq_true.1 f_stand t hm'
      simpa using this)
    f_goes
#print axioms proved
end Go.Proofs.YtnbggmmghopphaaGreatDoor.fnRunStep
