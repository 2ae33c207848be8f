/- The law FnExactSubmissionRun holds: for every input the call returns true, and the arguments read as before. The listed variables of unicode/utf8 start as the program's text lays them (the given tie). -/
import Derived.Test.YtpjifcljkgcnlaaGreatDoorRows
import Derived.Test.YtpjifcljkgcnlaaGreatDoorCards
import Derived.Test.YtpjifcljkgcnlaaGreatDoorTie
import Derived.Test.YtpjifcljkgcnlaaGreatDoorLwWrap
import Derived.Test.YtpjifcljkgcnlaaGreatDoorLwFnExactSubmissionRun
import Derived.Test.YtpjifcljkgcnlaaGreatDoorLawKit
import Derived.SevenTiedAt
namespace Go.Proofs.YtpjifcljkgcnlaaGreatDoor.fnExactSubmissionRun
open Go.ChangeShapes Go.WideShapes Go.ChangeAt Go.RowKit
open Go.ChangeMaps (open_string shut_string)
set_option linter.unusedVariables false

theorem laidOut : laidOutB Tryz.prog = true := by kernel_rfl

set_option maxRecDepth 100000 in
theorem lifted (os : Os) (started : os.Started) (H : Type) (enc : TypeId × Value → H) :
    ReturnsInHanded {} Tryz.checked os 3 .any (fun w args => (Rows.fnExactSubmissionRunSpec.pre enc Tryz.prog Tryz.f3 [] false w args ∧ laidMetH Tryz.prog seatLaid w) ∧ sizedMet enc Tryz.prog Tryz.f3 (OpenSpec.ofChange Rows.fnExactSubmissionRunSpec) false w args) (Rows.fnExactSubmissionRunSpec.post enc Tryz.prog Tryz.f3 false true false false) := by
  refine lw_wrap started (by kernel_rfl) Tryz.func3
    (ChangeSpec.witness_shaped (enc := enc) (C := Tryz.checked) (os := os) (X := fun w _ => laidMetH Tryz.prog seatLaid w) false (World.laidAll Tryz.prog os seatLaid) #[.slice none 0 0, .string ⟨#[]⟩, .slice none 0 0] 8 (World.laidAll_os _ _ _)
      (World.shaped_of_ZipB (by kernel_rfl) (by kernel_rfl)) (by kernel_rfl) (by kernel_rfl) (by kernel_rfl) (seat_met os _)) ?_
  intro W base args ds gs before hsh hval0 hW
  have hval : ∀ (j : Nat) t v, Tryz.f3.params[j]? = some t → args[j]? = some v → Value.okWide Tryz.prog W .any base t v := hval0
  have hW' := hW
  obtain ⟨m, hm⟩ := mem_cell hsh
  obtain ⟨p, q, hA0, hV, rfl, hfz, hnd⟩ := hW
  have hA : DataW.TrodAll enc Tryz.prog W 0 (fun _ => true) true Tryz.f3.params.toList args.toList ds p := hA0
  rw [Tryz.params3] at hA hval
  obtain ⟨v0, vs0, d0, ds0, p0, q0, hargs, rfl, rfl, h0, r0⟩ := trodAll_cons hA
  obtain ⟨v1, vs1, d1, ds1, p1, q1, rfl, rfl, rfl, h1, r1⟩ := trodAll_cons r0
  obtain ⟨v2, vs2, d2, ds2, p2, q2, rfl, rfl, rfl, h2, r2⟩ := trodAll_cons r1
  obtain ⟨rfl, rfl, rfl⟩ := trodAll_nil r2
  obtain rfl : args = #[v0, v1, v2] := by cases args; simp_all
  obtain ⟨rfl, rfl⟩ := trodVars_none hV
  obtain ⟨a0, len0, cap0, rfl⟩ := okWide_slice Tryz.underlying22 (hval 0 22 v0 rfl rfl)
  have k0 := h0
  have lt0 : ∀ x ∈ p0, x.block < W.heap.size := by obtain ⟨m, hm⟩ := k0; exact DataW.trod_lt m _ _ _ hm
  obtain ⟨fuel0, hf0⟩ := h0
  obtain ⟨us0, e0, hlc0, hcm0, o0⟩ := open_users hf0
  subst e0
  have w0 := And.intro o0 (Nat.le_trans hlc0 hcm0)
  obtain ⟨s1, rfl, rfl, rfl, w1⟩ := open_string Tryz.underlying9 (hval 1 9 v1 rfl rfl) h1
  obtain ⟨a2, len2, cap2, rfl⟩ := okWide_slice Tryz.underlying23 (hval 2 23 v2 rfl rfl)
  have k2 := h2
  have lt2 : ∀ x ∈ p2, x.block < W.heap.size := by obtain ⟨m, hm⟩ := k2; exact DataW.trod_lt m _ _ _ hm
  obtain ⟨fuel2, hf2⟩ := h2
  obtain ⟨us2, e2, hlc2, hcm2, o2⟩ := open_names hf2
  subst e2
  have w2 := And.intro o2 (Nat.le_trans hlc2 hcm2)
  clear hA0 hval0
  refine (walkFnExactSubmissionRun a0 us0 cap0 s1 a2 us2 cap2 W w0.1 w0.2 w1 w2.1 w2.2 m hm).mono fun e W' ⟨he, bel⟩ => ?_
  subst he
  exact ⟨_, rfl, _, _, _, [], _, [], hW', trodAll_mk1 (shut_bool Tryz.underlying4 _), (trodAll_cons_mk (Below.trod laidOut (by kernel_rfl) (of_decide_eq_true (by kernel_rfl)) k0 bel lt0) (trodAll_cons_mk (shut_string Tryz.underlying9 w1) (trodAll_cons_mk (Below.trod laidOut (by kernel_rfl) (of_decide_eq_true (by kernel_rfl)) k2 bel lt2) trodAll_mk0))), rfl, bel.frame _, fun h => by cases h⟩

theorem f_place : (Rows.fnExactSubmissionRunRow.inPlace == Tryz.pinned.checked.prog.inPlace 3) = true := by kernel_rfl
theorem f_unf : (Rows.fnExactSubmissionRunRow.unfollowed == Tryz.pinned.checked.prog.unfollowed 3) = true := by kernel_rfl
theorem f_rec : (Rows.fnExactSubmissionRunRow.recurses == Tryz.pinned.checked.prog.recurses 3) = true := by kernel_rfl
theorem f_nam : (Rows.fnExactSubmissionRunRow.named == Tryz.pinned.checked.prog.varsNamed 3) = true := by kernel_rfl
theorem f_goes : false = Rows.fnExactSubmissionRunRow.goesBy Tryz.pinned.checked.prog := by kernel_rfl
theorem f_func : Tryz.pinned.checked.prog.funcNamed Rows.fnExactSubmissionRunRow.func = some 3 := by kernel_rfl
theorem f_got : Tryz.pinned.checked.prog.funcs[3]? = some Tryz.f3 := by kernel_rfl
theorem f_wf : Rows.fnExactSubmissionRunRow.wf (OpenSpec.ofChange Rows.fnExactSubmissionRunSpec) = true := by kernel_rfl
theorem f_wft : Rows.fnExactSubmissionRunRow.wfByText (OpenSpec.ofChange Rows.fnExactSubmissionRunSpec) = true := by kernel_rfl
theorem f_main : Tryz.pinned.checked.prog.mainIs = some (Rows.fnExactSubmissionRunCard.stood.harness.1, Rows.fnExactSubmissionRunCard.stood.harness.2.toList) := fact_main.trans (by kernel_rfl)
theorem f_stand : ([22, 9, 23].all fun u => !Tryz.pinned.checked.prog.wantsStandIn u) = true := by kernel_rfl
set_option maxHeartbeats 40000000 in
theorem closed : joinedFacts Tryz.pinned.checked.prog 3 Tryz.f3 Rows.fnExactSubmissionRunSpec Rows.fnExactSubmissionRunRow = true :=
  lw_both (lw_both (lw_both (lw_both (lw_both (lw_both (lw_both (lw_both (lw_both (lw_both (lw_both (lw_both (lw_both (lw_both (lw_both (lw_both (lw_both (lw_both (lw_both (lw_both (lw_both (lw_both (lw_both (lw_both (lw_both (lw_both (lw_both (lw_both (lw_both (lw_both (lw_both f_wf fact_laid) fact_rowed) (by as_aux_lemma => kernel_rfl)) (by as_aux_lemma => kernel_rfl)) (by as_aux_lemma => kernel_rfl)) fact_stops) (by as_aux_lemma => kernel_rfl)) fact_knobs) f_place) f_unf) f_rec) f_nam) (by as_aux_lemma => kernel_rfl)) (by as_aux_lemma => kernel_rfl)) (by as_aux_lemma => kernel_rfl)) (by as_aux_lemma => kernel_rfl)) (by as_aux_lemma => kernel_rfl)) (by as_aux_lemma => kernel_rfl)) (by as_aux_lemma => kernel_rfl)) (by as_aux_lemma => kernel_rfl)) (by as_aux_lemma => kernel_rfl)) (by rw [fact_keys]; kernel_rfl)) (by as_aux_lemma => kernel_rfl)) fact_heard) fact_enter) (by rw [fact_lifted]; kernel_rfl)) (by rw [fact_make]; kernel_rfl)) (by as_aux_lemma => kernel_rfl)) (by as_aux_lemma => kernel_rfl)) (by as_aux_lemma => kernel_rfl)) (by as_aux_lemma => kernel_rfl)
set_option maxHeartbeats 40000000 in
theorem over : Rows.fnExactSubmissionRunRow.holds Tryz.pinned (OpenSpec.ofChange Rows.fnExactSubmissionRunSpec) :=
  OpenClaim.holds_of_wide 3 Tryz.f3 rfl rfl rfl rfl rfl rfl rfl ⟨rfl, rfl, rfl, rfl, rfl⟩ rfl rfl rfl rfl rfl f_func f_got closed
    (of_decide_eq_true (by kernel_rfl)) (by unfold Func.isWrapper; first | (rw [if_pos (by decide +kernel)]; kernel_rfl) | (rw [if_neg (by decide +kernel)]; exact ⟨rfl, rfl⟩))
    (fun os started H enc _ => lifted os started H enc)

set_option maxHeartbeats 40000000 in
theorem proved : Rows.FnExactSubmissionRunCardSaid :=
  Claim7.holds_tied_plain_at .later [] [.data, .pinned] true Rows.fnExactSubmissionRunCard.stood.harness false over (fun _ h => by cases h) f_wft (fun _ h => by cases h) fnExactSubmissionRun_row_tie rfl ⟨rfl, rfl⟩ f_main rfl
    (fun f fn hf hfn => by
      obtain rfl : f = 3 := (Option.some.inj (f_func.symm.trans hf)).symm
      obtain rfl : fn = Tryz.f3 := (Option.some.inj (f_got.symm.trans hfn)).symm
      refine ⟨fact_looks, fun j t ht => ?_⟩
      rw [Tryz.params3] at ht
      have hm := Array.mem_of_getElem? ht
      have hm' : t ∈ [22, 9, 23] := by simpa using hm
      have := List.all_eq_true.1 f_stand t hm'
      simpa using this)
    f_goes
#print axioms proved
end Go.Proofs.YtpjifcljkgcnlaaGreatDoor.fnExactSubmissionRun
