/- The law FnExactSubmissionLine holds: for every input the call returns true, and the arguments read as before. The listed variables of unicode/utf8 start as the program's text lays them (the given tie). -/
import Derived.Test.YtnbggmmghopphaaGreatDoorRows
import Derived.Test.YtnbggmmghopphaaGreatDoorCards
import Derived.Test.YtnbggmmghopphaaGreatDoorTie
import Derived.Test.YtnbggmmghopphaaGreatDoorLwWrap
import Derived.Test.YtnbggmmghopphaaGreatDoorLwFnExactSubmissionLine
import Derived.Test.YtnbggmmghopphaaGreatDoorSbLaw1
import Derived.Test.YtnbggmmghopphaaGreatDoorLawKit
import Derived.SevenTiedAt
namespace Go.Proofs.YtnbggmmghopphaaGreatDoor.fnExactSubmissionLine
open Go.ChangeShapes Go.WideShapes Go.ChangeAt Go.RowKit
open Go.ChangeMaps (open_string shut_string)
set_option linter.unusedVariables false

theorem laidOut : laidOutB Tryz.prog = true := by kernel_rfl

set_option maxRecDepth 100000 in
theorem lifted (os : Os) (started : os.Started) (H : Type) (enc : TypeId × Value → H) :
    ReturnsInHanded {} Tryz.checked os 15 .any (fun w args => (Rows.fnExactSubmissionLineSpec.pre enc Tryz.prog Tryz.f15 [] false w args ∧ laidMetH Tryz.prog seatLaid w) ∧ sizedMet enc Tryz.prog Tryz.f15 (OpenSpec.ofChange Rows.fnExactSubmissionLineSpec) false w args) (Rows.fnExactSubmissionLineSpec.post enc Tryz.prog Tryz.f15 false true false false) := by
  refine lw_wrap started (by kernel_rfl) Tryz.func15
    (ChangeSpec.witness_shaped (enc := enc) (C := Tryz.checked) (os := os) (X := fun w _ => laidMetH Tryz.prog seatLaid w) false (World.laidAll Tryz.prog os seatLaid) #[.agg #[.int .i64 0, .string ⟨#[]⟩, .slice none 0 0, .string ⟨#[]⟩], .slice none 0 0, .string ⟨#[]⟩, .string ⟨#[]⟩] 8 (World.laidAll_os _ _ _)
      (World.shaped_of_ZipB (by kernel_rfl) (by kernel_rfl)) (by kernel_rfl) (by kernel_rfl) (by kernel_rfl) (seat_met os _)) ?_
  intro W base args ds gs before hsh hval0 hW
  have hval : ∀ (j : Nat) t v, Tryz.f15.params[j]? = some t → args[j]? = some v → Value.okWide Tryz.prog W .any base t v := hval0
  have hW' := hW
  obtain ⟨m, hm⟩ := mem_cell hsh
  obtain ⟨p, q, hA0, hV, rfl, hfz, hnd⟩ := hW
  have hA : DataW.TrodAll enc Tryz.prog W 0 (fun _ => true) true Tryz.f15.params.toList args.toList ds p := hA0
  rw [Tryz.params15] at hA hval
  obtain ⟨v0, vs0, d0, ds0, p0, q0, hargs, rfl, rfl, h0, r0⟩ := trodAll_cons hA
  obtain ⟨v1, vs1, d1, ds1, p1, q1, rfl, rfl, rfl, h1, r1⟩ := trodAll_cons r0
  obtain ⟨v2, vs2, d2, ds2, p2, q2, rfl, rfl, rfl, h2, r2⟩ := trodAll_cons r1
  obtain ⟨v3, vs3, d3, ds3, p3, q3, rfl, rfl, rfl, h3, r3⟩ := trodAll_cons r2
  obtain ⟨rfl, rfl, rfl⟩ := trodAll_nil r3
  obtain rfl : args = #[v0, v1, v2, v3] := by cases args; simp_all
  obtain ⟨rfl, rfl⟩ := trodVars_none hV
  obtain ⟨cs0, rfl, hsz0⟩ := okWide_struct Tryz.underlying68 (hval 0 68 v0 rfl rfl)
  have k0 := h0
  have lt0 : ∀ x ∈ p0, x.block < W.heap.size := by obtain ⟨m, hm⟩ := k0; exact DataW.trod_lt m _ _ _ hm
  obtain ⟨fuel0, hf0⟩ := h0
  obtain ⟨st0, f0, a0, us0, c0, t0, rfl, hl0, hm0, w0, zf0, zt0⟩ := open_submission hsz0 hf0
  obtain ⟨a1, len1, cap1, rfl⟩ := okWide_slice Tryz.underlying48 (hval 1 48 v1 rfl rfl)
  have k1 := h1
  have lt1 : ∀ x ∈ p1, x.block < W.heap.size := by obtain ⟨m, hm⟩ := k1; exact DataW.trod_lt m _ _ _ hm
  obtain ⟨fuel1, hf1⟩ := h1
  obtain ⟨us1, e1, hlc1, hcm1, o1⟩ := open_users hf1
  subst e1
  have w1 := And.intro o1 (Nat.le_trans hlc1 hcm1)
  obtain ⟨s2, rfl, rfl, rfl, w2⟩ := open_string Tryz.underlying9 (hval 2 9 v2 rfl rfl) h2
  obtain ⟨s3, rfl, rfl, rfl, w3⟩ := open_string Tryz.underlying9 (hval 3 9 v3 rfl rfl) h3
  clear hA0 hval0
  refine (walkFnExactSubmissionLine st0 f0 a0 us0 c0 t0 a1 us1 cap1 s2 s3 W w0 hl0 hm0 zf0 zt0 w1.1 w1.2 w2 w3 m hm).mono fun e W' ⟨he, bel⟩ => ?_
  subst he
  exact ⟨_, rfl, _, _, _, [], _, [], hW', trodAll_mk1 (shut_bool Tryz.underlying4 _), (trodAll_cons_mk (Below.trod laidOut (by kernel_rfl) (of_decide_eq_true (by kernel_rfl)) k0 bel lt0) (trodAll_cons_mk (Below.trod laidOut (by kernel_rfl) (of_decide_eq_true (by kernel_rfl)) k1 bel lt1) (trodAll_cons_mk (shut_string Tryz.underlying9 w2) (trodAll_cons_mk (shut_string Tryz.underlying9 w3) trodAll_mk0)))), rfl, bel.frame _, fun h => by cases h⟩

theorem f_place : (Rows.fnExactSubmissionLineRow.inPlace == Tryz.pinned.checked.prog.inPlace 15) = true := by kernel_rfl
theorem f_unf : (Rows.fnExactSubmissionLineRow.unfollowed == Tryz.pinned.checked.prog.unfollowed 15) = true := by kernel_rfl
theorem f_rec : (Rows.fnExactSubmissionLineRow.recurses == Tryz.pinned.checked.prog.recurses 15) = true := by kernel_rfl
theorem f_nam : (Rows.fnExactSubmissionLineRow.named == Tryz.pinned.checked.prog.varsNamed 15) = true := by kernel_rfl
theorem f_goes : false = Rows.fnExactSubmissionLineRow.goesBy Tryz.pinned.checked.prog := by kernel_rfl
theorem f_func : Tryz.pinned.checked.prog.funcNamed Rows.fnExactSubmissionLineRow.func = some 15 := by kernel_rfl
theorem f_got : Tryz.pinned.checked.prog.funcs[15]? = some Tryz.f15 := by kernel_rfl
theorem f_wf : Rows.fnExactSubmissionLineRow.wf (OpenSpec.ofChange Rows.fnExactSubmissionLineSpec) = true := by kernel_rfl
theorem f_wft : Rows.fnExactSubmissionLineRow.wfByText (OpenSpec.ofChange Rows.fnExactSubmissionLineSpec) = true := by kernel_rfl
theorem f_main : Tryz.pinned.checked.prog.mainIs = some (Rows.fnExactSubmissionLineCard.stood.harness.1, Rows.fnExactSubmissionLineCard.stood.harness.2.toList) := fact_main.trans (by kernel_rfl)
theorem f_stand : ([68, 48, 9, 9].all fun u => !Tryz.pinned.checked.prog.wantsStandIn u) = true := by kernel_rfl
set_option maxHeartbeats 40000000 in
theorem closed : joinedFacts Tryz.pinned.checked.prog 15 Tryz.f15 Rows.fnExactSubmissionLineSpec Rows.fnExactSubmissionLineRow = true :=
  lw_both (lw_both (lw_both (lw_both (lw_both (lw_both (lw_both (lw_both (lw_both (lw_both (lw_both (lw_both (lw_both (lw_both (lw_both (lw_both (lw_both (lw_both (lw_both (lw_both (lw_both (lw_both (lw_both (lw_both (lw_both (lw_both (lw_both (lw_both (lw_both (lw_both (lw_both f_wf fact_laid) fact_rowed) (by as_aux_lemma => kernel_rfl)) (by as_aux_lemma => kernel_rfl)) (by as_aux_lemma => kernel_rfl)) fact_stops) (by as_aux_lemma => kernel_rfl)) fact_knobs) f_place) f_unf) f_rec) f_nam) (by as_aux_lemma => kernel_rfl)) (by as_aux_lemma => kernel_rfl)) (by as_aux_lemma => kernel_rfl)) (by as_aux_lemma => kernel_rfl)) (by as_aux_lemma => kernel_rfl)) (by as_aux_lemma => kernel_rfl)) (by as_aux_lemma => kernel_rfl)) (by as_aux_lemma => kernel_rfl)) (by as_aux_lemma => kernel_rfl)) (by rw [fact_keys]; kernel_rfl)) (by as_aux_lemma => kernel_rfl)) fact_heard) fact_enter) (by rw [fact_lifted]; kernel_rfl)) (by rw [fact_make]; kernel_rfl)) (by as_aux_lemma => kernel_rfl)) (by as_aux_lemma => kernel_rfl)) (by as_aux_lemma => kernel_rfl)) (by as_aux_lemma => kernel_rfl)
set_option maxHeartbeats 40000000 in
theorem over : Rows.fnExactSubmissionLineRow.holds Tryz.pinned (OpenSpec.ofChange Rows.fnExactSubmissionLineSpec) :=
  OpenClaim.holds_of_wide 15 Tryz.f15 rfl rfl rfl rfl rfl rfl rfl ⟨rfl, rfl, rfl, rfl, rfl⟩ rfl rfl rfl rfl rfl f_func f_got closed
    (of_decide_eq_true (by kernel_rfl)) (by unfold Func.isWrapper; first | (rw [if_pos (by decide +kernel)]; kernel_rfl) | (rw [if_neg (by decide +kernel)]; exact ⟨rfl, rfl⟩))
    (fun os started H enc _ => lifted os started H enc)

set_option maxHeartbeats 40000000 in
theorem proved : Rows.FnExactSubmissionLineCardSaid :=
  Claim7.holds_tied_plain_at .later [] [.data, .pinned] true Rows.fnExactSubmissionLineCard.stood.harness false over (fun _ h => by cases h) f_wft (fun _ h => by cases h) fnExactSubmissionLine_row_tie rfl ⟨rfl, rfl⟩ f_main rfl
    (fun f fn hf hfn => by
      obtain rfl : f = 15 := (Option.some.inj (f_func.symm.trans hf)).symm
      obtain rfl : fn = Tryz.f15 := (Option.some.inj (f_got.symm.trans hfn)).symm
      refine ⟨fact_looks, fun j t ht => ?_⟩
      rw [Tryz.params15] at ht
      have hm := Array.mem_of_getElem? ht
      have hm' : t ∈ [68, 48, 9, 9] := by simpa using hm
      have := List.all_eq_true.1 f_stand t hm'
      simpa using this)
    f_goes
#print axioms proved
end Go.Proofs.YtnbggmmghopphaaGreatDoor.fnExactSubmissionLine
