/- SubmissionRun of the specification. (Printed by mkrns.py.) -/
import Derived.Test.YtpjifcljkgcnlaaGreatDoorRnSt
import Derived.Test.YtpjifcljkgcnlaaGreatDoorLwOw
import Derived.Deep.RegionHeld3
import Derived.Deep.DeepCutAuto
import Derived.Deep.CutBlock
namespace Go.Proofs.YtpjifcljkgcnlaaGreatDoor
set_option linter.unusedVariables false
open Go.RowKit
open Us (U)

theorem Rl.one1 (x : Rl.L) : ∀ v ∈ Rl.cells x, v.oneCell' = true := by
  intro v hv
  simp [Rl.cells] at hv
  rcases hv with rfl | rfl | rfl <;> rfl
theorem let_info : (Tryz.prog.info? 49).map (fun i => (i.zero, i.size, i.bytes)) = some (some (.agg #[.string ⟨#[]⟩, .slice none 0 0, .string ⟨#[]⟩]), 3, 56) := by kernel_rfl
namespace Rn
def good (vs : List U) (d : ByteArray) : Prop := Us.usersOk vs = true ∧ Dm.ok d.data.toList = true
instance (vs : List U) (d : ByteArray) : Decidable (good vs d) := by unfold good; infer_instance
def ansR (vs : List U) (d : ByteArray) (ls : List ByteArray) : List Int := if good vs d then reps vs d s0 ls else []
def ansL (vs : List U) (d : ByteArray) (ls : List ByteArray) : List V := if good vs d then lets vs d s0 ls else []
/-- what a run gives -/
def Out (rs : List Int) (vl : List V) (w : World) (e : Ending) (w' : World) : Prop :=
  ∃ v1 v2 ls, e = .returned (.tuple #[v1, v2]) ∧ OwnL 3 1 It.cells w' w.heap.size v1 rs ∧ OwnL 49 3 Rl.cells w' w.heap.size v2 ls ∧ (∀ x ∈ ls, AtTy 0 w' w'.heap.size x.A x.us ∧ x.us.length ≤ 3 ∧ x.us.length ≤ x.c ∧ x.c ≤ maxLen) ∧ ls.map Rl.v = vl ∧ Sep w' w.heap.size ls ∧ Below w.heap.size w w'
theorem out_of {w w' : World} {b : Nat} {v1 v2 : Value} {rs : List Int} {ls : List Rl.L} {s : Sm.S} {R : List Int} {L : List V} (h : Run w' w.heap.size b v1 v2 rs ls s) (hR : rs = R) (hL : ls.map Rl.v = L) (hb : Below w.heap.size w w') : Out R L w (.returned (.tuple #[v1, v2])) w' := by
  subst hR
  exact ⟨v1, v2, ls, rfl, h.reps, h.lets, h.tos, hL, h.sep, hb⟩
theorem start (w : World) {W : World} (hW : ((((w.alloc (.cells #[] 3)).alloc (.cells #[] 49)).alloc (.cells #[] 9)).alloc (.cells #[.int .i64 0, .string ⟨#[]⟩, .slice (some ⟨w.heap.size + 1 + 1, 0, none⟩) 0 0, .string ⟨#[]⟩] 45)) = W) :
    Run W w.heap.size (w.heap.size + 1 + 1 + 1) (.slice (some ⟨w.heap.size, 0, none⟩) 0 0) (.slice (some ⟨w.heap.size + 1, 0, none⟩) 0 0) [] [] s0 ∧ Below w.heap.size w W := by
  have h1 : OwnL 3 1 It.cells (w.alloc (.cells #[] 3)) w.heap.size (.slice (some ⟨w.heap.size, 0, none⟩) 0 0) ([] : List Int) := ownL_nil w (Nat.le_refl _)
  have h2 : OwnL 49 3 Rl.cells ((w.alloc (.cells #[] 3)).alloc (.cells #[] 49)) w.heap.size (.slice (some ⟨w.heap.size + 1, 0, none⟩) 0 0) ([] : List Rl.L) := by
    have := ownL_nil (E := 49) (size := 3) (f := Rl.cells) (B := w.heap.size) (w.alloc (.cells #[] 3)) (by simp)
    simpa using this
  have h3 := heap_alloc_new (((w.alloc (.cells #[] 3)).alloc (.cells #[] 49)).alloc (.cells #[] 9)) (.cells #[.int .i64 0, .string ⟨#[]⟩, .slice (some ⟨w.heap.size + 1 + 1, 0, none⟩) 0 0, .string ⟨#[]⟩] 45)
  rw [hW] at h3
  have hs : (((w.alloc (.cells #[] 3)).alloc (.cells #[] 49)).alloc (.cells #[] 9)).heap.size = w.heap.size + 1 + 1 + 1 := by simp
  rw [hs] at h3
  refine ⟨⟨?_, ?_, fun x hx => absurd hx (by simp), ⟨_, 0, h3, AtTy.nil, Nat.le_refl _, Nat.zero_le _⟩, Sep.nil⟩, ?_⟩
  · rw [← hW]; exact OwnL.alloc (OwnL.alloc (OwnL.alloc h1 _) _) _
  · rw [← hW]; exact OwnL.alloc (OwnL.alloc h2 _) _
  · rw [← hW]; exact ((((Below.refl _ _).alloc (Nat.le_refl _) _).alloc (by simp) _).alloc (by simp; omega) _).alloc (by simp; omega) _
end Rn

set_option maxRecDepth 100000 in
set_option maxHeartbeats 12800000 in
theorem sSubmissionRun_any (Au : Option Addr) (vs : List U) (cu : Nat) (d : ByteArray) (A : Option Addr) (lines : List ByteArray) (c : Nat) (w : World) (hu : AtUsers w w.heap.size Au vs) (hvl : vs.length ≤ maxLen) (hd : d.size ≤ 16777216) (h : AtStrs w w.heap.size A lines) (hl : lines.length ≤ 1048576) (hls : ∀ l ∈ lines, l.size ≤ 16777216) :
    Calls Tryz.prog 6 #[.slice Au vs.length cu, .string d, .slice A lines.length c] w (Rn.Out (Rn.ansR vs d lines) (Rn.ansL vs d lines) w) := by
  obtain ⟨i0, hi, hz0, hz1, hz2⟩ := info_parts int_info
  obtain ⟨j0, hj, hy0, hy1, hy2⟩ := info_parts let_info
  go_enter Tryz.func6, Tryz.ntmps6
  go_upto_region 4 with fail
  generalize hW : ((((w.alloc (.cells #[] 3)).alloc (.cells #[] 49)).alloc (.cells #[] 9)).alloc (.cells #[.int .i64 0, .string ⟨#[]⟩, .slice (some ⟨w.heap.size + 1 + 1, 0, none⟩) 0 0, .string ⟨#[]⟩] 45)) = W0
  obtain ⟨hr0, hb0⟩ := Rn.start w hW
  clear hW
  obtain ⟨b, hbe⟩ : ∃ b, b = w.heap.size + 1 + 1 + 1 := ⟨_, rfl⟩
  rw [← hbe] at hr0 ⊢
  have hwb : w.heap.size ≤ b := by omega
  have HR0 := Lib.hid hr0
  have HB0 := Lib.hid hb0
  clear hr0 hb0 hbe
  by_cases hgd : Rn.good vs d
  · have HGD := Lib.hid hgd
    clear hgd
    go_wp2_with fail
    go_loopg [8, 9, 11] lines.length (fun g v8 v9 i wr => ∃ (k : Nat) (ns : List Int) (ls : List Rl.L) (st : Int) (f : ByteArray) (us : List ByteArray) (t : ByteArray), k ≤ lines.length ∧ Hid (g = lines.length - k) ∧ i = .int .i64 k ∧ Hid (ns = Rn.reps vs d Rn.s0 (lines.take k)) ∧ Hid (ls.map Rl.v = Rn.lets vs d Rn.s0 (lines.take k)) ∧ Hid ((⟨st, f, us, t⟩ : Sm.S) = Rn.st vs d Rn.s0 (lines.take k)) ∧ Hid (Rn.Run wr w.heap.size b v8 v9 ns ls ⟨st, f, us, t⟩) ∧ Below w.heap.size w wr)
    case atStart => exact ⟨0, [], [], 0, Sm.e0, [], Sm.e0, Nat.zero_le _, Lib.hid rfl, rfl, Lib.hid (by simp [Rn.reps]), Lib.hid (by simp [Rn.lets]), Lib.hid (by simp [Rn.st]; rfl), HR0, HB0.out⟩
    case round =>
      obtain ⟨k, ns, ls, st, f, us, t, hk, HG, rfl, HNS, HVL, HST, HR, hb⟩ := hrel
      by_cases hlt : k < lines.length
      · obtain ⟨g, off, rfl, hg, _⟩ := h.1 (by omega)
        have hex : ∃ l, lines[k]? = some l := ⟨_, List.getElem?_eq_getElem hlt⟩
        obtain ⟨l, hlk⟩ := hex
        have HTK : Hid (lines.take (k + 1) = lines.take k ++ [l]) := Lib.hid (by rw [List.take_add_one, hlk]; rfl)
        have HLS : Hid (l.size ≤ 16777216) := Lib.hid (hls l (List.mem_of_getElem? hlk))
        have HDL : Hid (∀ w', Below w.heap.size w w' → w'.cell? ⟨g, off + k, none⟩ = some (.string l)) := Lib.hid fun w' hb' => by
          obtain ⟨g', off', e, _, hc⟩ := (h.below hb').1 (by omega)
          injection e with e
          injection e with e1 e2
          subst e1 e2
          exact hc k l hlk
        clear hlk
        have HOK : Hid (Sm.ok ⟨st, f, us, t⟩ = true) := Lib.hid (by rw [HST.out]; exact Rn.st_ok Rn.s0_ok _)
        have hfz : f.size ≤ 8 := (Sm.ok_sizes HOK.out).1
        have hul : us.length ≤ 3 := (Sm.ok_sizes HOK.out).2.1
        have htz : t.size ≤ 21 := (Sm.ok_sizes HOK.out).2.2.2.1
        have hfm : f.size ≤ maxLen := by unfold maxLen; omega
        have htm : t.size ≤ maxLen := by unfold maxLen; omega
        obtain ⟨R, hR⟩ : ∃ R, R = Sm.line vs d ⟨st, f, us, t⟩ l := ⟨_, rfl⟩
        obtain ⟨⟨so, fo, uo, to_⟩, no⟩ := R
        have HL := Lib.hid hR.symm
        clear hR
        have HNS2 : Hid (ns ++ [no] = Rn.reps vs d Rn.s0 (lines.take (k + 1))) := Lib.hid (by rw [HTK.out, Rn.reps_snoc, ← HST.out, HL.out, ← HNS.out])
        have HST2 : Hid ((⟨so, fo, uo, to_⟩ : Sm.S) = Rn.st vs d Rn.s0 (lines.take (k + 1))) := Lib.hid (by rw [HTK.out, Rn.st_snoc, ← HST.out, HL.out])
        have hnl : ns.length ≤ 1048576 := by rw [HNS.out, Rn.reps_len, List.length_take]; omega
        have HM1 : Hid (ns.length + 1 ≤ maxLen) := Lib.hid (by unfold maxLen; omega)
        have HM2 : Hid ((ns.length + 1) * 8 ≤ 140737488355328) := Lib.hid (by omega)
        have hll : ls.length ≤ 1048576 := by have e := congrArg List.length HVL.out; rw [List.length_map] at e; rw [e]; have := Rn.lets_len (us := vs) (d := d) Rn.s0 (lines.take k); rw [List.length_take] at this; omega
        have HK1 : Hid (ls.length + 1 ≤ maxLen) := Lib.hid (by unfold maxLen; omega)
        have HK2 : Hid ((ls.length + 1) * 56 ≤ 140737488355328) := Lib.hid (by omega)
        clear hnl hll
        have hlti : (k : Int) < (lines.length : Int) := by omega
        go_wp2_with fail
        refine Calls.mono (sUsersValid_any Au vs cu _ ((hu.below hb).mono hb.size) hvl) ?_
        rintro e w1 ⟨rfl, hb1⟩
        rw [HGD.out.1]
        have HB1 := Lib.hid (hb.trans (hb1.mono hb.size))
        have HR1 := Lib.hid (HR.out.below hb1)
        clear hb1
        go_wp2_with fail
        refine Calls.mono (sDomainValid_any d hd _) ?_
        rintro e w2 ⟨rfl, hb2⟩
        rw [HGD.out.2]
        have HB2 := Lib.hid (HB1.out.trans (hb2.mono HB1.out.size))
        have HR2 := Lib.hid (HR1.out.below hb2)
        clear hb2 HR1
        obtain ⟨A1, c1, hx2, hat2, hc1, hc2⟩ := HR2.out.var
        dsimp only at hx2 hat2 hc1
        have d0 : w2.cell? ⟨b, 0, none⟩ = some (.int .i64 st) := cell_at hx2 0 _ rfl
        have d1 : w2.cell? ⟨b, 1, none⟩ = some (.string f) := cell_at hx2 1 _ rfl
        have d2 : w2.cell? ⟨b, 2, none⟩ = some (.slice A1 us.length c1) := cell_at hx2 2 _ rfl
        have d3 : w2.cell? ⟨b, 3, none⟩ = some (.string t) := cell_at hx2 3 _ rfl
        clear hx2
        go_wp2_with fail
        refine Calls.mono (sSubmissionLetter_any st f t A1 us c1 _ hat2.1 hc1 hc2 hfm htm (by omega)) ?_
        rintro e w3 ⟨hyes, hno, hb3⟩
        clear d0 d1 d2 d3 hat2 hc1 hc2
        have HB3 := Lib.hid (HB2.out.trans (hb3.mono HB2.out.size))
        have HR3 := Lib.hid (HR2.out.below hb3)
        have HB23 := Lib.hid hb3
        clear hb3
        have dl3 : w3.cell? ⟨g, off + k, none⟩ = some (.string l) := HDL.out w3 HB3.out
        have hg3 : g < w3.heap.size := Nat.lt_of_lt_of_le hg HB3.out.size
        cases hdn : Sb.done st f us t
        · clear HB23
          obtain rfl := hno hdn
          have HVL2 : Hid (ls.map Rl.v = Rn.lets vs d Rn.s0 (lines.take (k + 1))) := Lib.hid (by rw [HTK.out, Rn.lets_snoc, ← HST.out, ← HVL.out, Rn.step_no (.inl hdn)]; simp)
          clear hyes hno hdn
          have hE := Below.alloc (Below.refl w3.heap.size w3) (Nat.le_refl _) (.cells #[.string ⟨#[]⟩, .slice none 0 0, .string ⟨#[]⟩] 49)
          have hx := heap_alloc_new w3 (.cells #[.string ⟨#[]⟩, .slice none 0 0, .string ⟨#[]⟩] 49)
          go_upto_region 8 with fail
          generalize w3.alloc (.cells #[.string ⟨#[]⟩, .slice none 0 0, .string ⟨#[]⟩] 49) = w4 at hE hx ⊢
          obtain ⟨bl, hbl⟩ : ∃ b, b = w3.heap.size := ⟨_, rfl⟩
          rw [← hbl] at hx ⊢
          clear hbl
          have HXL := Lib.hid hx
          have HR4 := Lib.hid (HR3.out.below hE)
          have HB4 := Lib.hid (HB3.out.trans (hE.mono HB3.out.size))
          clear dl3 hg3
          have dl4 : w4.cell? ⟨g, off + k, none⟩ = some (.string l) := HDL.out w4 HB4.out
          clear hE hx
          obtain ⟨w5, hw5⟩ : ∃ w5, w5 = w4 := ⟨_, rfl⟩
          rw [← hw5] at HR4 HB4 dl4 ⊢
          clear hw5 dl4 HXL
          have HR5 := HR4
          have HB5 := HB4
          clear HR4 HB4
          obtain ⟨A1, c1, hx5, hat5, hc1, hc2⟩ := HR5.out.var
          dsimp only at hx5 hat5 hc1
          have HX5 := Lib.hid hx5
          have HAT5 := Lib.hid hat5
          have hb5 : b < w5.heap.size := HR5.out.var.lt
          clear hx5 hat5
          have d0 : w5.cell? ⟨b, 0, none⟩ = some (.int .i64 st) := cell_at HX5.out 0 _ rfl
          have d1 : w5.cell? ⟨b, 1, none⟩ = some (.string f) := cell_at HX5.out 1 _ rfl
          have d2 : w5.cell? ⟨b, 2, none⟩ = some (.slice A1 us.length c1) := cell_at HX5.out 2 _ rfl
          have d3 : w5.cell? ⟨b, 3, none⟩ = some (.string t) := cell_at HX5.out 3 _ rfl
          have dl : w5.cell? ⟨g, off + k, none⟩ = some (.string l) := HDL.out w5 HB5.out
          have hg5 : g < w5.heap.size := Nat.lt_of_lt_of_le hg HB5.out.size
          have HD5 : Hid (Below w5.heap.size w5 w5.drew) := Lib.hid (Sx.below_drew (Below.refl _ _))
          have HE5 : Hid (Below w5.heap.size w5 (w5.alloc (.cells #[.int .i64 0, .string ⟨#[]⟩, .slice none 0 0, .string ⟨#[]⟩] 45)).drew) := Lib.hid (Sx.below_drew ((Below.refl _ _).alloc (Nat.le_refl _) _))
          have HZ5 : Hid ((w5.alloc (.cells #[.int .i64 0, .string ⟨#[]⟩, .slice none 0 0, .string ⟨#[]⟩] 45)).drew.heap[w5.heap.size]? = some (.cells #[.int .i64 0, .string ⟨#[]⟩, .slice none 0 0, .string ⟨#[]⟩] 45)) := Lib.hid (heap_alloc_new w5 _)
          have HCL : Hid (∀ W, Below w5.heap.size w5 W → Calls Tryz.prog 24 #[.agg #[.int .i64 st, .string f, .slice A1 us.length c1, .string t], .slice Au vs.length cu, .string d, .string l] W (Sm.ResT 0 (⟨so, fo, uo, to_⟩, no) W)) := Lib.hid fun W hb => by
            have := l21Line_ty 0 st f t A1 us c1 W ((HAT5.out.below hb).mono hb.size) (Nat.lt_of_lt_of_le (Nat.lt_of_le_of_lt (Nat.zero_le _) hb5) hb.size) hc1 hc2 HOK.out Au vs cu ((hu.below (HB5.out.trans (hb.mono HB5.out.size))).mono (HB5.out.trans (hb.mono HB5.out.size)).size) hvl d l HLS.out
            rw [HL.out] at this
            exact this
          go_upto_region 10 with fail
          go_cut [14, 15] (fun v1 v2 wx => ∃ (bq : Nat) (Aq : Option Addr) (cq : Nat), v1 = .pointer (some ⟨bq, 0, none⟩) ∧ v2 = .int .i64 no ∧ Hid (wx.heap[bq]? = some (.cells #[.int .i64 so, .string fo, .slice Aq uo.length cq, .string to_] 45 (0, 0))) ∧ Hid (AtTy 0 wx wx.heap.size Aq uo ∧ uo.length ≤ cq ∧ cq ≤ maxLen) ∧ Hid (bq < wx.heap.size ∧ w5.heap.size ≤ bq) ∧ Hid (Below w5.heap.size w5 wx))
          case first =>
            go_region_law ((first
              | (go_simp; go_at_call 24; refine Calls.mono (HCL.out _ HD5.out) ?_; rintro e wy ⟨Aq, cq, rfl, htq, hkq, hjq, hbq⟩; dsimp only [Sm.val] at htq hkq hjq ⊢; have hbw : Hid (Below w5.heap.size w5 wy) := Lib.hid (HD5.out.trans (hbq.mono HD5.out.size)))
              | (go_simp; go_at_call 24; refine Calls.mono (HCL.out _ HE5.out) ?_; rintro e wy ⟨Aq, cq, rfl, htq, hkq, hjq, hbq⟩; dsimp only [Sm.val] at htq hkq hjq ⊢; have hbw : Hid (Below w5.heap.size w5 wy) := Lib.hid (HE5.out.trans (hbq.mono HE5.out.size)); have hlz : w5.heap.size < (w5.alloc (.cells #[.int .i64 0, .string ⟨#[]⟩, .slice none 0 0, .string ⟨#[]⟩] 45)).drew.heap.size := (Array.getElem?_eq_some_iff.1 HZ5.out).1; have HV1 := Lib.hid ((hbq.block w5.heap.size hlz).trans HZ5.out); have vz0 : wy.cell? ⟨w5.heap.size, 0, none⟩ = some (.int .i64 0) := cell_at HV1.out 0 _ rfl; have fz0 := free_at HV1.out 0; have vz1 : wy.cell? ⟨w5.heap.size, 1, none⟩ = some (.string ⟨#[]⟩) := cell_at HV1.out 1 _ rfl; have fz1 := free_at HV1.out 1; have vz2 : wy.cell? ⟨w5.heap.size, 2, none⟩ = some (.slice none 0 0) := cell_at HV1.out 2 _ rfl; have fz2 := free_at HV1.out 2; have vz3 : wy.cell? ⟨w5.heap.size, 3, none⟩ = some (.string ⟨#[]⟩) := cell_at HV1.out 3 _ rfl; have fz3 := free_at HV1.out 3)))
            all_goals
              go_wp2_with fail
              go_meet
              first
              | (have hh := HV1.out
                 refine ⟨_, Aq, cq, rfl, rfl, ?_, ?_, ?_, ?_⟩
                 · exact Lib.hid (Lw.box4 hh _ _ _ _)
                 · exact Lib.hid ⟨htq.set4 hh _ _ _ _, hkq, hjq⟩
                 · exact Lib.hid ⟨by simp; exact (Array.getElem?_eq_some_iff.1 hh).1, Nat.le_refl _⟩
                 · exact Lib.hid (set4 hbw.out (Nat.le_refl _) _ _ _ _))
              | (have hea := Below.alloc (Below.refl wy.heap.size wy) (Nat.le_refl _) (.cells #[.int .i64 so, .string fo, .slice Aq uo.length cq, .string to_] 45)
                 refine ⟨_, Aq, cq, rfl, rfl, ?_, ?_, ?_, ?_⟩
                 · exact Lib.hid (heap_alloc_new _ _)
                 · exact Lib.hid ⟨(htq.below hea).mono hea.size, hkq, hjq⟩
                 · exact Lib.hid ⟨by simp, hbw.out.size⟩
                 · exact Lib.hid (hbw.out.trans (hea.mono hbw.out.size)))
          clear d0 d1 d2 d3 dl
          obtain ⟨bq, Aq, cq, rfl, rfl, HXQ, HTQ, HLQ, HBQ⟩ := hcut
          obtain ⟨w6, hwm⟩ : ∃ wm, wm = wc := ⟨_, rfl⟩
          subst hwm
          have HR6 := Lib.hid (HR5.out.below HBQ.out)
          have HB6 := Lib.hid (HB5.out.trans (HBQ.out.mono HB5.out.size))
          have HX6 := Lib.hid ((HBQ.out.block b hb5).trans HX5.out)
          have hnb : b ≠ bq := by have := HLQ.out.2; omega
          have hnb2 : bq ≠ b := Ne.symm hnb
          have hb6 : b < w6.heap.size := Nat.lt_of_lt_of_le hb5 HBQ.out.size
          have d0 : w6.cell? ⟨b, 0, none⟩ = some (.int .i64 st) := cell_at HX6.out 0 _ rfl
          have d1 : w6.cell? ⟨b, 1, none⟩ = some (.string f) := cell_at HX6.out 1 _ rfl
          have d2 : w6.cell? ⟨b, 2, none⟩ = some (.slice A1 us.length c1) := cell_at HX6.out 2 _ rfl
          have d3 : w6.cell? ⟨b, 3, none⟩ = some (.string t) := cell_at HX6.out 3 _ rfl
          have z0 := free_at HX6.out 0
          have z1 := free_at HX6.out 1
          have z2 := free_at HX6.out 2
          have z3 := free_at HX6.out 3
          have y0 : w6.cell? ⟨bq, 0, none⟩ = some (.int .i64 so) := cell_at HXQ.out 0 _ rfl
          have y1 : w6.cell? ⟨bq, 1, none⟩ = some (.string fo) := cell_at HXQ.out 1 _ rfl
          have y2 : w6.cell? ⟨bq, 2, none⟩ = some (.slice Aq uo.length cq) := cell_at HXQ.out 2 _ rfl
          have y3 : w6.cell? ⟨bq, 3, none⟩ = some (.string to_) := cell_at HXQ.out 3 _ rfl
          go_upto_region 12 with fail
          have HR7 := Lib.hid (HR6.out.store (s2 := ⟨so, fo, uo, to_⟩) HTQ.out.1 HTQ.out.2.1 HTQ.out.2.2)
          have HB7 := Lib.hid (set4 HB6.out hwb (.int .i64 so) (.string fo) (.slice Aq uo.length cq) (.string to_))
          dsimp only at HR7
          clear d0 d1 d2 d3 z0 z1 z2 z3 y0 y1 y2 y3
          generalize (((w6.setCell ⟨b, 0, none⟩ (.int .i64 so)).setCell ⟨b, 1, none⟩ (.string fo)).setCell ⟨b, 2, none⟩ (.slice Aq uo.length cq)).setCell ⟨b, 3, none⟩ (.string to_) = w7 at HR7 HB7 ⊢
          have HO7 := Lib.hid HR7.out.reps
          have hBo : w.heap.size ≤ w7.heap.size := HB7.out.size
          go_wp2_with (first | (at_builtin; refine wpList_snoc _ rfl (.tmp 63) (.tmp 65) _ rfl 3 i0 _ 1 8 Tryz.underlying26 hi hz0 hz1 hz2 rfl (by omega) It.cells It.cells_len It.one1 w.heap.size _ ns no rfl HO7.out _ rfl rfl HM1.out HM2.out hBo ?_; intro v8' w8 hown8 hb8 hg8; have HR8 := Lib.hid (HR7.out.snocR hown8 hg8); have HB8 := Lib.hid (HB7.out.trans hb8); clear hown8 hb8 hg8))
          go_roundg (lines.length - (k + 1))
          case measure => have := HG.out; omega
          case rel => exact ⟨k + 1, ns ++ [no], ls, so, fo, uo, to_, by omega, Lib.hid rfl, by go_num, HNS2, HVL2, HST2, HR8, HB8.out⟩
        · obtain ⟨A3, c3, rfl, ho3⟩ := hyes hdn
          have hcp3 := own_cap ho3
          have HT3 : Hid (AtTy 0 w3 w3.heap.size A3 us) := Lib.hid (AtTy.of_own (Nat.lt_of_le_of_lt (Nat.zero_le _) HR2.out.var.lt) ho3 (fun u hu' => by have := (Sm.ok_sizes HOK.out).2.2.1 u hu'; unfold maxLen; omega))
          have HDN := Lib.hid hdn
          have HSP := Lib.hid (HR2.out.sep.fresh (hx := ho3) (x := ⟨f, A3, us, c3, t⟩) HB23.out HB2.out.size)
          clear hyes hno ho3 hdn HB23
          have hE := Below.alloc (Below.refl w3.heap.size w3) (Nat.le_refl _) (.cells #[.string f, .slice A3 us.length c3, .string t] 49)
          have hx := heap_alloc_new w3 (.cells #[.string f, .slice A3 us.length c3, .string t] 49)
          go_upto_region 8 with fail
          generalize w3.alloc (.cells #[.string f, .slice A3 us.length c3, .string t] 49) = w4 at hE hx ⊢
          obtain ⟨bl, hbl⟩ : ∃ b, b = w3.heap.size := ⟨_, rfl⟩
          rw [← hbl] at hx ⊢
          clear hbl
          have HXL := Lib.hid hx
          have HR4 := Lib.hid (HR3.out.below hE)
          have HB4 := Lib.hid (HB3.out.trans (hE.mono HB3.out.size))
          clear dl3 hg3
          have dl4 : w4.cell? ⟨g, off + k, none⟩ = some (.string l) := HDL.out w4 HB4.out
          have HT4 := Lib.hid ((HT3.out.below hE).mono hE.size)
          have HSP4 := Lib.hid (HSP.out.below hE)
          clear hE hx HT3 HSP
          by_cases hdot : l = ⟨#[46]⟩
          · have q0 : (l.toList == [46]) = true := lit_yes hdot
            have HVL2 : Hid ((ls ++ [(⟨f, A3, us, c3, t⟩ : Rl.L)]).map Rl.v = Rn.lets vs d Rn.s0 (lines.take (k + 1))) := Lib.hid (by rw [HTK.out, Rn.lets_snoc, ← HST.out, ← HVL.out, Rn.step_yes HDN.out hdot, List.map_append]; rfl)
            clear hdot
            have x0 : w4.cell? ⟨bl, 0, none⟩ = some (.string f) := cell_at HXL.out 0 _ rfl
            have x1 : w4.cell? ⟨bl, 1, none⟩ = some (.slice A3 us.length c3) := cell_at HXL.out 1 _ rfl
            have x2 : w4.cell? ⟨bl, 2, none⟩ = some (.string t) := cell_at HXL.out 2 _ rfl
            have HO4 := Lib.hid HR4.out.lets
            have hBo4 : w.heap.size ≤ w4.heap.size := HB4.out.size
            go_wp2_with (first | (at_builtin; refine wpList_snoc _ rfl (.tmp 47) (.tmp 49) _ rfl 49 j0 _ 3 56 Tryz.underlying27 hj hy0 hy1 hy2 rfl (by omega) Rl.cells Rl.cells_len Rl.one1 w.heap.size _ ls (⟨f, A3, us, c3, t⟩ : Rl.L) rfl HO4.out _ rfl rfl HK1.out HK2.out hBo4 ?_; intro v9' w5 hown5 hb5 hg5; have HR5 := Lib.hid (HR4.out.snocL hown5 hg5 HT4.out HSP4.out ⟨hul, hcp3.1, hcp3.2⟩); have HB5 := Lib.hid (HB4.out.trans hb5); clear hown5 hb5 hg5 x0 x1 x2 dl4 HO4 HR4) | fail)
            obtain ⟨A1, c1, hx5, hat5, hc1, hc2⟩ := HR5.out.var
            dsimp only at hx5 hat5 hc1
            have HX5 := Lib.hid hx5
            have HAT5 := Lib.hid hat5
            have hb5 : b < w5.heap.size := HR5.out.var.lt
            clear hx5 hat5
            have d0 : w5.cell? ⟨b, 0, none⟩ = some (.int .i64 st) := cell_at HX5.out 0 _ rfl
            have d1 : w5.cell? ⟨b, 1, none⟩ = some (.string f) := cell_at HX5.out 1 _ rfl
            have d2 : w5.cell? ⟨b, 2, none⟩ = some (.slice A1 us.length c1) := cell_at HX5.out 2 _ rfl
            have d3 : w5.cell? ⟨b, 3, none⟩ = some (.string t) := cell_at HX5.out 3 _ rfl
            have dl : w5.cell? ⟨g, off + k, none⟩ = some (.string l) := HDL.out w5 HB5.out
            have hg5 : g < w5.heap.size := Nat.lt_of_lt_of_le hg HB5.out.size
            have HD5 : Hid (Below w5.heap.size w5 w5.drew) := Lib.hid (Sx.below_drew (Below.refl _ _))
            have HE5 : Hid (Below w5.heap.size w5 (w5.alloc (.cells #[.int .i64 0, .string ⟨#[]⟩, .slice none 0 0, .string ⟨#[]⟩] 45)).drew) := Lib.hid (Sx.below_drew ((Below.refl _ _).alloc (Nat.le_refl _) _))
            have HZ5 : Hid ((w5.alloc (.cells #[.int .i64 0, .string ⟨#[]⟩, .slice none 0 0, .string ⟨#[]⟩] 45)).drew.heap[w5.heap.size]? = some (.cells #[.int .i64 0, .string ⟨#[]⟩, .slice none 0 0, .string ⟨#[]⟩] 45)) := Lib.hid (heap_alloc_new w5 _)
            have HCL : Hid (∀ W, Below w5.heap.size w5 W → Calls Tryz.prog 24 #[.agg #[.int .i64 st, .string f, .slice A1 us.length c1, .string t], .slice Au vs.length cu, .string d, .string l] W (Sm.ResT 0 (⟨so, fo, uo, to_⟩, no) W)) := Lib.hid fun W hb => by
              have := l21Line_ty 0 st f t A1 us c1 W ((HAT5.out.below hb).mono hb.size) (Nat.lt_of_lt_of_le (Nat.lt_of_le_of_lt (Nat.zero_le _) hb5) hb.size) hc1 hc2 HOK.out Au vs cu ((hu.below (HB5.out.trans (hb.mono HB5.out.size))).mono (HB5.out.trans (hb.mono HB5.out.size)).size) hvl d l HLS.out
              rw [HL.out] at this
              exact this
            go_upto_region 10 with fail
            go_cut [14, 15] (fun v1 v2 wx => ∃ (bq : Nat) (Aq : Option Addr) (cq : Nat), v1 = .pointer (some ⟨bq, 0, none⟩) ∧ v2 = .int .i64 no ∧ Hid (wx.heap[bq]? = some (.cells #[.int .i64 so, .string fo, .slice Aq uo.length cq, .string to_] 45 (0, 0))) ∧ Hid (AtTy 0 wx wx.heap.size Aq uo ∧ uo.length ≤ cq ∧ cq ≤ maxLen) ∧ Hid (bq < wx.heap.size ∧ w5.heap.size ≤ bq) ∧ Hid (Below w5.heap.size w5 wx))
            case first =>
              go_region_law ((first
                | (go_simp; go_at_call 24; refine Calls.mono (HCL.out _ HD5.out) ?_; rintro e wy ⟨Aq, cq, rfl, htq, hkq, hjq, hbq⟩; dsimp only [Sm.val] at htq hkq hjq ⊢; have hbw : Hid (Below w5.heap.size w5 wy) := Lib.hid (HD5.out.trans (hbq.mono HD5.out.size)))
                | (go_simp; go_at_call 24; refine Calls.mono (HCL.out _ HE5.out) ?_; rintro e wy ⟨Aq, cq, rfl, htq, hkq, hjq, hbq⟩; dsimp only [Sm.val] at htq hkq hjq ⊢; have hbw : Hid (Below w5.heap.size w5 wy) := Lib.hid (HE5.out.trans (hbq.mono HE5.out.size)); have hlz : w5.heap.size < (w5.alloc (.cells #[.int .i64 0, .string ⟨#[]⟩, .slice none 0 0, .string ⟨#[]⟩] 45)).drew.heap.size := (Array.getElem?_eq_some_iff.1 HZ5.out).1; have HV1 := Lib.hid ((hbq.block w5.heap.size hlz).trans HZ5.out); have vz0 : wy.cell? ⟨w5.heap.size, 0, none⟩ = some (.int .i64 0) := cell_at HV1.out 0 _ rfl; have fz0 := free_at HV1.out 0; have vz1 : wy.cell? ⟨w5.heap.size, 1, none⟩ = some (.string ⟨#[]⟩) := cell_at HV1.out 1 _ rfl; have fz1 := free_at HV1.out 1; have vz2 : wy.cell? ⟨w5.heap.size, 2, none⟩ = some (.slice none 0 0) := cell_at HV1.out 2 _ rfl; have fz2 := free_at HV1.out 2; have vz3 : wy.cell? ⟨w5.heap.size, 3, none⟩ = some (.string ⟨#[]⟩) := cell_at HV1.out 3 _ rfl; have fz3 := free_at HV1.out 3)))
              all_goals
                go_wp2_with fail
                go_meet
                first
                | (have hh := HV1.out
                   refine ⟨_, Aq, cq, rfl, rfl, ?_, ?_, ?_, ?_⟩
                   · exact Lib.hid (Lw.box4 hh _ _ _ _)
                   · exact Lib.hid ⟨htq.set4 hh _ _ _ _, hkq, hjq⟩
                   · exact Lib.hid ⟨by simp; exact (Array.getElem?_eq_some_iff.1 hh).1, Nat.le_refl _⟩
                   · exact Lib.hid (set4 hbw.out (Nat.le_refl _) _ _ _ _))
                | (have hea := Below.alloc (Below.refl wy.heap.size wy) (Nat.le_refl _) (.cells #[.int .i64 so, .string fo, .slice Aq uo.length cq, .string to_] 45)
                   refine ⟨_, Aq, cq, rfl, rfl, ?_, ?_, ?_, ?_⟩
                   · exact Lib.hid (heap_alloc_new _ _)
                   · exact Lib.hid ⟨(htq.below hea).mono hea.size, hkq, hjq⟩
                   · exact Lib.hid ⟨by simp, hbw.out.size⟩
                   · exact Lib.hid (hbw.out.trans (hea.mono hbw.out.size)))
            clear d0 d1 d2 d3 dl
            obtain ⟨bq, Aq, cq, rfl, rfl, HXQ, HTQ, HLQ, HBQ⟩ := hcut
            obtain ⟨w6, hwm⟩ : ∃ wm, wm = wc := ⟨_, rfl⟩
            subst hwm
            have HR6 := Lib.hid (HR5.out.below HBQ.out)
            have HB6 := Lib.hid (HB5.out.trans (HBQ.out.mono HB5.out.size))
            have HX6 := Lib.hid ((HBQ.out.block b hb5).trans HX5.out)
            have hnb : b ≠ bq := by have := HLQ.out.2; omega
            have hnb2 : bq ≠ b := Ne.symm hnb
            have hb6 : b < w6.heap.size := Nat.lt_of_lt_of_le hb5 HBQ.out.size
            have d0 : w6.cell? ⟨b, 0, none⟩ = some (.int .i64 st) := cell_at HX6.out 0 _ rfl
            have d1 : w6.cell? ⟨b, 1, none⟩ = some (.string f) := cell_at HX6.out 1 _ rfl
            have d2 : w6.cell? ⟨b, 2, none⟩ = some (.slice A1 us.length c1) := cell_at HX6.out 2 _ rfl
            have d3 : w6.cell? ⟨b, 3, none⟩ = some (.string t) := cell_at HX6.out 3 _ rfl
            have z0 := free_at HX6.out 0
            have z1 := free_at HX6.out 1
            have z2 := free_at HX6.out 2
            have z3 := free_at HX6.out 3
            have y0 : w6.cell? ⟨bq, 0, none⟩ = some (.int .i64 so) := cell_at HXQ.out 0 _ rfl
            have y1 : w6.cell? ⟨bq, 1, none⟩ = some (.string fo) := cell_at HXQ.out 1 _ rfl
            have y2 : w6.cell? ⟨bq, 2, none⟩ = some (.slice Aq uo.length cq) := cell_at HXQ.out 2 _ rfl
            have y3 : w6.cell? ⟨bq, 3, none⟩ = some (.string to_) := cell_at HXQ.out 3 _ rfl
            go_upto_region 12 with fail
            have HR7 := Lib.hid (HR6.out.store (s2 := ⟨so, fo, uo, to_⟩) HTQ.out.1 HTQ.out.2.1 HTQ.out.2.2)
            have HB7 := Lib.hid (set4 HB6.out hwb (.int .i64 so) (.string fo) (.slice Aq uo.length cq) (.string to_))
            dsimp only at HR7
            clear d0 d1 d2 d3 z0 z1 z2 z3 y0 y1 y2 y3
            generalize (((w6.setCell ⟨b, 0, none⟩ (.int .i64 so)).setCell ⟨b, 1, none⟩ (.string fo)).setCell ⟨b, 2, none⟩ (.slice Aq uo.length cq)).setCell ⟨b, 3, none⟩ (.string to_) = w7 at HR7 HB7 ⊢
            have HO7 := Lib.hid HR7.out.reps
            have hBo : w.heap.size ≤ w7.heap.size := HB7.out.size
            go_wp2_with (first | (at_builtin; refine wpList_snoc _ rfl (.tmp 63) (.tmp 65) _ rfl 3 i0 _ 1 8 Tryz.underlying26 hi hz0 hz1 hz2 rfl (by omega) It.cells It.cells_len It.one1 w.heap.size _ ns no rfl HO7.out _ rfl rfl HM1.out HM2.out hBo ?_; intro v8' w8 hown8 hb8 hg8; have HR8 := Lib.hid (HR7.out.snocR hown8 hg8); have HB8 := Lib.hid (HB7.out.trans hb8); clear hown8 hb8 hg8))
            go_roundg (lines.length - (k + 1))
            case measure => have := HG.out; omega
            case rel => exact ⟨k + 1, ns ++ [no], (ls ++ [(⟨f, A3, us, c3, t⟩ : Rl.L)]), so, fo, uo, to_, by omega, Lib.hid rfl, by go_num, HNS2, HVL2, HST2, HR8, HB8.out⟩
          · have q0 : (l.toList == [46]) = false := lit_no hdot
            have HVL2 : Hid (ls.map Rl.v = Rn.lets vs d Rn.s0 (lines.take (k + 1))) := Lib.hid (by rw [HTK.out, Rn.lets_snoc, ← HST.out, ← HVL.out, Rn.step_no (.inr hdot)]; simp)
            clear hdot
            obtain ⟨w5, hw5⟩ : ∃ w5, w5 = w4 := ⟨_, rfl⟩
            rw [← hw5] at HR4 HB4 dl4 ⊢
            clear hw5 dl4 HXL HT4 HSP4
            have HR5 := HR4
            have HB5 := HB4
            clear HR4 HB4
            obtain ⟨A1, c1, hx5, hat5, hc1, hc2⟩ := HR5.out.var
            dsimp only at hx5 hat5 hc1
            have HX5 := Lib.hid hx5
            have HAT5 := Lib.hid hat5
            have hb5 : b < w5.heap.size := HR5.out.var.lt
            clear hx5 hat5
            have d0 : w5.cell? ⟨b, 0, none⟩ = some (.int .i64 st) := cell_at HX5.out 0 _ rfl
            have d1 : w5.cell? ⟨b, 1, none⟩ = some (.string f) := cell_at HX5.out 1 _ rfl
            have d2 : w5.cell? ⟨b, 2, none⟩ = some (.slice A1 us.length c1) := cell_at HX5.out 2 _ rfl
            have d3 : w5.cell? ⟨b, 3, none⟩ = some (.string t) := cell_at HX5.out 3 _ rfl
            have dl : w5.cell? ⟨g, off + k, none⟩ = some (.string l) := HDL.out w5 HB5.out
            have hg5 : g < w5.heap.size := Nat.lt_of_lt_of_le hg HB5.out.size
            have HD5 : Hid (Below w5.heap.size w5 w5.drew) := Lib.hid (Sx.below_drew (Below.refl _ _))
            have HE5 : Hid (Below w5.heap.size w5 (w5.alloc (.cells #[.int .i64 0, .string ⟨#[]⟩, .slice none 0 0, .string ⟨#[]⟩] 45)).drew) := Lib.hid (Sx.below_drew ((Below.refl _ _).alloc (Nat.le_refl _) _))
            have HZ5 : Hid ((w5.alloc (.cells #[.int .i64 0, .string ⟨#[]⟩, .slice none 0 0, .string ⟨#[]⟩] 45)).drew.heap[w5.heap.size]? = some (.cells #[.int .i64 0, .string ⟨#[]⟩, .slice none 0 0, .string ⟨#[]⟩] 45)) := Lib.hid (heap_alloc_new w5 _)
            have HCL : Hid (∀ W, Below w5.heap.size w5 W → Calls Tryz.prog 24 #[.agg #[.int .i64 st, .string f, .slice A1 us.length c1, .string t], .slice Au vs.length cu, .string d, .string l] W (Sm.ResT 0 (⟨so, fo, uo, to_⟩, no) W)) := Lib.hid fun W hb => by
              have := l21Line_ty 0 st f t A1 us c1 W ((HAT5.out.below hb).mono hb.size) (Nat.lt_of_lt_of_le (Nat.lt_of_le_of_lt (Nat.zero_le _) hb5) hb.size) hc1 hc2 HOK.out Au vs cu ((hu.below (HB5.out.trans (hb.mono HB5.out.size))).mono (HB5.out.trans (hb.mono HB5.out.size)).size) hvl d l HLS.out
              rw [HL.out] at this
              exact this
            go_upto_region 10 with fail
            go_cut [14, 15] (fun v1 v2 wx => ∃ (bq : Nat) (Aq : Option Addr) (cq : Nat), v1 = .pointer (some ⟨bq, 0, none⟩) ∧ v2 = .int .i64 no ∧ Hid (wx.heap[bq]? = some (.cells #[.int .i64 so, .string fo, .slice Aq uo.length cq, .string to_] 45 (0, 0))) ∧ Hid (AtTy 0 wx wx.heap.size Aq uo ∧ uo.length ≤ cq ∧ cq ≤ maxLen) ∧ Hid (bq < wx.heap.size ∧ w5.heap.size ≤ bq) ∧ Hid (Below w5.heap.size w5 wx))
            case first =>
              go_region_law ((first
                | (go_simp; go_at_call 24; refine Calls.mono (HCL.out _ HD5.out) ?_; rintro e wy ⟨Aq, cq, rfl, htq, hkq, hjq, hbq⟩; dsimp only [Sm.val] at htq hkq hjq ⊢; have hbw : Hid (Below w5.heap.size w5 wy) := Lib.hid (HD5.out.trans (hbq.mono HD5.out.size)))
                | (go_simp; go_at_call 24; refine Calls.mono (HCL.out _ HE5.out) ?_; rintro e wy ⟨Aq, cq, rfl, htq, hkq, hjq, hbq⟩; dsimp only [Sm.val] at htq hkq hjq ⊢; have hbw : Hid (Below w5.heap.size w5 wy) := Lib.hid (HE5.out.trans (hbq.mono HE5.out.size)); have hlz : w5.heap.size < (w5.alloc (.cells #[.int .i64 0, .string ⟨#[]⟩, .slice none 0 0, .string ⟨#[]⟩] 45)).drew.heap.size := (Array.getElem?_eq_some_iff.1 HZ5.out).1; have HV1 := Lib.hid ((hbq.block w5.heap.size hlz).trans HZ5.out); have vz0 : wy.cell? ⟨w5.heap.size, 0, none⟩ = some (.int .i64 0) := cell_at HV1.out 0 _ rfl; have fz0 := free_at HV1.out 0; have vz1 : wy.cell? ⟨w5.heap.size, 1, none⟩ = some (.string ⟨#[]⟩) := cell_at HV1.out 1 _ rfl; have fz1 := free_at HV1.out 1; have vz2 : wy.cell? ⟨w5.heap.size, 2, none⟩ = some (.slice none 0 0) := cell_at HV1.out 2 _ rfl; have fz2 := free_at HV1.out 2; have vz3 : wy.cell? ⟨w5.heap.size, 3, none⟩ = some (.string ⟨#[]⟩) := cell_at HV1.out 3 _ rfl; have fz3 := free_at HV1.out 3)))
              all_goals
                go_wp2_with fail
                go_meet
                first
                | (have hh := HV1.out
                   refine ⟨_, Aq, cq, rfl, rfl, ?_, ?_, ?_, ?_⟩
                   · exact Lib.hid (Lw.box4 hh _ _ _ _)
                   · exact Lib.hid ⟨htq.set4 hh _ _ _ _, hkq, hjq⟩
                   · exact Lib.hid ⟨by simp; exact (Array.getElem?_eq_some_iff.1 hh).1, Nat.le_refl _⟩
                   · exact Lib.hid (set4 hbw.out (Nat.le_refl _) _ _ _ _))
                | (have hea := Below.alloc (Below.refl wy.heap.size wy) (Nat.le_refl _) (.cells #[.int .i64 so, .string fo, .slice Aq uo.length cq, .string to_] 45)
                   refine ⟨_, Aq, cq, rfl, rfl, ?_, ?_, ?_, ?_⟩
                   · exact Lib.hid (heap_alloc_new _ _)
                   · exact Lib.hid ⟨(htq.below hea).mono hea.size, hkq, hjq⟩
                   · exact Lib.hid ⟨by simp, hbw.out.size⟩
                   · exact Lib.hid (hbw.out.trans (hea.mono hbw.out.size)))
            clear d0 d1 d2 d3 dl
            obtain ⟨bq, Aq, cq, rfl, rfl, HXQ, HTQ, HLQ, HBQ⟩ := hcut
            obtain ⟨w6, hwm⟩ : ∃ wm, wm = wc := ⟨_, rfl⟩
            subst hwm
            have HR6 := Lib.hid (HR5.out.below HBQ.out)
            have HB6 := Lib.hid (HB5.out.trans (HBQ.out.mono HB5.out.size))
            have HX6 := Lib.hid ((HBQ.out.block b hb5).trans HX5.out)
            have hnb : b ≠ bq := by have := HLQ.out.2; omega
            have hnb2 : bq ≠ b := Ne.symm hnb
            have hb6 : b < w6.heap.size := Nat.lt_of_lt_of_le hb5 HBQ.out.size
            have d0 : w6.cell? ⟨b, 0, none⟩ = some (.int .i64 st) := cell_at HX6.out 0 _ rfl
            have d1 : w6.cell? ⟨b, 1, none⟩ = some (.string f) := cell_at HX6.out 1 _ rfl
            have d2 : w6.cell? ⟨b, 2, none⟩ = some (.slice A1 us.length c1) := cell_at HX6.out 2 _ rfl
            have d3 : w6.cell? ⟨b, 3, none⟩ = some (.string t) := cell_at HX6.out 3 _ rfl
            have z0 := free_at HX6.out 0
            have z1 := free_at HX6.out 1
            have z2 := free_at HX6.out 2
            have z3 := free_at HX6.out 3
            have y0 : w6.cell? ⟨bq, 0, none⟩ = some (.int .i64 so) := cell_at HXQ.out 0 _ rfl
            have y1 : w6.cell? ⟨bq, 1, none⟩ = some (.string fo) := cell_at HXQ.out 1 _ rfl
            have y2 : w6.cell? ⟨bq, 2, none⟩ = some (.slice Aq uo.length cq) := cell_at HXQ.out 2 _ rfl
            have y3 : w6.cell? ⟨bq, 3, none⟩ = some (.string to_) := cell_at HXQ.out 3 _ rfl
            go_upto_region 12 with fail
            have HR7 := Lib.hid (HR6.out.store (s2 := ⟨so, fo, uo, to_⟩) HTQ.out.1 HTQ.out.2.1 HTQ.out.2.2)
            have HB7 := Lib.hid (set4 HB6.out hwb (.int .i64 so) (.string fo) (.slice Aq uo.length cq) (.string to_))
            dsimp only at HR7
            clear d0 d1 d2 d3 z0 z1 z2 z3 y0 y1 y2 y3
            generalize (((w6.setCell ⟨b, 0, none⟩ (.int .i64 so)).setCell ⟨b, 1, none⟩ (.string fo)).setCell ⟨b, 2, none⟩ (.slice Aq uo.length cq)).setCell ⟨b, 3, none⟩ (.string to_) = w7 at HR7 HB7 ⊢
            have HO7 := Lib.hid HR7.out.reps
            have hBo : w.heap.size ≤ w7.heap.size := HB7.out.size
            go_wp2_with (first | (at_builtin; refine wpList_snoc _ rfl (.tmp 63) (.tmp 65) _ rfl 3 i0 _ 1 8 Tryz.underlying26 hi hz0 hz1 hz2 rfl (by omega) It.cells It.cells_len It.one1 w.heap.size _ ns no rfl HO7.out _ rfl rfl HM1.out HM2.out hBo ?_; intro v8' w8 hown8 hb8 hg8; have HR8 := Lib.hid (HR7.out.snocR hown8 hg8); have HB8 := Lib.hid (HB7.out.trans hb8); clear hown8 hb8 hg8))
            go_roundg (lines.length - (k + 1))
            case measure => have := HG.out; omega
            case rel => exact ⟨k + 1, ns ++ [no], ls, so, fo, uo, to_, by omega, Lib.hid rfl, by go_num, HNS2, HVL2, HST2, HR8, HB8.out⟩
      · obtain rfl : k = lines.length := by omega
        have hlti : ¬ (lines.length : Int) < (lines.length : Int) := by omega
        go_wp2_with fail
        go_ret2
        refine Rn.out_of HR.out ?_ ?_ hb
        · rw [HNS.out, List.take_length]; unfold Rn.ansR; rw [if_pos HGD.out]
        · rw [HVL.out, List.take_length]; unfold Rn.ansL; rw [if_pos HGD.out]
  · have HBD := Lib.hid hgd
    clear hgd
    have HAR : Hid (([] : List Int) = Rn.ansR vs d lines) := Lib.hid (by unfold Rn.ansR; rw [if_neg HBD.out])
    have HAL : Hid (([] : List Rl.L).map Rl.v = Rn.ansL vs d lines) := Lib.hid (by unfold Rn.ansL; rw [if_neg HBD.out]; rfl)
    go_wp2_with fail
    go_loopg [8, 9, 11] 0 (fun g v8 v9 i wr => i = .int .i64 0 ∧ Hid (Rn.Run wr w.heap.size b v8 v9 [] [] Rn.s0) ∧ Below w.heap.size w wr)
    case atStart => exact ⟨rfl, HR0, HB0.out⟩
    case round =>
      obtain ⟨rfl, HR, hb⟩ := hrel
      by_cases hlt : 0 < lines.length
      · have hlti : (0 : Int) < (lines.length : Int) := by omega
        go_wp2_with fail
        refine Calls.mono (sUsersValid_any Au vs cu _ ((hu.below hb).mono hb.size) hvl) ?_
        rintro e w1 ⟨rfl, hb1⟩
        cases hv : Us.usersOk vs
        · go_wp2_with fail
          go_ret2
          exact Rn.out_of (HR.out.below hb1) HAR.out HAL.out (hb.trans (hb1.mono hb.size))
        · have HDF : Hid (Dm.ok d.data.toList = false) := Lib.hid (by cases hq : Dm.ok d.data.toList; rfl; exact absurd ⟨hv, hq⟩ HBD.out)
          clear hv
          go_wp2_with fail
          refine Calls.mono (sDomainValid_any d hd _) ?_
          rintro e w2 ⟨rfl, hb2⟩
          rw [HDF.out]
          go_wp2_with fail
          go_ret2
          exact Rn.out_of ((HR.out.below hb1).below hb2) HAR.out HAL.out ((hb.trans (hb1.mono hb.size)).trans (hb2.mono (hb.trans (hb1.mono hb.size)).size))
      · have hlti : ¬ (0 : Int) < (lines.length : Int) := by omega
        go_wp2_with fail
        go_ret2
        exact Rn.out_of HR.out HAR.out HAL.out hb
end Go.Proofs.YtpjifcljkgcnlaaGreatDoor
