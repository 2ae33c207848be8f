/- SubmissionRun of the program: a buffered channel within one goroutine. (Printed by mkrnc.py.) -/
import Derived.Test.YtpjifcljkgcnlaaGreatDoorChK
import Derived.Test.YtpjifcljkgcnlaaGreatDoorRnS
namespace Go.Proofs.YtpjifcljkgcnlaaGreatDoor
set_option linter.unusedVariables false
open Go.RowKit Go.Conc
open Us (U)

theorem str_bytes : ∃ i, Tryz.prog.info? 9 = some i ∧ i.bytes = 16 := by
  have h : (Tryz.prog.info? 9).map (·.bytes) = some 16 := by kernel_rfl
  obtain ⟨i, hi, hb⟩ := Option.map_eq_some_iff.1 h
  exact ⟨i, hi, hb⟩
theorem run_mk (n : Nat) (hn : n ≤ 1048576) (w : World) : (Instr.makeChan 56 (.int .i64 n)).run Tryz.prog w = .ok (.chan (some w.heap.size)) (w.alloc (.chan n #[] false 0 0 false)) := by
  obtain ⟨i, hi, hb⟩ := str_bytes
  simpa using run_makeChan (P := Tryz.prog) (w := w) Tryz.underlying56 hi .i64 n (by omega) (by rw [hb]; omega)
theorem setChan_grown (w : World) (c cap : Nat) (buf : Array Value) (cl : Bool) (s r : Nat) (tm : Bool) : w.grownBy (w.setChan c cap buf cl s r tm) (some c) :=
  ⟨rfl, rfl, rfl, by simp [World.setChan], fun i hi hne => by
    show (w.heap.setIfInBounds c _)[i]? = _
    rw [Array.getElem?_setIfInBounds_ne (fun e => hne (by rw [e]))]⟩
namespace Rn
def strs (ls : List ByteArray) : Array Value := (ls.map Value.string).toArray
theorem strs_push {ls : List ByteArray} {k : Nat} {l : ByteArray} (h : ls[k]? = some l) : strs (ls.take (k + 1)) = (strs (ls.take k)).push (.string l) := by
  unfold strs
  rw [List.take_add_one, h]
  simp
theorem strs_head {ls : List ByteArray} {k : Nat} {l : ByteArray} (h : ls[k]? = some l) : 0 < (strs (ls.drop k)).size ∧ (strs (ls.drop k)).getD 0 undef = .string l ∧ (strs (ls.drop k)).extract 1 (strs (ls.drop k)).size = strs (ls.drop (k + 1)) := by
  have hk : k < ls.length := (List.getElem?_eq_some_iff.1 h).1
  have e : ls.drop k = l :: ls.drop (k + 1) := by rw [List.drop_eq_getElem_cons hk, (List.getElem?_eq_some_iff.1 h).2]
  rw [e]
  unfold strs
  refine ⟨by simp, by simp, ?_⟩
  apply Array.toList_inj.1
  simp
  rw [List.take_of_length_le (by simp)]
theorem strs_end (ls : List ByteArray) : strs (ls.drop ls.length) = #[] := by unfold strs; simp
variable {w w' : World} {B b bc : Nat} {vr vl : Value} {ns : List Int} {ls : List Rl.L} {s : Sm.S} {N a1 a2 : Nat} {buf : Array Value} {cl tm : Bool}
theorem own_chan {α : Type} {E : TypeId} {n : Nat} {f : α → List Value} {v : Value} {us : List α} (h : OwnL E n f w B v us) (hx : w.heap[bc]? = some (.chan N buf cl a1 a2 tm)) : v.ownBlock ≠ some bc := fun e => by
  obtain ⟨cur, hc⟩ := h.typed e
  rw [hx] at hc; cases hc
theorem own_past {α : Type} {E : TypeId} {n : Nat} {f : α → List Value} {v : Value} {us : List α} (h : OwnL E n f w B v us) (hx : w.heap[bc]? = some (.chan N buf cl a1 a2 tm)) (hg : w.grownBy w' (some bc)) : OwnL E n f w' B v us :=
  World.ownsRow.kept h hg (by
    cases hq : v.ownBlock with
    | none => exact .inl rfl
    | some q => exact .inr (fun e => own_chan h hx (hq.trans (by rw [e]))))
theorem cells_past {i : Nat} {cs : Array Value} {T : TypeId} (h : w.heap[i]? = some (.cells cs T (0, 0))) (hx : w.heap[bc]? = some (.chan N buf cl a1 a2 tm)) (hg : w.grownBy w' (some bc)) : w'.heap[i]? = w.heap[i]? :=
  hg.block i (Array.getElem?_eq_some_iff.1 h).1 (fun e => by injection e with e; subst e; rw [hx] at h; cases h)
/-- the channel turns -/
theorem Run.past (h : Run w B b vr vl ns ls s) (hx : w.heap[bc]? = some (.chan N buf cl a1 a2 tm)) (hg : w.grownBy w' (some bc)) : Run w' B b vr vl ns ls s := by
  refine ⟨own_past h.reps hx hg, own_past h.lets hx hg, fun x hx2 => ⟨(h.tos x hx2).1.keepAt hg.size fun g cs hc => cells_past hc hx hg, (h.tos x hx2).2⟩, ?_, ⟨fun x hx2 => own_past (h.sep.own x hx2) hx hg, h.sep.apart⟩⟩
  obtain ⟨A, c, hv, ht, h1, h2⟩ := h.var
  exact ⟨A, c, (cells_past hv hx hg).trans hv, ht.keepAt hg.size fun g cs hc => cells_past hc hx hg, h1, h2⟩
theorem chan_own {α : Type} {E : TypeId} {n : Nat} {f : α → List Value} {v : Value} {us : List α} {o : Obj} (h : OwnL E n f w B v us) (hx : w.heap[bc]? = some (.chan N buf cl a1 a2 tm)) (hg : (w.alloc o).grownBy w' v.ownBlock) : w'.heap[bc]? = some (.chan N buf cl a1 a2 tm) := by
  have hl := (Array.getElem?_eq_some_iff.1 hx).1
  exact (hg.block bc (by simp; omega) (fun e => own_chan h hx e.symm)).trans ((Below.heap_alloc w o bc hl).trans hx)
end Rn

set_option maxRecDepth 100000 in
set_option maxHeartbeats 12800000 in
theorem iSubmissionRun_any (Au : Option Addr) (vs : List U) (cu : Nat) (d : ByteArray) (A : Option Addr) (lines : List ByteArray) (c : Nat) (w : World) (hu : AtUsers w w.heap.size Au vs) (hvl : vs.length ≤ maxLen) (hd : d.size ≤ 16777216) (h : AtStrs w w.heap.size A lines) (hl : lines.length ≤ 1048576) (hls : ∀ l ∈ lines, l.size ≤ 16777216) (m : Int) (hm : w.cell? ⟨0, 0, none⟩ = some (.int .i64 m)) :
    Calls Tryz.prog 9 #[.slice Au vs.length cu, .string d, .slice A lines.length c] w (Rn.Out (Rn.ansR vs d lines) (Rn.ansL vs d lines) w) := by
  have hdm : d.size ≤ maxLen := by unfold maxLen; omega
  have hpos := Po.base_pos hm
  obtain ⟨i0, hi, hz0, hz1, hz2⟩ := info_parts int_info
  obtain ⟨j0, hj, hy0, hy1, hy2⟩ := info_parts let_info
  refine calls_of_ch Tryz.func9 rfl (fun fr hfr => ?_)
  have hmc := fun w => run_mk lines.length hl w
  simp only [Tryz.ntmps9, List.size_toArray, List.length_cons, List.length_nil, Nat.reduceAdd, Nat.reduceSub, Array.replicate_succ, Array.replicate_zero, List.push_toArray, List.append_toArray, List.nil_append, List.cons_append]
  refine Ch.seq (Ch.of_wp ?_)
  go_wp2_with fail
  refine Ch.seq (Ch.of_wp ?_)
  go_wp2_with fail
  have hO1 : OwnL 3 1 It.cells ((w.alloc (.cells #[] 3)).alloc (.cells #[] 49)) w.heap.size (.slice (some ⟨w.heap.size, 0, none⟩) 0 0) ([] : List Int) := OwnL.alloc (ownL_nil w (Nat.le_refl _)) _
  have hO2 : OwnL 49 3 Rl.cells ((w.alloc (.cells #[] 3)).alloc (.cells #[] 49)) w.heap.size (.slice (some ⟨w.heap.size + 1, 0, none⟩) 0 0) ([] : List Rl.L) := by
    have := ownL_nil (E := 49) (size := 3) (f := Rl.cells) (B := w.heap.size) (w.alloc (.cells #[] 3)) (by simp)
    simpa using this
  have hB0 : Below w.heap.size w ((w.alloc (.cells #[] 3)).alloc (.cells #[] 49)) := ((Below.refl _ _).alloc (Nat.le_refl _) _).alloc (by simp) _
  generalize (w.alloc (.cells #[] 3)).alloc (.cells #[] 49) = W at hO1 hO2 hB0 ⊢
  have HNO : Hid (¬ Rn.good vs d → (([] : List Int) = Rn.ansR vs d lines ∧ ([] : List Rl.L).map Rl.v = Rn.ansL vs d lines)) := Lib.hid fun hb => ⟨by unfold Rn.ansR; rw [if_neg hb], by unfold Rn.ansL; rw [if_neg hb]; rfl⟩
  refine Ch.seq (Ch.of_wp ?_)
  go_wp2_with fail
  refine Calls.mono (iUsersValid_any Au vs cu _ ((hu.below hB0).mono hB0.size) hvl) ?_
  rintro e w1 ⟨rfl, hb1⟩
  have hB1 := hB0.trans (hb1.mono hB0.size)
  have hP1 := OwnL.below hO1 hb1
  have hP2 := OwnL.below hO2 hb1
  clear hO1 hO2 hb1 hB0
  cases hv : Us.usersOk vs
  · have hno := HNO.out (fun hg => by rw [hg.1] at hv; cases hv)
    clear hv
    go_wp2_with fail
    go_ret2
    exact ⟨_, _, [], rfl, hno.1 ▸ hP1, hP2, fun x hx => absurd hx (by simp), hno.2, Rn.Sep.nil, hB1⟩
  · go_wp2_with fail
    refine Calls.mono (iDomainValid_any d _ hdm) ?_
    rintro e w2 ⟨rfl, hb2⟩
    have hB2 := hB1.trans (hb2.mono hB1.size)
    have hQ1 := OwnL.below hP1 hb2
    have hQ2 := OwnL.below hP2 hb2
    clear hP1 hP2 hb2 hB1
    cases hdo : Dm.ok d.data.toList
    · have hno := HNO.out (fun hg => by rw [hg.2] at hdo; cases hdo)
      clear hv hdo
      go_wp2_with fail
      go_ret2
      exact ⟨_, _, [], rfl, hno.1 ▸ hQ1, hQ2, fun x hx => absurd hx (by simp), hno.2, Rn.Sep.nil, hB2⟩
    · have HGD : Hid (Rn.good vs d) := Lib.hid ⟨hv, hdo⟩
      clear hv hdo HNO
      go_wp2_with fail
      refine Ch.seq (Ch.of_wp ?_)
      go_wp2_with fail
      have hx := heap_alloc_new w2 (.chan lines.length #[] false 0 0 false)
      have hE := Below.alloc (Below.refl w2.heap.size w2) (Nat.le_refl _) (.chan lines.length #[] false 0 0 false)
      generalize w2.alloc (.chan lines.length #[] false 0 0 false) = w3 at hx hE ⊢
      obtain ⟨bc, hbc⟩ : ∃ bc, bc = w2.heap.size := ⟨_, rfl⟩
      rw [← hbc] at hx ⊢
      have hwbc : w.heap.size ≤ bc := by have := hB2.size; omega
      have HB3 := Lib.hid (hB2.trans (hE.mono hB2.size))
      have HO1 := Lib.hid (OwnL.below hQ1 hE)
      have HO2 := Lib.hid (OwnL.below hQ2 hE)
      have HX3 := Lib.hid hx
      clear hx hbc hE hQ1 hQ2 hB2
      refine Ch.seq (Ch.seq (Ch.of_wp ?_))
      go_wp2_with fail
      refine Ch.block ?_
      refine Ch.loop (fun n a wr => ∃ k : Nat, k ≤ lines.length ∧ Hid (n = lines.length - k) ∧ (∃ u12 u37 u38 u39 u40 u41 u42, a = { tmps := #[.slice Au vs.length cu, .string d, .slice A lines.length c, undef, undef, undef, .slice none 0 0, .slice none 0 0, .slice (some ⟨w.heap.size, 0, none⟩) 0 0, .slice (some ⟨w.heap.size + 1, 0, none⟩) 0 0, .chan (some bc), undef, u12, undef, undef, undef, undef, undef, undef, .slice (some ⟨w.heap.size, 0, none⟩) 0 0, .slice (some ⟨w.heap.size + 1, 0, none⟩) 0 0, .slice Au vs.length cu, .bool true, .bool false, .bool false, .string d, .bool true, .bool false, .bool false, undef, undef, .slice A lines.length c, .int .i64 (lines.length : Int), .chan (some bc), .slice A lines.length c, .int .i64 (lines.length : Int), .int .i64 (k : Int), u37, u38, u39, u40, u41, u42, undef, undef, undef, undef, undef, undef, undef, undef, undef, undef, undef, undef, undef, undef, undef, undef, undef, undef, undef, undef, undef, undef, undef, undef, undef, undef, undef, undef, undef, undef, undef, undef, undef], defers := [] }) ∧ Hid (wr.heap[bc]? = some (.chan lines.length (Rn.strs (lines.take k)) false k 0 false)) ∧ Hid (w3.grownBy wr (some bc))) lines.length ?_ ?_
      · exact ⟨0, Nat.zero_le _, Lib.hid rfl, ⟨_, _, _, _, _, _, _, rfl⟩, HX3, Lib.hid (World.grownBy.refl _ _)⟩
      · rintro n a wr ⟨k, hk, HG, ⟨u12, u37, u38, u39, u40, u41, u42, rfl⟩, HC, HK⟩
        have HBr := Lib.hid (HB3.out.grown HK.out HB3.out.size (fun q hq => by injection hq with hq; omega))
        refine Ch.seq (Ch.of_wp ?_)
        by_cases hlt : k < lines.length
        · have hki : (k : Int) < (lines.length : Int) := by omega
          go_wp2_with fail
          refine Ch.seq (Ch.of_wp ?_)
          go_wp2_with fail
          obtain ⟨g, off, rfl, hg, -⟩ := h.1 (by omega)
          have hex : ∃ l, lines[k]? = some l := ⟨_, List.getElem?_eq_getElem hlt⟩
          obtain ⟨l, hlk⟩ := hex
          have dl : wr.cell? ⟨g, off + k, none⟩ = some (.string l) := by
            obtain ⟨g', o', e, _, hc⟩ := (h.below HBr.out).1 (by omega)
            injection e with e
            injection e with e1 e2
            subst e1 e2
            exact hc k l hlk
          have HPU := Lib.hid (Rn.strs_push hlk)
          clear hlk
          refine Ch.seq (Ch.block (Ch.seq (Ch.of_wp ?_)))
          go_wp2_with fail
          refine Ch.region ?_
          show ChOps fr _ _ _ [0, 1, 2] _ _
          refine ChOps.value rfl rfl (v := .chan (some bc)) (w₁ := wr) (by simp [execOp, Act.eval]) ?_
          refine ChOps.value rfl rfl (v := .string l) (w₁ := wr) (by simp [execOp, Act.eval, Act.put]) ?_
          refine ChOps.send hfr rfl rfl (c := bc) (cap := lines.length) (s := k) (r := 0) (v := .string l) (z := .tuple #[]) (tm := false) (w₁ := wr) (by simp [execOp, scase, Act.eval, Act.put]) HC.out (by simp [Rn.strs]; omega) ?_
          refine ChOps.nil ?_
          show Ch fr _ _ _ _ _
          refine Ch.of_wp ?_
          have hlc := (Array.getElem?_eq_some_iff.1 HC.out).1
          have HC2 := Lib.hid (heap_setChan wr bc lines.length ((Rn.strs (lines.take k)).push (.string l)) false (k + 1) 0 false hlc)
          have HK2 := Lib.hid (grown_trans HK.out (setChan_grown wr bc lines.length ((Rn.strs (lines.take k)).push (.string l)) false (k + 1) 0 false))
          generalize wr.setChan bc lines.length ((Rn.strs (lines.take k)).push (.string l)) false (k + 1) 0 false = wn at HC2 HK2 ⊢
          go_wp2_with fail
          show ∃ n', _
          refine ⟨lines.length - (k + 1), by have := HG.out; omega, k + 1, by omega, Lib.hid rfl, ⟨_, _, _, _, _, _, _, by go_num⟩, Lib.hid (by rw [HPU.out]; exact HC2.out), HK2⟩
        · have hki : ¬ (k : Int) < (lines.length : Int) := by omega
          obtain rfl : k = lines.length := by omega
          go_wp2_with fail
          refine Ch.seq (Ch.of_wp ?_)
          go_wp2_with fail
          show Ch fr _ _ _ _ _
          have HCx := HC
          rw [List.take_length] at HCx
          have hcl := fun ats ty => run_close_open (P := Tryz.prog) (w := wr) ats ty HCx.out
          refine Ch.seq (Ch.of_wp ?_)
          go_wp2_with fail
          change Ch fr _ _ _ _ (wr.setChan bc lines.length (Rn.strs lines) true lines.length 0 false)
          clear hcl
          have hlc := (Array.getElem?_eq_some_iff.1 HCx.out).1
          have hg4 := setChan_grown wr bc lines.length (Rn.strs lines) true lines.length 0 false
          have HC4 := Lib.hid (heap_setChan wr bc lines.length (Rn.strs lines) true lines.length 0 false hlc)
          have HP1 := Lib.hid (Rn.own_past (Rn.own_past HO1.out HX3.out HK.out) HC.out hg4)
          have HP2 := Lib.hid (Rn.own_past (Rn.own_past HO2.out HX3.out HK.out) HC.out hg4)
          have HB4 := Lib.hid (HBr.out.grown hg4 HBr.out.size (fun q hq => by injection hq with hq; omega))
          generalize wr.setChan bc lines.length (Rn.strs lines) true lines.length 0 false = w4 at hg4 HC4 HP1 HP2 HB4 ⊢
          clear HC HCx HK HBr hg4 hlc HO1 HO2 HX3 HB3
          refine Ch.seq (Ch.of_wp ?_)
          go_wp2_with fail
          have hx5 := heap_alloc_new w4 (.cells #[.int .i64 0, .string ⟨#[]⟩, .slice none 0 0, .string ⟨#[]⟩] 45)
          have hE := Below.alloc (Below.refl w4.heap.size w4) (Nat.le_refl _) (.cells #[.int .i64 0, .string ⟨#[]⟩, .slice none 0 0, .string ⟨#[]⟩] 45)
          generalize w4.alloc (.cells #[.int .i64 0, .string ⟨#[]⟩, .slice none 0 0, .string ⟨#[]⟩] 45) = w5 at hx5 hE ⊢
          obtain ⟨b, hbe⟩ : ∃ b, b = w4.heap.size := ⟨_, rfl⟩
          rw [← hbe] at hx5 ⊢
          have hwb : w.heap.size ≤ b := by have := HB4.out.size; omega
          have hnbc : b ≠ bc := by have := (Array.getElem?_eq_some_iff.1 HC4.out).1; omega
          have HC5 := Lib.hid ((hE.block bc (Array.getElem?_eq_some_iff.1 HC4.out).1).trans HC4.out)
          have HR5 : Hid (Rn.Run w5 w.heap.size b (.slice (some ⟨w.heap.size, 0, none⟩) 0 0) (.slice (some ⟨w.heap.size + 1, 0, none⟩) 0 0) [] [] Rn.s0) := Lib.hid ⟨OwnL.below HP1.out hE, OwnL.below HP2.out hE, fun x hx => absurd hx (by simp), ⟨_, 0, hx5, AtTy.nil, Nat.le_refl _, Nat.zero_le _⟩, Rn.Sep.nil⟩
          have HB5 := Lib.hid (HB4.out.trans (hE.mono HB4.out.size))
          clear hx5 hE hbe HP1 HP2 HB4 HC4 HG hk hlt hki
          refine Ch.seq (Ch.seq (Ch.of_wp ?_))
          go_wp2_with fail
          refine Ch.block ?_
          refine Ch.loop (fun n a wr => ∃ (k : Nat) (ns : List Int) (ls : List Rl.L) (st : Int) (f : ByteArray) (us : List ByteArray) (t : ByteArray) (v8 v9 : Value), k ≤ lines.length ∧ Hid (n = lines.length - k) ∧ (∃ u12 u14 u15 u16 u17 u18 u37 u38 u39 u40 u41 u42 u46 u47 u48 u49 u50 u51 u52 u53 u54 u55 u56 u57 u58 u59 u60 u61 u62 u63 u64 u65 u66 u67 u68 u69 u70 u71 u72 u73, a = { tmps := #[.slice Au vs.length cu, .string d, .slice A lines.length c, undef, undef, undef, .slice none 0 0, .slice none 0 0, v8, v9, .chan (some bc), undef, u12, .pointer (some ⟨b, 0, none⟩), u14, u15, u16, u17, u18, .slice (some ⟨w.heap.size, 0, none⟩) 0 0, .slice (some ⟨w.heap.size + 1, 0, none⟩) 0 0, .slice Au vs.length cu, .bool true, .bool false, .bool false, .string d, .bool true, .bool false, .bool false, undef, undef, .slice A lines.length c, .int .i64 (lines.length : Int), .chan (some bc), .slice A lines.length c, .int .i64 (lines.length : Int), .int .i64 (lines.length : Int), u37, u38, u39, u40, u41, u42, .chan (some bc), .agg #[.int .i64 0, .string ⟨#[]⟩, .slice none 0 0, .string ⟨#[]⟩], .chan (some bc), u46, u47, u48, u49, u50, u51, u52, u53, u54, u55, u56, u57, u58, u59, u60, u61, u62, u63, u64, u65, u66, u67, u68, u69, u70, u71, u72, u73, undef, undef], defers := [] }) ∧ Hid (ns = Rn.reps vs d Rn.s0 (lines.take k)) ∧ Hid (ls.map Rl.v = Rn.lets vs d Rn.s0 (lines.take k)) ∧ Hid ((⟨st, f, us, t⟩ : Sm.S) = Rn.st vs d Rn.s0 (lines.take k)) ∧ Hid (Rn.Run wr w.heap.size b v8 v9 ns ls ⟨st, f, us, t⟩) ∧ Hid (wr.heap[bc]? = some (.chan lines.length (Rn.strs (lines.drop k)) true lines.length k false)) ∧ Hid (Below w.heap.size w wr)) lines.length ?_ ?_
          · exact ⟨0, [], [], 0, Sm.e0, [], Sm.e0, _, _, Nat.zero_le _, Lib.hid rfl, ⟨_, _, _, _, _, _, _, _, _, _, _, _, _, _, _, _, _, _, _, _, _, _, _, _, _, _, _, _, _, _, _, _, _, _, _, _, _, _, _, _, rfl⟩, Lib.hid (by simp [Rn.reps]), Lib.hid (by simp [Rn.lets]), Lib.hid (by simp [Rn.st]; rfl), HR5, HC5, HB5⟩
          · rintro n a wr ⟨k, ns, ls, st, f, us, t, v8, v9, hk, HG, hA, HNS, HVL, HST, HR, HC, HB⟩
            obtain ⟨u12, hA⟩ := hA
            obtain ⟨u14, hA⟩ := hA
            obtain ⟨u15, hA⟩ := hA
            obtain ⟨u16, hA⟩ := hA
            obtain ⟨u17, hA⟩ := hA
            obtain ⟨u18, hA⟩ := hA
            obtain ⟨u37, hA⟩ := hA
            obtain ⟨u38, hA⟩ := hA
            obtain ⟨u39, hA⟩ := hA
            obtain ⟨u40, hA⟩ := hA
            obtain ⟨u41, hA⟩ := hA
            obtain ⟨u42, hA⟩ := hA
            obtain ⟨u46, hA⟩ := hA
            obtain ⟨u47, hA⟩ := hA
            obtain ⟨u48, hA⟩ := hA
            obtain ⟨u49, hA⟩ := hA
            obtain ⟨u50, hA⟩ := hA
            obtain ⟨u51, hA⟩ := hA
            obtain ⟨u52, hA⟩ := hA
            obtain ⟨u53, hA⟩ := hA
            obtain ⟨u54, hA⟩ := hA
            obtain ⟨u55, hA⟩ := hA
            obtain ⟨u56, hA⟩ := hA
            obtain ⟨u57, hA⟩ := hA
            obtain ⟨u58, hA⟩ := hA
            obtain ⟨u59, hA⟩ := hA
            obtain ⟨u60, hA⟩ := hA
            obtain ⟨u61, hA⟩ := hA
            obtain ⟨u62, hA⟩ := hA
            obtain ⟨u63, hA⟩ := hA
            obtain ⟨u64, hA⟩ := hA
            obtain ⟨u65, hA⟩ := hA
            obtain ⟨u66, hA⟩ := hA
            obtain ⟨u67, hA⟩ := hA
            obtain ⟨u68, hA⟩ := hA
            obtain ⟨u69, hA⟩ := hA
            obtain ⟨u70, hA⟩ := hA
            obtain ⟨u71, hA⟩ := hA
            obtain ⟨u72, hA⟩ := hA
            obtain ⟨u73, hA⟩ := hA
            subst hA
            by_cases hlt : k < lines.length
            · have hex : ∃ l, lines[k]? = some l := ⟨_, List.getElem?_eq_getElem hlt⟩
              obtain ⟨l, hlk⟩ := hex
              obtain ⟨hs1, hs2, hs3⟩ := Rn.strs_head hlk
              have HS3 := Lib.hid hs3
              have HTK : Hid (lines.take (k + 1) = lines.take k ++ [l]) := Lib.hid (by rw [List.take_add_one, hlk]; rfl)
              have HLS : Hid (l.size ≤ 16777216) := Lib.hid (hls l (List.mem_of_getElem? hlk))
              clear hlk hs3
              have HOK : Hid (Sm.ok ⟨st, f, us, t⟩ = true) := Lib.hid (by rw [HST.out]; exact Rn.st_ok Rn.s0_ok _)
              have hfz : f.size ≤ 8 := (Sm.ok_sizes HOK.out).1
              have hul : us.length ≤ 3 := (Sm.ok_sizes HOK.out).2.1
              have htz : t.size ≤ 21 := (Sm.ok_sizes HOK.out).2.2.2.1
              have hfm : f.size ≤ maxLen := by unfold maxLen; omega
              have htm : t.size ≤ maxLen := by unfold maxLen; omega
              obtain ⟨R, hR⟩ : ∃ R, R = Sm.line vs d ⟨st, f, us, t⟩ l := ⟨_, rfl⟩
              obtain ⟨⟨so, fo, uo, to_⟩, no⟩ := R
              have HL := Lib.hid hR.symm
              clear hR
              have HAN : Hid (Sm.ans vs d ⟨st, f, us, t⟩ l = (⟨so, fo, uo, to_⟩, no)) := Lib.hid (by rw [Sm.ans_good ⟨HOK.out, HGD.out.1, HGD.out.2⟩]; exact HL.out)
              have HNS2 : Hid (ns ++ [no] = Rn.reps vs d Rn.s0 (lines.take (k + 1))) := Lib.hid (by rw [HTK.out, Rn.reps_snoc, ← HST.out, HL.out, ← HNS.out])
              have HST2 : Hid ((⟨so, fo, uo, to_⟩ : Sm.S) = Rn.st vs d Rn.s0 (lines.take (k + 1))) := Lib.hid (by rw [HTK.out, Rn.st_snoc, ← HST.out, HL.out])
              have HUOS : Hid (∀ u ∈ uo, u.size ≤ maxLen) := Lib.hid (by have := (Sm.ans_sizes vs d ⟨st, f, us, t⟩ l).2.1; rw [HAN.out] at this; exact this)
              have hnl : ns.length ≤ 1048576 := by rw [HNS.out, Rn.reps_len, List.length_take]; omega
              have HM1 : Hid (ns.length + 1 ≤ maxLen) := Lib.hid (by unfold maxLen; omega)
              have HM2 : Hid ((ns.length + 1) * 8 ≤ 140737488355328) := Lib.hid (by omega)
              have hll : ls.length ≤ 1048576 := by have e := congrArg List.length HVL.out; rw [List.length_map] at e; rw [e]; have := Rn.lets_len (us := vs) (d := d) Rn.s0 (lines.take k); rw [List.length_take] at this; omega
              have HK1 : Hid (ls.length + 1 ≤ maxLen) := Lib.hid (by unfold maxLen; omega)
              have HK2 : Hid ((ls.length + 1) * 56 ≤ 140737488355328) := Lib.hid (by omega)
              clear hnl hll
              refine Ch.seq (Ch.region ?_)
              show ChOps fr _ _ _ [0, 1] _ _
              refine ChOps.recv hfr rfl rfl (c := bc) (cap := lines.length) (s := lines.length) (r := k) (z := .string ⟨#[]⟩) (tm := false) (closed := true) (ok := true) (w₁ := wr) (by simp [go_sem, rcase]) HC.out hs1 ?_
              rw [hs2, HS3.out]
              simp only [got]
              have hlc := (Array.getElem?_eq_some_iff.1 HC.out).1
              have HC1 := Lib.hid (heap_setChan wr bc lines.length (Rn.strs (lines.drop (k + 1))) true lines.length (k + 1) false hlc)
              have hgc := setChan_grown wr bc lines.length (Rn.strs (lines.drop (k + 1))) true lines.length (k + 1) false
              have HR1 := Lib.hid (HR.out.past HC.out hgc)
              have HB1 := Lib.hid (HB.out.grown hgc HB.out.size (fun q hq => by injection hq with hq; omega))
              generalize wr.setChan bc lines.length (Rn.strs (lines.drop (k + 1))) true lines.length (k + 1) false = w1' at HC1 hgc HR1 HB1 ⊢
              clear hgc hlc hs1 hs2 HR HB HC
              refine ChOps.value rfl rfl (v := .bool true) (w₁ := w1') (by simp [execOp, Act.eval, Act.put, go_sem]) ?_
              refine ChOps.nil ?_
              show Ch fr _ _ _ _ _
              refine Ch.seq (Ch.of_wp ?_)
              go_wp2_with fail
              show Ch fr _ _ _ _ _
              refine Ch.of_wp ?_
              by_cases hdot : l = ⟨#[46]⟩
              · have q0 : (l.toList == [46]) = true := lit_yes hdot
                subst hdot
                obtain ⟨A1, c1, hx2, hat2, hc1, hc2⟩ := HR1.out.var
                dsimp only at hx2 hat2 hc1
                have d0 : w1'.cell? ⟨b, 0, none⟩ = some (.int .i64 st) := cell_at hx2 0 _ rfl
                have d1 : w1'.cell? ⟨b, 1, none⟩ = some (.string f) := cell_at hx2 1 _ rfl
                have d2 : w1'.cell? ⟨b, 2, none⟩ = some (.slice A1 us.length c1) := cell_at hx2 2 _ rfl
                have d3 : w1'.cell? ⟨b, 3, none⟩ = some (.string t) := cell_at hx2 3 _ rfl
                clear hx2
                go_wp2_with fail
                refine Calls.mono (iSubmissionLetter_any st f t A1 us c1 _ hat2.1 hc1 hc2 hfm htm (by omega)) ?_
                rintro e w3 ⟨hyes, hno, hb3⟩
                clear d0 d1 d2 d3 hat2 hc1 hc2
                have HB3 := Lib.hid (HB1.out.trans (hb3.mono HB1.out.size))
                have HR3 := Lib.hid (HR1.out.below hb3)
                have HC3 := Lib.hid ((hb3.block bc (Array.getElem?_eq_some_iff.1 HC1.out).1).trans HC1.out)
                have h0p : 0 < w1'.heap.size := Nat.lt_of_le_of_lt (Nat.zero_le _) HR1.out.var.lt
                have HB23 := Lib.hid hb3
                have HS1 := Lib.hid HR1.out.sep
                have hB1s : w.heap.size ≤ w1'.heap.size := HB1.out.size
                clear hb3 HR1 HB1 HC1
                cases hdn : Sb.done st f us t
                · obtain rfl := hno hdn
                  clear HB23 HS1
                  have HVL2 : Hid (ls.map Rl.v = Rn.lets vs d Rn.s0 (lines.take (k + 1))) := Lib.hid (by rw [HTK.out, Rn.lets_snoc, ← HST.out, ← HVL.out, Rn.step_no (.inl hdn)]; simp)
                  clear hyes hno hdn
                  have hE := Below.alloc (Below.refl w3.heap.size w3) (Nat.le_refl _) (.cells #[.string ⟨#[]⟩, .slice none 0 0, .string ⟨#[]⟩] 49)
                  have hx := heap_alloc_new w3 (.cells #[.string ⟨#[]⟩, .slice none 0 0, .string ⟨#[]⟩] 49)
                  go_upto_region 17 with fail
                  generalize w3.alloc (.cells #[.string ⟨#[]⟩, .slice none 0 0, .string ⟨#[]⟩] 49) = w4' at hE hx ⊢
                  obtain ⟨bl, hbl⟩ : ∃ b, b = w3.heap.size := ⟨_, rfl⟩
                  rw [← hbl] at hx ⊢
                  clear hbl
                  have HXL := Lib.hid hx
                  have HR4 := Lib.hid (HR3.out.below hE)
                  have HB4 := Lib.hid (HB3.out.trans (hE.mono HB3.out.size))
                  have HC4 := Lib.hid ((hE.block bc (Array.getElem?_eq_some_iff.1 HC3.out).1).trans HC3.out)
                  clear hx
                  clear hE HR3 HB3 HC3 HXL
                  have HRt := HR4
                  have HBt := HB4
                  have HCt := HC4
                  clear HR4 HB4 HC4
                  have h0t : 0 < w4'.heap.size := Nat.lt_of_le_of_lt (Nat.zero_le _) HRt.out.var.lt
                  obtain ⟨A1, c1, hx2, hat2, hc1, hc2⟩ := HRt.out.var
                  dsimp only at hx2 hat2 hc1
                  have d0 : w4'.cell? ⟨b, 0, none⟩ = some (.int .i64 st) := cell_at hx2 0 _ rfl
                  have d1 : w4'.cell? ⟨b, 1, none⟩ = some (.string f) := cell_at hx2 1 _ rfl
                  have d2 : w4'.cell? ⟨b, 2, none⟩ = some (.slice A1 us.length c1) := cell_at hx2 2 _ rfl
                  have d3 : w4'.cell? ⟨b, 3, none⟩ = some (.string t) := cell_at hx2 3 _ rfl
                  clear hx2
                  go_wp2_with fail
                  refine Calls.mono (iLineW_any st f t A1 us c1 _ hat2.1 hc1 hc2 hfm htm Au vs cu ((hu.below HBt.out).mono HBt.out.size) hvl d ⟨#[46]⟩ hd HLS.out m (Po.mem HBt.out hm hpos) HAN.out) ?_
                  rintro e wy ⟨A4, c4, rfl, ho4, hk4, hj4, hby⟩
                  clear d0 d1 d2 d3 hat2 hc1 hc2
                  have HT4 : Hid (AtTy 0 wy wy.heap.size A4 uo) := Lib.hid (AtTy.of_own h0t ho4 HUOS.out)
                  have HRy := Lib.hid (HRt.out.below hby)
                  have HBy := Lib.hid (HBt.out.trans (hby.mono HBt.out.size))
                  have HCy := Lib.hid ((hby.block bc (Array.getElem?_eq_some_iff.1 HCt.out).1).trans HCt.out)
                  clear hby ho4 HRt HBt HCt
                  have hE := Below.alloc (Below.refl wy.heap.size wy) (Nat.le_refl _) (.cells #[.int .i64 so, .string fo, .slice A4 uo.length c4, .string to_] 45)
                  have hx := heap_alloc_new wy (.cells #[.int .i64 so, .string fo, .slice A4 uo.length c4, .string to_] 45)
                  go_upto_region 20 with fail
                  generalize wy.alloc (.cells #[.int .i64 so, .string fo, .slice A4 uo.length c4, .string to_] 45) = wz at hE hx ⊢
                  obtain ⟨bq, hbq⟩ : ∃ q, q = wy.heap.size := ⟨_, rfl⟩
                  rw [← hbq] at hx ⊢
                  have hnb : b ≠ bq := by have := HRy.out.var.lt; omega
                  have hnb2 : bq ≠ b := Ne.symm hnb
                  have HXq := Lib.hid hx
                  have HRz := Lib.hid (HRy.out.below hE)
                  have HBz := Lib.hid (HBy.out.trans (hE.mono HBy.out.size))
                  have HCz := Lib.hid ((hE.block bc (Array.getElem?_eq_some_iff.1 HCy.out).1).trans HCy.out)
                  have HTz := Lib.hid ((HT4.out.below hE).mono hE.size)
                  clear hx hE hbq HRy HBy HCy HT4
                  obtain ⟨A1, c1, hx2, hat2, hc1, hc2⟩ := HRz.out.var
                  dsimp only at hx2
                  have d0 : wz.cell? ⟨b, 0, none⟩ = some (.int .i64 st) := cell_at hx2 0 _ rfl
                  have d1 : wz.cell? ⟨b, 1, none⟩ = some (.string f) := cell_at hx2 1 _ rfl
                  have d2 : wz.cell? ⟨b, 2, none⟩ = some (.slice A1 us.length c1) := cell_at hx2 2 _ rfl
                  have d3 : wz.cell? ⟨b, 3, none⟩ = some (.string t) := cell_at hx2 3 _ rfl
                  have z0 := free_at hx2 0
                  have z1 := free_at hx2 1
                  have z2 := free_at hx2 2
                  have z3 := free_at hx2 3
                  clear hx2 hat2 hc1 hc2
                  have y0 : wz.cell? ⟨bq, 0, none⟩ = some (.int .i64 so) := cell_at HXq.out 0 _ rfl
                  have y1 : wz.cell? ⟨bq, 1, none⟩ = some (.string fo) := cell_at HXq.out 1 _ rfl
                  have y2 : wz.cell? ⟨bq, 2, none⟩ = some (.slice A4 uo.length c4) := cell_at HXq.out 2 _ rfl
                  have y3 : wz.cell? ⟨bq, 3, none⟩ = some (.string to_) := cell_at HXq.out 3 _ rfl
                  go_upto_region 21 with fail
                  have HRs := Lib.hid (HRz.out.store (s2 := ⟨so, fo, uo, to_⟩) HTz.out hk4 hj4)
                  dsimp only at HRs
                  have HBs := Lib.hid (set4 HBz.out hwb (.int .i64 so) (.string fo) (.slice A4 uo.length c4) (.string to_))
                  have HCs := Lib.hid ((res_set4 (W := wz) (Ne.symm hnbc) (.int .i64 so) (.string fo) (.slice A4 uo.length c4) (.string to_)).trans HCz.out)
                  clear d0 d1 d2 d3 z0 z1 z2 z3 y0 y1 y2 y3 HXq HRz HBz HCz HTz
                  generalize (((wz.setCell ⟨b, 0, none⟩ (.int .i64 so)).setCell ⟨b, 1, none⟩ (.string fo)).setCell ⟨b, 2, none⟩ (.slice A4 uo.length c4)).setCell ⟨b, 3, none⟩ (.string to_) = ws at HRs HBs HCs ⊢
                  have HO7 := Lib.hid HRs.out.reps
                  have hBo : w.heap.size ≤ ws.heap.size := HBs.out.size
                  go_wp2_with (first | (at_builtin; refine wpList_snoc _ rfl (.tmp 70) (.tmp 72) _ rfl 3 i0 _ 1 8 Tryz.underlying26 hi hz0 hz1 hz2 rfl (by omega) It.cells It.cells_len It.one1 w.heap.size _ ns no rfl HO7.out _ rfl rfl HM1.out HM2.out hBo ?_; intro v8' w8 hown8 hb8 hg8; have HR8 := Lib.hid (HRs.out.snocR hown8 hg8); have HB8 := Lib.hid (HBs.out.trans hb8); have hct := Rn.chan_own HO7.out HCs.out hg8; have HC8 := Lib.hid hct; clear hct; clear hown8 hb8 hg8))
                  show ∃ n', _
                  exact ⟨lines.length - (k + 1), by have := HG.out; omega, k + 1, ns ++ [no], ls, so, fo, uo, to_, _, _, by omega, Lib.hid rfl, ⟨_, _, _, _, _, _, _, _, _, _, _, _, _, _, _, _, _, _, _, _, _, _, _, _, _, _, _, _, _, _, _, _, _, _, _, _, _, _, _, _, rfl⟩, HNS2, HVL2, HST2, HR8, HC8, HB8⟩
                · obtain ⟨A3, c3, rfl, ho3⟩ := hyes hdn
                  have hcp3 := own_cap ho3
                  have HT3 : Hid (AtTy 0 w3 w3.heap.size A3 us) := Lib.hid (AtTy.of_own h0p ho3 (fun u hu' => by have := (Sm.ok_sizes HOK.out).2.2.1 u hu'; unfold maxLen; omega))
                  have HVL2 : Hid ((ls ++ [(⟨f, A3, us, c3, t⟩ : Rl.L)]).map Rl.v = Rn.lets vs d Rn.s0 (lines.take (k + 1))) := Lib.hid (by rw [HTK.out, Rn.lets_snoc, ← HST.out, ← HVL.out, Rn.step_yes hdn rfl, List.map_append]; rfl)
                  have HSP := Lib.hid (HS1.out.fresh HB23.out (x := ⟨f, A3, us, c3, t⟩) ho3 hB1s)
                  clear hyes hno ho3 hdn HB23 HS1
                  have hE := Below.alloc (Below.refl w3.heap.size w3) (Nat.le_refl _) (.cells #[.string f, .slice A3 us.length c3, .string t] 49)
                  have hx := heap_alloc_new w3 (.cells #[.string f, .slice A3 us.length c3, .string t] 49)
                  go_upto_region 17 with fail
                  generalize w3.alloc (.cells #[.string f, .slice A3 us.length c3, .string t] 49) = w4' at hE hx ⊢
                  obtain ⟨bl, hbl⟩ : ∃ b, b = w3.heap.size := ⟨_, rfl⟩
                  rw [← hbl] at hx ⊢
                  clear hbl
                  have HXL := Lib.hid hx
                  have HR4 := Lib.hid (HR3.out.below hE)
                  have HB4 := Lib.hid (HB3.out.trans (hE.mono HB3.out.size))
                  have HC4 := Lib.hid ((hE.block bc (Array.getElem?_eq_some_iff.1 HC3.out).1).trans HC3.out)
                  clear hx
                  have HT4 := Lib.hid ((HT3.out.below hE).mono hE.size)
                  have HSP4 := Lib.hid (HSP.out.below hE)
                  clear hE HT3 HR3 HB3 HC3 HSP
                  have x0 : w4'.cell? ⟨bl, 0, none⟩ = some (.string f) := cell_at HXL.out 0 _ rfl
                  have x1 : w4'.cell? ⟨bl, 1, none⟩ = some (.slice A3 us.length c3) := cell_at HXL.out 1 _ rfl
                  have x2 : w4'.cell? ⟨bl, 2, none⟩ = some (.string t) := cell_at HXL.out 2 _ rfl
                  have HO4 := Lib.hid HR4.out.lets
                  have hBo4 : w.heap.size ≤ w4'.heap.size := HB4.out.size
                  go_upto_region 19 with (first | (at_builtin; refine wpList_snoc _ rfl (.tmp 57) (.tmp 59) _ rfl 49 j0 _ 3 56 Tryz.underlying27 hj hy0 hy1 hy2 rfl (by omega) Rl.cells Rl.cells_len Rl.one1 w.heap.size _ ls (⟨f, A3, us, c3, t⟩ : Rl.L) rfl HO4.out _ rfl rfl HK1.out HK2.out hBo4 ?_; intro v9' w5' hown5 hb5 hg5; have HRt := Lib.hid (HR4.out.snocL hown5 hg5 HT4.out HSP4.out ⟨hul, hcp3.1, hcp3.2⟩); have HBt := Lib.hid (HB4.out.trans hb5); have hct := Rn.chan_own HO4.out HC4.out hg5; have HCt := Lib.hid hct; clear hct; clear hown5 hb5 hg5 x0 x1 x2 HO4 HR4 HB4 HC4 HXL HSP4))
                  have h0t : 0 < w5'.heap.size := Nat.lt_of_le_of_lt (Nat.zero_le _) HRt.out.var.lt
                  obtain ⟨A1, c1, hx2, hat2, hc1, hc2⟩ := HRt.out.var
                  dsimp only at hx2 hat2 hc1
                  have d0 : w5'.cell? ⟨b, 0, none⟩ = some (.int .i64 st) := cell_at hx2 0 _ rfl
                  have d1 : w5'.cell? ⟨b, 1, none⟩ = some (.string f) := cell_at hx2 1 _ rfl
                  have d2 : w5'.cell? ⟨b, 2, none⟩ = some (.slice A1 us.length c1) := cell_at hx2 2 _ rfl
                  have d3 : w5'.cell? ⟨b, 3, none⟩ = some (.string t) := cell_at hx2 3 _ rfl
                  clear hx2
                  go_wp2_with fail
                  refine Calls.mono (iLineW_any st f t A1 us c1 _ hat2.1 hc1 hc2 hfm htm Au vs cu ((hu.below HBt.out).mono HBt.out.size) hvl d ⟨#[46]⟩ hd HLS.out m (Po.mem HBt.out hm hpos) HAN.out) ?_
                  rintro e wy ⟨A4, c4, rfl, ho4, hk4, hj4, hby⟩
                  clear d0 d1 d2 d3 hat2 hc1 hc2
                  have HT4 : Hid (AtTy 0 wy wy.heap.size A4 uo) := Lib.hid (AtTy.of_own h0t ho4 HUOS.out)
                  have HRy := Lib.hid (HRt.out.below hby)
                  have HBy := Lib.hid (HBt.out.trans (hby.mono HBt.out.size))
                  have HCy := Lib.hid ((hby.block bc (Array.getElem?_eq_some_iff.1 HCt.out).1).trans HCt.out)
                  clear hby ho4 HRt HBt HCt
                  have hE := Below.alloc (Below.refl wy.heap.size wy) (Nat.le_refl _) (.cells #[.int .i64 so, .string fo, .slice A4 uo.length c4, .string to_] 45)
                  have hx := heap_alloc_new wy (.cells #[.int .i64 so, .string fo, .slice A4 uo.length c4, .string to_] 45)
                  go_upto_region 20 with fail
                  generalize wy.alloc (.cells #[.int .i64 so, .string fo, .slice A4 uo.length c4, .string to_] 45) = wz at hE hx ⊢
                  obtain ⟨bq, hbq⟩ : ∃ q, q = wy.heap.size := ⟨_, rfl⟩
                  rw [← hbq] at hx ⊢
                  have hnb : b ≠ bq := by have := HRy.out.var.lt; omega
                  have hnb2 : bq ≠ b := Ne.symm hnb
                  have HXq := Lib.hid hx
                  have HRz := Lib.hid (HRy.out.below hE)
                  have HBz := Lib.hid (HBy.out.trans (hE.mono HBy.out.size))
                  have HCz := Lib.hid ((hE.block bc (Array.getElem?_eq_some_iff.1 HCy.out).1).trans HCy.out)
                  have HTz := Lib.hid ((HT4.out.below hE).mono hE.size)
                  clear hx hE hbq HRy HBy HCy HT4
                  obtain ⟨A1, c1, hx2, hat2, hc1, hc2⟩ := HRz.out.var
                  dsimp only at hx2
                  have d0 : wz.cell? ⟨b, 0, none⟩ = some (.int .i64 st) := cell_at hx2 0 _ rfl
                  have d1 : wz.cell? ⟨b, 1, none⟩ = some (.string f) := cell_at hx2 1 _ rfl
                  have d2 : wz.cell? ⟨b, 2, none⟩ = some (.slice A1 us.length c1) := cell_at hx2 2 _ rfl
                  have d3 : wz.cell? ⟨b, 3, none⟩ = some (.string t) := cell_at hx2 3 _ rfl
                  have z0 := free_at hx2 0
                  have z1 := free_at hx2 1
                  have z2 := free_at hx2 2
                  have z3 := free_at hx2 3
                  clear hx2 hat2 hc1 hc2
                  have y0 : wz.cell? ⟨bq, 0, none⟩ = some (.int .i64 so) := cell_at HXq.out 0 _ rfl
                  have y1 : wz.cell? ⟨bq, 1, none⟩ = some (.string fo) := cell_at HXq.out 1 _ rfl
                  have y2 : wz.cell? ⟨bq, 2, none⟩ = some (.slice A4 uo.length c4) := cell_at HXq.out 2 _ rfl
                  have y3 : wz.cell? ⟨bq, 3, none⟩ = some (.string to_) := cell_at HXq.out 3 _ rfl
                  go_upto_region 21 with fail
                  have HRs := Lib.hid (HRz.out.store (s2 := ⟨so, fo, uo, to_⟩) HTz.out hk4 hj4)
                  dsimp only at HRs
                  have HBs := Lib.hid (set4 HBz.out hwb (.int .i64 so) (.string fo) (.slice A4 uo.length c4) (.string to_))
                  have HCs := Lib.hid ((res_set4 (W := wz) (Ne.symm hnbc) (.int .i64 so) (.string fo) (.slice A4 uo.length c4) (.string to_)).trans HCz.out)
                  clear d0 d1 d2 d3 z0 z1 z2 z3 y0 y1 y2 y3 HXq HRz HBz HCz HTz
                  generalize (((wz.setCell ⟨b, 0, none⟩ (.int .i64 so)).setCell ⟨b, 1, none⟩ (.string fo)).setCell ⟨b, 2, none⟩ (.slice A4 uo.length c4)).setCell ⟨b, 3, none⟩ (.string to_) = ws at HRs HBs HCs ⊢
                  have HO7 := Lib.hid HRs.out.reps
                  have hBo : w.heap.size ≤ ws.heap.size := HBs.out.size
                  go_wp2_with (first | (at_builtin; refine wpList_snoc _ rfl (.tmp 70) (.tmp 72) _ rfl 3 i0 _ 1 8 Tryz.underlying26 hi hz0 hz1 hz2 rfl (by omega) It.cells It.cells_len It.one1 w.heap.size _ ns no rfl HO7.out _ rfl rfl HM1.out HM2.out hBo ?_; intro v8' w8 hown8 hb8 hg8; have HR8 := Lib.hid (HRs.out.snocR hown8 hg8); have HB8 := Lib.hid (HBs.out.trans hb8); have hct := Rn.chan_own HO7.out HCs.out hg8; have HC8 := Lib.hid hct; clear hct; clear hown8 hb8 hg8))
                  show ∃ n', _
                  exact ⟨lines.length - (k + 1), by have := HG.out; omega, k + 1, ns ++ [no], (ls ++ [(⟨f, A3, us, c3, t⟩ : Rl.L)]), so, fo, uo, to_, _, _, by omega, Lib.hid rfl, ⟨_, _, _, _, _, _, _, _, _, _, _, _, _, _, _, _, _, _, _, _, _, _, _, _, _, _, _, _, _, _, _, _, _, _, _, _, _, _, _, _, rfl⟩, HNS2, HVL2, HST2, HR8, HC8, HB8⟩
              · have q0 : (l.toList == [46]) = false := lit_no hdot
                have HVL2 : Hid (ls.map Rl.v = Rn.lets vs d Rn.s0 (lines.take (k + 1))) := Lib.hid (by rw [HTK.out, Rn.lets_snoc, ← HST.out, ← HVL.out, Rn.step_no (.inr hdot)]; simp)
                clear hdot
                have HRt := HR1
                have HBt := HB1
                have HCt := HC1
                clear HR1 HB1 HC1
                have h0t : 0 < w1'.heap.size := Nat.lt_of_le_of_lt (Nat.zero_le _) HRt.out.var.lt
                obtain ⟨A1, c1, hx2, hat2, hc1, hc2⟩ := HRt.out.var
                dsimp only at hx2 hat2 hc1
                have d0 : w1'.cell? ⟨b, 0, none⟩ = some (.int .i64 st) := cell_at hx2 0 _ rfl
                have d1 : w1'.cell? ⟨b, 1, none⟩ = some (.string f) := cell_at hx2 1 _ rfl
                have d2 : w1'.cell? ⟨b, 2, none⟩ = some (.slice A1 us.length c1) := cell_at hx2 2 _ rfl
                have d3 : w1'.cell? ⟨b, 3, none⟩ = some (.string t) := cell_at hx2 3 _ rfl
                clear hx2
                go_wp2_with fail
                refine Calls.mono (iLineW_any st f t A1 us c1 _ hat2.1 hc1 hc2 hfm htm Au vs cu ((hu.below HBt.out).mono HBt.out.size) hvl d l hd HLS.out m (Po.mem HBt.out hm hpos) HAN.out) ?_
                rintro e wy ⟨A4, c4, rfl, ho4, hk4, hj4, hby⟩
                clear d0 d1 d2 d3 hat2 hc1 hc2
                have HT4 : Hid (AtTy 0 wy wy.heap.size A4 uo) := Lib.hid (AtTy.of_own h0t ho4 HUOS.out)
                have HRy := Lib.hid (HRt.out.below hby)
                have HBy := Lib.hid (HBt.out.trans (hby.mono HBt.out.size))
                have HCy := Lib.hid ((hby.block bc (Array.getElem?_eq_some_iff.1 HCt.out).1).trans HCt.out)
                clear hby ho4 HRt HBt HCt
                have hE := Below.alloc (Below.refl wy.heap.size wy) (Nat.le_refl _) (.cells #[.int .i64 so, .string fo, .slice A4 uo.length c4, .string to_] 45)
                have hx := heap_alloc_new wy (.cells #[.int .i64 so, .string fo, .slice A4 uo.length c4, .string to_] 45)
                go_upto_region 20 with fail
                generalize wy.alloc (.cells #[.int .i64 so, .string fo, .slice A4 uo.length c4, .string to_] 45) = wz at hE hx ⊢
                obtain ⟨bq, hbq⟩ : ∃ q, q = wy.heap.size := ⟨_, rfl⟩
                rw [← hbq] at hx ⊢
                have hnb : b ≠ bq := by have := HRy.out.var.lt; omega
                have hnb2 : bq ≠ b := Ne.symm hnb
                have HXq := Lib.hid hx
                have HRz := Lib.hid (HRy.out.below hE)
                have HBz := Lib.hid (HBy.out.trans (hE.mono HBy.out.size))
                have HCz := Lib.hid ((hE.block bc (Array.getElem?_eq_some_iff.1 HCy.out).1).trans HCy.out)
                have HTz := Lib.hid ((HT4.out.below hE).mono hE.size)
                clear hx hE hbq HRy HBy HCy HT4
                obtain ⟨A1, c1, hx2, hat2, hc1, hc2⟩ := HRz.out.var
                dsimp only at hx2
                have d0 : wz.cell? ⟨b, 0, none⟩ = some (.int .i64 st) := cell_at hx2 0 _ rfl
                have d1 : wz.cell? ⟨b, 1, none⟩ = some (.string f) := cell_at hx2 1 _ rfl
                have d2 : wz.cell? ⟨b, 2, none⟩ = some (.slice A1 us.length c1) := cell_at hx2 2 _ rfl
                have d3 : wz.cell? ⟨b, 3, none⟩ = some (.string t) := cell_at hx2 3 _ rfl
                have z0 := free_at hx2 0
                have z1 := free_at hx2 1
                have z2 := free_at hx2 2
                have z3 := free_at hx2 3
                clear hx2 hat2 hc1 hc2
                have y0 : wz.cell? ⟨bq, 0, none⟩ = some (.int .i64 so) := cell_at HXq.out 0 _ rfl
                have y1 : wz.cell? ⟨bq, 1, none⟩ = some (.string fo) := cell_at HXq.out 1 _ rfl
                have y2 : wz.cell? ⟨bq, 2, none⟩ = some (.slice A4 uo.length c4) := cell_at HXq.out 2 _ rfl
                have y3 : wz.cell? ⟨bq, 3, none⟩ = some (.string to_) := cell_at HXq.out 3 _ rfl
                go_upto_region 21 with fail
                have HRs := Lib.hid (HRz.out.store (s2 := ⟨so, fo, uo, to_⟩) HTz.out hk4 hj4)
                dsimp only at HRs
                have HBs := Lib.hid (set4 HBz.out hwb (.int .i64 so) (.string fo) (.slice A4 uo.length c4) (.string to_))
                have HCs := Lib.hid ((res_set4 (W := wz) (Ne.symm hnbc) (.int .i64 so) (.string fo) (.slice A4 uo.length c4) (.string to_)).trans HCz.out)
                clear d0 d1 d2 d3 z0 z1 z2 z3 y0 y1 y2 y3 HXq HRz HBz HCz HTz
                generalize (((wz.setCell ⟨b, 0, none⟩ (.int .i64 so)).setCell ⟨b, 1, none⟩ (.string fo)).setCell ⟨b, 2, none⟩ (.slice A4 uo.length c4)).setCell ⟨b, 3, none⟩ (.string to_) = ws at HRs HBs HCs ⊢
                have HO7 := Lib.hid HRs.out.reps
                have hBo : w.heap.size ≤ ws.heap.size := HBs.out.size
                go_wp2_with (first | (at_builtin; refine wpList_snoc _ rfl (.tmp 70) (.tmp 72) _ rfl 3 i0 _ 1 8 Tryz.underlying26 hi hz0 hz1 hz2 rfl (by omega) It.cells It.cells_len It.one1 w.heap.size _ ns no rfl HO7.out _ rfl rfl HM1.out HM2.out hBo ?_; intro v8' w8 hown8 hb8 hg8; have HR8 := Lib.hid (HRs.out.snocR hown8 hg8); have HB8 := Lib.hid (HBs.out.trans hb8); have hct := Rn.chan_own HO7.out HCs.out hg8; have HC8 := Lib.hid hct; clear hct; clear hown8 hb8 hg8))
                show ∃ n', _
                exact ⟨lines.length - (k + 1), by have := HG.out; omega, k + 1, ns ++ [no], ls, so, fo, uo, to_, _, _, by omega, Lib.hid rfl, ⟨_, _, _, _, _, _, _, _, _, _, _, _, _, _, _, _, _, _, _, _, _, _, _, _, _, _, _, _, _, _, _, _, _, _, _, _, _, _, _, _, rfl⟩, HNS2, HVL2, HST2, HR8, HC8, HB8⟩
            · obtain rfl : k = lines.length := by omega
              have HCx := HC
              rw [Rn.strs_end] at HCx
              refine Ch.seq (Ch.region ?_)
              show ChOps fr _ _ _ [0, 1] _ _
              refine ChOps.shut hfr rfl rfl (c := bc) (cap := lines.length) (s := lines.length) (r := lines.length) (z := .string ⟨#[]⟩) (tm := false) (ok := true) (w₁ := wr) (by simp [go_sem, rcase]) HCx.out ?_
              refine ChOps.value rfl rfl (v := .bool false) (w₁ := wr) (by simp [execOp, Act.eval, Act.put, got, go_sem]) ?_
              refine ChOps.nil ?_
              show Ch fr _ _ _ _ _
              simp only [got]
              refine Ch.seq (Ch.of_wp ?_)
              go_wp2_with fail
              show Ch fr _ _ _ _ _
              refine Ch.of_wp ?_
              go_wp2_with fail
              go_ret2
              refine Rn.out_of HR.out ?_ ?_ HB.out
              · rw [HNS.out, List.take_length]; unfold Rn.ansR; rw [if_pos HGD.out]
              · rw [HVL.out, List.take_length]; unfold Rn.ansL; rw [if_pos HGD.out]
end Go.Proofs.YtpjifcljkgcnlaaGreatDoor
