/- AclSet of the program: it gives what the reference gives. -/
import Derived.Test.YtkmaandeljancaaAcKeys
namespace Go.Proofs.Ytkmaandeljancaa
set_option linter.unusedVariables false
open Go.RowKit Go.Maps
open Ac (G)

theorem Ac.build_perm0 (us : List G) (s : ByteArray) : Ac.build us s 0 = Ac.drop us s := Ac.build_zero us s
theorem Ac.cons_build {us : List G} {s : ByteArray} {r : Int} (hr : r ≠ 0) (hp : us.Pairwise (fun a b => slt a.user b.user = true)) : (⟨s, r⟩ :: Ac.drop us s).Perm (Ac.build us s r) := by
  rw [Ac.build_pos hr hp]
  exact Ac.ins_perm _ s r

set_option maxRecDepth 100000 in
set_option maxHeartbeats 3200000 in
theorem iAclSet_any (A : Option Addr) (us : List G) (c : Nat) (s : ByteArray) (r : Int) (w : World) (h : AtGrants w w.heap.size A us) (hn : us.length ≤ maxLen) (hs : s.size ≤ maxLen) :
    Calls Try.prog 10 #[.slice A us.length c, .string s, .int .i64 r] w (Ac.Set us s r w) := by
  go_enter Try.func10, Try.ntmps10
  go_wp2_with fail
  refine (aclMap_any A us c _ h hn).mono ?_
  rintro e w1 ⟨m, rfl, hb1, hm⟩
  have HM := Lib.hid hm
  clear hm
  cases n0 : Ac.aclOk us
  · have HF := Lib.hid (Ac.set_no1 (s := s) (r := r) n0)
    go_wp2_with fail
    go_ret2
    exact Ac.Set.none HF.out hb1
  · have HN0 := Lib.hid n0
    go_wp2_with fail
    refine (iNameValid_any _ _ hs).mono ?_
    rintro e w2 ⟨rfl, hb2⟩
    have hB2 := hb1.trans (hb2.mono hb1.size)
    cases n1 : Nm.nameOk s.data.toList
    · have HF := Lib.hid (Ac.set_no2 (us := us) (r := r) n1)
      go_wp2_with fail
      go_ret2
      exact Ac.Set.none HF.out hB2
    · have HN1 := Lib.hid n1
      go_wp2_with fail
      refine (Ac.rightsValid_any r _).mono ?_
      rintro e w3 ⟨rfl, rfl⟩
      cases n2 : inB r 0 63
      · have HF := Lib.hid (Ac.set_no3 (us := us) (s := s) (inB_no.1 n2))
        go_wp2_with fail
        go_ret2
        exact Ac.Set.none HF.out hB2
      · have hr := inB_iff.1 n2
        obtain ⟨hl4, hv, hp⟩ := (Ac.aclOk_iff us).1 n0
        obtain ⟨i0, hi, hz0, hz1, hz2⟩ := info_parts grant_info
        obtain ⟨b, rfl, hbs, hmap⟩ := HM.out n0
        have HM2 := Lib.hid (Ac.Map.below hmap hb2)
        have HH : Hid (Ac.Holds (Ac.mapD us us.length) us) := Lib.hid (by have := Ac.mapD_holds hp us.length (Nat.le_refl _); rwa [List.take_length] at this)
        have HP := Lib.hid hp
        have HK := Lib.hid (WideMaps.keyOf_string_mk (P := Try.prog) Try.underlying9 hs)
        have HSZ : Hid (∀ u ∈ Ac.build us s r, u.user.size ≤ maxLen) := Lib.hid fun u hu => by
          rcases Ac.build_mem us s r u hu with h1 | rfl
          · exact h.2 u h1
          · exact hs
        have HBO := Lib.hid (Ac.build_ok HN0.out HN1.out hr)
        have HBL := Lib.hid (Ac.build_len us s r)
        have HBP := Lib.hid (Ac.build_sorted (s := s) (r := r) hp)
        obtain ⟨bs, hbs2⟩ : ∃ bs, Ac.build us s r = bs := ⟨_, rfl⟩
        have HBS := Lib.hid hbs2
        rw [hbs2] at HSZ HBO HBL HBP
        clear n0 n1 n2 hmap hp hbs2 hv
        generalize Ac.mapD us us.length = D at HM2 HH
        by_cases hr0 : r = 0
        · subst hr0
          have HD : Hid (Ac.Holds (D.del (.string s.data.toList)) bs) := Lib.hid (by rw [← HBS.out, Ac.build_zero]; exact HH.out.del s)
          have hbl4 : bs.length ≤ 4 := by
            rw [← HBS.out, Ac.build_zero]
            exact Nat.le_trans (Ac.drop_sub us s).length_le hl4
          go_wp2_with (first | (at_delete; refine wpList_delete_own _ rfl _ _ 46 9 rfl 3 Ac.law Try.underlying46 _ b us.length _ rfl HM2.out _ _ rfl HK.out ?_; intro w4 hown4 hturn4; have HM4 := Lib.hid hown4; have HT4 := Lib.hid hturn4; clear hown4 hturn4))
          have hB4 : Below w.heap.size w w4 := hB2.grown HT4.out.grown hB2.size (by intro q hq; injection hq with hq; omega)
          have HC := Lib.hid (aclList_any b us.length _ bs w4 HM4.out HD.out HBP.out (by omega) HSZ.out)
          refine Calls.mono HC.out ?_
          rintro e w5 ⟨v, rfl, ho5, hb5⟩
          have HF : Hid (Ac.set us s 0 = (bs, true)) := Lib.hid (by
            rw [Ac.set_yes HN0.out HN1.out hr, HBS.out]
            rw [HBS.out, HBO.out, decide_eq_true hbl4])
          have hB5 := hB4.trans (hb5.mono hB4.size)
          have HO5 := Lib.hid (OwnL.base (B' := w.heap.size) ho5 hB4.size)
          clear ho5
          go_wp2_with fail
          go_ret2
          have ho := HO5.out
          obtain ⟨A7, c7, e7, _, _⟩ := OwnL.form ho
          refine ⟨A7, c7, ?_, ?_, hB5⟩
          · rw [HF.out, ← e7]; rfl
          · rw [HF.out]; rw [e7] at ho; exact ho
        · have hr0b : (r == 0) = false := by simpa using hr0
          have hwf : (Lit.int .i64 r).wf = true := WalkArith.wf_i64 (by omega)
          have HW := Lib.hid hwf
          have HD : Hid (Ac.Holds (D.put (.string s.data.toList) (.lit (.int .i64 r))) bs) := Lib.hid (by rw [← HBS.out]; exact (HH.out.put s r).perm (Ac.cons_build hr0 HP.out))
          have HS := Lib.hid HD.out.size
          clear hwf
          go_upto_region 8 with (first | (at_mapUpdate; refine wpList_mapUpdate_own _ rfl _ _ _ 46 rfl 9 3 Ac.law Try.underlying46 _ b us.length _ rfl HM2.out (by unfold maxLen; omega) _ _ _ rfl rfl HK.out _ [] (plainElem_int Try.underlying3 HW.out) ?_; intro w4 hown4 hg4; have HM4 := Lib.hid hown4; have HT4 := Lib.hid hg4; clear hown4 hg4))
          have hB4 : Below w.heap.size w w4 := hB2.grown HT4.out hB2.size (by intro q hq; injection hq with hq; omega)
          by_cases hbl4 : bs.length ≤ 4
          · have HC := Lib.hid (aclList_any b _ _ bs w4 HM4.out HD.out HBP.out (by omega) HSZ.out)
            have hbl4i : (bs.length : Int) ≤ 4 := by omega
            go_wp2_with (first | (at_len; refine wpList_len_own _ rfl _ 46 rfl 9 3 Try.underlying46 _ b _ _ rfl HM4.out ?_; rw [HS.out]))
            refine Calls.mono HC.out ?_
            rintro e w5 ⟨v, rfl, ho5, hb5⟩
            have HF : Hid (Ac.set us s r = (bs, true)) := Lib.hid (by
              rw [Ac.set_yes HN0.out HN1.out hr, HBS.out]
              rw [HBS.out, HBO.out, decide_eq_true hbl4])
            have hB5 := hB4.trans (hb5.mono hB4.size)
            have HO5 := Lib.hid (OwnL.base (B' := w.heap.size) ho5 hB4.size)
            clear ho5
            go_wp2_with fail
            go_ret2
            have ho := HO5.out
            obtain ⟨A7, c7, e7, _, _⟩ := OwnL.form ho
            refine ⟨A7, c7, ?_, ?_, hB5⟩
            · rw [HF.out, ← e7]; rfl
            · rw [HF.out]; rw [e7] at ho; exact ho
          · have HF : Hid (Ac.set us s r = (us, false)) := Lib.hid (Ac.set_full HN0.out HN1.out hr (by rw [HBS.out, HBO.out, decide_eq_false hbl4]))
            have HA5 := Lib.hid (Ac.at_of ((h.below hB4).below ((Below.refl w.heap.size w4).alloc hB4.size (.cells #[] 34))))
            have HO5 : Hid (Ac.Own (w4.alloc (.cells #[] 34)) w.heap.size (.slice (some ⟨w4.heap.size, 0, none⟩) 0 0) []) := Lib.hid (ownL_nil w4 hB4.size)
            have HM1 : Hid (([] : List G).length + us.length ≤ maxLen) := Lib.hid (by unfold maxLen; simp; omega)
            have HM5 : Hid ((([] : List G).length + us.length) * 24 ≤ 140737488355328) := Lib.hid (by simp; omega)
            have HM3 : Hid (w.heap.size ≤ (w4.alloc (.cells #[] 34)).heap.size) := Lib.hid (Nat.le_trans hB4.size (by simp))
            have hbl4i : (4 : Int) < (bs.length : Int) := by omega
            go_wp2_with (first
              | (at_len; refine wpList_len_own _ rfl _ 46 rfl 9 3 Try.underlying46 _ b _ _ rfl HM4.out ?_; rw [HS.out])
              | (at_builtin; refine wpList_join _ rfl (.tmp 40) (.tmp 41) _ rfl 34 i0 _ 2 24 Try.underlying23 hi hz0 hz1 hz2 rfl (by omega) Ac.cells Ac.cells_len Ac.cells_one1 w.heap.size _ [] rfl HO5.out w.heap.size A us us.length c rfl rfl HA5.out HM1.out HM5.out HM3.out ?_; intro v7 w7 hown7 hb7 hg7; have HO7 := Lib.hid hown7; clear hown7 hg7))
            go_ret2
            have ho7 := HO7.out
            rw [List.nil_append] at ho7
            obtain ⟨A7, c7, e7, _, _⟩ := OwnL.form ho7
            refine ⟨A7, c7, ?_, ?_, (hB4.alloc hB4.size _).trans hb7⟩
            · rw [HF.out, ← e7]; rfl
            · rw [HF.out]; rw [e7] at ho7; exact ho7

end Go.Proofs.Ytkmaandeljancaa
