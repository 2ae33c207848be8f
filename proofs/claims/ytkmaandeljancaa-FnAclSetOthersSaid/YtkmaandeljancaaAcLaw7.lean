/- FnAclSetTwice, FnAclFull, FnAclSetBack, FnAclSetOthers, FnAclSet: the walks. -/
import Derived.Test.YtkmaandeljancaaAcGr
import Derived.Test.YtkmaandeljancaaAcISet
import Derived.Deep.DeepCutAuto
namespace Go.Proofs.Ytkmaandeljancaa
set_option linter.unusedVariables false
open Go.RowKit
open Ac (G)

theorem Ac.set_len {us : List G} {s : ByteArray} {r : Int} (h : us.length ≤ 8) : (Ac.set us s r).1.length ≤ 8 := by
  cases h1 : (Ac.set us s r).2
  · unfold Ac.set at h1 ⊢
    split
    · split
      · rename_i h2 h3; rw [if_pos h2, if_pos h3] at h1; cases h1
      · exact h
    · exact Nat.zero_le _
  · exact Nat.le_trans (Ac.set_ok h1).1 (by omega)
theorem Ac.set_sizes {us : List G} {s : ByteArray} {r : Int} (h : ∀ u ∈ us, u.user.size ≤ maxLen) (hs : s.size ≤ maxLen) : ∀ u ∈ (Ac.set us s r).1, u.user.size ≤ maxLen := by
  cases h1 : (Ac.set us s r).2
  · unfold Ac.set at h1 ⊢
    split
    · split
      · rename_i h2 h3; rw [if_pos h2, if_pos h3] at h1; cases h1
      · exact h
    · simp
  · intro u hu
    rcases (Ac.set_ok h1).2 u hu with h2 | h2
    · exact h u h2
    · rw [h2]; exact hs

set_option maxRecDepth 100000 in
set_option maxHeartbeats 3200000 in
theorem walkFnAclSetTwice (a : Option Addr) (len cap : Nat) (w : World) (h : Bytes w a len cap) :
    Calls Try.prog 3 #[.slice a len cap] w fun e w' => e = .returned (.bool true) ∧ Below w.heap.size w w' := by
  by_cases hbig : len ≤ 1048576
  · go_enter Try.func3, Try.ntmps3
    go_wp2_with fail
    refine (drawAclSet_any a len cap _ h).mono ?_
    rintro e w1 ⟨us, A, c, s, r, hsm, hc1, hc2, hs, rfl, hat, hb1⟩
    have HL := hsm.len
    have HSL := Lib.hid (Ac.set_len (s := s) (r := r) hsm.1)
    have HSS := Lib.hid (Ac.set_sizes (r := r) hsm.sizes hs)
    go_wp2_with fail
    refine (iAclSet_any A us c s r _ hat HL hs).mono ?_
    rintro e w2 ⟨A2, c2, rfl, ho2, hb2⟩
    have hat2 := (hat.below hb2).mono hb2.size
    go_wp2_with fail
    refine (sAclSet_any A us c s r _ hat2 HL hs).mono ?_
    rintro e w3 ⟨A3, c3, rfl, ho3, hb3⟩
    have HU := Lib.hid ((hat2.below hb3).mono hb3.size)
    have HV2 := Lib.hid (at_grants (OwnL.at_ (OwnL.below ho2 hb3) Ac.cells_len rfl) HSS.out)
    have HV3 := Lib.hid (at_grants (OwnL.at_ ho3 Ac.cells_len rfl) HSS.out)
    have hB3 := hb1.trans ((hb2.trans (hb3.mono hb2.size)).mono hb1.size)
    have hul : us.length ≤ 8 := hsm.1
    clear hat hat2 ho2 ho3 hb1 hb2 hb3
    obtain ⟨st, hst⟩ : ∃ st, Ac.set us s r = st := ⟨_, rfl⟩
    have HST := Lib.hid hst
    rw [hst] at HSL HSS HV2 HV3 ⊢
    clear hst
    obtain ⟨vs, ok⟩ := st
    simp only at HSL HSS HV2 HV3 ⊢
    have hvl : vs.length ≤ maxLen := by have := HSL.out; unfold maxLen; omega
    have HC1 := Lib.hid (Ac.sameGrants_any A2 A3 vs c2 c3 w3 HV2.out HV3.out hvl)
    have HVB := Lib.hid (fun w' (hb : Below w3.heap.size w3 w') => (HV2.out.below hb).mono hb.size)
    have HV3B := Lib.hid (fun w' (hb : Below w3.heap.size w3 w') => (HV3.out.below hb).mono hb.size)
    have HUB := Lib.hid (fun w' (hb : Below w3.heap.size w3 w') => (HU.out.below hb).mono hb.size)
    cases hok : ok
    · subst hok
      go_wp2_with fail
      have H1 := HC1.out
      refine Calls.mono H1 ?_
      rintro e w4 ⟨rfl, hb4⟩
      go_wp2_with fail
      refine Calls.mono (Ac.sameGrants_any A2 A3 vs c2 c3 _ (HVB.out _ hb4) (HV3B.out _ hb4) hvl) ?_
      rintro e w5 ⟨rfl, hb5⟩
      go_wp2_with fail
      go_ret
      exact ⟨rfl, hB3.trans ((hb4.trans (hb5.mono hb4.size)).mono hB3.size)⟩
    · subst hok
      have HT : Hid (Ac.set vs s r = (vs, true)) := Lib.hid (by have := Ac.set_twice (us := us) (s := s) (r := r) (by rw [HST.out]); rwa [HST.out] at this)
      go_wp2_with fail
      have H1 := HC1.out
      refine Calls.mono H1 ?_
      rintro e w4 ⟨rfl, hb4⟩
      go_wp2_with fail
      refine Calls.mono (iAclSet_any A2 vs c2 s r _ (HVB.out _ hb4) hvl hs) ?_
      rintro e w5 ⟨A5, c5, rfl, ho5, hb5⟩
      rw [HT.out] at ho5 ⊢
      have HV5 := Lib.hid (at_grants (OwnL.at_ ho5 Ac.cells_len rfl) HSS.out)
      have hB5 := hb4.trans (hb5.mono hb4.size)
      clear ho5
      go_wp2_with fail
      refine Calls.mono (Ac.sameGrants_any A5 A2 vs c5 c2 _ HV5.out (HVB.out _ hB5) hvl) ?_
      rintro e w6 ⟨rfl, hb6⟩
      go_wp2_with fail
      go_ret
      exact ⟨rfl, hB3.trans ((hB5.trans (hb6.mono hB5.size)).mono hB3.size)⟩
  · go_enter Try.func3, Try.ntmps3
    go_wp2
    go_ret
    exact ⟨rfl, Below.refl _ _⟩


set_option maxRecDepth 100000 in
set_option maxHeartbeats 3200000 in
theorem walkFnAclSetBack (a : Option Addr) (len cap : Nat) (w : World) (h : Bytes w a len cap) :
    Calls Try.prog 5 #[.slice a len cap] w fun e w' => e = .returned (.bool true) ∧ Below w.heap.size w w' := by
  by_cases hbig : len ≤ 1048576
  · go_enter Try.func5, Try.ntmps5
    go_wp2_with fail
    refine (drawAclSet_any a len cap _ h).mono ?_
    rintro e w1 ⟨us, A, c, s, r, hsm, hc1, hc2, hs, rfl, hat, hb1⟩
    have HL := hsm.len
    have HSL := Lib.hid (Ac.set_len (s := s) (r := r) hsm.1)
    have HSS := Lib.hid (Ac.set_sizes (r := r) hsm.sizes hs)
    go_wp2_with fail
    refine (iAclSet_any A us c s r _ hat HL hs).mono ?_
    rintro e w2 ⟨A2, c2, rfl, ho2, hb2⟩
    have hat2 := (hat.below hb2).mono hb2.size
    go_wp2_with fail
    refine (sAclSet_any A us c s r _ hat2 HL hs).mono ?_
    rintro e w3 ⟨A3, c3, rfl, ho3, hb3⟩
    have HU := Lib.hid ((hat2.below hb3).mono hb3.size)
    have HV2 := Lib.hid (at_grants (OwnL.at_ (OwnL.below ho2 hb3) Ac.cells_len rfl) HSS.out)
    have HV3 := Lib.hid (at_grants (OwnL.at_ ho3 Ac.cells_len rfl) HSS.out)
    have hB3 := hb1.trans ((hb2.trans (hb3.mono hb2.size)).mono hb1.size)
    have hul : us.length ≤ 8 := hsm.1
    clear hat hat2 ho2 ho3 hb1 hb2 hb3
    obtain ⟨st, hst⟩ : ∃ st, Ac.set us s r = st := ⟨_, rfl⟩
    have HST := Lib.hid hst
    rw [hst] at HSL HSS HV2 HV3 ⊢
    clear hst
    obtain ⟨vs, ok⟩ := st
    simp only at HSL HSS HV2 HV3 ⊢
    have hvl : vs.length ≤ maxLen := by have := HSL.out; unfold maxLen; omega
    have HC1 := Lib.hid (Ac.sameGrants_any A2 A3 vs c2 c3 w3 HV2.out HV3.out hvl)
    have HVB := Lib.hid (fun w' (hb : Below w3.heap.size w3 w') => (HV2.out.below hb).mono hb.size)
    have HV3B := Lib.hid (fun w' (hb : Below w3.heap.size w3 w') => (HV3.out.below hb).mono hb.size)
    have HUB := Lib.hid (fun w' (hb : Below w3.heap.size w3 w') => (HU.out.below hb).mono hb.size)
    cases hok : ok
    · subst hok
      go_wp2_with fail
      have H1 := HC1.out
      refine Calls.mono H1 ?_
      rintro e w4 ⟨rfl, hb4⟩
      go_wp2_with fail
      refine Calls.mono (Ac.sameGrants_any A2 A3 vs c2 c3 _ (HVB.out _ hb4) (HV3B.out _ hb4) hvl) ?_
      rintro e w5 ⟨rfl, hb5⟩
      go_wp2_with fail
      go_ret
      exact ⟨rfl, hB3.trans ((hb4.trans (hb5.mono hb4.size)).mono hB3.size)⟩
    · subst hok
      obtain ⟨h1, h2, h3, h4, h5⟩ := Ac.set_inv (us := us) (s := s) (r := r) (by rw [HST.out])
      obtain ⟨_, _, hp⟩ := (Ac.aclOk_iff us).1 h1
      have HT : Hid (Ac.set vs s (Ac.lastR us s us.length) = (us, true)) := Lib.hid (by
        have := Ac.set_back (us := us) (s := s) (r := r) (q := Ac.lastR us s us.length) (by rw [HST.out]) (Ac.lastR_cases hp s)
        rwa [HST.out] at this)
      have HG := Lib.hid (fun w' (hb : Below w3.heap.size w3 w') => Ac.grantOf_any A us c s w' _ (HUB.out _ hb) HL hp)
      clear h1 h2 h3 h4 h5 hp
      go_wp2_with fail
      have H1 := HC1.out
      refine Calls.mono H1 ?_
      rintro e w4 ⟨rfl, hb4⟩
      go_wp2_with fail
      refine Calls.mono (HG.out _ hb4) ?_
      rintro e w4' ⟨rfl, rfl⟩
      go_wp2_with fail
      refine Calls.mono (iAclSet_any A2 vs c2 s _ _ (HVB.out _ hb4) hvl hs) ?_
      rintro e w5 ⟨A5, c5, rfl, ho5, hb5⟩
      rw [HT.out] at ho5 ⊢
      have HV5 := Lib.hid (at_grants (OwnL.at_ ho5 Ac.cells_len rfl) hsm.sizes)
      have hB5 := hb4.trans (hb5.mono hb4.size)
      clear ho5
      go_wp2_with fail
      refine Calls.mono (Ac.sameGrants_any A5 A us c5 c _ HV5.out (HUB.out _ hB5) HL) ?_
      rintro e w6 ⟨rfl, hb6⟩
      go_wp2_with fail
      go_ret
      exact ⟨rfl, hB3.trans ((hB5.trans (hb6.mono hB5.size)).mono hB3.size)⟩
  · go_enter Try.func5, Try.ntmps5
    go_wp2
    go_ret
    exact ⟨rfl, Below.refl _ _⟩


set_option maxRecDepth 100000 in
set_option maxHeartbeats 3200000 in
theorem walkFnAclSet (a : Option Addr) (len cap : Nat) (w : World) (h : Bytes w a len cap) :
    Calls Try.prog 8 #[.slice a len cap] w fun e w' => e = .returned (.bool true) ∧ Below w.heap.size w w' := by
  by_cases hbig : len ≤ 1048576
  · go_enter Try.func8, Try.ntmps8
    go_wp2_with fail
    refine (drawAclSet_any a len cap _ h).mono ?_
    rintro e w1 ⟨us, A, c, s, r, hsm, hc1, hc2, hs, rfl, hat, hb1⟩
    have HL := hsm.len
    have HSL := Lib.hid (Ac.set_len (s := s) (r := r) hsm.1)
    have HSS := Lib.hid (Ac.set_sizes (r := r) hsm.sizes hs)
    go_wp2_with fail
    refine (iAclSet_any A us c s r _ hat HL hs).mono ?_
    rintro e w2 ⟨A2, c2, rfl, ho2, hb2⟩
    have hat2 := (hat.below hb2).mono hb2.size
    go_wp2_with fail
    refine (sAclSet_any A us c s r _ hat2 HL hs).mono ?_
    rintro e w3 ⟨A3, c3, rfl, ho3, hb3⟩
    have HU := Lib.hid ((hat2.below hb3).mono hb3.size)
    have HV2 := Lib.hid (at_grants (OwnL.at_ (OwnL.below ho2 hb3) Ac.cells_len rfl) HSS.out)
    have HV3 := Lib.hid (at_grants (OwnL.at_ ho3 Ac.cells_len rfl) HSS.out)
    have hB3 := hb1.trans ((hb2.trans (hb3.mono hb2.size)).mono hb1.size)
    have hul : us.length ≤ 8 := hsm.1
    clear hat hat2 ho2 ho3 hb1 hb2 hb3
    obtain ⟨st, hst⟩ : ∃ st, Ac.set us s r = st := ⟨_, rfl⟩
    have HST := Lib.hid hst
    rw [hst] at HSL HSS HV2 HV3 ⊢
    clear hst
    obtain ⟨vs, ok⟩ := st
    simp only at HSL HSS HV2 HV3 ⊢
    have hvl : vs.length ≤ maxLen := by have := HSL.out; unfold maxLen; omega
    have HC1 := Lib.hid (Ac.sameGrants_any A2 A3 vs c2 c3 w3 HV2.out HV3.out hvl)
    have HVB := Lib.hid (fun w' (hb : Below w3.heap.size w3 w') => (HV2.out.below hb).mono hb.size)
    have HV3B := Lib.hid (fun w' (hb : Below w3.heap.size w3 w') => (HV3.out.below hb).mono hb.size)
    have HUB := Lib.hid (fun w' (hb : Below w3.heap.size w3 w') => (HU.out.below hb).mono hb.size)
    cases hok : ok
    · subst hok
      go_wp2_with fail
      have H1 := HC1.out
      refine Calls.mono H1 ?_
      rintro e w4 ⟨rfl, hb4⟩
      go_wp2_with fail
      refine Calls.mono (Ac.sameGrants_any A2 A3 vs c2 c3 _ (HVB.out _ hb4) (HV3B.out _ hb4) hvl) ?_
      rintro e w5 ⟨rfl, hb5⟩
      go_wp2_with fail
      go_ret
      exact ⟨rfl, hB3.trans ((hb4.trans (hb5.mono hb4.size)).mono hB3.size)⟩
    · subst hok
      obtain ⟨h1, h2, h3, h4, h5⟩ := Ac.set_inv (us := us) (s := s) (r := r) (by rw [HST.out])
      rw [HST.out] at h5
      replace h5 : vs = Ac.build us s r := h5
      obtain ⟨_, _, hpu⟩ := (Ac.aclOk_iff us).1 h1
      rw [← h5] at h4
      obtain ⟨_, _, hp⟩ := (Ac.aclOk_iff vs).1 h4
      have HR : Hid (Ac.lastR vs s vs.length = r) := Lib.hid (by
        by_cases hr : r = 0
        · subst hr
          refine Ac.lastR_no fun u hu => ?_
          rw [h5, Ac.build_zero] at hu
          exact ((Ac.drop_mem us s u).1 hu).2
        · exact Ac.lastR_mem hp (u := ⟨s, r⟩) (by rw [h5]; exact (Ac.build_iff hpu _).2 (.inr ⟨hr, rfl⟩)))
      have HG := Lib.hid (fun w' (hb : Below w3.heap.size w3 w') => Ac.grantOf_any A2 vs c2 s w' _ (HVB.out _ hb) hvl hp)
      have HOK := Lib.hid h4
      clear h1 h2 h3 h4 h5 hp hpu
      go_wp2_with fail
      have H1 := HC1.out
      refine Calls.mono H1 ?_
      rintro e w4 ⟨rfl, hb4⟩
      go_wp2_with fail
      refine Calls.mono (HG.out _ hb4) ?_
      rintro e w4' ⟨rfl, rfl⟩
      rw [HR.out]
      go_wp2_with fail
      refine Calls.mono (iAclValid_any A2 vs c2 _ (HVB.out _ hb4) hvl) ?_
      rintro e w5 ⟨rfl, hb5⟩
      rw [HOK.out]
      go_wp2_with fail
      go_ret
      exact ⟨rfl, hB3.trans ((hb4.trans (hb5.mono hb4.size)).mono hB3.size)⟩
  · go_enter Try.func8, Try.ntmps8
    go_wp2
    go_ret
    exact ⟨rfl, Below.refl _ _⟩


set_option maxRecDepth 100000 in
set_option maxHeartbeats 3200000 in
theorem walkFnAclFull (a : Option Addr) (len cap : Nat) (w : World) (h : Bytes w a len cap) :
    Calls Try.prog 4 #[.slice a len cap] w fun e w' => e = .returned (.bool true) ∧ Below w.heap.size w w' := by
  by_cases hbig : len ≤ 1048576
  · go_enter Try.func4, Try.ntmps4
    go_wp2_with fail
    refine (drawAclSet_any a len cap _ h).mono ?_
    rintro e w1 ⟨us, A, c, s, r, hsm, hc1, hc2, hs, rfl, hat, hb1⟩
    have HL := hsm.len
    have HSL := Lib.hid (Ac.set_len (s := s) (r := r) hsm.1)
    have HSS := Lib.hid (Ac.set_sizes (r := r) hsm.sizes hs)
    go_wp2_with fail
    refine (iAclSet_any A us c s r _ hat HL hs).mono ?_
    rintro e w2 ⟨A2, c2, rfl, ho2, hb2⟩
    have hat2 := (hat.below hb2).mono hb2.size
    go_wp2_with fail
    refine (sAclSet_any A us c s r _ hat2 HL hs).mono ?_
    rintro e w3 ⟨A3, c3, rfl, ho3, hb3⟩
    have HU := Lib.hid ((hat2.below hb3).mono hb3.size)
    have HV2 := Lib.hid (at_grants (OwnL.at_ (OwnL.below ho2 hb3) Ac.cells_len rfl) HSS.out)
    have HV3 := Lib.hid (at_grants (OwnL.at_ ho3 Ac.cells_len rfl) HSS.out)
    have hB3 := hb1.trans ((hb2.trans (hb3.mono hb2.size)).mono hb1.size)
    have hul : us.length ≤ 8 := hsm.1
    clear hat hat2 ho2 ho3 hb1 hb2 hb3
    obtain ⟨st, hst⟩ : ∃ st, Ac.set us s r = st := ⟨_, rfl⟩
    have HST := Lib.hid hst
    rw [hst] at HSL HSS HV2 HV3 ⊢
    clear hst
    obtain ⟨vs, ok⟩ := st
    simp only at HSL HSS HV2 HV3 ⊢
    have hvl : vs.length ≤ maxLen := by have := HSL.out; unfold maxLen; omega
    have HC1 := Lib.hid (Ac.sameGrants_any A2 A3 vs c2 c3 w3 HV2.out HV3.out hvl)
    have HVB := Lib.hid (fun w' (hb : Below w3.heap.size w3 w') => (HV2.out.below hb).mono hb.size)
    have HV3B := Lib.hid (fun w' (hb : Below w3.heap.size w3 w') => (HV3.out.below hb).mono hb.size)
    have HUB := Lib.hid (fun w' (hb : Below w3.heap.size w3 w') => (HU.out.below hb).mono hb.size)
    cases hok : ok
    · subst hok
      go_wp2_with fail
      have H1 := HC1.out
      refine Calls.mono H1 ?_
      rintro e w4 ⟨rfl, hb4⟩
      go_wp2_with fail
      refine Calls.mono (sAclValid_any A us c _ (HUB.out _ hb4) HL) ?_
      rintro e w5 ⟨rfl, hb5⟩
      have hB5 := hb4.trans (hb5.mono hb4.size)
      cases n1 : Ac.aclOk us
      · go_wp2_with fail
        refine Calls.mono (Ac.sameGrants_any A2 A3 vs c2 c3 _ (HVB.out _ hB5) (HV3B.out _ hB5) hvl) ?_
        rintro e w6 ⟨rfl, hb6⟩
        go_wp2_with fail
        go_ret
        exact ⟨rfl, hB3.trans ((hB5.trans (hb6.mono hB5.size)).mono hB3.size)⟩
      · have HN1 := Lib.hid n1
        go_wp2_with fail
        refine Calls.mono (sNameValid_any _ _ hs) ?_
        rintro e w6 ⟨rfl, rfl⟩
        cases n2 : Nm.nameOk s.data.toList
        · go_wp2_with fail
          refine Calls.mono (Ac.sameGrants_any A2 A3 vs c2 c3 _ (HVB.out _ hB5) (HV3B.out _ hB5) hvl) ?_
          rintro e w6 ⟨rfl, hb6⟩
          go_wp2_with fail
          go_ret
          exact ⟨rfl, hB3.trans ((hB5.trans (hb6.mono hB5.size)).mono hB3.size)⟩
        · have HN2 := Lib.hid n2
          by_cases hr : 0 ≤ r ∧ r ≤ 63
          · obtain ⟨h1, h2, h3, h4⟩ := Ac.set_full_inv (us := us) (s := s) (r := r) (by rw [HST.out]) HN1.out HN2.out hr
            rw [HST.out] at h1
            replace h1 : vs = us := h1
            subst h1
            obtain ⟨_, _, hp⟩ := (Ac.aclOk_iff vs).1 HN1.out
            have HR := Lib.hid (Ac.lastR_no h3)
            have HG := Lib.hid (fun w' (hb : Below w3.heap.size w3 w') => Ac.grantOf_any A vs c s w' _ (HUB.out _ hb) HL hp)
            have h2i : ((vs.length : Int) == 4) = true := by simp; omega
            have hr0 : ¬ r < 0 := by omega
            have hr63 : ¬ 63 < r := by omega
            clear n1 n2 h2 h3 hp
            go_wp2_with fail
            refine Calls.mono (Ac.sameGrants_any A2 A vs c2 c _ (HVB.out _ hB5) (HUB.out _ hB5) hvl) ?_
            rintro e w6 ⟨rfl, hb6⟩
            have hB6 := hB5.trans (hb6.mono hB5.size)
            go_wp2_with fail
            refine Calls.mono (HG.out _ hB6) ?_
            rintro e w6' ⟨rfl, rfl⟩
            rw [HR.out]
            go_wp2_with fail
            go_ret
            exact ⟨by first | rfl | (simp; omega), hB3.trans (hB6.mono hB3.size)⟩
          · by_cases hr0 : r < 0
            · go_wp2_with fail
              refine Calls.mono (Ac.sameGrants_any A2 A3 vs c2 c3 _ (HVB.out _ hB5) (HV3B.out _ hB5) hvl) ?_
              rintro e w6 ⟨rfl, hb6⟩
              go_wp2_with fail
              go_ret
              exact ⟨rfl, hB3.trans ((hB5.trans (hb6.mono hB5.size)).mono hB3.size)⟩
            · have hr63 : 63 < r := by omega
              go_wp2_with fail
              refine Calls.mono (Ac.sameGrants_any A2 A3 vs c2 c3 _ (HVB.out _ hB5) (HV3B.out _ hB5) hvl) ?_
              rintro e w6 ⟨rfl, hb6⟩
              go_wp2_with fail
              go_ret
              exact ⟨rfl, hB3.trans ((hB5.trans (hb6.mono hB5.size)).mono hB3.size)⟩
    · subst hok
      go_wp2_with fail
      have H1 := HC1.out
      refine Calls.mono H1 ?_
      rintro e w4 ⟨rfl, hb4⟩
      go_wp2_with fail
      refine Calls.mono (Ac.sameGrants_any A2 A3 vs c2 c3 _ (HVB.out _ hb4) (HV3B.out _ hb4) hvl) ?_
      rintro e w5 ⟨rfl, hb5⟩
      go_wp2_with fail
      go_ret
      exact ⟨rfl, hB3.trans ((hb4.trans (hb5.mono hb4.size)).mono hB3.size)⟩
  · go_enter Try.func4, Try.ntmps4
    go_wp2
    go_ret
    exact ⟨rfl, Below.refl _ _⟩


set_option maxRecDepth 100000 in
set_option maxHeartbeats 3200000 in
theorem walkFnAclSetOthers (a : Option Addr) (len cap : Nat) (w : World) (h : Bytes w a len cap) :
    Calls Try.prog 6 #[.slice a len cap] w fun e w' => e = .returned (.bool true) ∧ Below w.heap.size w w' := by
  by_cases hbig : len ≤ 1048576
  · go_enter Try.func6, Try.ntmps6
    go_wp2_with fail
    refine (drawAclSet_any a len cap _ h).mono ?_
    rintro e w1 ⟨us, A, c, s, r, hsm, hc1, hc2, hs, rfl, hat, hb1⟩
    have HL := hsm.len
    have HSL := Lib.hid (Ac.set_len (s := s) (r := r) hsm.1)
    have HSS := Lib.hid (Ac.set_sizes (r := r) hsm.sizes hs)
    go_wp2_with fail
    refine (iAclSet_any A us c s r _ hat HL hs).mono ?_
    rintro e w2 ⟨A2, c2, rfl, ho2, hb2⟩
    have hat2 := (hat.below hb2).mono hb2.size
    go_wp2_with fail
    refine (sAclSet_any A us c s r _ hat2 HL hs).mono ?_
    rintro e w3 ⟨A3, c3, rfl, ho3, hb3⟩
    have HU := Lib.hid ((hat2.below hb3).mono hb3.size)
    have HV2 := Lib.hid (at_grants (OwnL.at_ (OwnL.below ho2 hb3) Ac.cells_len rfl) HSS.out)
    have HV3 := Lib.hid (at_grants (OwnL.at_ ho3 Ac.cells_len rfl) HSS.out)
    have hB3 := hb1.trans ((hb2.trans (hb3.mono hb2.size)).mono hb1.size)
    have hul : us.length ≤ 8 := hsm.1
    clear hat hat2 ho2 ho3 hb1 hb2 hb3
    obtain ⟨st, hst⟩ : ∃ st, Ac.set us s r = st := ⟨_, rfl⟩
    have HST := Lib.hid hst
    rw [hst] at HSL HSS HV2 HV3 ⊢
    clear hst
    obtain ⟨vs, ok⟩ := st
    simp only at HSL HSS HV2 HV3 ⊢
    have hvl : vs.length ≤ maxLen := by have := HSL.out; unfold maxLen; omega
    have HC1 := Lib.hid (Ac.sameGrants_any A2 A3 vs c2 c3 w3 HV2.out HV3.out hvl)
    have HVB := Lib.hid (fun w' (hb : Below w3.heap.size w3 w') => (HV2.out.below hb).mono hb.size)
    have HV3B := Lib.hid (fun w' (hb : Below w3.heap.size w3 w') => (HV3.out.below hb).mono hb.size)
    have HUB := Lib.hid (fun w' (hb : Below w3.heap.size w3 w') => (HU.out.below hb).mono hb.size)
    cases hok : ok
    · subst hok
      go_wp2_with fail
      have H1 := HC1.out
      refine Calls.mono H1 ?_
      rintro e w4 ⟨rfl, hb4⟩
      go_wp2_with fail
      refine Calls.mono (Ac.sameGrants_any A2 A3 vs c2 c3 _ (HVB.out _ hb4) (HV3B.out _ hb4) hvl) ?_
      rintro e w5 ⟨rfl, hb5⟩
      go_wp2_with fail
      go_ret
      exact ⟨rfl, hB3.trans ((hb4.trans (hb5.mono hb4.size)).mono hB3.size)⟩
    · subst hok
      obtain ⟨h1, h2, h3, h4, h5⟩ := Ac.set_inv (us := us) (s := s) (r := r) (by rw [HST.out])
      rw [HST.out] at h5
      replace h5 : vs = Ac.build us s r := h5
      obtain ⟨hl4, _, hpu⟩ := (Ac.aclOk_iff us).1 h1
      rw [← h5] at h4
      obtain ⟨_, _, hp⟩ := (Ac.aclOk_iff vs).1 h4
      have HR : Hid (∀ u ∈ us, u.user ≠ s → Ac.lastR vs u.user vs.length = u.rights) := Lib.hid fun u hu hus =>
        Ac.lastR_mem hp (by rw [h5]; exact (Ac.build_iff hpu u).2 (.inl ⟨hu, hus⟩))
      have HLEN : Hid (vs.length = (Ac.drop us s).length + if r = 0 then 0 else 1) := Lib.hid (by rw [h5]; exact Ac.build_length hpu)
      have HG := Lib.hid (fun w' n (hb : Below w3.heap.size w3 w') => Ac.grantOf_any A2 vs c2 n w' _ (HVB.out _ hb) hvl hp)
      have hr0 : 0 ≤ r := h3.1
      have HULM := Lib.hid HL
      unfold maxLen at HL
      clear h1 h2 h3 h4 h5 hp hpu
      go_wp2_with fail
      have H1 := HC1.out
      refine Calls.mono H1 ?_
      rintro e w4 ⟨rfl, hb4⟩
      go_wp2_with fail
      go_loopg [10, 11] us.length (fun g m i wr => ∃ k : Nat, k ≤ us.length ∧ Hid (g = us.length - k) ∧ i = .int .i64 k ∧ m = .int .i64 ((Ac.drop (us.take k) s).length : Nat) ∧ Below w3.heap.size w3 wr)
      case atStart => exact ⟨0, Nat.zero_le _, Lib.hid rfl, rfl, rfl, hb4⟩
      case round =>
        obtain ⟨k, hk, HG1, rfl, rfl, hb⟩ := hrel
        have hdl : (Ac.drop (us.take k) s).length ≤ k := Nat.le_trans (Ac.drop_sub _ s).length_le (by rw [List.length_take]; omega)
        by_cases hlt : k < us.length
        · obtain ⟨g, off, rfl, hg, hc⟩ := (HUB.out _ hb).1 (by omega)
          obtain ⟨u, hu⟩ : ∃ u, us[k]? = some u := ⟨_, List.getElem?_eq_getElem hlt⟩
          obtain ⟨d1, d2⟩ := hc k u hu
          have HT : Hid (Ac.drop (us.take (k + 1)) s = Ac.drop (us.take k) s ++ if Ac.same u.user s = true then [] else [u]) := Lib.hid (by rw [List.take_add_one, hu, Option.toList_some, Ac.drop_snoc])
          have HM := Lib.hid (List.mem_of_getElem? hu)
          have hki : (k : Int) < (us.length : Int) := by omega
          have hk0 : (0 : Int) ≤ (k : Int) := by omega
          clear hc hu
          obtain ⟨wo, rfl⟩ : ∃ wo : World, wo = wr := ⟨_, rfl⟩
          cases hs0 : (u.user.toList == s.toList)
          · have HLR := Lib.hid (HR.out u HM.out (Ac.same_no.1 hs0))
            have HGK : Hid (∀ nq, Calls Try.prog 15 #[.slice A2 vs.length c2, .string u.user] (wo.drewN nq) fun e w' => e = .returned (.int .i64 u.rights) ∧ w' = wo.drewN nq) := Lib.hid fun nq => by
              have := HG.out (wo.drewN nq) u.user (below_drewN hb nq)
              rwa [HLR.out] at this
            go_upto_region 14 with fail
            go_quiet ((go_at_call 15; exact Calls.quiet_of_same (HGK.out _)))
            go_wp2_with fail
            go_roundg (us.length - (k + 1))
            case measure => have := HG1.out; omega
            case rel => exact ⟨k + 1, by omega, Lib.hid rfl, by go_num, by rw [HT.out, if_neg (by show ¬ (u.user.toList == s.toList) = true; rw [hs0]; decide), List.length_append]; go_num, below_drewN hb _⟩
          · go_wp2_with fail
            go_roundg (us.length - (k + 1))
            case measure => have := HG1.out; omega
            case rel => exact ⟨k + 1, by omega, Lib.hid rfl, by go_num, by rw [HT.out, show Ac.same u.user s = true from hs0, if_pos rfl, List.append_nil], hb⟩
        · obtain rfl : k = us.length := by omega
          rw [List.take_length] at hdl ⊢
          have hle := HLEN.out
          by_cases hr : r = 0
          · subst hr
            have HE : Hid (vs.length = (Ac.drop us s).length) := Lib.hid (by rw [hle, if_pos rfl]; rfl)
            clear hle
            go_wp2_with fail
            go_ret
            exact ⟨by rw [HE.out]; simp, hB3.trans (hb.mono hB3.size)⟩
          · have HE : Hid (vs.length = (Ac.drop us s).length + 1) := Lib.hid (by rw [hle, if_neg hr])
            have hrp : 0 < r := by omega
            clear hle
            go_wp2_with fail
            go_ret
            exact ⟨by rw [HE.out]; simp, hB3.trans (hb.mono hB3.size)⟩
  · go_enter Try.func6, Try.ntmps6
    go_wp2
    go_ret
    exact ⟨rfl, Below.refl _ _⟩


end Go.Proofs.Ytkmaandeljancaa
