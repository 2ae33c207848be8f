/- spec.AclSet. -/
import Derived.Test.YtkmaandeljancaaAcEx
import Derived.Test.YtkmaandeljancaaAcPlain3
import Derived.Test.YtkmaandeljancaaOwn
import Derived.Deep.DeepCutAuto
namespace Go.Proofs.Ytkmaandeljancaa
set_option linter.unusedVariables false
open Go.RowKit
open Ac (G)

set_option maxHeartbeats 400000 in
theorem Ac.l13Rights_any (n : Int) (w : World) :
    Calls Try.prog 31 #[.int .i64 n] w fun e w' => e = .returned (.bool (inB n 0 63)) ∧ w = w' := by
  go_enter Try.func31, Try.ntmps31
  go_wp2_with (go_at_call 32; refine (l6In_any _ _ _ _).mono ?_; rintro e w' ⟨rfl, rfl⟩)
  go_ret
  exact ⟨rfl, rfl⟩
theorem Ac.cells_one (us : List G) : ∀ v ∈ us.flatMap Ac.cells, v.oneCell' = true := by
  intro v hv
  obtain ⟨u, _, hu⟩ := List.mem_flatMap.1 hv
  simp only [Ac.cells, List.mem_cons, List.not_mem_nil, or_false] at hu
  rcases hu with rfl | rfl <;> rfl
theorem Ac.at_of {w : World} {B : Nat} {A : Option Addr} {us : List G} (h : AtGrants w B A us) : At w B 2 Ac.cells A us := fun hl => by
  obtain ⟨g, off, ha, hlt, hc⟩ := h.1 hl
  refine ⟨g, off, ha, hlt, fun i u hu j v hv => ?_⟩
  obtain ⟨h1, h2⟩ := hc i u hu
  match j, hv with
  | 0, hv => simp [Ac.cells] at hv; subst hv; exact h1
  | 1, hv => simp [Ac.cells] at hv; subst hv; exact h2
  | j + 2, hv => simp [Ac.cells] at hv
theorem Ac.cells_one1 (u : G) : ∀ v ∈ Ac.cells u, v.oneCell' = true := by
  intro v hv
  simp only [Ac.cells, List.mem_cons, List.not_mem_nil, or_false] at hv
  rcases hv with rfl | rfl <;> rfl
/-- a slice of the call's own that holds these grants -/
abbrev Ac.Own (w : World) (B : Nat) (v : Value) (us : List G) : Prop := OwnL 34 2 Ac.cells w B v us

/-- what setting gives: the list, in memory of the call's own, and whether it was set -/
def Ac.Set (us : List G) (s : ByteArray) (r : Int) (w : World) (e : Ending) (w' : World) : Prop :=
  ∃ A c, e = .returned (.tuple #[.slice A (Ac.set us s r).1.length c, .bool (Ac.set us s r).2]) ∧ Ac.Own w' w.heap.size (.slice A (Ac.set us s r).1.length c) (Ac.set us s r).1 ∧ Below w.heap.size w w'
theorem Ac.Set.none {us : List G} {s : ByteArray} {r : Int} {w w1 : World} (h : Ac.set us s r = ([], false)) (hb : Below w.heap.size w w1) :
    Ac.Set us s r w (.returned (.tuple #[.slice (some ⟨w1.heap.size, 0, none⟩) 0 0, .bool false])) (w1.alloc (.cells #[] 34)) := by
  refine ⟨some ⟨w1.heap.size, 0, Option.none⟩, 0, by rw [h]; rfl, ?_, hb.alloc hb.size _⟩
  rw [h]
  exact ownL_nil w1 hb.size

set_option maxRecDepth 100000 in
set_option maxHeartbeats 3200000 in
theorem sAclSet_any (A : Option Addr) (us : List G) (c : Nat) (s : ByteArray) (r : Int) (w : World) (h : AtGrants w w.heap.size A us) (hn : us.length ≤ maxLen) (hs : s.size ≤ maxLen) :
    Calls Try.prog 11 #[.slice A us.length c, .string s, .int .i64 r] w (Ac.Set us s r w) := by
  go_enter Try.func11, Try.ntmps11
  go_wp2_with fail
  refine (sAclValid_any A us c _ h hn).mono ?_
  rintro e w1 ⟨rfl, hb1⟩
  cases n0 : Ac.aclOk us
  · have HF := Lib.hid (Ac.set_no1 (s := s) (r := r) n0)
    go_wp2_with fail
    go_ret2
    exact Ac.Set.none HF.out hb1
  · have HN0 := Lib.hid n0
    go_wp2_with fail
    refine (sNameValid_any _ _ hs).mono ?_
    rintro e w2 ⟨rfl, rfl⟩
    cases n1 : Nm.nameOk s.data.toList
    · have HF := Lib.hid (Ac.set_no2 (us := us) (r := r) n1)
      go_wp2_with fail
      go_ret2
      exact Ac.Set.none HF.out hb1
    · have HN1 := Lib.hid n1
      go_wp2_with fail
      refine (Ac.l13Rights_any r _).mono ?_
      rintro e w3 ⟨rfl, rfl⟩
      cases n2 : inB r 0 63
      · have HF := Lib.hid (Ac.set_no3 (us := us) (s := s) (inB_no.1 n2))
        go_wp2_with fail
        go_ret2
        exact Ac.Set.none HF.out hb1
      · have hr := inB_iff.1 n2
        obtain ⟨hl4, _, _⟩ := (Ac.aclOk_iff us).1 n0
        obtain ⟨i0, hi, hz0, hz1, hz2⟩ := info_parts grant_info
        clear n0 n1 n2
        go_wp2_with fail
        go_loopg [8, 9, 10] us.length (fun g v p i wr => ∃ k : Nat, k ≤ us.length ∧ Hid (g = us.length - k) ∧ i = .int .i64 k ∧ p = .bool (Ac.put us s r k).2 ∧ Hid (Ac.Own wr w.heap.size v (Ac.put us s r k).1) ∧ Below w.heap.size w wr)
        case atStart => exact ⟨0, Nat.zero_le _, Lib.hid rfl, rfl, rfl, Lib.hid (ownL_nil w1 hb1.size), hb1.alloc hb1.size _⟩
        case round =>
          obtain ⟨k, hk, HG, rfl, rfl, HO, hb⟩ := hrel
          by_cases hlt : k < us.length
          · obtain ⟨g, off, rfl, hg, hc⟩ := (h.below hb).1 (by omega)
            obtain ⟨u, hu⟩ : ∃ u, us[k]? = some u := ⟨_, List.getElem?_eq_getElem hlt⟩
            obtain ⟨c1, c2⟩ := hc k u hu
            have HS := Lib.hid (Ac.put_succ (s := s) (r := r) hu)
            have HP := Lib.hid (Ac.put_le us s r k hk)
            clear hc hu
            obtain ⟨wo, rfl⟩ : ∃ wo : World, wo = wr := ⟨_, rfl⟩
            obtain ⟨l, p, hx⟩ : ∃ l p, Ac.put us s r k = (l, p) := ⟨_, _, rfl⟩
            rw [hx] at HO HS HP
            rw [hx]
            clear hx
            have hBo := hb.size
            have HL1 : Hid (l.length + 1 ≤ maxLen) := Lib.hid (by have := HP.out; unfold maxLen; simp only at this; omega)
            have HL2 : Hid ((l.length + 1) * 24 ≤ 140737488355328) := Lib.hid (by have := HP.out; simp only at this; omega)
            obtain ⟨l2, hl2⟩ : ∃ l2, l ++ [(⟨s, r⟩ : G)] = l2 := ⟨_, rfl⟩
            have HLE := Lib.hid hl2
            have HL3 : Hid (l2.length + 1 ≤ maxLen) := Lib.hid (by have := HP.out; rw [← hl2]; unfold maxLen; rw [List.length_append]; simp only [List.length_singleton] at this ⊢; omega)
            have HL4 : Hid ((l2.length + 1) * 24 ≤ 140737488355328) := Lib.hid (by have := HP.out; rw [← hl2, List.length_append]; simp only [List.length_singleton] at this ⊢; omega)
            clear hl2
            cases hs0 : (u.user.toList == s.toList)
            · cases hp : p
              · cases hge : Op.bytesLess u.user.toList s.toList
                · have HF := Lib.hid (Ac.step_put_new (x := (l, false)) (r := r) (u := u) (s := s) (by show (!false && !(slt u.user s)) = true; unfold slt; rw [hge]; rfl) hs0)
                  subst hp
                  go_wp2_with (first | (at_builtin; refine wpList_snoc _ rfl (.tmp 45) (.tmp 49) _ rfl 34 i0 _ 2 24 Try.underlying23 hi hz0 hz1 hz2 rfl (by omega) Ac.cells Ac.cells_len Ac.cells_one1 w.heap.size _ l ⟨s, r⟩ rfl HO.out _ rfl rfl HL1.out HL2.out hBo ?_; intro v1 wx hown1 hbx hg1; rw [HLE.out] at hown1; have d1 := (hbx.cell (p := ⟨g, off + k * 2, none⟩) hg).trans c1; have d2 := (hbx.cell (p := ⟨g, off + k * 2 + 1, none⟩) hg).trans c2; have HO1 := Lib.hid hown1; have HB1 := Lib.hid (Nat.le_trans hBo hbx.size); clear hown1 hg1) | (at_builtin; refine wpList_snoc _ rfl (.tmp 58) (.tmp 63) _ rfl 34 i0 _ 2 24 Try.underlying23 hi hz0 hz1 hz2 rfl (by omega) Ac.cells Ac.cells_len Ac.cells_one1 w.heap.size _ l2 u rfl HO1.out _ rfl rfl HL3.out HL4.out HB1.out ?_; intro v2 wy hown2 hby hg2; have HO2 := Lib.hid hown2; clear hown2 hg2))
                  go_roundg (us.length - (k + 1))
                  case measure => have := HG.out; omega
                  case rel => exact ⟨k + 1, by omega, Lib.hid rfl, by go_num, by rw [HS.out, HF.out], Lib.hid (by rw [HS.out, HF.out]; show Ac.Own _ _ _ (l ++ [(⟨s, r⟩ : G)] ++ [u]); rw [HLE.out]; exact HO2.out), (hb.trans hbx).trans hby⟩
                · have HF := Lib.hid (Ac.step_keep_new (x := (l, false)) (r := r) (u := u) (s := s) (by show (!false && !(slt u.user s)) = false; unfold slt; rw [hge]; rfl) hs0)
                  subst hp
                  go_wp2_with (first | (at_builtin; refine wpList_snoc _ rfl (.tmp 58) (.tmp 63) _ rfl 34 i0 _ 2 24 Try.underlying23 hi hz0 hz1 hz2 rfl (by omega) Ac.cells Ac.cells_len Ac.cells_one1 w.heap.size _ l u rfl HO.out _ rfl rfl HL1.out HL2.out hBo ?_; intro v2 wy hown2 hby hg2; have HO2 := Lib.hid hown2; clear hown2 hg2))
                  go_roundg (us.length - (k + 1))
                  case measure => have := HG.out; omega
                  case rel => exact ⟨k + 1, by omega, Lib.hid rfl, by go_num, by rw [HS.out, HF.out], Lib.hid (by rw [HS.out, HF.out]; exact HO2.out), hb.trans hby⟩
              · have HF := Lib.hid (Ac.step_keep_new (x := (l, true)) (r := r) (u := u) (s := s) (rfl) hs0)
                subst hp
                go_wp2_with (first | (at_builtin; refine wpList_snoc _ rfl (.tmp 58) (.tmp 63) _ rfl 34 i0 _ 2 24 Try.underlying23 hi hz0 hz1 hz2 rfl (by omega) Ac.cells Ac.cells_len Ac.cells_one1 w.heap.size _ l u rfl HO.out _ rfl rfl HL1.out HL2.out hBo ?_; intro v2 wy hown2 hby hg2; have HO2 := Lib.hid hown2; clear hown2 hg2))
                go_roundg (us.length - (k + 1))
                case measure => have := HG.out; omega
                case rel => exact ⟨k + 1, by omega, Lib.hid rfl, by go_num, by rw [HS.out, HF.out], Lib.hid (by rw [HS.out, HF.out]; exact HO2.out), hb.trans hby⟩
            · cases hp : p
              · cases hge : Op.bytesLess u.user.toList s.toList
                · have HF := Lib.hid (Ac.step_put_same (x := (l, false)) (r := r) (u := u) (s := s) (by show (!false && !(slt u.user s)) = true; unfold slt; rw [hge]; rfl) hs0)
                  subst hp
                  go_wp2_with (first | (at_builtin; refine wpList_snoc _ rfl (.tmp 45) (.tmp 49) _ rfl 34 i0 _ 2 24 Try.underlying23 hi hz0 hz1 hz2 rfl (by omega) Ac.cells Ac.cells_len Ac.cells_one1 w.heap.size _ l ⟨s, r⟩ rfl HO.out _ rfl rfl HL1.out HL2.out hBo ?_; intro v1 wx hown1 hbx hg1; rw [HLE.out] at hown1; have d1 := (hbx.cell (p := ⟨g, off + k * 2, none⟩) hg).trans c1; have d2 := (hbx.cell (p := ⟨g, off + k * 2 + 1, none⟩) hg).trans c2; have HO1 := Lib.hid hown1; have HB1 := Lib.hid (Nat.le_trans hBo hbx.size); clear hown1 hg1))
                  go_roundg (us.length - (k + 1))
                  case measure => have := HG.out; omega
                  case rel => exact ⟨k + 1, by omega, Lib.hid rfl, by go_num, by rw [HS.out, HF.out], Lib.hid (by rw [HS.out, HF.out]; show Ac.Own _ _ _ (l ++ [(⟨s, r⟩ : G)]); rw [HLE.out]; exact HO1.out), hb.trans hbx⟩
                · have HF := Lib.hid (Ac.step_keep_same (x := (l, false)) (r := r) (u := u) (s := s) (by show (!false && !(slt u.user s)) = false; unfold slt; rw [hge]; rfl) hs0)
                  subst hp
                  go_wp2_with fail
                  go_roundg (us.length - (k + 1))
                  case measure => have := HG.out; omega
                  case rel => exact ⟨k + 1, by omega, Lib.hid rfl, by go_num, by rw [HS.out, HF.out], Lib.hid (by rw [HS.out, HF.out]; exact HO.out), hb⟩
              · have HF := Lib.hid (Ac.step_keep_same (x := (l, true)) (r := r) (u := u) (s := s) (rfl) hs0)
                subst hp
                go_wp2_with fail
                go_roundg (us.length - (k + 1))
                case measure => have := HG.out; omega
                case rel => exact ⟨k + 1, by omega, Lib.hid rfl, by go_num, by rw [HS.out, HF.out], Lib.hid (by rw [HS.out, HF.out]; exact HO.out), hb⟩
          · obtain rfl : k = us.length := by omega
            have hBo := hb.size
            have hmem := Ac.build_mem us s r
            have hlen := Ac.build_len us s r
            have HLB : Hid ((Ac.build us s r).length ≤ maxLen) := Lib.hid (by unfold maxLen; omega)
            have HSZ : Hid (∀ u ∈ Ac.build us s r, u.user.size ≤ maxLen) := Lib.hid fun u hu => by
              rcases hmem u hu with h1 | rfl
              · exact h.2 u h1
              · exact hs
            have HP := Lib.hid (Ac.put_le us s r us.length (Nat.le_refl _))
            obtain ⟨l, p, hx⟩ : ∃ l p, Ac.put us s r us.length = (l, p) := ⟨_, _, rfl⟩
            have HX := Lib.hid hx
            rw [hx] at HO HP
            rw [hx]
            clear hx
            obtain ⟨bs, hbs⟩ : ∃ bs, Ac.build us s r = bs := ⟨_, rfl⟩
            rw [hbs] at HLB HSZ
            have HBS := Lib.hid hbs
            clear hbs hmem hlen
            cases hp : p
            · subst hp
              have HBL : Hid (l ++ [(⟨s, r⟩ : G)] = bs) := Lib.hid (by rw [← HBS.out, Ac.build_no (by rw [HX.out]), HX.out])
              have HL1 : Hid (l.length + 1 ≤ maxLen) := Lib.hid (by have := HP.out; unfold maxLen; simp only at this; omega)
              have HL2 : Hid ((l.length + 1) * 24 ≤ 140737488355328) := Lib.hid (by have := HP.out; simp only at this; omega)
              go_upto_region 15 with (first | (at_builtin; refine wpList_snoc _ rfl (.tmp 67) (.tmp 71) _ rfl 34 i0 _ 2 24 Try.underlying23 hi hz0 hz1 hz2 rfl (by omega) Ac.cells Ac.cells_len Ac.cells_one1 w.heap.size _ l ⟨s, r⟩ rfl HO.out _ rfl rfl HL1.out HL2.out hBo ?_; intro v1 wx hown1 hbx hg1; rw [HBL.out] at hown1; clear hg1))
              obtain ⟨A1, n1, rfl, hc1, hc1'⟩ := OwnL.form hown1
              have HAT := Lib.hid (at_grants (OwnL.at_ hown1 Ac.cells_len rfl) HSZ.out)
              have HO2 := Lib.hid hown1
              go_wp2_with fail
              refine (sAclValid_any A1 bs n1 _ HAT.out HLB.out).mono ?_
              rintro e w5 ⟨rfl, hb5⟩
              have hB5 := (hb.trans hbx).trans (hb5.mono (hb.trans hbx).size)
              cases nb : Ac.aclOk bs
              · have HF : Hid (Ac.set us s r = (us, false)) := Lib.hid (Ac.set_full HN0.out HN1.out hr (by rw [HBS.out]; exact nb))
                have HA5 := Lib.hid (Ac.at_of ((h.below hB5).below ((Below.refl w.heap.size w5).alloc hB5.size (.cells #[] 34))))
                have HO5 : Hid (Ac.Own (w5.alloc (.cells #[] 34)) w.heap.size (.slice (some ⟨w5.heap.size, 0, none⟩) 0 0) []) := Lib.hid (ownL_nil w5 hB5.size)
                have HM1 : Hid (([] : List G).length + us.length ≤ maxLen) := Lib.hid (by unfold maxLen; simp; omega)
                have HM2 : Hid ((([] : List G).length + us.length) * 24 ≤ 140737488355328) := Lib.hid (by simp; omega)
                have HM3 : Hid (w.heap.size ≤ (w5.alloc (.cells #[] 34)).heap.size) := Lib.hid (Nat.le_trans hB5.size (by simp))
                go_wp2_with (first | (at_builtin; refine wpList_join _ rfl (.tmp 76) (.tmp 77) _ rfl 34 i0 _ 2 24 Try.underlying23 hi hz0 hz1 hz2 rfl (by omega) Ac.cells Ac.cells_len Ac.cells_one1 w.heap.size _ [] rfl HO5.out w.heap.size A us us.length c rfl rfl HA5.out HM1.out HM2.out HM3.out ?_; intro v7 w7 hown7 hb7 hg7; have HO7 := Lib.hid hown7; clear hown7 hg7))
                go_ret2
                have ho7 := HO7.out
                rw [List.nil_append] at ho7
                obtain ⟨A7, c7, e7, _, _⟩ := OwnL.form ho7
                refine ⟨A7, c7, ?_, ?_, (hB5.alloc hB5.size _).trans hb7⟩
                · rw [HF.out, ← e7]; rfl
                · rw [HF.out]; rw [e7] at ho7; exact ho7
              · have HF : Hid (Ac.set us s r = (bs, true)) := Lib.hid (by rw [Ac.set_yes HN0.out HN1.out hr (by rw [HBS.out]; exact nb), HBS.out])
                go_wp2_with fail
                go_ret2
                refine ⟨A1, n1, ?_, ?_, hB5⟩
                · rw [HF.out]; rfl
                · rw [HF.out]; exact OwnL.below HO2.out hb5
            · subst hp
              have HBL : Hid (l = bs) := Lib.hid (by rw [← HBS.out, Ac.build_yes (by rw [HX.out]), HX.out])
              have hown1 : Ac.Own wr w.heap.size u8 bs := by rw [← HBL.out]; exact HO.out
              go_upto_region 15 with fail
              obtain ⟨A1, n1, rfl, hc1, hc1'⟩ := OwnL.form hown1
              have HAT := Lib.hid (at_grants (OwnL.at_ hown1 Ac.cells_len rfl) HSZ.out)
              have HO2 := Lib.hid hown1
              go_wp2_with fail
              refine (sAclValid_any A1 bs n1 _ HAT.out HLB.out).mono ?_
              rintro e w5 ⟨rfl, hb5⟩
              have hB5 := (hb).trans (hb5.mono (hb).size)
              cases nb : Ac.aclOk bs
              · have HF : Hid (Ac.set us s r = (us, false)) := Lib.hid (Ac.set_full HN0.out HN1.out hr (by rw [HBS.out]; exact nb))
                have HA5 := Lib.hid (Ac.at_of ((h.below hB5).below ((Below.refl w.heap.size w5).alloc hB5.size (.cells #[] 34))))
                have HO5 : Hid (Ac.Own (w5.alloc (.cells #[] 34)) w.heap.size (.slice (some ⟨w5.heap.size, 0, none⟩) 0 0) []) := Lib.hid (ownL_nil w5 hB5.size)
                have HM1 : Hid (([] : List G).length + us.length ≤ maxLen) := Lib.hid (by unfold maxLen; simp; omega)
                have HM2 : Hid ((([] : List G).length + us.length) * 24 ≤ 140737488355328) := Lib.hid (by simp; omega)
                have HM3 : Hid (w.heap.size ≤ (w5.alloc (.cells #[] 34)).heap.size) := Lib.hid (Nat.le_trans hB5.size (by simp))
                go_wp2_with (first | (at_builtin; refine wpList_join _ rfl (.tmp 76) (.tmp 77) _ rfl 34 i0 _ 2 24 Try.underlying23 hi hz0 hz1 hz2 rfl (by omega) Ac.cells Ac.cells_len Ac.cells_one1 w.heap.size _ [] rfl HO5.out w.heap.size A us us.length c rfl rfl HA5.out HM1.out HM2.out HM3.out ?_; intro v7 w7 hown7 hb7 hg7; have HO7 := Lib.hid hown7; clear hown7 hg7))
                go_ret2
                have ho7 := HO7.out
                rw [List.nil_append] at ho7
                obtain ⟨A7, c7, e7, _, _⟩ := OwnL.form ho7
                refine ⟨A7, c7, ?_, ?_, (hB5.alloc hB5.size _).trans hb7⟩
                · rw [HF.out, ← e7]; rfl
                · rw [HF.out]; rw [e7] at ho7; exact ho7
              · have HF : Hid (Ac.set us s r = (bs, true)) := Lib.hid (by rw [Ac.set_yes HN0.out HN1.out hr (by rw [HBS.out]; exact nb), HBS.out])
                go_wp2_with fail
                go_ret2
                refine ⟨A1, n1, ?_, ?_, hB5⟩
                · rw [HF.out]; rfl
                · rw [HF.out]; exact OwnL.below HO2.out hb5

end Go.Proofs.Ytkmaandeljancaa
