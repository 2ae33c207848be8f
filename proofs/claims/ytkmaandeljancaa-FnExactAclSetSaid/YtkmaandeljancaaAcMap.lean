/- aclMap and AclValid of the program. -/
import Derived.Test.YtkmaandeljancaaAcW
import Derived.Maps.Own
import Derived.StringKeys
import Derived.WalkArith
import Derived.Deep.LoopGhost
namespace Go.Proofs.Ytkmaandeljancaa
set_option linter.unusedVariables false
open Go.RowKit Go.Maps
open Ac (G)

set_option maxHeartbeats 800000 in
theorem Ac.rightsValid_any (n : Int) (w : World) :
    Calls Try.prog 29 #[.int .i64 n] w fun e w' => e = .returned (.bool (inB n 0 63)) ∧ w = w' := by
  by_cases h1 : 0 ≤ n
  · by_cases h2 : n ≤ 63
    · go_enter Try.func29, Try.ntmps29
      go_wp2
      go_ret
      exact ⟨by rw [inB_iff.2 ⟨h1, h2⟩]; rfl, rfl⟩
    · go_enter Try.func29, Try.ntmps29
      go_wp2
      go_ret
      exact ⟨by rw [inB_no.2 (by omega)]; rfl, rfl⟩
  · go_enter Try.func29, Try.ntmps29
    go_wp2
    go_ret
    exact ⟨by rw [inB_no.2 (by omega)]; rfl, rfl⟩

theorem Ac.law : Keyed Try.prog 9 := string_keyed Try.underlying9
/-- what the map reads as after k grants -/
def Ac.mapD (us : List G) (k : Nat) : DataW Unit := (us.take k).foldl (fun D u => D.put (.string u.user.data.toList) (.lit (.int .i64 u.rights))) (.map [])
theorem Ac.mapD_succ {us : List G} {k : Nat} {u : G} (h : us[k]? = some u) : Ac.mapD us (k + 1) = (Ac.mapD us k).put (.string u.user.data.toList) (.lit (.int .i64 u.rights)) := by
  unfold Ac.mapD
  rw [List.take_add_one, h]
  simp
abbrev Ac.Map (w : World) (b n : Nat) (D : DataW Unit) : Prop := w.ownsMap Try.prog 9 (plainElem Try.prog 3) b n D
theorem Ac.Map.below {w w' : World} {b n : Nat} {D : DataW Unit} (h : Ac.Map w b n D) (hb : Below w.heap.size w w') : Ac.Map w' b n D :=
  World.ownsMap.kept (row := none) h ⟨hb.os, hb.tape, hb.output, hb.size, fun i hi _ => hb.block i hi⟩ (by simp)

set_option maxRecDepth 100000 in
set_option maxHeartbeats 1600000 in
theorem aclMap_any (A : Option Addr) (us : List G) (c : Nat) (w : World) (h : AtGrants w w.heap.size A us) (hn : us.length ≤ maxLen) :
    Calls Try.prog 27 #[.slice A us.length c] w fun e w' => ∃ m, e = .returned (.tuple #[.map m, .bool (Ac.aclOk us)]) ∧ Below w.heap.size w w' ∧ (Ac.aclOk us = true → ∃ b, m = some b ∧ w.heap.size ≤ b ∧ Ac.Map w' b us.length (Ac.mapD us us.length)) := by
  unfold maxLen at hn
  by_cases hl4 : 4 < us.length
  · have HF := Lib.hid (Ac.aclOk_size (us := us) (by omega))
    go_enter Try.func27, Try.ntmps27
    go_wp2
    go_ret2
    exact ⟨none, by rw [HF.out]; rfl, Below.refl _ _, fun h => by rw [HF.out] at h; cases h⟩
  have hmm := @run_makeMap Try.prog
  go_enter Try.func27, Try.ntmps27
  go_wp2_with fail
  go_loopg [5, 14] us.length (fun gg bf i wr => ∃ k : Nat, k ≤ us.length ∧ Hid (gg = us.length - k) ∧ i = .int .i64 k ∧ bf = .string (Ac.prevName us k) ∧ Hid (Ac.okTo us k = true) ∧ Hid (Ac.Map wr w.heap.size k (Ac.mapD us k)) ∧ Below w.heap.size w wr)
  case atStart => exact ⟨0, Nat.zero_le _, Lib.hid rfl, rfl, rfl, Lib.hid rfl, Lib.hid (World.ownsMap_made _ _ _ _), by go_grown⟩
  case round =>
    obtain ⟨k, hk, HG, rfl, rfl, HO, HM, hb⟩ := hrel
    by_cases hlt : k < us.length
    · obtain ⟨g, off, rfl, hg, hc⟩ := (h.below hb).1 (by omega)
      obtain ⟨u, hu⟩ : ∃ u, us[k]? = some u := ⟨_, List.getElem?_eq_getElem hlt⟩
      obtain ⟨c1, c2⟩ := hc k u hu
      have z1 := h.2 u (List.mem_of_getElem? hu)
      have HU := Lib.hid hu
      clear hu hc
      obtain ⟨wo, rfl⟩ : ∃ wo : World, wo = wr := ⟨_, rfl⟩
      go_wp2_with fail
      refine (iNameValid_any _ _ z1).mono ?_
      rintro e w1 ⟨rfl, hb1⟩
      have hbx := boxed hb1
      have d0 : w1.cell? ⟨wo.heap.size, 0, none⟩ = some (.string u.user) := cell_at hbx 0 _ rfl
      have d1 : w1.cell? ⟨wo.heap.size, 1, none⟩ = some (.int .i64 u.rights) := cell_at hbx 1 _ rfl
      have HM1 := Lib.hid (Ac.Map.below HM.out (unbox hb1))
      clear hbx c1 c2
      have hB := hb.trans ((unbox hb1).mono hb.size)
      cases hv : Nm.nameOk u.user.data.toList
      · have HF : Hid (Ac.aclOk us = false) := Lib.hid (Ac.aclOk_stop hlt (Ac.itemOk_bad HU.out (Ac.valid_no1 hv)))
        go_wp2_with fail
        go_ret2
        exact ⟨none, by rw [HF.out]; rfl, hB, fun h => by rw [HF.out] at h; cases h⟩
      · have hcmp := sle_eq u.user (Ac.prevName us k)
        cases hs : slt (Ac.prevName us k) u.user
        · have HF : Hid (Ac.aclOk us = false) := Lib.hid (Ac.aclOk_stop hlt (Ac.itemOk_less HU.out hs))
          rw [hs] at hcmp
          go_wp2_with fail
          go_ret2
          exact ⟨none, by rw [HF.out]; rfl, hB, fun h => by rw [HF.out] at h; cases h⟩
        · rw [hs] at hcmp
          by_cases hr1 : u.rights < 1
          · have HF : Hid (Ac.aclOk us = false) := Lib.hid (Ac.aclOk_stop hlt (Ac.itemOk_bad HU.out (Ac.valid_no4 (by omega))))
            go_wp2_with fail
            go_ret2
            exact ⟨none, by rw [HF.out]; rfl, hB, fun h => by rw [HF.out] at h; cases h⟩
          · have hr1b : decide (u.rights < 1) = false := by simp; omega
            go_wp2_with fail
            refine (Ac.rightsValid_any u.rights _).mono ?_
            rintro e w2 ⟨rfl, rfl⟩
            cases hr2 : inB u.rights 0 63
            · have HF : Hid (Ac.aclOk us = false) := Lib.hid (Ac.aclOk_stop hlt (Ac.itemOk_bad HU.out (Ac.valid_no4 (by have := inB_no.1 hr2; omega))))
              go_wp2_with fail
              go_ret2
              exact ⟨none, by rw [HF.out]; rfl, hB, fun h => by rw [HF.out] at h; cases h⟩
            · have hrr := inB_iff.1 hr2
              have HE := Lib.hid (Ac.itemOk_prev HU.out (Ac.valid_of hv (by omega)))
              have HK : Hid (Ac.okTo us (k + 1) = true) := Lib.hid (by rw [Ac.okTo_succ, HO.out, HE.out, hs]; rfl)
              have HP := Lib.hid (Ac.prevName_succ HU.out)
              have hwf : (Lit.int .i64 u.rights).wf = true := WalkArith.wf_i64 (by omega)
              have HW := Lib.hid hwf
              have hltm : w.heap.size < wo.heap.size := World.ownsMap.lt HM.out
              have hltw : wo.heap.size < w1.heap.size := by have := hb1.size; simp at this; omega
              have HD : Hid (∀ w', w1.grownBy w' (some w.heap.size) → w'.cell? ⟨wo.heap.size, 0, none⟩ = some (.string u.user)) := Lib.hid fun w' hg => by
                rw [World.cell?_of_block (hg.block wo.heap.size hltw (by intro e; injection e with e; omega))]; exact d0
              clear hwf hs
              go_wp2_with (first | (at_mapUpdate; refine wpList_mapUpdate_own _ rfl _ _ _ 46 rfl 9 3 Ac.law Try.underlying46 _ w.heap.size k _ rfl HM1.out (by unfold maxLen; omega) _ _ _ rfl rfl (WideMaps.keyOf_string_mk Try.underlying9 z1) _ [] (plainElem_int Try.underlying3 HW.out) ?_; intro w3 hown3 hgr3; have d3 := HD.out _ hgr3) | fail)
              have HM3 := Lib.hid hown3
              have hB3 : Below w.heap.size w w3 := hB.grown hgr3 hB.size (by intro q hq; have hq : w.heap.size = q := Option.some.inj hq; omega)
              clear hown3 hgr3
              go_roundg (us.length - (k + 1))
              case measure => have := HG.out; omega
              case rel => exact ⟨k + 1, by omega, Lib.hid rfl, by go_num, by rw [HP.out], HK, Lib.hid (by rw [Ac.mapD_succ HU.out]; exact HM3.out), hB3⟩
    · obtain rfl : k = us.length := by omega
      have HF : Hid (Ac.aclOk us = true) := Lib.hid (by rw [Ac.aclOk_all HO.out]; simp; omega)
      go_wp2_with fail
      go_ret2
      exact ⟨some w.heap.size, by rw [HF.out]; rfl, hb, fun _ => ⟨_, rfl, Nat.le_refl _, HM.out⟩⟩

set_option maxHeartbeats 800000 in
theorem iAclValid_any (A : Option Addr) (us : List G) (c : Nat) (w : World) (h : AtGrants w w.heap.size A us) (hn : us.length ≤ maxLen) :
    Calls Try.prog 21 #[.slice A us.length c] w fun e w' => e = .returned (.bool (Ac.aclOk us)) ∧ Below w.heap.size w w' := by
  go_enter Try.func21, Try.ntmps21
  go_wp2_with fail
  refine (aclMap_any A us c _ h hn).mono ?_
  rintro e w1 ⟨m, rfl, hb, _⟩
  go_wp2_with fail
  go_ret
  exact ⟨rfl, hb⟩

end Go.Proofs.Ytkmaandeljancaa
