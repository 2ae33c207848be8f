/- UsA: UsW UsW2 UsSeq UsFind UsFind2 UsDraw UsProve UsDraw2, in one text. -/
import Derived.Test.YtpjifcljkgcnlaaGreatDoorPl
import Derived.Test.YtpjifcljkgcnlaaGreatDoorRx
import Derived.Test.YtpjifcljkgcnlaaGreatDoorKt
namespace Go.Proofs.YtpjifcljkgcnlaaGreatDoor
set_option linter.unusedVariables false
open Go.RowKit
open Us (U)

/-- a slice of users that reads as a list, below block B -/
def AtUsers (w : World) (B : Nat) (A : Option Addr) (us : List U) : Prop :=
  (0 < us.length → ∃ g off, A = some ⟨g, off, none⟩ ∧ g < B ∧ ∀ i u, us[i]? = some u →
    w.cell? ⟨g, off + i * 3, none⟩ = some (.string u.name) ∧ w.cell? ⟨g, off + i * 3 + 1, none⟩ = some (.string u.pass) ∧ w.cell? ⟨g, off + i * 3 + 2, none⟩ = some (.int .i64 u.quota)) ∧
  ∀ u ∈ us, u.name.size ≤ maxLen ∧ u.pass.size ≤ maxLen
section
variable {w w' : World} {B : Nat} {A : Option Addr} {us : List U}
theorem AtUsers.keep (h : AtUsers w B A us) (hB : ∀ i, i < B → w'.heap[i]? = w.heap[i]?) : AtUsers w' B A us := by
  refine ⟨fun hl => ?_, h.2⟩
  obtain ⟨g, off, ha, hlt, hc⟩ := h.1 hl
  refine ⟨g, off, ha, hlt, fun i u hu => ?_⟩
  obtain ⟨h1, h2, h3⟩ := hc i u hu
  exact ⟨by rw [World.cell?_of_block (hB g hlt)]; exact h1, by rw [World.cell?_of_block (hB g hlt)]; exact h2, by rw [World.cell?_of_block (hB g hlt)]; exact h3⟩
theorem AtUsers.below (h : AtUsers w B A us) (k : Below B w w') : AtUsers w' B A us := h.keep k.block
theorem AtUsers.mono (h : AtUsers w B A us) {B' : Nat} (hB : B ≤ B') : AtUsers w B' A us := by
  refine ⟨fun hl => ?_, h.2⟩
  obtain ⟨g, off, ha, hlt, hc⟩ := h.1 hl
  exact ⟨g, off, ha, by omega, hc⟩
end

theorem sName_q (s : ByteArray) (w : World) (hs : s.size ≤ maxLen) :
    Calls Tryz.prog 34 #[.string s] w fun e w' => e = .returned (.bool (Nm.nameOk s.data.toList)) ∧ w' = w :=
  (sNameValid_any s w hs).mono fun _ _ h => ⟨h.1, h.2.symm⟩
theorem l6In_q (n lo hi : Int) (w : World) :
    Calls Tryz.prog 35 #[.int .i64 n, .int .i64 lo, .int .i64 hi] w fun e w' => e = .returned (.bool (inB n lo hi)) ∧ w' = w :=
  (l6In_any n lo hi w).mono fun _ _ h => ⟨h.1, h.2.symm⟩

set_option maxHeartbeats 1600000 in
theorem userValid_any (u : U) (w : World) (h1 : u.name.size ≤ maxLen) (h2 : u.pass.size ≤ maxLen) :
    Calls Tryz.prog 44 #[.agg #[.string u.name, .string u.pass, .int .i64 u.quota]] w fun e w' => e = .returned (.bool (Us.valid u)) ∧ Below w.heap.size w w' := by
  cases n1 : Nm.nameOk u.name.data.toList
  · have HF := Lib.hid (Us.valid_no1 n1)
    go_enter Tryz.func44, Tryz.ntmps44
    go_wp2_with (go_at_call 54; refine (iNameValid_any _ _ h1).mono ?_; rintro e w1 ⟨rfl, hb1⟩)
    go_ret
    exact ⟨by rw [HF.out]; rfl, unbox hb1⟩
  · go_enter Tryz.func44, Tryz.ntmps44
    go_wp2_with fail
    refine (iNameValid_any _ _ h1).mono ?_
    rintro e w1 ⟨rfl, hb1⟩
    have hbx := boxed hb1
    have d0 : w1.cell? ⟨w.heap.size, 0, none⟩ = some (.string u.name) := cell_at hbx 0 _ rfl
    have d1 : w1.cell? ⟨w.heap.size, 1, none⟩ = some (.string u.pass) := cell_at hbx 1 _ rfl
    have HBX := Lib.hid hbx
    clear hbx
    by_cases n2 : u.name.toList = [97, 110, 121, 111, 110, 101]
    · have HF := Lib.hid (Us.valid_no2 (u := u) (by simpa using n2))
      go_wp2_with fail
      go_ret
      exact ⟨by rw [HF.out]; rfl, unbox hb1⟩
    · have n2b : (u.name.toList == [97, 110, 121, 111, 110, 101]) = false := by simpa using n2
      cases n3 : Nm.nameOk u.pass.data.toList
      · have HF := Lib.hid (Us.valid_no3 n3)
        go_wp2_with (go_at_call 54; refine (iNameValid_any _ _ h2).mono ?_; rintro e w2 ⟨rfl, hb2⟩)
        go_ret
        exact ⟨by rw [HF.out]; rfl, unbox (hb1.trans (hb2.mono hb1.size))⟩
      · go_wp2_with fail
        refine (iNameValid_any _ _ h2).mono ?_
        rintro e w2 ⟨rfl, hb2⟩
        have d2 : w2.cell? ⟨w.heap.size, 2, none⟩ = some (.int .i64 u.quota) := cell_at (boxed (hb1.trans (hb2.mono hb1.size))) 2 _ rfl
        by_cases n4 : 0 ≤ u.quota
        · by_cases n5 : u.quota ≤ 200
          · have HF := Lib.hid (Us.valid_of n1 n2b n3 ⟨n4, n5⟩)
            go_wp2_with fail
            go_ret
            exact ⟨by rw [HF.out]; rfl, unbox (hb1.trans (hb2.mono hb1.size))⟩
          · have HF := Lib.hid (Us.valid_no4 (u := u) (by omega))
            have n5b : decide (u.quota ≤ 200) = false := by simp; omega
            go_wp2_with fail
            go_ret
            exact ⟨by rw [HF.out]; rfl, unbox (hb1.trans (hb2.mono hb1.size))⟩
        · have HF := Lib.hid (Us.valid_no4 (u := u) (by omega))
          go_wp2_with fail
          go_ret
          exact ⟨by rw [HF.out]; rfl, unbox (hb1.trans (hb2.mono hb1.size))⟩

set_option maxRecDepth 100000 in
set_option maxHeartbeats 1600000 in
theorem sUsersValid_any (A : Option Addr) (us : List U) (c : Nat) (w : World) (h : AtUsers w w.heap.size A us) (hn : us.length ≤ maxLen) :
    Calls Tryz.prog 21 #[.slice A us.length c] w fun e w' => e = .returned (.bool (Us.usersOk us)) ∧ Below w.heap.size w w' := by
  unfold maxLen at hn
  go_enter Tryz.func21, Tryz.ntmps21
  go_wp2_with fail
  go_loopg [3] us.length (fun g i wr => ∃ k : Nat, k ≤ us.length ∧ Hid (g = us.length - k) ∧ i = .int .i64 k ∧ Hid (Us.okTo us k = true) ∧ Below w.heap.size w wr)
  case atStart => exact ⟨0, Nat.zero_le _, Lib.hid rfl, rfl, Lib.hid rfl, Below.refl _ _⟩
  case round =>
    obtain ⟨k, hk, HG, rfl, HO, hb⟩ := hrel
    by_cases hlt : k < us.length
    · obtain ⟨g, off, rfl, hg, hc⟩ := (h.below hb).1 (by omega)
      obtain ⟨u, hu⟩ : ∃ u, us[k]? = some u := ⟨_, List.getElem?_eq_getElem hlt⟩
      obtain ⟨c1, c2, c3⟩ := hc k u hu
      obtain ⟨z1, z2⟩ := h.2 u (List.mem_of_getElem? hu)
      have HU := Lib.hid hu
      have HC := Lib.hid hc
      clear hu hc
      obtain ⟨wo, rfl⟩ : ∃ wo : World, wo = wr := ⟨_, rfl⟩
      have hgs : g ≠ wo.heap.size := by have := hb.size; omega
      have hitem : ∀ v : Bool, Us.valid u = v → v = false → Us.itemOk us k = false := by
        intro v hv hf
        unfold Us.itemOk
        rw [HU.out]; simp [hv, hf]
      have HI := Lib.hid hitem
      clear hitem
      cases n1 : Nm.nameOk u.name.data.toList
      · have HF : Hid (Us.usersOk us = false) := Lib.hid (Us.usersOk_stop hlt (HI.out _ (Us.valid_no1 n1) rfl))
        go_wp2_with fail
        go_quiet ((first | (go_at_call 34; exact Calls.quiet_of_same (sName_q _ _ (by assumption))) | (go_at_call 35; exact Calls.quiet_of_same (l6In_q _ _ _ _))))
        go_wp2_with fail
        go_ret
        exact ⟨by rw [HF.out]; rfl, below_drewN (hb.alloc hb.size _) _⟩
      · by_cases n2 : u.name.toList = [97, 110, 121, 111, 110, 101]
        · have HF : Hid (Us.usersOk us = false) := Lib.hid (Us.usersOk_stop hlt (HI.out _ (Us.valid_no2 (by simpa using n2)) rfl))
          go_wp2_with fail
          go_quiet ((first | (go_at_call 34; exact Calls.quiet_of_same (sName_q _ _ (by assumption))) | (go_at_call 35; exact Calls.quiet_of_same (l6In_q _ _ _ _))))
          go_wp2_with fail
          go_ret
          exact ⟨by rw [HF.out]; rfl, below_drewN (hb.alloc hb.size _) _⟩
        · have n2b : (u.name.toList == [97, 110, 121, 111, 110, 101]) = false := by simpa using n2
          cases n3 : Nm.nameOk u.pass.data.toList
          · have HF : Hid (Us.usersOk us = false) := Lib.hid (Us.usersOk_stop hlt (HI.out _ (Us.valid_no3 n3) rfl))
            go_wp2_with fail
            go_quiet ((first | (go_at_call 34; exact Calls.quiet_of_same (sName_q _ _ (by assumption))) | (go_at_call 35; exact Calls.quiet_of_same (l6In_q _ _ _ _))))
            go_wp2_with fail
            go_ret
            exact ⟨by rw [HF.out]; rfl, below_drewN (hb.alloc hb.size _) _⟩
          · cases n4 : inB u.quota 0 200
            · have HF : Hid (Us.usersOk us = false) := Lib.hid (Us.usersOk_stop hlt (HI.out _ (Us.valid_no4 (by have := inB_no.1 n4; omega)) rfl))
              go_wp2_with fail
              go_quiet ((first | (go_at_call 34; exact Calls.quiet_of_same (sName_q _ _ (by assumption))) | (go_at_call 35; exact Calls.quiet_of_same (l6In_q _ _ _ _))))
              go_wp2_with fail
              go_ret
              exact ⟨by rw [HF.out]; rfl, below_drewN (hb.alloc hb.size _) _⟩
            · have HV := Lib.hid (Us.valid_of n1 n2b n3 (inB_iff.1 n4))
              by_cases hk0 : k = 0
              · subst hk0
                simp only [Nat.zero_mul, Nat.add_zero] at c1 c2 c3
                have HK : Hid (Us.okTo us (0 + 1) = true) := Lib.hid (by
                  rw [Us.okTo_succ, HO.out]
                  unfold Us.itemOk
                  rw [HU.out]; simp [HV.out])
                have hd : decide ((0 : Int) < (0 : Int)) = false := by decide
                go_wp2_with fail
                go_quiet ((first | (go_at_call 34; exact Calls.quiet_of_same (sName_q _ _ (by assumption))) | (go_at_call 35; exact Calls.quiet_of_same (l6In_q _ _ _ _))))
                go_wp2_with fail
                go_roundg (us.length - (0 + 1))
                case measure => have := HG.out; omega
                case rel => exact ⟨0 + 1, by omega, Lib.hid rfl, by go_num, HK, below_drewN (hb.alloc hb.size _) _⟩
              · have hk1 : 0 < k := by omega
                obtain ⟨j, hj⟩ : ∃ j, j + 1 = k := ⟨k - 1, by omega⟩
                have hjl : j < us.length := by omega
                have hjw : IntKind.i64.wrap ((k : Int) - 1) = (j : Int) := by rw [IntKind.wrap_i64]; omega
                obtain ⟨pv, hpv⟩ : ∃ pv, us[j]? = some pv := ⟨_, List.getElem?_eq_getElem (by omega)⟩
                obtain ⟨e1, _, _⟩ := HC.out j pv hpv
                have e2 : ∀ o, (wo.alloc o).cell? ⟨g, off + j * 3, none⟩ = some (.string pv.name) := fun o => by rw [World.cell?_alloc_lt _ _ _ (by have := hb.size; simp; omega)]; exact e1
                clear e1
                have HE : Hid (Us.itemOk us k = slt pv.name u.name) := Lib.hid (by
                  unfold Us.itemOk
                  rw [HU.out, show k - 1 = j from by omega, hpv]
                  have : (k == 0) = false := by simp; omega
                  simp [HV.out, this])
                clear hpv hj
                cases n5 : Op.bytesLess pv.name.toList u.name.toList
                · have HF : Hid (Us.usersOk us = false) := Lib.hid (Us.usersOk_stop hlt (by rw [HE.out]; exact n5))
                  go_wp2_with fail
                  go_quiet ((first | (go_at_call 34; exact Calls.quiet_of_same (sName_q _ _ (by assumption))) | (go_at_call 35; exact Calls.quiet_of_same (l6In_q _ _ _ _))))
                  go_wp2_with fail
                  go_ret
                  exact ⟨by rw [HF.out]; rfl, below_drewN (hb.alloc hb.size _) _⟩
                · have HK : Hid (Us.okTo us (k + 1) = true) := Lib.hid (by rw [Us.okTo_succ, HO.out, HE.out]; exact n5)
                  go_wp2_with fail
                  go_quiet ((first | (go_at_call 34; exact Calls.quiet_of_same (sName_q _ _ (by assumption))) | (go_at_call 35; exact Calls.quiet_of_same (l6In_q _ _ _ _))))
                  go_wp2_with fail
                  go_roundg (us.length - (k + 1))
                  case measure => have := HG.out; omega
                  case rel => exact ⟨k + 1, by omega, Lib.hid rfl, by go_num, HK, below_drewN (hb.alloc hb.size _) _⟩
    · obtain rfl : k = us.length := by omega
      have HF : Hid (Us.usersOk us = inB (us.length : Int) 1 4) := Lib.hid (by
        rw [Us.usersOk_all HO.out]
        cases hq : inB (us.length : Int) 1 4
        · have := inB_no.1 hq
          simp only [decide_eq_false_iff_not]; omega
        · have := inB_iff.1 hq
          simp only [decide_eq_true_eq]; omega)
      go_wp2_with (go_at_call 35; refine (l6In_any _ _ _ _).mono ?_; rintro e w' ⟨rfl, rfl⟩)
      go_ret
      exact ⟨by rw [HF.out]; rfl, hb⟩

end Go.Proofs.YtpjifcljkgcnlaaGreatDoor

namespace Go.Proofs.YtpjifcljkgcnlaaGreatDoor
set_option linter.unusedVariables false
open Go.RowKit
open Us (U)

set_option maxRecDepth 100000 in
set_option maxHeartbeats 1600000 in
theorem iUsersValid_any (A : Option Addr) (us : List U) (c : Nat) (w : World) (h : AtUsers w w.heap.size A us) (hn : us.length ≤ maxLen) :
    Calls Tryz.prog 26 #[.slice A us.length c] w fun e w' => e = .returned (.bool (Us.usersOk us)) ∧ Below w.heap.size w w' := by
  unfold maxLen at hn
  by_cases hl1 : us.length < 1
  · have HF := Lib.hid (Us.usersOk_size (us := us) (by omega))
    go_enter Tryz.func26, Tryz.ntmps26
    go_wp2
    go_ret
    exact ⟨by rw [HF.out]; rfl, Below.refl _ _⟩
  by_cases hl4 : 4 < us.length
  · have HF := Lib.hid (Us.usersOk_size (us := us) (by omega))
    go_enter Tryz.func26, Tryz.ntmps26
    go_wp2
    go_ret
    exact ⟨by rw [HF.out]; rfl, Below.refl _ _⟩
  go_enter Tryz.func26, Tryz.ntmps26
  go_wp2_with fail
  go_loopg [3, 16] us.length (fun gg bf i wr => ∃ k : Nat, k ≤ us.length ∧ Hid (gg = us.length - k) ∧ i = .int .i64 k ∧ bf = .string (Us.prevName us k) ∧ Hid (Us.okTo us k = true) ∧ Below w.heap.size w wr)
  case atStart => exact ⟨0, Nat.zero_le _, Lib.hid rfl, rfl, rfl, Lib.hid rfl, Below.refl _ _⟩
  case round =>
    obtain ⟨k, hk, HG, rfl, rfl, HO, hb⟩ := hrel
    by_cases hlt : k < us.length
    · obtain ⟨g, off, rfl, hg, hc⟩ := (h.below hb).1 (by omega)
      obtain ⟨u, hu⟩ : ∃ u, us[k]? = some u := ⟨_, List.getElem?_eq_getElem hlt⟩
      obtain ⟨c1, c2, c3⟩ := hc k u hu
      obtain ⟨z1, z2⟩ := h.2 u (List.mem_of_getElem? hu)
      have HU := Lib.hid hu
      clear hu hc
      obtain ⟨wo, rfl⟩ : ∃ wo : World, wo = wr := ⟨_, rfl⟩
      go_wp2_with fail
      refine (userValid_any u _ z1 z2).mono ?_
      rintro e w1 ⟨rfl, hb1⟩
      have hbx := boxed hb1
      have d0 : w1.cell? ⟨wo.heap.size, 0, none⟩ = some (.string u.name) := cell_at hbx 0 _ rfl
      clear hbx c1 c2 c3
      have hB := hb.trans ((unbox hb1).mono hb.size)
      cases hv : Us.valid u
      · have HF : Hid (Us.usersOk us = false) := Lib.hid (Us.usersOk_stop hlt (Us.itemOk_bad HU.out hv))
        go_wp2_with fail
        go_ret
        exact ⟨by rw [HF.out]; rfl, hB⟩
      · have HE := Lib.hid (Us.itemOk_prev HU.out hv)
        have HP := Lib.hid (Us.prevName_succ HU.out)
        have hcmp := sle_eq u.name (Us.prevName us k)
        cases hs : slt (Us.prevName us k) u.name
        · have HF : Hid (Us.usersOk us = false) := Lib.hid (Us.usersOk_stop hlt (by rw [HE.out, hs]))
          rw [hs] at hcmp
          go_wp2_with fail
          go_ret
          exact ⟨by rw [HF.out]; rfl, hB⟩
        · have HK : Hid (Us.okTo us (k + 1) = true) := Lib.hid (by rw [Us.okTo_succ, HO.out, HE.out, hs]; rfl)
          rw [hs] at hcmp
          go_wp2_with fail
          go_roundg (us.length - (k + 1))
          case measure => have := HG.out; omega
          case rel => exact ⟨k + 1, by omega, Lib.hid rfl, by go_num, by rw [HP.out], HK, hB⟩
    · obtain rfl : k = us.length := by omega
      have HF : Hid (Us.usersOk us = true) := Lib.hid (by rw [Us.usersOk_all HO.out]; simp; omega)
      go_wp2_with fail
      go_ret
      exact ⟨by rw [HF.out]; rfl, hb⟩

end Go.Proofs.YtpjifcljkgcnlaaGreatDoor

namespace Go.Proofs.YtpjifcljkgcnlaaGreatDoor
set_option linter.unusedVariables false
open Go.RowKit
open Us (U)

def Us.cells (u : U) : List Value := [.string u.name, .string u.pass, .int .i64 u.quota]
theorem Us.cells_len (u : U) : (Us.cells u).length = 3 := rfl
theorem at_users {w : World} {B : Nat} {A : Option Addr} {us : List U} (h : At w B 3 Us.cells A us) (hs : ∀ u ∈ us, u.name.size ≤ maxLen ∧ u.pass.size ≤ maxLen) : AtUsers w B A us := by
  refine ⟨fun hl => ?_, hs⟩
  obtain ⟨g, off, ha, hlt, hc⟩ := h hl
  exact ⟨g, off, ha, hlt, fun i u hu => ⟨hc i u hu 0 _ rfl, hc i u hu 1 _ rfl, hc i u hu 2 _ rfl⟩⟩
theorem users_at {w : World} {B : Nat} {A : Option Addr} {us : List U} (h : AtUsers w B A us) : At w B 3 Us.cells A us := fun hl => by
  obtain ⟨g, off, ha, hlt, hc⟩ := h.1 hl
  refine ⟨g, off, ha, hlt, fun i u hu j v hv => ?_⟩
  obtain ⟨h1, h2, h3⟩ := hc i u hu
  match j, hv with
  | 0, hv => simp [Us.cells] at hv; subst hv; exact h1
  | 1, hv => simp [Us.cells] at hv; subst hv; exact h2
  | 2, hv => simp [Us.cells] at hv; subst hv; exact h3
  | j + 3, hv => simp [Us.cells] at hv
theorem user_info : (Tryz.prog.info? 54).map (fun i => (i.zero, i.size, i.bytes)) = some (some (.agg #[.string ⟨#[]⟩, .string ⟨#[]⟩, .int .i64 0]), 3, 40) := by kernel_rfl

end Go.Proofs.YtpjifcljkgcnlaaGreatDoor

namespace Go.Proofs.YtpjifcljkgcnlaaGreatDoor
set_option linter.unusedVariables false
open Go.RowKit
open Us (U)

def Us.val (u : U) : Value := .agg #[.string u.name, .string u.pass, .int .i64 u.quota]

/-- the user with a name -/
def Us.named (nm : ByteArray) (u : U) : Bool := u.name.toList == nm.toList
def Us.find (us : List U) (nm : ByteArray) : Option U := us.find? (Us.named nm)
def Us.none : U := ⟨⟨#[]⟩, ⟨#[]⟩, 0⟩
def Us.found (us : List U) (nm : ByteArray) : Value := .tuple #[Us.val ((Us.find us nm).getD Us.none), .bool (Us.find us nm).isSome]
theorem Us.find_yes {us : List U} {nm : ByteArray} {k : Nat} {u : U} (h : Us.find us nm = (us.drop k).find? (Us.named nm)) (hu : us[k]? = some u) (hn : Us.named nm u = true) : Us.find us nm = some u := by
  have hk : k < us.length := (List.getElem?_eq_some_iff.1 hu).1
  have e : us[k] = u := (List.getElem?_eq_some_iff.1 hu).2
  rw [h, List.drop_eq_getElem_cons hk, e, List.find?_cons_of_pos hn]
theorem Us.find_next {us : List U} {nm : ByteArray} {k : Nat} {u : U} (h : Us.find us nm = (us.drop k).find? (Us.named nm)) (hu : us[k]? = some u) (hn : Us.named nm u = false) : Us.find us nm = (us.drop (k + 1)).find? (Us.named nm) := by
  have hk : k < us.length := (List.getElem?_eq_some_iff.1 hu).1
  have e : us[k] = u := (List.getElem?_eq_some_iff.1 hu).2
  rw [h, List.drop_eq_getElem_cons hk, e, List.find?_cons_of_neg (by rw [hn]; decide)]

set_option maxHeartbeats 800000 in
theorem findTest_any (u : U) (nm : ByteArray) (q : Nat) (w : World) (hq : w.cell? ⟨q, 0, none⟩ = some (.string nm)) (hlt : q < w.heap.size) :
    Calls Tryz.prog 89 #[Us.val u, .pointer (some ⟨q, 0, none⟩)] w fun e w' => e = .returned (.bool (Us.named nm u)) ∧ Below w.heap.size w w' := by
  unfold Us.val
  go_enter Tryz.func89, Tryz.ntmps89
  go_wp2
  go_ret
  exact ⟨rfl, by go_grown⟩

set_option maxHeartbeats 1600000 in
theorem findBy_any (A : Option Addr) (us : List U) (c : Nat) (nm : ByteArray) (q : Nat) (w : World) (h : AtUsers w w.heap.size A us) (hn : us.length ≤ maxLen) (hq : w.cell? ⟨q, 0, none⟩ = some (.string nm)) (hlt : q < w.heap.size) :
    Calls Tryz.prog 88 #[.slice A us.length c, .func (Fn.func 89) #[] #[.pointer (some ⟨q, 0, none⟩)]] w fun e w' => e = .returned (Us.found us nm) ∧ Below w.heap.size w w' := by
  unfold maxLen at hn
  have HQ := Lib.hid hq
  clear hq
  go_enter Tryz.func88, Tryz.ntmps88
  go_wp2_with fail
  go_loopg [11] us.length (fun g i wr => ∃ k : Nat, k ≤ us.length ∧ Hid (g = us.length - k) ∧ i = .int .i64 k ∧ Hid (Us.find us nm = (us.drop k).find? (Us.named nm)) ∧ wr.heap[w.heap.size]? = some (.cells #[.string ⟨#[]⟩, .string ⟨#[]⟩, .int .i64 0] 54 (0, 0)) ∧ Below w.heap.size w wr)
  case atStart => exact ⟨0, Nat.zero_le _, Lib.hid rfl, rfl, Lib.hid (by rw [List.drop_zero]; rfl), heap_alloc_new w _, by go_grown⟩
  case round =>
    obtain ⟨k, hk, HG, rfl, HR, hbx, hb⟩ := hrel
    have r0 : wr.cell? ⟨w.heap.size, 0, none⟩ = some (.string ⟨#[]⟩) := cell_at hbx 0 _ rfl
    have r1 : wr.cell? ⟨w.heap.size, 1, none⟩ = some (.string ⟨#[]⟩) := cell_at hbx 1 _ rfl
    have r2 : wr.cell? ⟨w.heap.size, 2, none⟩ = some (.int .i64 0) := cell_at hbx 2 _ rfl
    have s0 := free_at hbx 0
    have s1 := free_at hbx 1
    have s2 := free_at hbx 2
    have hsz : w.heap.size < wr.heap.size := (Array.getElem?_eq_some_iff.1 hbx).1
    have HBX := Lib.hid hbx
    clear hbx
    by_cases hlt2 : k < us.length
    · obtain ⟨g, off, rfl, hg, hc⟩ := (h.below hb).1 (by omega)
      obtain ⟨u, hu⟩ : ∃ u, us[k]? = some u := ⟨_, List.getElem?_eq_getElem hlt2⟩
      obtain ⟨d1, d2, d3⟩ := hc k u hu
      have HU := Lib.hid hu
      clear hc hu
      have hq1 : ∀ o, (wr.alloc o).cell? ⟨q, 0, none⟩ = some (.string nm) := fun o => by rw [World.cell?_alloc_lt _ _ _ (by simp; omega), hb.cell (p := ⟨q, 0, none⟩) hlt]; exact HQ.out
      have HQ1 := Lib.hid hq1
      clear hq1
      go_wp2_with fail
      refine Calls.mono (findTest_any u nm q _ (HQ1.out _) (by simp; omega)) ?_
      rintro e w1 ⟨rfl, hb1⟩
      have hbw : Below wr.heap.size wr w1 := unbox hb1
      have hB := hb.trans (hbw.mono hb.size)
      have hbx1 : w1.heap[w.heap.size]? = some (.cells #[.string ⟨#[]⟩, .string ⟨#[]⟩, .int .i64 0] 54 (0, 0)) := (hbw.block _ hsz).trans HBX.out
      have hbu := boxed hb1
      cases hn1 : Us.named nm u
      · have HX1 := Lib.hid hbx1
        have HN := Lib.hid (Us.find_next HR.out HU.out hn1)
        clear hbx1 hbu r0 r1 r2 s0 s1 s2 d1 d2 d3
        go_wp2_with fail
        go_roundg (us.length - (k + 1))
        case measure => have := HG.out; omega
        case rel => exact ⟨k + 1, by omega, Lib.hid rfl, by go_num, HN, HX1.out, hB⟩
      · have HF := Lib.hid (Us.find_yes HR.out HU.out hn1)
        clear r0 r1 r2 s0 s1 s2 d1 d2 d3
        have r0 : w1.cell? ⟨w.heap.size, 0, none⟩ = some (.string ⟨#[]⟩) := cell_at hbx1 0 _ rfl
        have r1 : w1.cell? ⟨w.heap.size, 1, none⟩ = some (.string ⟨#[]⟩) := cell_at hbx1 1 _ rfl
        have r2 : w1.cell? ⟨w.heap.size, 2, none⟩ = some (.int .i64 0) := cell_at hbx1 2 _ rfl
        have s0 := free_at hbx1 0
        have s1 := free_at hbx1 1
        have s2 := free_at hbx1 2
        have d0 : w1.cell? ⟨wr.heap.size, 0, none⟩ = some (.string u.name) := cell_at hbu 0 _ rfl
        have d1 : w1.cell? ⟨wr.heap.size, 1, none⟩ = some (.string u.pass) := cell_at hbu 1 _ rfl
        have d2 : w1.cell? ⟨wr.heap.size, 2, none⟩ = some (.int .i64 u.quota) := cell_at hbu 2 _ rfl
        clear hbx1 hbu
        go_wp2_with fail
        refine bodyPost_ret (v := .tuple #[.agg #[.string u.name, .string u.pass, .int .i64 u.quota], .bool true]) (by simp [results, Tryz.results88, go_sem, r0, r1, r2]) rfl ⟨by unfold Us.found; rw [HF.out]; rfl, ?_⟩
        exact ((hB.setCell (p := ⟨w.heap.size, 0, none⟩) (Nat.le_refl _) _).setCell (p := ⟨w.heap.size, 1, none⟩) (Nat.le_refl _) _).setCell (p := ⟨w.heap.size, 2, none⟩) (Nat.le_refl _) _
    · obtain rfl : k = us.length := by omega
      have HF : Hid (Us.find us nm = none) := Lib.hid (by rw [HR.out, List.drop_length]; rfl)
      go_wp2_with fail
      refine bodyPost_ret (v := .tuple #[.agg #[.string ⟨#[]⟩, .string ⟨#[]⟩, .int .i64 0], .bool false]) (by simp [results, Tryz.results88, go_sem, r0, r1, r2, hsz]) rfl ⟨by unfold Us.found; rw [HF.out]; rfl, ?_⟩
      exact (((hb.setCell (p := ⟨w.heap.size, 0, none⟩) (Nat.le_refl _) _).setCell (p := ⟨w.heap.size, 1, none⟩) (Nat.le_refl _) _).setCell (p := ⟨w.heap.size, 2, none⟩) (Nat.le_refl _) _).alloc (by simp; omega) _

end Go.Proofs.YtpjifcljkgcnlaaGreatDoor

namespace Go.Proofs.YtpjifcljkgcnlaaGreatDoor
set_option linter.unusedVariables false
open Go.RowKit
open Us (U)

def Us.ans (us : List U) (nm : ByteArray) : Option U := if Us.usersOk us then Us.find us nm else Option.none
def Us.answer (us : List U) (nm : ByteArray) : Value := .tuple #[Us.val ((Us.ans us nm).getD Us.none), .bool (Us.ans us nm).isSome]

set_option maxHeartbeats 1600000 in
theorem l14Find_any (A : Option Addr) (us : List U) (c : Nat) (nm : ByteArray) (w : World) (h : AtUsers w w.heap.size A us) (hn : us.length ≤ maxLen) :
    Calls Tryz.prog 52 #[.slice A us.length c, .string nm] w fun e w' => ∃ r : Int, ((r = -1 ∧ Us.find us nm = none) ∨ ∃ (k : Nat) (u : U), r = k ∧ us[k]? = some u ∧ Us.find us nm = some u) ∧ e = .returned (.int .i64 r) ∧ Below w.heap.size w w' := by
  unfold maxLen at hn
  go_enter Tryz.func52, Tryz.ntmps52
  go_wp2_with fail
  go_loopg [5] us.length (fun g i wr => ∃ k : Nat, k ≤ us.length ∧ Hid (g = us.length - k) ∧ i = .int .i64 k ∧ Hid (Us.find us nm = (us.drop k).find? (Us.named nm)) ∧ Below w.heap.size w wr)
  case atStart => exact ⟨0, Nat.zero_le _, Lib.hid rfl, rfl, Lib.hid (by rw [List.drop_zero]; rfl), by go_grown⟩
  case round =>
    obtain ⟨k, hk, HG, rfl, HR, hb⟩ := hrel
    by_cases hlt2 : k < us.length
    · obtain ⟨g, off, rfl, hg, hc⟩ := (h.below hb).1 (by omega)
      obtain ⟨u, hu⟩ : ∃ u, us[k]? = some u := ⟨_, List.getElem?_eq_getElem hlt2⟩
      obtain ⟨d1, d2, d3⟩ := hc k u hu
      have HU := Lib.hid hu
      clear hc hu
      cases hn1 : Us.named nm u
      · have HN := Lib.hid (Us.find_next HR.out HU.out hn1)
        have hn2 : (u.name.toList == nm.toList) = false := hn1
        clear hn1
        go_wp2_with fail
        go_roundg (us.length - (k + 1))
        case measure => have := HG.out; omega
        case rel => exact ⟨k + 1, by omega, Lib.hid rfl, by go_num, HN, hb⟩
      · have HF := Lib.hid (Us.find_yes HR.out HU.out hn1)
        have hn2 : (u.name.toList == nm.toList) = true := hn1
        clear hn1
        go_wp2_with fail
        go_ret
        exact ⟨k, .inr ⟨k, u, rfl, HU.out, HF.out⟩, rfl, hb⟩
    · obtain rfl : k = us.length := by omega
      have HF : Hid (Us.find us nm = none) := Lib.hid (by rw [HR.out, List.drop_length]; rfl)
      go_wp2_with fail
      go_ret
      exact ⟨-1, .inl ⟨rfl, HF.out⟩, rfl, hb⟩

set_option maxHeartbeats 1600000 in
theorem iUsersFind_any (A : Option Addr) (us : List U) (c : Nat) (nm : ByteArray) (w : World) (h : AtUsers w w.heap.size A us) (hn : us.length ≤ maxLen) :
    Calls Tryz.prog 75 #[.slice A us.length c, .string nm] w fun e w' => e = .returned (Us.answer us nm) ∧ Below w.heap.size w w' := by
  go_enter Tryz.func75, Tryz.ntmps75
  go_wp2_with fail
  refine Calls.mono (iUsersValid_any A us c _ ((h.below (by go_grown)).mono (by simp; omega)) hn) ?_
  rintro e w1 ⟨rfl, hb1⟩
  have hbu : w1.heap[w.heap.size + 1]? = some (.cells #[.string ⟨#[]⟩, .string ⟨#[]⟩, .int .i64 0] 54 (0, 0)) := (hb1.block _ (by simp)).trans (by simpa using heap_alloc_new (w.alloc _) (.cells #[.string ⟨#[]⟩, .string ⟨#[]⟩, .int .i64 0] 54 (0, 0)))
  have hbq : w1.heap[w.heap.size]? = some (.cells #[.string nm] 9 (0, 0)) := (hb1.block _ (by simp; omega)).trans ((((Below.refl _ (w.alloc (.cells #[.string nm] 9 (0, 0)))).alloc (Nat.le_refl _) _).block _ (by simp)).trans (heap_alloc_new w _))
  have hsz : w.heap.size + 2 ≤ w1.heap.size := by have := hb1.size; simp at this; omega
  have hbw : Below w.heap.size w w1 := Below.trans (by go_grown) (hb1.mono (by simp; omega))
  have q0 : w1.cell? ⟨w.heap.size, 0, none⟩ = some (.string nm) := cell_at hbq 0 _ rfl
  have r0 : w1.cell? ⟨w.heap.size + 1, 0, none⟩ = some (.string ⟨#[]⟩) := cell_at hbu 0 _ rfl
  have r1 : w1.cell? ⟨w.heap.size + 1, 1, none⟩ = some (.string ⟨#[]⟩) := cell_at hbu 1 _ rfl
  have r2 : w1.cell? ⟨w.heap.size + 1, 2, none⟩ = some (.int .i64 0) := cell_at hbu 2 _ rfl
  have s0 := free_at hbu 0
  have s1 := free_at hbu 1
  have s2 := free_at hbu 2
  have HBU := Lib.hid hbu
  have HB1 := Lib.hid hb1
  clear hbu hbq hb1
  cases hok : Us.usersOk us
  · go_wp2_with fail
    refine bodyPost_ret (v := .tuple #[.agg #[.string ⟨#[]⟩, .string ⟨#[]⟩, .int .i64 0], .bool false]) (by simp [results, Tryz.results75, go_sem, r0, r1, r2]) rfl ⟨by unfold Us.answer Us.ans; rw [hok]; rfl, ?_⟩
    exact (((hbw.setCell (p := ⟨w.heap.size + 1, 0, none⟩) (by simp) _).setCell (p := ⟨w.heap.size + 1, 1, none⟩) (by simp) _).setCell (p := ⟨w.heap.size + 1, 2, none⟩) (by simp) _)
  · have hw1 := (h.below hbw).mono hbw.size
    have HA := Lib.hid hw1
    have Q0 := Lib.hid q0
    clear r0 r1 r2 s0 s1 s2 hw1 q0
    go_wp2_with fail
    refine Calls.mono (findBy_any A us c nm w.heap.size _ HA.out hn Q0.out (by omega)) ?_
    rintro e w2 ⟨rfl, hb2⟩
    have hbu : w2.heap[w.heap.size + 1]? = some (.cells #[.string ⟨#[]⟩, .string ⟨#[]⟩, .int .i64 0] 54 (0, 0)) := (hb2.block _ (by omega)).trans HBU.out
    have r0 : w2.cell? ⟨w.heap.size + 1, 0, none⟩ = some (.string ⟨#[]⟩) := cell_at hbu 0 _ rfl
    have r1 : w2.cell? ⟨w.heap.size + 1, 1, none⟩ = some (.string ⟨#[]⟩) := cell_at hbu 1 _ rfl
    have r2 : w2.cell? ⟨w.heap.size + 1, 2, none⟩ = some (.int .i64 0) := cell_at hbu 2 _ rfl
    have s0 := free_at hbu 0
    have s1 := free_at hbu 1
    have s2 := free_at hbu 2
    have hB := hbw.trans (hb2.mono hbw.size)
    have hA : Us.ans us nm = Us.find us nm := by unfold Us.ans; rw [hok]; rfl
    unfold Us.found
    generalize hu : (Us.find us nm).getD Us.none = u
    generalize hb : (Us.find us nm).isSome = b
    have HE : Hid (Us.answer us nm = .tuple #[.agg #[.string u.name, .string u.pass, .int .i64 u.quota], .bool b]) := Lib.hid (by unfold Us.answer; rw [hA, hu, hb]; rfl)
    unfold Us.val
    clear hbu hA hu hb
    go_wp2_with fail
    refine bodyPost_ret (v := .tuple #[.agg #[.string u.name, .string u.pass, .int .i64 u.quota], .bool b]) (by simp [results, Tryz.results75, go_sem, r0, r1, r2]) rfl ⟨by rw [HE.out], ?_⟩
    exact (((hB.setCell (p := ⟨w.heap.size + 1, 0, none⟩) (by simp) _).setCell (p := ⟨w.heap.size + 1, 1, none⟩) (by simp) _).setCell (p := ⟨w.heap.size + 1, 2, none⟩) (by simp) _)

set_option maxHeartbeats 1600000 in
theorem sUsersFind_any (A : Option Addr) (us : List U) (c : Nat) (nm : ByteArray) (w : World) (h : AtUsers w w.heap.size A us) (hn : us.length ≤ maxLen) :
    Calls Tryz.prog 77 #[.slice A us.length c, .string nm] w fun e w' => e = .returned (Us.answer us nm) ∧ Below w.heap.size w w' := by
  go_enter Tryz.func77, Tryz.ntmps77
  go_wp2_with fail
  refine Calls.mono (sUsersValid_any A us c _ ((h.below (by go_grown)).mono (by simp)) hn) ?_
  rintro e w1 ⟨rfl, hb1⟩
  have hbu : w1.heap[w.heap.size]? = some (.cells #[.string ⟨#[]⟩, .string ⟨#[]⟩, .int .i64 0] 54 (0, 0)) := (hb1.block _ (by simp)).trans (heap_alloc_new w _)
  have hsz : w.heap.size + 1 ≤ w1.heap.size := by have := hb1.size; simp at this; omega
  have hbw : Below w.heap.size w w1 := Below.trans (by go_grown) (hb1.mono (by simp))
  have HBU := Lib.hid hbu
  have hw1 := (h.below hbw).mono hbw.size
  clear hb1
  cases hok : Us.usersOk us
  · have r0 : w1.cell? ⟨w.heap.size, 0, none⟩ = some (.string ⟨#[]⟩) := cell_at hbu 0 _ rfl
    have r1 : w1.cell? ⟨w.heap.size, 1, none⟩ = some (.string ⟨#[]⟩) := cell_at hbu 1 _ rfl
    have r2 : w1.cell? ⟨w.heap.size, 2, none⟩ = some (.int .i64 0) := cell_at hbu 2 _ rfl
    have s0 := free_at hbu 0
    have s1 := free_at hbu 1
    have s2 := free_at hbu 2
    clear hbu
    go_wp2_with fail
    refine bodyPost_ret (v := .tuple #[.agg #[.string ⟨#[]⟩, .string ⟨#[]⟩, .int .i64 0], .bool false]) (by simp [results, Tryz.results77, go_sem, r0, r1, r2]) rfl ⟨by unfold Us.answer Us.ans; rw [hok]; rfl, ?_⟩
    exact (((hbw.setCell (p := ⟨w.heap.size, 0, none⟩) (by simp) _).setCell (p := ⟨w.heap.size, 1, none⟩) (by simp) _).setCell (p := ⟨w.heap.size, 2, none⟩) (by simp) _)
  · have HA := Lib.hid hw1
    clear hw1 hbu
    go_wp2_with fail
    refine Calls.mono (l14Find_any A us c nm _ HA.out hn) ?_
    rintro e w2 ⟨r, hr, rfl, hb2⟩
    have hA : Us.ans us nm = Us.find us nm := by unfold Us.ans; rw [hok]; rfl
    have hbu := (hb2.block w.heap.size (by omega)).trans HBU.out
    have hB := hbw.trans (hb2.mono hbw.size)
    rcases hr with ⟨rfl, hf⟩ | ⟨k, u, rfl, hk, hf⟩
    · have r0 : w2.cell? ⟨w.heap.size, 0, none⟩ = some (.string ⟨#[]⟩) := cell_at hbu 0 _ rfl
      have r1 : w2.cell? ⟨w.heap.size, 1, none⟩ = some (.string ⟨#[]⟩) := cell_at hbu 1 _ rfl
      have r2 : w2.cell? ⟨w.heap.size, 2, none⟩ = some (.int .i64 0) := cell_at hbu 2 _ rfl
      have s0 := free_at hbu 0
      have s1 := free_at hbu 1
      have s2 := free_at hbu 2
      have HF := Lib.hid (show Us.ans us nm = none from hA.trans hf)
      clear hbu hf hA
      go_wp2_with fail
      refine bodyPost_ret (v := .tuple #[.agg #[.string ⟨#[]⟩, .string ⟨#[]⟩, .int .i64 0], .bool false]) (by simp [results, Tryz.results77, go_sem, r0, r1, r2]) rfl ⟨by unfold Us.answer; rw [HF.out]; rfl, ?_⟩
      exact (((hB.setCell (p := ⟨w.heap.size, 0, none⟩) (by simp) _).setCell (p := ⟨w.heap.size, 1, none⟩) (by simp) _).setCell (p := ⟨w.heap.size, 2, none⟩) (by simp) _)
    · have hklt : k < us.length := (List.getElem?_eq_some_iff.1 hk).1
      have HF := Lib.hid hf
      have HE := Lib.hid (show Us.ans us nm = some u from hA.trans hf)
      have HK := Lib.hid hk
      have HBU2 := Lib.hid hbu
      have H2 := Lib.hid ((HA.out.below hb2).mono hb2.size)
      have hneg : decide ((k : Int) < 0) = false := by simp
      clear hbu hf hA hk
      go_wp2_with fail
      refine Calls.mono (l14Find_any A us c nm _ H2.out hn) ?_
      rintro e w3 ⟨r, hr, rfl, hb3⟩
      rcases hr with ⟨rfl, hf⟩ | ⟨k2, u2, rfl, hk2, hf⟩
      · rw [HF.out] at hf; cases hf
      · obtain rfl : u = u2 := by rw [HF.out] at hf; injection hf
        have hk2lt : k2 < us.length := (List.getElem?_eq_some_iff.1 hk2).1
        have hbu := (hb3.block w.heap.size (by have := hb2.size; omega)).trans HBU2.out
        obtain ⟨g, off, rfl, hg, hc⟩ := (H2.out.below hb3).1 (by omega)
        obtain ⟨d1, d2, d3⟩ := hc k2 u hk2
        have r0 : w3.cell? ⟨w.heap.size, 0, none⟩ = some (.string ⟨#[]⟩) := cell_at hbu 0 _ rfl
        have r1 : w3.cell? ⟨w.heap.size, 1, none⟩ = some (.string ⟨#[]⟩) := cell_at hbu 1 _ rfl
        have r2 : w3.cell? ⟨w.heap.size, 2, none⟩ = some (.int .i64 0) := cell_at hbu 2 _ rfl
        have s0 := free_at hbu 0
        have s1 := free_at hbu 1
        have s2 := free_at hbu 2
        have hB3 := hB.trans (hb3.mono hB.size)
        clear hbu hf hc hk2
        unfold maxLen at hn
        go_wp2_with fail
        refine bodyPost_ret (v := .tuple #[.agg #[.string u.name, .string u.pass, .int .i64 u.quota], .bool true]) (by simp [results, Tryz.results77, go_sem, r0, r1, r2]) rfl ⟨by unfold Us.answer; rw [HE.out]; rfl, ?_⟩
        exact (((hB3.setCell (p := ⟨w.heap.size, 0, none⟩) (by simp) _).setCell (p := ⟨w.heap.size, 1, none⟩) (by simp) _).setCell (p := ⟨w.heap.size, 2, none⟩) (by simp) _)

end Go.Proofs.YtpjifcljkgcnlaaGreatDoor

namespace Go.Proofs.YtpjifcljkgcnlaaGreatDoor
set_option linter.unusedVariables false
open Go.RowKit
open Us (U)

/-- a list of users as it may be drawn -/
def SmallUsers (us : List U) : Prop := 1 ≤ us.length ∧ us.length ≤ 5 ∧ ∀ u ∈ us, u.name.size ≤ 9 ∧ u.pass.size ≤ 9
end Go.Proofs.YtpjifcljkgcnlaaGreatDoor

namespace Go.Proofs.YtpjifcljkgcnlaaGreatDoor
set_option linter.unusedVariables false
open Go.RowKit
open Us (U)

def Us.proves (us : List U) (nm ps : ByteArray) : Bool := (Us.ans us nm).isSome && ((Us.ans us nm).getD Us.none).pass.toList == ps.toList
theorem Us.split (us : List U) (nm : ByteArray) : ∃ (u : U) (b : Bool), Hid (Us.answer us nm = .tuple #[.agg #[.string u.name, .string u.pass, .int .i64 u.quota], .bool b]) ∧ Hid (∀ ps, Us.proves us nm ps = (b && u.pass.toList == ps.toList)) :=
  ⟨(Us.ans us nm).getD Us.none, (Us.ans us nm).isSome, Lib.hid rfl, Lib.hid fun ps => rfl⟩

set_option maxHeartbeats 1600000 in
theorem iUsersProve_any (A : Option Addr) (us : List U) (c : Nat) (nm ps : ByteArray) (w : World) (h : AtUsers w w.heap.size A us) (hn : us.length ≤ maxLen) :
    Calls Tryz.prog 85 #[.slice A us.length c, .string nm, .string ps] w fun e w' => e = .returned (.bool (Us.proves us nm ps)) ∧ Below w.heap.size w w' := by
  obtain ⟨u, b, HE, HP⟩ := Us.split us nm
  go_enter Tryz.func85, Tryz.ntmps85
  go_wp2_with fail
  refine Calls.mono (iUsersFind_any A us c nm _ h hn) ?_
  rintro e w1 ⟨rfl, hb1⟩
  rw [HE.out]
  cases b
  · go_wp2_with fail
    go_ret
    exact ⟨by rw [HP.out]; rfl, hb1.alloc hb1.size _⟩
  · go_wp2_with fail
    go_ret
    exact ⟨by rw [HP.out]; rfl, hb1.alloc hb1.size _⟩

set_option maxHeartbeats 1600000 in
theorem sUsersProve_any (A : Option Addr) (us : List U) (c : Nat) (nm ps : ByteArray) (w : World) (h : AtUsers w w.heap.size A us) (hn : us.length ≤ maxLen) :
    Calls Tryz.prog 66 #[.slice A us.length c, .string nm, .string ps] w fun e w' => e = .returned (.bool (Us.proves us nm ps)) ∧ Below w.heap.size w w' := by
  obtain ⟨u, b, HE, HP⟩ := Us.split us nm
  go_enter Tryz.func66, Tryz.ntmps66
  go_wp2_with fail
  refine Calls.mono (sUsersFind_any A us c nm _ h hn) ?_
  rintro e w1 ⟨rfl, hb1⟩
  rw [HE.out]
  cases b
  · go_wp2_with fail
    go_ret
    exact ⟨by rw [HP.out]; rfl, hb1.alloc hb1.size _⟩
  · go_wp2_with fail
    go_ret
    exact ⟨by rw [HP.out]; rfl, hb1.alloc hb1.size _⟩

end Go.Proofs.YtpjifcljkgcnlaaGreatDoor

namespace Go.Proofs.YtpjifcljkgcnlaaGreatDoor
set_option linter.unusedVariables false
open Go.RowKit
open Us (U)

theorem small_sizes {us : List U} (h : SmallUsers us) : ∀ u ∈ us, u.name.size ≤ maxLen ∧ u.pass.size ≤ maxLen := fun u hu => by
  have := h.2.2 u hu
  unfold maxLen
  exact ⟨by omega, by omega⟩
theorem small_len {us : List U} (h : SmallUsers us) : us.length ≤ maxLen := by
  have := h.2.1
  unfold maxLen; omega
theorem Us.proves_yes {us : List U} {nm ps : ByteArray} (h : Us.proves us nm ps = true) : (∀ ps' : ByteArray, ps'.toList ≠ ps.toList → Us.proves us nm ps' = false) ∧ ps.toList ≠ [] := by
  unfold Us.proves at h
  rw [Bool.and_eq_true] at h
  obtain ⟨u, hu⟩ := Option.isSome_iff_exists.1 h.1
  have h2 := h.2
  rw [hu] at h2
  have hp : u.pass.toList = ps.toList := eq_of_beq h2
  constructor
  · intro ps' hne
    unfold Us.proves
    rw [hu]
    show (true && u.pass.toList == ps'.toList) = false
    rw [hp, Bool.true_and]
    cases hb : (ps.toList == ps'.toList)
    · rfl
    · exact absurd (eq_of_beq hb).symm hne
  · unfold Us.ans at hu
    cases hok : Us.usersOk us
    · rw [hok] at hu; cases hu
    · rw [hok] at hu
      simp only [if_true] at hu
      have hm := List.mem_of_find?_eq_some hu
      obtain ⟨_, hv, _⟩ := (Us.usersOk_iff us).1 hok
      have := hv u hm
      unfold Us.valid at this
      simp only [Bool.and_eq_true] at this
      have hl := Nm.nameOk_len this.1.2
      rw [← hp]
      intro e
      rw [Go.ByteArray.toList_eq] at e
      rw [e] at hl
      simp at hl

end Go.Proofs.YtpjifcljkgcnlaaGreatDoor
