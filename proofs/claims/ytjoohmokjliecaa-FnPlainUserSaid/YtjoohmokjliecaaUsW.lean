/- Users: UsersValid of the program and of the reference. -/
import Derived.Test.YtjoohmokjliecaaUsPlain
import Derived.Test.YtjoohmokjliecaaNm
namespace Go.Proofs.Ytjoohmokjliecaa
set_option linter.unusedVariables false
open Go.RowKit
open Us (U)

/-- a slice of users that reads as a list, below block B -/
def AtUsers (w : World) (B : Nat) (A : Option Addr) (us : List U) : Prop :=
  (0 < us.length → ∃ g off, A = some ⟨g, off, none⟩ ∧ g < B ∧ ∀ i u, us[i]? = some u →
    w.cell? ⟨g, off + i * 3, none⟩ = some (.string u.name) ∧ w.cell? ⟨g, off + i * 3 + 1, none⟩ = some (.string u.pass) ∧ w.cell? ⟨g, off + i * 3 + 2, none⟩ = some (.int .i64 u.quota)) ∧
  ∀ u ∈ us, u.name.size ≤ maxLen ∧ u.pass.size ≤ maxLen
section
variable {w w' : World} {B : Nat} {A : Option Addr} {us : List U}
theorem AtUsers.keep (h : AtUsers w B A us) (hB : ∀ i, i < B → w'.heap[i]? = w.heap[i]?) : AtUsers w' B A us := by
  refine ⟨fun hl => ?_, h.2⟩
  obtain ⟨g, off, ha, hlt, hc⟩ := h.1 hl
  refine ⟨g, off, ha, hlt, fun i u hu => ?_⟩
  obtain ⟨h1, h2, h3⟩ := hc i u hu
  exact ⟨by rw [World.cell?_of_block (hB g hlt)]; exact h1, by rw [World.cell?_of_block (hB g hlt)]; exact h2, by rw [World.cell?_of_block (hB g hlt)]; exact h3⟩
theorem AtUsers.below (h : AtUsers w B A us) (k : Below B w w') : AtUsers w' B A us := h.keep k.block
theorem AtUsers.mono (h : AtUsers w B A us) {B' : Nat} (hB : B ≤ B') : AtUsers w B' A us := by
  refine ⟨fun hl => ?_, h.2⟩
  obtain ⟨g, off, ha, hlt, hc⟩ := h.1 hl
  exact ⟨g, off, ha, by omega, hc⟩
end

theorem sName_q (s : ByteArray) (w : World) (hs : s.size ≤ maxLen) :
    Calls Try.prog 78 #[.string s] w fun e w' => e = .returned (.bool (Nm.nameOk s.data.toList)) ∧ w' = w :=
  (sNameValid_any s w hs).mono fun _ _ h => ⟨h.1, h.2.symm⟩
theorem l6In_q (n lo hi : Int) (w : World) :
    Calls Try.prog 49 #[.int .i64 n, .int .i64 lo, .int .i64 hi] w fun e w' => e = .returned (.bool (inB n lo hi)) ∧ w' = w :=
  (l6In_any n lo hi w).mono fun _ _ h => ⟨h.1, h.2.symm⟩

set_option maxHeartbeats 1600000 in
theorem userValid_any (u : U) (w : World) (h1 : u.name.size ≤ maxLen) (h2 : u.pass.size ≤ maxLen) :
    Calls Try.prog 108 #[.agg #[.string u.name, .string u.pass, .int .i64 u.quota]] w fun e w' => e = .returned (.bool (Us.valid u)) ∧ Below w.heap.size w w' := by
  cases n1 : Nm.nameOk u.name.data.toList
  · have HF := Lib.hid (Us.valid_no1 n1)
    go_enter Try.func108, Try.ntmps108
    go_wp2_with (go_at_call 65; refine (iNameValid_any _ _ h1).mono ?_; rintro e w1 ⟨rfl, hb1⟩)
    go_ret
    exact ⟨by rw [HF.out]; rfl, unbox hb1⟩
  · go_enter Try.func108, Try.ntmps108
    go_wp2_with fail
    refine (iNameValid_any _ _ h1).mono ?_
    rintro e w1 ⟨rfl, hb1⟩
    have hbx := boxed hb1
    have d0 : w1.cell? ⟨w.heap.size, 0, none⟩ = some (.string u.name) := cell_at hbx 0 _ rfl
    have d1 : w1.cell? ⟨w.heap.size, 1, none⟩ = some (.string u.pass) := cell_at hbx 1 _ rfl
    have HBX := Lib.hid hbx
    clear hbx
    by_cases n2 : u.name.toList = [97, 110, 121, 111, 110, 101]
    · have HF := Lib.hid (Us.valid_no2 (u := u) (by simpa using n2))
      go_wp2_with fail
      go_ret
      exact ⟨by rw [HF.out]; rfl, unbox hb1⟩
    · have n2b : (u.name.toList == [97, 110, 121, 111, 110, 101]) = false := by simpa using n2
      cases n3 : Nm.nameOk u.pass.data.toList
      · have HF := Lib.hid (Us.valid_no3 n3)
        go_wp2_with (go_at_call 65; refine (iNameValid_any _ _ h2).mono ?_; rintro e w2 ⟨rfl, hb2⟩)
        go_ret
        exact ⟨by rw [HF.out]; rfl, unbox (hb1.trans (hb2.mono hb1.size))⟩
      · go_wp2_with fail
        refine (iNameValid_any _ _ h2).mono ?_
        rintro e w2 ⟨rfl, hb2⟩
        have d2 : w2.cell? ⟨w.heap.size, 2, none⟩ = some (.int .i64 u.quota) := cell_at (boxed (hb1.trans (hb2.mono hb1.size))) 2 _ rfl
        by_cases n4 : 0 ≤ u.quota
        · by_cases n5 : u.quota ≤ 200
          · have HF := Lib.hid (Us.valid_of n1 n2b n3 ⟨n4, n5⟩)
            go_wp2_with fail
            go_ret
            exact ⟨by rw [HF.out]; rfl, unbox (hb1.trans (hb2.mono hb1.size))⟩
          · have HF := Lib.hid (Us.valid_no4 (u := u) (by omega))
            have n5b : decide (u.quota ≤ 200) = false := by simp; omega
            go_wp2_with fail
            go_ret
            exact ⟨by rw [HF.out]; rfl, unbox (hb1.trans (hb2.mono hb1.size))⟩
        · have HF := Lib.hid (Us.valid_no4 (u := u) (by omega))
          go_wp2_with fail
          go_ret
          exact ⟨by rw [HF.out]; rfl, unbox (hb1.trans (hb2.mono hb1.size))⟩

set_option maxRecDepth 100000 in
set_option maxHeartbeats 1600000 in
theorem sUsersValid_any (A : Option Addr) (us : List U) (c : Nat) (w : World) (h : AtUsers w w.heap.size A us) (hn : us.length ≤ maxLen) :
    Calls Try.prog 94 #[.slice A us.length c] w fun e w' => e = .returned (.bool (Us.usersOk us)) ∧ Below w.heap.size w w' := by
  unfold maxLen at hn
  go_enter Try.func94, Try.ntmps94
  go_wp2_with fail
  go_loopg [3] us.length (fun g i wr => ∃ k : Nat, k ≤ us.length ∧ Hid (g = us.length - k) ∧ i = .int .i64 k ∧ Hid (Us.okTo us k = true) ∧ Below w.heap.size w wr)
  case atStart => exact ⟨0, Nat.zero_le _, Lib.hid rfl, rfl, Lib.hid rfl, Below.refl _ _⟩
  case round =>
    obtain ⟨k, hk, HG, rfl, HO, hb⟩ := hrel
    by_cases hlt : k < us.length
    · obtain ⟨g, off, rfl, hg, hc⟩ := (h.below hb).1 (by omega)
      obtain ⟨u, hu⟩ : ∃ u, us[k]? = some u := ⟨_, List.getElem?_eq_getElem hlt⟩
      obtain ⟨c1, c2, c3⟩ := hc k u hu
      obtain ⟨z1, z2⟩ := h.2 u (List.mem_of_getElem? hu)
      have HU := Lib.hid hu
      have HC := Lib.hid hc
      clear hu hc
      obtain ⟨wo, rfl⟩ : ∃ wo : World, wo = wr := ⟨_, rfl⟩
      have hgs : g ≠ wo.heap.size := by have := hb.size; omega
      have hitem : ∀ v : Bool, Us.valid u = v → v = false → Us.itemOk us k = false := by
        intro v hv hf
        unfold Us.itemOk
        rw [HU.out]; simp [hv, hf]
      have HI := Lib.hid hitem
      clear hitem
      cases n1 : Nm.nameOk u.name.data.toList
      · have HF : Hid (Us.usersOk us = false) := Lib.hid (Us.usersOk_stop hlt (HI.out _ (Us.valid_no1 n1) rfl))
        go_wp2_with fail
        go_quiet ((first | (go_at_call 78; exact Calls.quiet_of_same (sName_q _ _ (by assumption))) | (go_at_call 49; exact Calls.quiet_of_same (l6In_q _ _ _ _))))
        go_wp2_with fail
        go_ret
        exact ⟨by rw [HF.out]; rfl, below_drewN (hb.alloc hb.size _) _⟩
      · by_cases n2 : u.name.toList = [97, 110, 121, 111, 110, 101]
        · have HF : Hid (Us.usersOk us = false) := Lib.hid (Us.usersOk_stop hlt (HI.out _ (Us.valid_no2 (by simpa using n2)) rfl))
          go_wp2_with fail
          go_quiet ((first | (go_at_call 78; exact Calls.quiet_of_same (sName_q _ _ (by assumption))) | (go_at_call 49; exact Calls.quiet_of_same (l6In_q _ _ _ _))))
          go_wp2_with fail
          go_ret
          exact ⟨by rw [HF.out]; rfl, below_drewN (hb.alloc hb.size _) _⟩
        · have n2b : (u.name.toList == [97, 110, 121, 111, 110, 101]) = false := by simpa using n2
          cases n3 : Nm.nameOk u.pass.data.toList
          · have HF : Hid (Us.usersOk us = false) := Lib.hid (Us.usersOk_stop hlt (HI.out _ (Us.valid_no3 n3) rfl))
            go_wp2_with fail
            go_quiet ((first | (go_at_call 78; exact Calls.quiet_of_same (sName_q _ _ (by assumption))) | (go_at_call 49; exact Calls.quiet_of_same (l6In_q _ _ _ _))))
            go_wp2_with fail
            go_ret
            exact ⟨by rw [HF.out]; rfl, below_drewN (hb.alloc hb.size _) _⟩
          · cases n4 : inB u.quota 0 200
            · have HF : Hid (Us.usersOk us = false) := Lib.hid (Us.usersOk_stop hlt (HI.out _ (Us.valid_no4 (by have := inB_no.1 n4; omega)) rfl))
              go_wp2_with fail
              go_quiet ((first | (go_at_call 78; exact Calls.quiet_of_same (sName_q _ _ (by assumption))) | (go_at_call 49; exact Calls.quiet_of_same (l6In_q _ _ _ _))))
              go_wp2_with fail
              go_ret
              exact ⟨by rw [HF.out]; rfl, below_drewN (hb.alloc hb.size _) _⟩
            · have HV := Lib.hid (Us.valid_of n1 n2b n3 (inB_iff.1 n4))
              by_cases hk0 : k = 0
              · subst hk0
                simp only [Nat.zero_mul, Nat.add_zero] at c1 c2 c3
                have HK : Hid (Us.okTo us (0 + 1) = true) := Lib.hid (by
                  rw [Us.okTo_succ, HO.out]
                  unfold Us.itemOk
                  rw [HU.out]; simp [HV.out])
                have hd : decide ((0 : Int) < (0 : Int)) = false := by decide
                go_wp2_with fail
                go_quiet ((first | (go_at_call 78; exact Calls.quiet_of_same (sName_q _ _ (by assumption))) | (go_at_call 49; exact Calls.quiet_of_same (l6In_q _ _ _ _))))
                go_wp2_with fail
                go_roundg (us.length - (0 + 1))
                case measure => have := HG.out; omega
                case rel => exact ⟨0 + 1, by omega, Lib.hid rfl, by go_num, HK, below_drewN (hb.alloc hb.size _) _⟩
              · have hk1 : 0 < k := by omega
                obtain ⟨j, hj⟩ : ∃ j, j + 1 = k := ⟨k - 1, by omega⟩
                have hjl : j < us.length := by omega
                have hjw : IntKind.i64.wrap ((k : Int) - 1) = (j : Int) := by rw [IntKind.wrap_i64]; omega
                obtain ⟨pv, hpv⟩ : ∃ pv, us[j]? = some pv := ⟨_, List.getElem?_eq_getElem (by omega)⟩
                obtain ⟨e1, _, _⟩ := HC.out j pv hpv
                have e2 : ∀ o, (wo.alloc o).cell? ⟨g, off + j * 3, none⟩ = some (.string pv.name) := fun o => by rw [World.cell?_alloc_lt _ _ _ (by have := hb.size; simp; omega)]; exact e1
                clear e1
                have HE : Hid (Us.itemOk us k = slt pv.name u.name) := Lib.hid (by
                  unfold Us.itemOk
                  rw [HU.out, show k - 1 = j from by omega, hpv]
                  have : (k == 0) = false := by simp; omega
                  simp [HV.out, this])
                clear hpv hj
                cases n5 : Op.bytesLess pv.name.toList u.name.toList
                · have HF : Hid (Us.usersOk us = false) := Lib.hid (Us.usersOk_stop hlt (by rw [HE.out]; exact n5))
                  go_wp2_with fail
                  go_quiet ((first | (go_at_call 78; exact Calls.quiet_of_same (sName_q _ _ (by assumption))) | (go_at_call 49; exact Calls.quiet_of_same (l6In_q _ _ _ _))))
                  go_wp2_with fail
                  go_ret
                  exact ⟨by rw [HF.out]; rfl, below_drewN (hb.alloc hb.size _) _⟩
                · have HK : Hid (Us.okTo us (k + 1) = true) := Lib.hid (by rw [Us.okTo_succ, HO.out, HE.out]; exact n5)
                  go_wp2_with fail
                  go_quiet ((first | (go_at_call 78; exact Calls.quiet_of_same (sName_q _ _ (by assumption))) | (go_at_call 49; exact Calls.quiet_of_same (l6In_q _ _ _ _))))
                  go_wp2_with fail
                  go_roundg (us.length - (k + 1))
                  case measure => have := HG.out; omega
                  case rel => exact ⟨k + 1, by omega, Lib.hid rfl, by go_num, HK, below_drewN (hb.alloc hb.size _) _⟩
    · obtain rfl : k = us.length := by omega
      have HF : Hid (Us.usersOk us = inB (us.length : Int) 1 4) := Lib.hid (by
        rw [Us.usersOk_all HO.out]
        cases hq : inB (us.length : Int) 1 4
        · have := inB_no.1 hq
          simp only [decide_eq_false_iff_not]; omega
        · have := inB_iff.1 hq
          simp only [decide_eq_true_eq]; omega)
      go_wp2_with (go_at_call 49; refine (l6In_any _ _ _ _).mono ?_; rintro e w' ⟨rfl, rfl⟩)
      go_ret
      exact ⟨by rw [HF.out]; rfl, hb⟩

end Go.Proofs.Ytjoohmokjliecaa
