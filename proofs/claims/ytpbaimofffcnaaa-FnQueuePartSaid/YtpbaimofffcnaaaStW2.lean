/- l21Names of the reference, receiversValid of the program. -/
import Derived.Test.YtpbaimofffcnaaaStX
namespace Go.Proofs.Ytpbaimofffcnaaa
set_option linter.unusedVariables false
open Go.RowKit

theorem StW.sName_q (s : ByteArray) (w : World) (hs : s.size ≤ maxLen) :
    Calls Try.prog 31 #[.string s] w fun e w' => e = .returned (.bool (Nm.nameOk s.data.toList)) ∧ w' = w :=
  (sNameValid_any s w hs).mono fun _ _ h => ⟨h.1, h.2.symm⟩

set_option maxRecDepth 100000 in
set_option maxHeartbeats 1600000 in
theorem l21Names_any (A : Option Addr) (us : List ByteArray) (c : Nat) (w : World) (h : AtStrs w w.heap.size A us) (hcap : us.length ≤ c) (hn : c ≤ maxLen) :
    Calls Try.prog 32 #[.slice A us.length c] w fun e w' => e = .returned (.bool (St.namesOk us)) ∧ Below w.heap.size w w' := by
  unfold maxLen at hn
  go_enter Try.func32, Try.ntmps32
  go_wp2_with fail
  go_loopg [3] us.length (fun g i wr => ∃ k : Nat, k ≤ us.length ∧ Hid (g = us.length - k) ∧ i = .int .i64 k ∧ Hid (St.okTo us k = true) ∧ Below w.heap.size w wr)
  case atStart => exact ⟨0, Nat.zero_le _, Lib.hid rfl, rfl, Lib.hid rfl, Below.refl _ _⟩
  case round =>
    obtain ⟨k, hk, HG, rfl, HO, hb⟩ := hrel
    by_cases hlt : k < us.length
    · have HA := Lib.hid ((h.below hb).take k)
      obtain ⟨g, off, rfl, hg, hc⟩ := (h.below hb).1 (by omega)
      obtain ⟨u, hu⟩ : ∃ u, us[k]? = some u := ⟨_, List.getElem?_eq_getElem hlt⟩
      have c1 := hc k u hu
      have z1 := h.2 u (List.mem_of_getElem? hu)
      have HU := Lib.hid hu
      have HL : Hid ((us.take k).length = k) := Lib.hid (by rw [List.length_take]; omega)
      have hkc : k ≤ c := by omega
      have HKM : Hid (k ≤ maxLen) := Lib.hid (by unfold maxLen; omega)
      clear hu hc
      obtain ⟨wo, rfl⟩ : ∃ wo : World, wo = wr := ⟨_, rfl⟩
      cases n1 : Nm.nameOk u.data.toList
      · have HF : Hid (St.namesOk us = false) := Lib.hid (St.namesOk_stop hlt (St.item_no1 HU.out n1))
        go_upto_region 4 with fail
        go_quiet ((go_at_call 31; exact Calls.quiet_of_same (StW.sName_q _ _ (by assumption))))
        go_wp2_with fail
        go_ret
        exact ⟨by rw [HF.out]; rfl, below_drewN hb _⟩
      · have HI := Lib.hid (St.item_is HU.out n1)
        cases n2 : St.has (us.take k) u
        · have HK : Hid (St.okTo us (k + 1) = true) := Lib.hid (by rw [St.okTo_succ, HO.out, HI.out, n2]; rfl)
          have HH : Hid (∀ nq, Calls Try.prog 26 #[.slice (some ⟨g, off, none⟩) k c, .string u] (wo.drewN nq) fun e w' => e = .returned (.bool false) ∧ w' = wo.drewN nq) := Lib.hid fun nq => by
            have := l21Has_any _ (us.take k) k c u (wo.drewN nq) _ HA.out HL.out HKM.out
            rwa [n2] at this
          go_upto_region 4 with fail
          go_quiet ((first | (go_at_call 31; exact Calls.quiet_of_same (StW.sName_q _ _ (by assumption))) | (go_at_call 26; exact Calls.quiet_of_same (HH.out _))))
          go_wp2_with fail
          go_roundg (us.length - (k + 1))
          case measure => have := HG.out; omega
          case rel => exact ⟨k + 1, by omega, Lib.hid rfl, by go_num, HK, below_drewN hb _⟩
        · have HF : Hid (St.namesOk us = false) := Lib.hid (St.namesOk_stop hlt (by rw [HI.out, n2]; rfl))
          have HH : Hid (∀ nq, Calls Try.prog 26 #[.slice (some ⟨g, off, none⟩) k c, .string u] (wo.drewN nq) fun e w' => e = .returned (.bool true) ∧ w' = wo.drewN nq) := Lib.hid fun nq => by
            have := l21Has_any _ (us.take k) k c u (wo.drewN nq) _ HA.out HL.out HKM.out
            rwa [n2] at this
          go_upto_region 4 with fail
          go_quiet ((first | (go_at_call 31; exact Calls.quiet_of_same (StW.sName_q _ _ (by assumption))) | (go_at_call 26; exact Calls.quiet_of_same (HH.out _))))
          go_wp2_with fail
          go_ret
          exact ⟨by rw [HF.out]; rfl, below_drewN hb _⟩
    · obtain rfl : k = us.length := by omega
      have HF : Hid (St.namesOk us = decide (us.length ≤ 3)) := Lib.hid (St.namesOk_all HO.out)
      go_wp2_with fail
      go_ret
      exact ⟨by rw [HF.out]; simp; omega, hb⟩

set_option maxRecDepth 100000 in
set_option maxHeartbeats 1600000 in
theorem receiversValid_any (A : Option Addr) (us : List ByteArray) (c : Nat) (w : World) (h : AtStrs w w.heap.size A us) (hcap : us.length ≤ c) (hn : c ≤ maxLen) :
    Calls Try.prog 35 #[.slice A us.length c] w fun e w' => e = .returned (.bool (St.namesOk us && decide (0 < us.length))) ∧ Below w.heap.size w w' := by
  unfold maxLen at hn
  by_cases hl1 : us.length < 1
  · have HF : Hid ((St.namesOk us && decide (0 < us.length)) = false) := Lib.hid (by rw [decide_eq_false (by omega : ¬ 0 < us.length)]; simp)
    go_enter Try.func35, Try.ntmps35
    go_wp2
    go_ret
    exact ⟨by rw [HF.out]; rfl, Below.refl _ _⟩
  by_cases hl4 : 3 < us.length
  · have HF : Hid ((St.namesOk us && decide (0 < us.length)) = false) := Lib.hid (by rw [St.namesOk_size (by omega)]; rfl)
    go_enter Try.func35, Try.ntmps35
    go_wp2
    go_ret
    exact ⟨by rw [HF.out]; rfl, Below.refl _ _⟩
  go_enter Try.func35, Try.ntmps35
  go_wp2_with fail
  go_loopg [15] us.length (fun g i wr => ∃ k : Nat, k ≤ us.length ∧ Hid (g = us.length - k) ∧ i = .int .i64 k ∧ Hid (St.okTo us k = true) ∧ Below w.heap.size w wr)
  case atStart => exact ⟨0, Nat.zero_le _, Lib.hid rfl, rfl, Lib.hid rfl, Below.refl _ _⟩
  case round =>
    obtain ⟨k, hk, HG, rfl, HO, hb⟩ := hrel
    by_cases hlt : k < us.length
    · have HA := Lib.hid ((h.below hb).take k)
      obtain ⟨g, off, rfl, hg, hc⟩ := (h.below hb).1 (by omega)
      obtain ⟨u, hu⟩ : ∃ u, us[k]? = some u := ⟨_, List.getElem?_eq_getElem hlt⟩
      have c1 := hc k u hu
      have z1 := h.2 u (List.mem_of_getElem? hu)
      have HU := Lib.hid hu
      have HL : Hid ((us.take k).length = k) := Lib.hid (by rw [List.length_take]; omega)
      have hkc : k ≤ c := by omega
      have HKM : Hid (k ≤ maxLen) := Lib.hid (by unfold maxLen; omega)
      clear hu hc
      obtain ⟨wo, rfl⟩ : ∃ wo : World, wo = wr := ⟨_, rfl⟩
      go_wp2_with fail
      refine (iNameValid_any _ _ z1).mono ?_
      rintro e w1 ⟨rfl, hb1⟩
      have hB := hb.trans (hb1.mono hb.size)
      cases n1 : Nm.nameOk u.data.toList
      · have HF : Hid ((St.namesOk us && decide (0 < us.length)) = false) := Lib.hid (by rw [St.namesOk_stop hlt (St.item_no1 HU.out n1)]; rfl)
        go_wp2_with fail
        go_ret
        exact ⟨by rw [HF.out]; rfl, hB⟩
      · have HI := Lib.hid (St.item_is HU.out n1)
        have HA1 := Lib.hid ((HA.out.below (hb1.mono hb.size)))
        go_wp2_with fail
        refine (contains_any _ (us.take k) k c u _ _ HA1.out HL.out HKM.out).mono ?_
        rintro e w2 ⟨rfl, rfl⟩
        cases n2 : St.has (us.take k) u
        · have HK : Hid (St.okTo us (k + 1) = true) := Lib.hid (by rw [St.okTo_succ, HO.out, HI.out, n2]; rfl)
          go_wp2_with fail
          go_roundg (us.length - (k + 1))
          case measure => have := HG.out; omega
          case rel => exact ⟨k + 1, by omega, Lib.hid rfl, by go_num, HK, hB⟩
        · have HF : Hid ((St.namesOk us && decide (0 < us.length)) = false) := Lib.hid (by rw [St.namesOk_stop hlt (by rw [HI.out, n2]; rfl)]; rfl)
          go_wp2_with fail
          go_ret
          exact ⟨by rw [HF.out]; rfl, hB⟩
    · obtain rfl : k = us.length := by omega
      have HF : Hid ((St.namesOk us && decide (0 < us.length)) = true) := Lib.hid (by rw [St.namesOk_all HO.out]; simp; omega)
      go_wp2_with fail
      go_ret
      exact ⟨by rw [HF.out]; rfl, hb⟩

end Go.Proofs.Ytpbaimofffcnaaa
