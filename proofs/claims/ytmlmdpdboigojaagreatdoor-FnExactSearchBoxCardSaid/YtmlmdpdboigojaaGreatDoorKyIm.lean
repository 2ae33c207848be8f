/- The program's side of SearchBox: mailboxes, sets, flags. -/
import Derived.Test.YtmlmdpdboigojaaGreatDoorKyPlain
import Derived.Test.YtmlmdpdboigojaaGreatDoorShelf
namespace Go.Proofs.YtmlmdpdboigojaaGreatDoor
set_option linter.unusedVariables false
open Go.RowKit

set_option maxHeartbeats 400000 in
theorem flagsValid_any (n : Int) (w : World) :
    Calls Tryz.prog 61 #[.int .i64 n] w fun e w' => e = .returned (.bool (Ky.flagsOk n)) ∧ w = w' := by
  by_cases h : 0 ≤ n
  · have HF : Hid (Ky.flagsOk n = decide (n ≤ 31)) := Lib.hid (by unfold Ky.flagsOk; rw [decide_eq_true h, Bool.true_and])
    go_enter Tryz.func61, Tryz.ntmps61
    go_wp2
    go_ret
    exact ⟨by rw [HF.out]; rfl, rfl⟩
  · have HF : Hid (Ky.flagsOk n = false) := Lib.hid (by unfold Ky.flagsOk; rw [decide_eq_false h, Bool.false_and])
    go_enter Tryz.func61, Tryz.ntmps61
    go_wp2
    go_ret
    exact ⟨by rw [HF.out]; rfl, rfl⟩

set_option maxHeartbeats 400000 in
theorem setNumberValid_any (n : Int) (w : World) :
    Calls Tryz.prog 71 #[.int .i64 n] w fun e w' => e = .returned (.bool (Ky.numOk n)) ∧ w = w' := by
  by_cases h : 0 ≤ n
  · have HF : Hid (Ky.numOk n = decide (n ≤ 99)) := Lib.hid (by unfold Ky.numOk; rw [decide_eq_true h, Bool.true_and])
    go_enter Tryz.func71, Tryz.ntmps71
    go_wp2
    go_ret
    exact ⟨by rw [HF.out]; rfl, rfl⟩
  · have HF : Hid (Ky.numOk n = false) := Lib.hid (by unfold Ky.numOk; rw [decide_eq_false h, Bool.false_and])
    go_enter Tryz.func71, Tryz.ntmps71
    go_wp2
    go_ret
    exact ⟨by rw [HF.out]; rfl, rfl⟩

set_option maxHeartbeats 400000 in
theorem setBound_any (n last : Int) (w : World) :
    Calls Tryz.prog 63 #[.int .i64 n, .int .i64 last] w fun e w' => e = .returned (.int .i64 (Ky.bound n last)) ∧ w = w' := by
  by_cases h : n = 0
  · have HF : Hid (Ky.bound n last = last) := Lib.hid (if_pos h)
    go_enter Tryz.func63, Tryz.ntmps63
    go_wp2
    go_ret
    exact ⟨by rw [HF.out]; rfl, rfl⟩
  · have HF : Hid (Ky.bound n last = n) := Lib.hid (if_neg h)
    go_enter Tryz.func63, Tryz.ntmps63
    go_wp2
    go_ret
    exact ⟨by rw [HF.out]; rfl, rfl⟩

set_option maxHeartbeats 800000 in
theorem FlagsHave_any (a f : Int) (w : World) (ha : Ky.flagsOk a = true) (hf : Ky.flagOne f = true) :
    Calls Tryz.prog 46 #[.int .i64 a, .int .i64 f] w fun e w' => e = .returned (.bool (decide (a / f % 2 = 1))) ∧ w = w' := by
  have hff : Ky.flagsOk f = true := by
    unfold Ky.flagOne at hf
    simp at hf
    rcases hf with (((rfl | rfl) | rfl) | rfl) | rfl <;> rfl
  have HA := Lib.hid ha
  have HF := Lib.hid hf
  have HFF := Lib.hid hff
  clear ha hf hff
  go_enter Tryz.func46, Tryz.ntmps46
  go_wp2_with fail
  refine (flagsValid_any _ _).mono ?_
  rw [HA.out]
  rintro e w1 ⟨rfl, rfl⟩
  go_wp2_with fail
  refine (flagsValid_any _ _).mono ?_
  rw [HFF.out]
  rintro e w1 ⟨rfl, rfl⟩
  go_wp2_with fail
  go_ret
  exact ⟨by rw [← Ky.flag_and HA.out HF.out]; rfl, rfl⟩

set_option maxHeartbeats 1600000 in
theorem iSetValid_any (A : Option Addr) (ss : List Sn) (c : Nat) (w : World) (h : AtSet w w.heap.size A ss) (hn : ss.length ≤ maxLen) :
    Calls Tryz.prog 59 #[.slice A ss.length c] w fun e w' => e = .returned (.bool (Ky.setOk ss)) ∧ Below w.heap.size w w' := by
  unfold maxLen at hn
  by_cases hl : 1 ≤ ss.length ∧ ss.length ≤ 6
  · have hl1 : ¬ (ss.length : Int) < 1 := by omega
    have hl2 : ¬ (ss.length : Int) > 6 := by omega
    have hl3 := hl.1
    have hl4 := hl.2
    go_enter Tryz.func59, Tryz.ntmps59
    go_wp2_with fail
    go_loopg [15] ss.length (fun g i wr => ∃ k : Nat, k ≤ ss.length ∧ Hid (g = ss.length - k) ∧ i = .int .i64 k ∧ Hid (∀ j u, j < k → ss[j]? = some u → Ky.spanOk u = true) ∧ Below w.heap.size w wr)
    case atStart => exact ⟨0, Nat.zero_le _, Lib.hid rfl, rfl, Lib.hid (fun j u hj => absurd hj (by omega)), Below.refl _ _⟩
    case round =>
      obtain ⟨k, hk, HG, rfl, HQ, hb⟩ := hrel
      by_cases hlt : k < ss.length
      · have hki : (k : Int) < (ss.length : Int) := by omega
        obtain ⟨g, off, hA, hg, hc⟩ := AtSet.row (At.below h hb) (by omega)
        subst hA
        obtain ⟨u, hu⟩ : ∃ u, ss[k]? = some u := ⟨_, List.getElem?_eq_getElem hlt⟩
        obtain ⟨d0, d1⟩ := hc k u hu
        have HU := Lib.hid hu
        clear hc hu
        cases q1 : Ky.numOk u.1
        · have HQ1 := Lib.hid q1
          clear q1
          go_wp2_with fail
          refine (setNumberValid_any _ _).mono ?_
          rw [HQ1.out]
          rintro e w2 ⟨rfl, rfl⟩
          go_wp2_with fail
          go_ret
          refine ⟨?_, hb.alloc hb.size _⟩
          rw [Ky.setOk_not (List.mem_of_getElem? HU.out) (.inl HQ1.out)]; rfl
        · have HQ1 := Lib.hid q1
          clear q1
          cases q2 : Ky.numOk u.2
          · have HQ2 := Lib.hid q2
            clear q2
            go_wp2_with fail
            refine (setNumberValid_any _ _).mono ?_
            rw [HQ1.out]
            rintro e w2 ⟨rfl, rfl⟩
            go_wp2_with fail
            refine (setNumberValid_any _ _).mono ?_
            rw [HQ2.out]
            rintro e w2 ⟨rfl, rfl⟩
            go_wp2_with fail
            go_ret
            refine ⟨?_, hb.alloc hb.size _⟩
            rw [Ky.setOk_not (List.mem_of_getElem? HU.out) (.inr HQ2.out)]; rfl
          · have HQ2 := Lib.hid q2
            clear q2
            go_wp2_with fail
            refine (setNumberValid_any _ _).mono ?_
            rw [HQ1.out]
            rintro e w2 ⟨rfl, rfl⟩
            go_wp2_with fail
            refine (setNumberValid_any _ _).mono ?_
            rw [HQ2.out]
            rintro e w2 ⟨rfl, rfl⟩
            go_wp2_with fail
            go_roundg (ss.length - (k + 1))
            case measure => have := HG.out; omega
            case rel =>
              refine ⟨k + 1, by omega, Lib.hid rfl, by go_num, Lib.hid (fun j v hj hv => ?_), hb.alloc hb.size _⟩
              rcases Nat.lt_or_ge j k with h' | h'
              · exact HQ.out j v h' hv
              · have e : j = k := by omega
                subst e
                rw [HU.out] at hv
                injection hv with hv
                subst hv
                unfold Ky.spanOk
                rw [HQ1.out, HQ2.out]; rfl
      · obtain rfl : k = ss.length := by omega
        have hki : ¬ (ss.length : Int) < (ss.length : Int) := by omega
        have HR : Hid (Ky.setOk ss = true) := Lib.hid (by
          rw [Ky.setOk_len (fun u hu => by
            obtain ⟨i, hil, rfl⟩ := List.getElem_of_mem hu
            exact HQ.out i _ hil (List.getElem?_eq_getElem hil)), decide_eq_true hl3, decide_eq_true hl4]; rfl)
        go_wp2_with fail
        go_ret
        exact ⟨by rw [HR.out]; rfl, hb⟩
  · have HR : Hid (Ky.setOk ss = false) := Lib.hid (Ky.setOk_off hl)
    by_cases h1 : (ss.length : Int) < 1
    · go_enter Tryz.func59, Tryz.ntmps59
      go_wp2_with fail
      go_ret
      exact ⟨by rw [HR.out]; rfl, Below.refl _ _⟩
    · have h2 : (ss.length : Int) > 6 := by omega
      clear hl
      go_enter Tryz.func59, Tryz.ntmps59
      go_wp2_with fail
      go_ret
      exact ⟨by rw [HR.out]; rfl, Below.refl _ _⟩

set_option maxHeartbeats 800000 in
theorem mailValid_any (m : Ml) (w : World) (hs : m.text.size ≤ maxLen) :
    Calls Tryz.prog 45 #[.agg #[.int .i64 m.uid, .int .i64 m.flags, .string m.text]] w fun e w' => e = .returned (.bool (Ky.mailOk m)) ∧ Below w.heap.size w w' := by
  unfold maxLen at hs
  have HM : Hid (Ky.mailOk m = ((decide (1 ≤ m.uid) && decide (m.uid ≤ 99)) && Ky.flagsOk m.flags && decide (m.text.size ≤ 20))) := Lib.hid rfl
  by_cases h1 : 1 ≤ m.uid
  · by_cases h2 : m.uid ≤ 99
    · cases hf : Ky.flagsOk m.flags
      · have HF := Lib.hid hf
        have HR : Hid (Ky.mailOk m = false) := Lib.hid (by rw [HM.out, hf, Bool.and_false, Bool.false_and])
        clear hf HM
        go_enter Tryz.func45, Tryz.ntmps45
        go_wp2_with fail
        refine (flagsValid_any _ _).mono ?_
        rw [HF.out]
        rintro e w1 ⟨rfl, rfl⟩
        go_wp2_with fail
        go_ret
        exact ⟨by rw [HR.out]; rfl, by go_grown⟩
      · have HF := Lib.hid hf
        have HR : Hid (Ky.mailOk m = decide ((m.text.size : Int) ≤ 20)) := Lib.hid (by
          rw [HM.out, hf, decide_eq_true h1, decide_eq_true h2, Bool.and_self, Bool.and_self, Bool.true_and, decide_eq_decide]; omega)
        clear hf HM
        go_enter Tryz.func45, Tryz.ntmps45
        go_wp2_with fail
        refine (flagsValid_any _ _).mono ?_
        rw [HF.out]
        rintro e w1 ⟨rfl, rfl⟩
        go_wp2_with fail
        go_ret
        exact ⟨by rw [HR.out]; rfl, by go_grown⟩
    · have HR : Hid (Ky.mailOk m = false) := Lib.hid (by rw [HM.out, decide_eq_false h2, Bool.and_false, Bool.false_and, Bool.false_and])
      clear HM
      go_enter Tryz.func45, Tryz.ntmps45
      go_wp2_with fail
      go_ret
      exact ⟨by rw [HR.out]; rfl, by go_grown⟩
  · have HR : Hid (Ky.mailOk m = false) := Lib.hid (by rw [HM.out, decide_eq_false h1, Bool.false_and, Bool.false_and, Bool.false_and])
    clear HM
    go_enter Tryz.func45, Tryz.ntmps45
    go_wp2_with fail
    go_ret
    exact ⟨by rw [HR.out]; rfl, by go_grown⟩
end Go.Proofs.YtmlmdpdboigojaaGreatDoor
