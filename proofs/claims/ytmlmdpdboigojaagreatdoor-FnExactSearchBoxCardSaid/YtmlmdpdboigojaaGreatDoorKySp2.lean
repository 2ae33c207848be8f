/- The specification's side of SearchBox: sets and texts. -/
import Derived.Test.YtmlmdpdboigojaaGreatDoorKySp
namespace Go.Proofs.YtmlmdpdboigojaaGreatDoor
set_option linter.unusedVariables false
open Go.RowKit

set_option maxHeartbeats 1600000 in
theorem l3Has_any (A : Option Addr) (ss : List Sn) (c : Nat) (last n : Int) (w : World) (h : AtSet w w.heap.size A ss) (hn : ss.length ≤ maxLen) :
    Calls Tryz.prog 41 #[.slice A ss.length c, .int .i64 last, .int .i64 n] w fun e w' => e = .returned (.bool (Ky.has ss last n)) ∧ w = w' := by
  unfold maxLen at hn
  go_enter Tryz.func41, Tryz.ntmps41
  go_wp2_with fail
  go_loopg [7] ss.length (fun g i wr => ∃ k : Nat, k ≤ ss.length ∧ Hid (g = ss.length - k) ∧ i = .int .i64 k ∧ Hid (Ky.has ss last n = Ky.has (ss.drop k) last n) ∧ wr = w)
  case atStart => exact ⟨0, Nat.zero_le _, Lib.hid rfl, rfl, Lib.hid rfl, rfl⟩
  case round =>
    obtain ⟨k, hk, HG, rfl, HQ, rfl⟩ := hrel
    by_cases hlt : k < ss.length
    · have hki : (k : Int) < (ss.length : Int) := by omega
      obtain ⟨g, off, hA, hg, hc⟩ := AtSet.row h (by omega)
      subst hA
      obtain ⟨u, hu⟩ : ∃ u, ss[k]? = some u := ⟨_, List.getElem?_eq_getElem hlt⟩
      obtain ⟨d0, d1⟩ := hc k u hu
      have hdr : ss.drop k = u :: ss.drop (k + 1) := by
        rw [List.drop_eq_getElem_cons hlt]
        congr 1
        exact Option.some.inj ((List.getElem?_eq_getElem hlt).symm.trans hu)
      have HQ2 := Lib.hid (HQ.out.trans ((congrArg (fun l => Ky.has l last n) hdr).trans (Ky.has_cons u (ss.drop (k + 1)) last n)))
      clear hc hu hdr
      obtain ⟨lo, hi⟩ := u
      dsimp only at d0 d1
      obtain ⟨a, ha⟩ : ∃ a, a = Ky.bound lo last := ⟨_, rfl⟩
      obtain ⟨b, hb⟩ : ∃ b, b = Ky.bound hi last := ⟨_, rfl⟩
      have HQ3 : Hid (Ky.has ss last n = (inB n (min a b) (max a b) || Ky.has (ss.drop (k + 1)) last n)) := Lib.hid (HQ2.out.trans (by rw [ha, hb]; rfl))
      clear HQ2
      cases hr : inB n (min a b) (max a b)
      · have HS : Hid (∀ (X Y : Int) (W : World), X = min a b → Y = max a b → Calls Tryz.prog 37 #[.int .i64 n, .int .i64 X, .int .i64 Y] W fun e w' => e = .returned (.bool false) ∧ W = w') := Lib.hid fun X Y W hX hY => by
          subst hX hY
          rw [← hr]
          exact l6In_any _ _ _ _
        have HQ4 : Hid (Ky.has ss last n = Ky.has (ss.drop (k + 1)) last n) := Lib.hid (by rw [HQ3.out, hr, Bool.false_or])
        clear hr
        by_cases hlo : lo = 0
        · have hav : a = last := by rw [ha]; unfold Ky.bound; rw [if_pos hlo]
          by_cases hhi : hi = 0
          · have hbv : b = last := by rw [hb]; unfold Ky.bound; rw [if_pos hhi]
            clear ha hb
            subst hlo
            subst hhi
            go_wp2_with fail
            all_goals
              refine Calls.mono (HS.out _ _ _ (by omega) (by omega)) ?_
              rintro e w2 ⟨rfl, rfl⟩
              go_wp2_with fail
              go_roundg (ss.length - (k + 1))
              case measure => have := HG.out; omega
              case rel => exact ⟨k + 1, by omega, Lib.hid rfl, by go_num, HQ4, rfl⟩
          · have hbv : b = hi := by rw [hb]; unfold Ky.bound; rw [if_neg hhi]
            clear ha hb
            subst hlo
            go_wp2_with fail
            all_goals
              refine Calls.mono (HS.out _ _ _ (by omega) (by omega)) ?_
              rintro e w2 ⟨rfl, rfl⟩
              go_wp2_with fail
              go_roundg (ss.length - (k + 1))
              case measure => have := HG.out; omega
              case rel => exact ⟨k + 1, by omega, Lib.hid rfl, by go_num, HQ4, rfl⟩
        · have hav : a = lo := by rw [ha]; unfold Ky.bound; rw [if_neg hlo]
          by_cases hhi : hi = 0
          · have hbv : b = last := by rw [hb]; unfold Ky.bound; rw [if_pos hhi]
            clear ha hb
            subst hhi
            go_wp2_with fail
            all_goals
              refine Calls.mono (HS.out _ _ _ (by omega) (by omega)) ?_
              rintro e w2 ⟨rfl, rfl⟩
              go_wp2_with fail
              go_roundg (ss.length - (k + 1))
              case measure => have := HG.out; omega
              case rel => exact ⟨k + 1, by omega, Lib.hid rfl, by go_num, HQ4, rfl⟩
          · have hbv : b = hi := by rw [hb]; unfold Ky.bound; rw [if_neg hhi]
            clear ha hb
            go_wp2_with fail
            all_goals
              refine Calls.mono (HS.out _ _ _ (by omega) (by omega)) ?_
              rintro e w2 ⟨rfl, rfl⟩
              go_wp2_with fail
              go_roundg (ss.length - (k + 1))
              case measure => have := HG.out; omega
              case rel => exact ⟨k + 1, by omega, Lib.hid rfl, by go_num, HQ4, rfl⟩
      · have HS : Hid (∀ (X Y : Int) (W : World), X = min a b → Y = max a b → Calls Tryz.prog 37 #[.int .i64 n, .int .i64 X, .int .i64 Y] W fun e w' => e = .returned (.bool true) ∧ W = w') := Lib.hid fun X Y W hX hY => by
          subst hX hY
          rw [← hr]
          exact l6In_any _ _ _ _
        have HQ4 : Hid (Ky.has ss last n = true) := Lib.hid (by rw [HQ3.out, hr, Bool.true_or])
        clear hr
        by_cases hlo : lo = 0
        · have hav : a = last := by rw [ha]; unfold Ky.bound; rw [if_pos hlo]
          by_cases hhi : hi = 0
          · have hbv : b = last := by rw [hb]; unfold Ky.bound; rw [if_pos hhi]
            clear ha hb
            subst hlo
            subst hhi
            go_wp2_with fail
            all_goals
              refine Calls.mono (HS.out _ _ _ (by omega) (by omega)) ?_
              rintro e w2 ⟨rfl, rfl⟩
              go_wp2_with fail
              go_ret
              exact ⟨by rw [HQ4.out]; rfl, rfl⟩
          · have hbv : b = hi := by rw [hb]; unfold Ky.bound; rw [if_neg hhi]
            clear ha hb
            subst hlo
            go_wp2_with fail
            all_goals
              refine Calls.mono (HS.out _ _ _ (by omega) (by omega)) ?_
              rintro e w2 ⟨rfl, rfl⟩
              go_wp2_with fail
              go_ret
              exact ⟨by rw [HQ4.out]; rfl, rfl⟩
        · have hav : a = lo := by rw [ha]; unfold Ky.bound; rw [if_neg hlo]
          by_cases hhi : hi = 0
          · have hbv : b = last := by rw [hb]; unfold Ky.bound; rw [if_pos hhi]
            clear ha hb
            subst hhi
            go_wp2_with fail
            all_goals
              refine Calls.mono (HS.out _ _ _ (by omega) (by omega)) ?_
              rintro e w2 ⟨rfl, rfl⟩
              go_wp2_with fail
              go_ret
              exact ⟨by rw [HQ4.out]; rfl, rfl⟩
          · have hbv : b = hi := by rw [hb]; unfold Ky.bound; rw [if_neg hhi]
            clear ha hb
            go_wp2_with fail
            all_goals
              refine Calls.mono (HS.out _ _ _ (by omega) (by omega)) ?_
              rintro e w2 ⟨rfl, rfl⟩
              go_wp2_with fail
              go_ret
              exact ⟨by rw [HQ4.out]; rfl, rfl⟩
    · obtain rfl : k = ss.length := by omega
      have hki : ¬ (ss.length : Int) < (ss.length : Int) := by omega
      have HQ2 := Lib.hid HQ.out
      rw [List.drop_length] at HQ2
      go_wp2_with fail
      go_ret
      exact ⟨by rw [HQ2.out]; rfl, rfl⟩

set_option maxHeartbeats 400000 in
theorem l12Flag_any (n : Int) (w : World) :
    Calls Tryz.prog 65 #[.int .i64 n] w fun e w' => e = .returned (.bool (Ky.flagOne n)) ∧ w = w' := by
  by_cases h1 : n = 1
  · subst h1
    go_enter Tryz.func65, Tryz.ntmps65
    go_wp2
    go_ret
    exact ⟨rfl, rfl⟩
  · by_cases h2 : n = 2
    · subst h2
      go_enter Tryz.func65, Tryz.ntmps65
      go_wp2
      go_ret
      exact ⟨rfl, rfl⟩
    · by_cases h4 : n = 4
      · subst h4
        go_enter Tryz.func65, Tryz.ntmps65
        go_wp2
        go_ret
        exact ⟨rfl, rfl⟩
      · by_cases h8 : n = 8
        · subst h8
          go_enter Tryz.func65, Tryz.ntmps65
          go_wp2
          go_ret
          exact ⟨rfl, rfl⟩
        · have b1 : (n == 1) = false := by simp [h1]
          have b2 : (n == 2) = false := by simp [h2]
          have b4 : (n == 4) = false := by simp [h4]
          have b8 : (n == 8) = false := by simp [h8]
          have HF : Hid (Ky.flagOne n = (n == 16)) := Lib.hid (by unfold Ky.flagOne; rw [b1, b2, b4, b8]; rfl)
          go_enter Tryz.func65, Tryz.ntmps65
          go_wp2
          go_ret
          exact ⟨by rw [HF.out]; rfl, rfl⟩

set_option maxHeartbeats 400000 in
theorem l12Word_any (s : ByteArray) (w : World) (hs : s.size ≤ maxLen) :
    Calls Tryz.prog 66 #[.string s] w fun e w' => e = .returned (.bool (Nm.nameOk s.data.toList)) ∧ w = w' := by
  have HN := Lib.hid (sNameValid_any s w hs)
  go_enter Tryz.func66, Tryz.ntmps66
  go_wp2_with fail
  refine Calls.mono HN.out ?_
  rintro e w1 ⟨rfl, rfl⟩
  go_wp2_with fail
  go_ret
  exact ⟨rfl, rfl⟩

theorem Ky.name_len {s : ByteArray} (h : Nm.nameOk s.data.toList = true) : s.data.toList ≠ [] ∧ s.size ≤ 8 := by
  unfold Nm.nameOk Nm.lenOk at h
  rw [Bool.and_eq_true, decide_eq_true_eq, slen] at h
  refine ⟨fun e => ?_, h.2.2⟩
  have := slen s
  rw [e] at this
  simp at this
  omega
theorem Ky.occ_is {s t : ByteArray} {k : Nat} (h : k + t.size ≤ s.size) : ((s.extract k (k + t.size)).toList == t.toList) = Lib.occAt s.data.toList t.data.toList k := by
  have e1 : (s.extract k (k + t.size)).toList = (s.data.toList.drop k).take t.size := by
    rw [Go.ByteArray.toList_eq]
    simp [ByteArray.data_extract, Array.toList_extract]
  have e2 : t.size = t.data.toList.length := (slen t).symm
  rw [e1, Go.ByteArray.toList_eq, e2, Bool.eq_iff_iff, beq_iff_eq]
  unfold Lib.occAt
  rw [List.isPrefixOf_iff_prefix, List.prefix_iff_eq_take]
  exact eq_comm

set_option maxHeartbeats 1600000 in
theorem l12Contains_any (s t : ByteArray) (w : World) (hs : s.size ≤ 1000) (ht : t.size ≤ 1000) (h0 : t.data.toList ≠ []) :
    Calls Tryz.prog 40 #[.string s, .string t] w fun e w' => e = .returned (.bool (Lib.contains s.data.toList t.data.toList)) ∧ w = w' := by
  have hsl : s.data.toList.length = s.size := slen s
  have htl : t.data.toList.length = t.size := slen t
  have H0 := Lib.hid h0
  have HSL := Lib.hid hsl
  have HTL := Lib.hid htl
  clear h0 hsl htl
  go_enter Tryz.func40, Tryz.ntmps40
  go_wp2_with fail
  go_loopg [5] (s.size + 1) (fun g i wr => ∃ k : Nat, k ≤ s.size + 1 ∧ Hid (g = s.size + 1 - k) ∧ i = .int .i64 k ∧ Hid (Lib.NoOcc s.data.toList t.data.toList k) ∧ wr = w)
  case atStart => exact ⟨0, Nat.zero_le _, Lib.hid rfl, rfl, Lib.hid (Lib.NoOcc.zero _ _), rfl⟩
  case round =>
    obtain ⟨k, hk, HG, rfl, HN, rfl⟩ := hrel
    by_cases hlt : k + t.size ≤ s.size
    · have hki : (k : Int) + (t.size : Int) ≤ (s.size : Int) := by omega
      have hpl : ((s.extract k (k + t.size)).toList == t.toList) = Lib.occAt s.data.toList t.data.toList k := Ky.occ_is hlt
      cases hoc : Lib.occAt s.data.toList t.data.toList k
      · have HN2 := Lib.hid (Lib.NoOcc.succ HN.out hoc)
        rw [hoc] at hpl
        clear hoc
        go_wp2_with fail
        go_roundg (s.size + 1 - (k + 1))
        case measure => have := HG.out; omega
        case rel => exact ⟨k + 1, by omega, Lib.hid rfl, by go_num, HN2, rfl⟩
      · have HC : Hid (Lib.contains s.data.toList t.data.toList = true) := Lib.hid (by
          unfold Lib.contains
          rw [Lib.index_hit HN.out (by rw [HSL.out]; omega) hoc]
          exact decide_eq_true (Int.natCast_nonneg _))
        rw [hoc] at hpl
        clear hoc
        go_wp2_with fail
        go_ret
        exact ⟨by rw [HC.out]; rfl, rfl⟩
    · have hki : ¬ (k : Int) + (t.size : Int) ≤ (s.size : Int) := by omega
      have HC : Hid (Lib.contains s.data.toList t.data.toList = false) := Lib.hid (by
        unfold Lib.contains
        rw [Lib.index_past H0.out HN.out (by rw [HSL.out, HTL.out]; omega)]; rfl)
      go_wp2_with fail
      go_ret
      exact ⟨by rw [HC.out]; rfl, rfl⟩
end Go.Proofs.YtmlmdpdboigojaaGreatDoor
