/- The specification's side of SearchBox: mailboxes, sets, nodes. -/
import Derived.Test.YtmlmdpdboigojaaGreatDoorKyPlain
import Derived.Lib.IndexLaws
namespace Go.Proofs.YtmlmdpdboigojaaGreatDoor
set_option linter.unusedVariables false
open Go.RowKit

set_option maxHeartbeats 400000 in
theorem l4Flags_any (n : Int) (w : World) :
    Calls Tryz.prog 54 #[.int .i64 n] w fun e w' => e = .returned (.bool (Ky.flagsOk n)) ∧ w = w' := by
  go_enter Tryz.func54, Tryz.ntmps54
  go_wp2_with fail
  refine (l6In_any _ _ _ _).mono ?_
  rintro e w1 ⟨rfl, rfl⟩
  go_wp2_with fail
  go_ret
  exact ⟨by unfold inB Ky.flagsOk; rfl, rfl⟩

set_option maxHeartbeats 800000 in
theorem l11Mail_any (m : Ml) (w : World) (hs : m.text.size ≤ maxLen) :
    Calls Tryz.prog 36 #[.agg #[.int .i64 m.uid, .int .i64 m.flags, .string m.text]] w fun e w' => e = .returned (.bool (Ky.mailOk m)) ∧ Below w.heap.size w w' := by
  unfold maxLen at hs
  by_cases h1 : 1 ≤ m.uid ∧ m.uid ≤ 99
  · have e1 : (decide (1 ≤ m.uid) && decide (m.uid ≤ 99)) = true := by simp [h1.1, h1.2]
    have HE := Lib.hid e1
    clear e1
    cases hf : Ky.flagsOk m.flags
    · have HF := Lib.hid hf
      clear hf
      go_enter Tryz.func36, Tryz.ntmps36
      go_wp2_with fail
      refine (l6In_yes _ _ _ _ h1).mono ?_
      rintro e w1 ⟨rfl, rfl⟩
      go_wp2_with fail
      refine (l4Flags_any _ _).mono ?_
      rw [HF.out]
      rintro e w1 ⟨rfl, rfl⟩
      go_wp2_with fail
      go_ret
      exact ⟨by unfold Ky.mailOk; rw [HF.out, Bool.and_false, Bool.false_and]; rfl, by go_grown⟩
    · have HF := Lib.hid hf
      clear hf
      by_cases h3 : (m.text.size : Int) ≤ 20
      · go_enter Tryz.func36, Tryz.ntmps36
        go_wp2_with fail
        refine (l6In_yes _ _ _ _ h1).mono ?_
        rintro e w1 ⟨rfl, rfl⟩
        go_wp2_with fail
        refine (l4Flags_any _ _).mono ?_
        rw [HF.out]
        rintro e w1 ⟨rfl, rfl⟩
        go_wp2_with fail
        go_ret
        exact ⟨by unfold Ky.mailOk; rw [HE.out, HF.out, decide_eq_true (by omega : m.text.size ≤ 20)]; rfl, by go_grown⟩
      · go_enter Tryz.func36, Tryz.ntmps36
        go_wp2_with fail
        refine (l6In_yes _ _ _ _ h1).mono ?_
        rintro e w1 ⟨rfl, rfl⟩
        go_wp2_with fail
        refine (l4Flags_any _ _).mono ?_
        rw [HF.out]
        rintro e w1 ⟨rfl, rfl⟩
        go_wp2_with fail
        go_ret
        refine ⟨?_, by go_grown⟩
        show Ending.returned (.bool (decide ((m.text.size : Int) ≤ 20))) = _
        unfold Ky.mailOk
        rw [HE.out, HF.out, decide_eq_false (by omega : ¬ m.text.size ≤ 20), decide_eq_false (by omega : ¬ (m.text.size : Int) ≤ 20)]; rfl
  · go_enter Tryz.func36, Tryz.ntmps36
    go_wp2_with fail
    refine (l6In_no _ _ _ _ h1).mono ?_
    rintro e w1 ⟨rfl, rfl⟩
    go_wp2_with fail
    go_ret
    refine ⟨?_, by go_grown⟩
    unfold Ky.mailOk
    have : (decide (1 ≤ m.uid) && decide (m.uid ≤ 99)) = false := by
      cases h : (decide (1 ≤ m.uid) && decide (m.uid ≤ 99))
      · rfl
      · simp at h; exact absurd h h1
    rw [this]; rfl

set_option maxHeartbeats 1600000 in
theorem sBoxValid_any (nx : Int) (A : Option Addr) (ms : List Ml) (c : Nat) (w : World) (h : AtMails w w.heap.size A ms) (hz : ∀ m ∈ ms, m.text.size ≤ maxLen) (hn : ms.length ≤ maxLen) :
    Calls Tryz.prog 20 #[.agg #[.int .i64 nx, .slice A ms.length c]] w fun e w' => e = .returned (.bool (Ky.boxOk nx ms)) ∧ Below w.heap.size w w' := by
  unfold maxLen at hn
  have hB0 : Below w.heap.size w (w.alloc (.cells #[.int .i64 nx, .slice A ms.length c] 35)) := (Below.refl _ _).alloc (Nat.le_refl _) _
  have hx0 := heap_alloc_new w (.cells #[.int .i64 nx, .slice A ms.length c] 35)
  have HZ := Lib.hid hz
  clear hz
  go_enter Tryz.func20, Tryz.ntmps20
  go_upto_region 1 with fail
  generalize w.alloc (.cells #[.int .i64 nx, .slice A ms.length c] 35) = w1 at hB0 hx0 ⊢
  obtain ⟨b, hb⟩ : ∃ b, b = w.heap.size := ⟨_, rfl⟩
  have hbw : w.heap.size ≤ b := by omega
  rw [← hb] at hx0 ⊢
  clear hb
  have hbl := (Array.getElem?_eq_some_iff.1 hx0).1
  have H1 : Hid (∀ w', Below w1.heap.size w1 w' → Below w.heap.size w w' ∧ w'.cell? ⟨b, 0, none⟩ = some (.int .i64 nx) ∧ w'.cell? ⟨b, 1, none⟩ = some (.slice A ms.length c)) := Lib.hid fun w' hb' => by
    have hx := (hb'.block b hbl).trans hx0
    exact ⟨hB0.trans (hb'.mono hB0.size), cell_at hx 0 _ rfl, cell_at hx 1 _ rfl⟩
  have HA : Hid (∀ w', Below w.heap.size w w' → AtMails w' w'.heap.size A ms) := Lib.hid fun w' hb' => At.mono (At.below h hb') hb'.size
  clear hB0 hx0 h
  go_wp2_with fail
  go_loopg [3, 4] ms.length (fun g la i wr => ∃ (k : Nat) (last : Int), k ≤ ms.length ∧ Hid (g = ms.length - k) ∧ i = .int .i64 k ∧ la = .int .i64 last ∧ 0 ≤ last ∧ last ≤ 99 ∧ Hid (Ky.run 0 ms = Ky.run last (ms.drop k)) ∧ Below w1.heap.size w1 wr)
  case atStart => exact ⟨0, 0, Nat.zero_le _, Lib.hid rfl, rfl, rfl, by omega, by omega, Lib.hid rfl, Below.refl _ _⟩
  case round =>
    obtain ⟨k, last, hk, HG, rfl, rfl, hl0, hl9, HR, hb⟩ := hrel
    have b0 := (H1.out wr hb).2.1
    have b1 := (H1.out wr hb).2.2
    by_cases hlt : k < ms.length
    · have hki : (k : Int) < (ms.length : Int) := by omega
      obtain ⟨g, off, hA, hg, hc⟩ := AtMails.row (HA.out wr (H1.out wr hb).1) (by omega)
      subst hA
      obtain ⟨u, hu⟩ : ∃ u, ms[k]? = some u := ⟨_, List.getElem?_eq_getElem hlt⟩
      have hdr : ms.drop k = u :: ms.drop (k + 1) := by
        rw [List.drop_eq_getElem_cons hlt]
        congr 1
        exact Option.some.inj ((List.getElem?_eq_getElem hlt).symm.trans hu)
      have HR2 := Lib.hid (HR.out.trans (by rw [hdr]))
      obtain ⟨d0, d1, d2⟩ := hc k u hu
      have HM := Lib.hid (l11Mail_any u wr (HZ.out u (List.mem_of_getElem? hu)))
      have hgl : g < wr.heap.size := hg
      clear hc hdr
      go_wp2_with fail
      refine Calls.mono HM.out ?_
      rintro e w2 ⟨rfl, hb2⟩
      have hb12 := hb.trans (hb2.mono hb.size)
      have d0' := (hb2.cell (p := ⟨g, off + k * 3, none⟩) hgl).trans d0
      have b0' := (H1.out w2 hb12).2.1
      have b1' := (H1.out w2 hb12).2.2
      clear d0 d1 d2 b0 b1 hb2
      cases hmo : Ky.mailOk u
      · have HNO := Lib.hid (Ky.boxOk_none (nx := nx) (HR2.out.trans (Ky.run_no (.inl hmo))))
        clear hmo
        go_wp2_with fail
        go_ret
        exact ⟨by rw [HNO.out]; rfl, (H1.out _ hb12).1⟩
      · by_cases hu1 : u.uid ≤ last
        · have HNO := Lib.hid (Ky.boxOk_none (nx := nx) (HR2.out.trans (Ky.run_no (.inr hu1))))
          clear hmo
          go_wp2_with fail
          go_ret
          exact ⟨by rw [HNO.out]; rfl, (H1.out _ hb12).1⟩
        · have HYES := Lib.hid (HR2.out.trans (Ky.run_yes hmo (by omega : last < u.uid)))
          have hu9 : u.uid ≤ 99 := by
            unfold Ky.mailOk at hmo
            simp at hmo
            exact hmo.1.1.2
          clear hmo
          go_wp2_with fail
          go_roundg (ms.length - (k + 1))
          case measure => have := HG.out; omega
          case rel => exact ⟨k + 1, u.uid, by omega, Lib.hid rfl, by go_num, rfl, by omega, hu9, HYES, hb12⟩
    · obtain rfl : k = ms.length := by omega
      have HR2 := Lib.hid HR.out
      rw [List.drop_length] at HR2
      have HE := Lib.hid (Ky.boxOk_some (nx := nx) HR2.out)
      have hki : ¬ (ms.length : Int) < (ms.length : Int) := by omega
      by_cases c1 : last + 1 ≤ nx ∧ nx ≤ 100
      · by_cases c2 : (ms.length : Int) ≤ 10
        · go_wp2_with fail
          refine (l6In_yes _ _ _ _ c1).mono ?_
          rintro e w2 ⟨rfl, rfl⟩
          go_wp2_with fail
          go_ret
          exact ⟨by rw [HE.out, decide_eq_true c1.1, decide_eq_true c1.2, decide_eq_true (by omega : ms.length ≤ 10)]; rfl, (H1.out _ hb).1⟩
        · go_wp2_with fail
          refine (l6In_yes _ _ _ _ c1).mono ?_
          rintro e w2 ⟨rfl, rfl⟩
          go_wp2_with fail
          go_ret
          refine ⟨?_, (H1.out _ hb).1⟩
          show Ending.returned (.bool (decide ((ms.length : Int) ≤ 10))) = _
          rw [HE.out, decide_eq_false (by omega : ¬ ms.length ≤ 10), decide_eq_false (by omega : ¬ (ms.length : Int) ≤ 10), Bool.and_false]
      · go_wp2_with fail
        refine (l6In_no _ _ _ _ c1).mono ?_
        rintro e w2 ⟨rfl, rfl⟩
        go_wp2_with fail
        go_ret
        refine ⟨?_, (H1.out _ hb).1⟩
        rw [HE.out]
        have : (decide (last + 1 ≤ nx) && decide (nx ≤ 100)) = false := by
          cases h : (decide (last + 1 ≤ nx) && decide (nx ≤ 100))
          · rfl
          · simp at h; exact absurd h c1
        rw [this]; rfl

set_option maxHeartbeats 800000 in
theorem sSetValid_any (A : Option Addr) (ss : List Sn) (c : Nat) (w : World) (h : AtSet w w.heap.size A ss) (hn : ss.length ≤ maxLen) :
    Calls Tryz.prog 67 #[.slice A ss.length c] w fun e w' => e = .returned (.bool (Ky.setOk ss)) ∧ w = w' := by
  unfold maxLen at hn
  go_enter Tryz.func67, Tryz.ntmps67
  go_wp2_with fail
  go_loopg [3] ss.length (fun g i wr => ∃ k : Nat, k ≤ ss.length ∧ Hid (g = ss.length - k) ∧ i = .int .i64 k ∧ Hid (∀ j u, j < k → ss[j]? = some u → Ky.spanOk u = true) ∧ wr = w)
  case atStart => exact ⟨0, Nat.zero_le _, Lib.hid rfl, rfl, Lib.hid (fun j u hj => absurd hj (by omega)), rfl⟩
  case round =>
    obtain ⟨k, hk, HG, rfl, HQ, rfl⟩ := hrel
    by_cases hlt : k < ss.length
    · have hki : (k : Int) < (ss.length : Int) := by omega
      obtain ⟨g, off, hA, hg, hc⟩ := AtSet.row h (by omega)
      subst hA
      obtain ⟨u, hu⟩ : ∃ u, ss[k]? = some u := ⟨_, List.getElem?_eq_getElem hlt⟩
      obtain ⟨d0, d1⟩ := hc k u hu
      have HU := Lib.hid hu
      clear hc hu
      by_cases c1 : 0 ≤ u.1 ∧ u.1 ≤ 99
      · by_cases c2 : 0 ≤ u.2 ∧ u.2 ≤ 99
        · go_wp2_with fail
          refine (l6In_yes _ _ _ _ c1).mono ?_
          rintro e w2 ⟨rfl, rfl⟩
          go_wp2_with fail
          refine (l6In_yes _ _ _ _ c2).mono ?_
          rintro e w2 ⟨rfl, rfl⟩
          go_wp2_with fail
          go_roundg (ss.length - (k + 1))
          case measure => have := HG.out; omega
          case rel =>
            refine ⟨k + 1, by omega, Lib.hid rfl, by go_num, Lib.hid (fun j v hj hv => ?_), rfl⟩
            rcases Nat.lt_or_ge j k with h' | h'
            · exact HQ.out j v h' hv
            · have e : j = k := by omega
              subst e
              rw [HU.out] at hv
              injection hv with hv
              subst hv
              unfold Ky.spanOk Ky.numOk
              rw [decide_eq_true c1.1, decide_eq_true c1.2, decide_eq_true c2.1, decide_eq_true c2.2]; rfl
        · go_wp2_with fail
          refine (l6In_yes _ _ _ _ c1).mono ?_
          rintro e w2 ⟨rfl, rfl⟩
          go_wp2_with fail
          refine (l6In_no _ _ _ _ c2).mono ?_
          rintro e w2 ⟨rfl, rfl⟩
          go_wp2_with fail
          go_ret
          refine ⟨?_, rfl⟩
          rw [Ky.setOk_no (List.mem_of_getElem? HU.out) (.inr c2)]; rfl
      · go_wp2_with fail
        refine (l6In_no _ _ _ _ c1).mono ?_
        rintro e w2 ⟨rfl, rfl⟩
        go_wp2_with fail
        go_ret
        refine ⟨?_, rfl⟩
        rw [Ky.setOk_no (List.mem_of_getElem? HU.out) (.inl c1)]; rfl
    · obtain rfl : k = ss.length := by omega
      have hki : ¬ (ss.length : Int) < (ss.length : Int) := by omega
      go_wp2_with fail
      refine (l6In_any _ _ _ _).mono ?_
      rintro e w2 ⟨rfl, rfl⟩
      go_wp2_with fail
      go_ret
      refine ⟨?_, rfl⟩
      rw [Ky.setOk_len (fun u hu => by
        obtain ⟨i, hil, rfl⟩ := List.getElem_of_mem hu
        exact HQ.out i _ hil (List.getElem?_eq_getElem hil))]
      have e1 : decide (1 ≤ (ss.length : Int)) = decide (1 ≤ ss.length) := by rw [decide_eq_decide]; omega
      have e2 : decide ((ss.length : Int) ≤ 6) = decide (ss.length ≤ 6) := by rw [decide_eq_decide]; omega
      show Ending.returned (.bool (decide (1 ≤ (ss.length : Int)) && decide ((ss.length : Int) ≤ 6))) = _
      rw [e1, e2]

end Go.Proofs.YtmlmdpdboigojaaGreatDoor
