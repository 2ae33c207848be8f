/- The program's side of SearchBox: BoxValid, boxLastUid, keyPlain, keyFlagWord. -/
import Derived.Test.YtmlmdpdboigojaaGreatDoorKyIm
namespace Go.Proofs.YtmlmdpdboigojaaGreatDoor
set_option linter.unusedVariables false
open Go.RowKit

set_option maxHeartbeats 1600000 in
theorem iBoxValid_any (nx : Int) (A : Option Addr) (ms : List Ml) (c : Nat) (w : World) (h : AtMails w w.heap.size A ms) (hz : ∀ m ∈ ms, m.text.size ≤ maxLen) (hn : ms.length ≤ maxLen) :
    Calls Tryz.prog 27 #[.agg #[.int .i64 nx, .slice A ms.length c]] w fun e w' => e = .returned (.bool (Ky.boxOk nx ms)) ∧ Below w.heap.size w w' := by
  unfold maxLen at hn
  have hB0 : Below w.heap.size w (w.alloc (.cells #[.int .i64 nx, .slice A ms.length c] 35)) := (Below.refl _ _).alloc (Nat.le_refl _) _
  have hx0 := heap_alloc_new w (.cells #[.int .i64 nx, .slice A ms.length c] 35)
  have HZ := Lib.hid hz
  clear hz
  by_cases hl10 : (ms.length : Int) > 10
  · have HR : Hid (Ky.boxOk nx ms = false) := Lib.hid (by
      cases hr : Ky.run 0 ms with
      | none => exact Ky.boxOk_none hr
      | some l => rw [Ky.boxOk_some hr, decide_eq_false (by omega : ¬ ms.length ≤ 10), Bool.and_false])
    have HB := Lib.hid hB0
    clear hB0 hx0 h
    go_enter Tryz.func27, Tryz.ntmps27
    go_wp2_with fail
    go_ret
    exact ⟨by rw [HR.out]; rfl, HB.out⟩
  · have hl11 : ms.length ≤ 10 := by omega
    go_enter Tryz.func27, Tryz.ntmps27
    go_upto_region 1 with fail
    generalize w.alloc (.cells #[.int .i64 nx, .slice A ms.length c] 35) = w1 at hB0 hx0 ⊢
    obtain ⟨b, hb⟩ : ∃ b, b = w.heap.size := ⟨_, rfl⟩
    have hbw : w.heap.size ≤ b := by omega
    rw [← hb] at hx0 ⊢
    clear hb
    have hbl := (Array.getElem?_eq_some_iff.1 hx0).1
    have H1 : Hid (∀ w', Below w1.heap.size w1 w' → Below w.heap.size w w' ∧ w'.cell? ⟨b, 0, none⟩ = some (.int .i64 nx) ∧ w'.cell? ⟨b, 1, none⟩ = some (.slice A ms.length c)) := Lib.hid fun w' hb' => by
      have hx := (hb'.block b hbl).trans hx0
      exact ⟨hB0.trans (hb'.mono hB0.size), cell_at hx 0 _ rfl, cell_at hx 1 _ rfl⟩
    have HA : Hid (∀ w', Below w.heap.size w w' → AtMails w' w'.heap.size A ms) := Lib.hid fun w' hb' => At.mono (At.below h hb') hb'.size
    have c0 := cell_at hx0 0 _ rfl
    have c1 := cell_at hx0 1 _ rfl
    clear hB0 hx0 h
    go_wp2_with fail
    clear c0 c1
    go_loopg [3, 13] ms.length (fun g la i wr => ∃ (k : Nat) (last : Int), k ≤ ms.length ∧ Hid (g = ms.length - k) ∧ i = .int .i64 k ∧ la = .int .i64 last ∧ 0 ≤ last ∧ last ≤ 99 ∧ Hid (Ky.run 0 ms = Ky.run last (ms.drop k)) ∧ Below w1.heap.size w1 wr)
    case atStart => exact ⟨0, 0, Nat.zero_le _, Lib.hid rfl, rfl, rfl, by omega, by omega, Lib.hid rfl, Below.refl _ _⟩
    case round =>
      obtain ⟨k, last, hk, HG, rfl, rfl, hl0, hl9, HR, hb⟩ := hrel
      have b0 := (H1.out wr hb).2.1
      have b1 := (H1.out wr hb).2.2
      by_cases hlt : k < ms.length
      · have hki : (k : Int) < (ms.length : Int) := by omega
        obtain ⟨g, off, hA, hg, hc⟩ := AtMails.row (HA.out wr (H1.out wr hb).1) (by omega)
        subst hA
        obtain ⟨u, hu⟩ : ∃ u, ms[k]? = some u := ⟨_, List.getElem?_eq_getElem hlt⟩
        have hdr : ms.drop k = u :: ms.drop (k + 1) := by
          rw [List.drop_eq_getElem_cons hlt]
          congr 1
          exact Option.some.inj ((List.getElem?_eq_getElem hlt).symm.trans hu)
        have HR2 := Lib.hid (HR.out.trans (by rw [hdr]))
        obtain ⟨d0, d1, d2⟩ := hc k u hu
        have HM := Lib.hid (fun W => mailValid_any u W (HZ.out u (List.mem_of_getElem? hu)))
        have hbx : Below wr.heap.size wr (wr.alloc (.cells #[.int .i64 u.uid, .int .i64 u.flags, .string u.text] 74)) := (Below.refl _ _).alloc (Nat.le_refl _) _
        have HBX := Lib.hid (hb.trans (hbx.mono hb.size))
        have HXX := Lib.hid (heap_alloc_new wr (.cells #[.int .i64 u.uid, .int .i64 u.flags, .string u.text] 74))
        clear hc hdr hu hbx
        go_wp2_with fail
        refine Calls.mono (HM.out _) ?_
        rintro e w2 ⟨rfl, hb2⟩
        have hb12 := HBX.out.trans (hb2.mono HBX.out.size)
        have hx := (hb2.block wr.heap.size (by simp)).trans HXX.out
        have d0' := cell_at hx 0 _ rfl
        have b0' := (H1.out w2 hb12).2.1
        have b1' := (H1.out w2 hb12).2.2
        clear d0 d1 d2 b0 b1 hb2 hx
        cases hmo : Ky.mailOk u
        · have HNO := Lib.hid (Ky.boxOk_none (nx := nx) (HR2.out.trans (Ky.run_no (.inl hmo))))
          clear hmo
          go_wp2_with fail
          go_ret
          exact ⟨by rw [HNO.out]; rfl, (H1.out _ hb12).1⟩
        · by_cases hu1 : u.uid ≤ last
          · have HNO := Lib.hid (Ky.boxOk_none (nx := nx) (HR2.out.trans (Ky.run_no (.inr hu1))))
            clear hmo
            go_wp2_with fail
            go_ret
            exact ⟨by rw [HNO.out]; rfl, (H1.out _ hb12).1⟩
          · have HYES := Lib.hid (HR2.out.trans (Ky.run_yes hmo (by omega : last < u.uid)))
            have hu9 : u.uid ≤ 99 := by
              unfold Ky.mailOk at hmo
              simp at hmo
              exact hmo.1.1.2
            clear hmo
            go_wp2_with fail
            go_roundg (ms.length - (k + 1))
            case measure => have := HG.out; omega
            case rel => exact ⟨k + 1, u.uid, by omega, Lib.hid rfl, by go_num, rfl, by omega, hu9, HYES, hb12⟩
      · obtain rfl : k = ms.length := by omega
        have HR2 := Lib.hid HR.out
        rw [List.drop_length] at HR2
        have hki : ¬ (ms.length : Int) < (ms.length : Int) := by omega
        by_cases c1 : nx > last
        · have HE : Hid (Ky.boxOk nx ms = decide (nx ≤ 100)) := Lib.hid (by
            rw [Ky.boxOk_some (nx := nx) HR2.out, decide_eq_true (by omega : last + 1 ≤ nx), decide_eq_true hl11, Bool.true_and, Bool.and_true])
          go_wp2_with fail
          go_ret
          exact ⟨by rw [HE.out]; rfl, (H1.out _ hb).1⟩
        · have HE : Hid (Ky.boxOk nx ms = false) := Lib.hid (by
            rw [Ky.boxOk_some (nx := nx) HR2.out, decide_eq_false (by omega : ¬ last + 1 ≤ nx), Bool.false_and, Bool.false_and])
          go_wp2_with fail
          go_ret
          exact ⟨by rw [HE.out]; rfl, (H1.out _ hb).1⟩

set_option maxHeartbeats 800000 in
theorem boxLastUid_any (nx : Int) (A : Option Addr) (ms : List Ml) (c : Nat) (w : World) (h : AtMails w w.heap.size A ms) (hn : ms.length ≤ 10) :
    Calls Tryz.prog 49 #[.agg #[.int .i64 nx, .slice A ms.length c]] w fun e w' => e = .returned (.int .i64 (Ky.lastUid ms)) ∧ Below w.heap.size w w' := by
  by_cases h0 : ms.length = 0
  · have HR : Hid (Ky.lastUid ms = 0) := Lib.hid (by rw [List.eq_nil_of_length_eq_zero h0]; rfl)
    have hi0 : (ms.length : Int) = 0 := by omega
    go_enter Tryz.func49, Tryz.ntmps49
    go_wp2_with fail
    go_ret
    exact ⟨by rw [HR.out]; rfl, by go_grown⟩
  · obtain ⟨k, hk⟩ : ∃ k, ms.length = k + 1 := ⟨ms.length - 1, by omega⟩
    obtain ⟨g, off, hA, hg, hc⟩ := AtMails.row h (by omega)
    subst hA
    obtain ⟨u, hu⟩ : ∃ u, ms[k]? = some u := ⟨_, List.getElem?_eq_getElem (by omega)⟩
    obtain ⟨d0, d1, d2⟩ := hc k u hu
    have HR : Hid (Ky.lastUid ms = u.uid) := Lib.hid (by
      unfold Ky.lastUid
      rw [List.getLast?_eq_getElem?, hk, Nat.add_sub_cancel, hu]; rfl)
    have hi0 : ¬ ((k + 1 : Nat) : Int) = 0 := by omega
    have hk9 : k ≤ 9 := by omega
    rw [hk]
    clear hc hu hk h0 hn
    go_enter Tryz.func49, Tryz.ntmps49
    go_wp2_with fail
    go_ret
    exact ⟨by rw [HR.out]; rfl, by go_grown⟩

/-- neither a flag nor a text nor a set -/
def Ky.plain (flag : Int) (text : ByteArray) (n : Nat) : Bool := flag == 0 && text.data.toList.isEmpty && n == 0
set_option maxHeartbeats 800000 in
theorem keyPlain_any (kind flag : Int) (text : ByteArray) (A : Option Addr) (n c : Nat) (KA : Option Addr) (m kc : Nat) (w : World) :
    Calls Tryz.prog 60 #[.agg #[.int .i64 kind, .int .i64 flag, .string text, .slice A n c, .slice KA m kc]] w fun e w' => e = .returned (.bool (Ky.plain flag text n)) ∧ Below w.heap.size w w' := by
  obtain ⟨te, HTE⟩ : ∃ te : Bool, Hid (text.toList.isEmpty = te) := ⟨_, Lib.hid rfl⟩
  have HTD : Hid (text.data.toList.isEmpty = te) := Lib.hid (by rw [← Go.ByteArray.toList_eq]; exact HTE.out)
  have hte := HTE.out
  by_cases hf : flag = 0
  · subst hf
    cases te
    · have HR : Hid (Ky.plain 0 text n = false) := Lib.hid (by unfold Ky.plain; rw [HTD.out, Bool.and_false, Bool.false_and])
      go_enter Tryz.func60, Tryz.ntmps60
      go_wp2_with fail
      go_ret
      exact ⟨by rw [HR.out]; rfl, by go_grown⟩
    · have HR : Hid (Ky.plain 0 text n = ((n : Int) == 0)) := Lib.hid (by unfold Ky.plain; rw [HTD.out, Ky.nat_beq0]; simp)
      go_enter Tryz.func60, Tryz.ntmps60
      go_wp2_with fail
      go_ret
      exact ⟨by rw [HR.out]; rfl, by go_grown⟩
  · have HR : Hid (Ky.plain flag text n = false) := Lib.hid (by unfold Ky.plain; rw [show (flag == 0) = false by simp [hf]]; simp)
    go_enter Tryz.func60, Tryz.ntmps60
    go_wp2_with fail
    go_ret
    exact ⟨by rw [HR.out]; rfl, by go_grown⟩
end Go.Proofs.YtmlmdpdboigojaaGreatDoor
