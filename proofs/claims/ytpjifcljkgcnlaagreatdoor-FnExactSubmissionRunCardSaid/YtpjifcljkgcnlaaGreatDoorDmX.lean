/- DmX: DmI DmI2 PfS DmI3, in one text. -/
import Derived.Test.YtpjifcljkgcnlaaGreatDoorPl
import Derived.Test.YtpjifcljkgcnlaaGreatDoorDmS
import Derived.Test.YtpjifcljkgcnlaaGreatDoorRx
import Derived.Deep.DeepCutAuto
import Derived.Deep.CutBlock
import Derived.Test.YtpjifcljkgcnlaaGreatDoorShelf
import Derived.Test.YtpjifcljkgcnlaaGreatDoorCtS
import Derived.Lib.IndexLaws
import Derived.IntWalk
import Derived.BigQuiet
import Derived.Test.YtpjifcljkgcnlaaGreatDoorSmA
namespace Go.Proofs.YtpjifcljkgcnlaaGreatDoor
set_option linter.unusedVariables false
open Go.RowKit

theorem Cur.rest_lt {s : ByteArray} {p : Nat} {c : UInt8} {t : List UInt8} (h : s.data.toList.drop p = c :: t) : p < s.size ∧ t = s.data.toList.drop (p + 1) := by
  have hl : s.data.toList.length = s.size := slen s
  have h1 : p < s.data.toList.length := by
    rcases Nat.lt_or_ge p s.data.toList.length with h1 | h1
    · exact h1
    · rw [List.drop_of_length_le h1] at h; cases h
  refine ⟨by omega, ?_⟩
  rw [List.drop_eq_getElem_cons h1] at h
  injection h with _ h
  exact h.symm
theorem Cur.rest_at {s : ByteArray} {p : Nat} {c : UInt8} {t : List UInt8} (h : s.data.toList.drop p = c :: t) (hp : p < s.size) : s[p]'hp = c := by
  have hl : s.data.toList.length = s.size := slen s
  rw [List.drop_eq_getElem_cons (by omega)] at h
  injection h with h _
/-- nothing was taken, or one byte -/
def Cur.To (s : ByteArray) (p : Nat) (r : Bool) (w : World) (b : Nat) (e : Ending) (w' : World) : Prop := e = .returned (.bool r) ∧ Cur w' b s p ∧ w.grownBy w' (some b)
theorem u8_cast (c d : UInt8) (h : c ≠ d) : ¬ ((c.toNat : Int) = (d.toNat : Int)) := fun e => h (UInt8.toNat_inj.1 (by omega))

set_option maxRecDepth 100000 in
set_option maxHeartbeats 1600000 in
theorem take_end (s : ByteArray) (p b : Nat) (c : UInt8) (w : World) (hs : s.size ≤ maxLen) (h : Cur w b s p) (hp : s.size = p) :
    Calls Tryz.prog 56 #[.pointer (some ⟨b, 0, none⟩), .int .u8 (c.toNat : Int)] w (Cur.To s p false w b) := by
  have c0 := h.c0
  have c1 := h.c1
  have HP := Lib.hid hp
  have HG : Hid (∀ n, w.grownBy (w.drewN n) (some b)) := Lib.hid fun n => grown_drewN (grown_refl b w) n
  have HC : Hid (∀ n, Cur (w.drewN n) b s p) := Lib.hid fun n => h.drewN n
  clear hp
  go_enter Tryz.func56, Tryz.ntmps56
  go_wp2_with fail
  go_quiet ((go_at_call 46; exact Calls.quiet_of (done_end s p b _ (by simpa using c0) (by simpa using c1) HP.out)))
  go_wp2_with fail
  go_ret
  exact ⟨rfl, HC.out _, HG.out _⟩
set_option maxRecDepth 100000 in
set_option maxHeartbeats 1600000 in
theorem take_no (s : ByteArray) (p b : Nat) (c : UInt8) (w : World) (hs : s.size ≤ maxLen) (h : Cur w b s p) (hp : p < s.size) (hc : s[p]'hp ≠ c) :
    Calls Tryz.prog 56 #[.pointer (some ⟨b, 0, none⟩), .int .u8 (c.toNat : Int)] w (Cur.To s p false w b) := by
  have c0 := h.c0
  have c1 := h.c1
  have hq := u8_cast _ _ hc
  have hq2 : (((s[p]'hp).toNat : Int) != (c.toNat : Int)) = true := by simpa using hq
  have HG : Hid (∀ n, w.grownBy (w.drewN n) (some b)) := Lib.hid fun n => grown_drewN (grown_refl b w) n
  have HC : Hid (∀ n, Cur (w.drewN n) b s p) := Lib.hid fun n => h.drewN n
  have hpi : (p : Int) < (s.size : Int) := by omega
  clear hc
  go_enter Tryz.func56, Tryz.ntmps56
  go_wp2_with fail
  go_quiet ((go_at_call 46; exact Calls.quiet_of (done_no s p b _ (by simpa using c0) (by simpa using c1) hp)))
  go_wp2_with fail
  go_ret
  exact ⟨rfl, HC.out _, HG.out _⟩
set_option maxRecDepth 100000 in
set_option maxHeartbeats 1600000 in
theorem take_yes (s : ByteArray) (p b : Nat) (c : UInt8) (w : World) (hs : s.size ≤ maxLen) (h : Cur w b s p) (hp : p < s.size) (hc : s[p]'hp = c) :
    Calls Tryz.prog 56 #[.pointer (some ⟨b, 0, none⟩), .int .u8 (c.toNat : Int)] w (Cur.To s (p + 1) true w b) := by
  have hsl := hs
  unfold maxLen at hsl
  have c0 := h.c0
  have c1 := h.c1
  have f1 := h.f1
  have hq : ((s[p]'hp).toNat : Int) = (c.toNat : Int) := by rw [hc]
  have hq2 : (((s[p]'hp).toNat : Int) != (c.toNat : Int)) = false := by simpa using hq
  have HG : Hid (∀ n v, w.grownBy ((w.drewN n).setCell ⟨b, 1, none⟩ v) (some b)) := Lib.hid fun n v => grown_set (grown_drewN (grown_refl b w) n) 1 v
  have HC : Hid (∀ n, Cur ((w.drewN n).setCell ⟨b, 1, none⟩ (.int .i64 ((p : Int) + 1))) b s (p + 1)) := Lib.hid fun n => (h.drewN n).step
  have hpi : (p : Int) < (s.size : Int) := by omega
  clear hc
  go_enter Tryz.func56, Tryz.ntmps56
  go_wp2_with fail
  go_quiet ((go_at_call 46; exact Calls.quiet_of (done_no s p b _ (by simpa using c0) (by simpa using c1) hp)))
  go_wp2_with fail
  go_ret
  exact ⟨rfl, HC.out _, HG.out _ _⟩
/-- one byte is taken if it is the next one -/
theorem take_cons {s : ByteArray} {p b : Nat} {c : UInt8} {t : List UInt8} {w : World} (hs : s.size ≤ maxLen) (h : Cur w b s p) (ht : s.data.toList.drop p = c :: t) :
    Calls Tryz.prog 56 #[.pointer (some ⟨b, 0, none⟩), .int .u8 (c.toNat : Int)] w (Cur.To s (p + 1) true w b) :=
  take_yes s p b c w hs h (Cur.rest_lt ht).1 (Cur.rest_at ht _)
theorem take_other {s : ByteArray} {p b : Nat} {c : UInt8} {w : World} (hs : s.size ≤ maxLen) (h : Cur w b s p) (hp : p ≤ s.size) (ht : ∀ t, s.data.toList.drop p ≠ c :: t) :
    Calls Tryz.prog 56 #[.pointer (some ⟨b, 0, none⟩), .int .u8 (c.toNat : Int)] w (Cur.To s p false w b) := by
  by_cases he : s.size = p
  · exact take_end s p b c w hs h he
  · have hlt : p < s.size := by omega
    refine take_no s p b c w hs h hlt fun e => ?_
    have hl : s.data.toList.length = s.size := slen s
    have := List.drop_eq_getElem_cons (l := s.data.toList) (i := p) (by omega)
    refine ht (s.data.toList.drop (p + 1)) ?_
    rw [this, ← e]; rfl
end Go.Proofs.YtpjifcljkgcnlaaGreatDoor

namespace Go.Proofs.YtpjifcljkgcnlaaGreatDoor
set_option linter.unusedVariables false
open Go.RowKit

/-- what reading a domain gives -/
def Cur.Dom (s : ByteArray) (p : Nat) (o : Option Nat) (w : World) (b : Nat) (e : Ending) (w' : World) : Prop :=
  (∀ m, o = some m → e = .returned (.tuple #[.string (s.extract p (p + m)), .bool (decide (m ≤ 20))]) ∧ Cur w' b s (p + m) ∧ p + m ≤ s.size) ∧
  (o = none → e = .returned (.tuple #[.string ⟨#[]⟩, .bool false]) ∧ ∃ q, q ≤ s.size ∧ Cur w' b s q) ∧ w.grownBy w' (some b)
theorem Cur.dom_some {s : ByteArray} {p k : Nat} {o : Option Nat} {w w' : World} {b : Nat} {v : Bool} (h : o = some (k - p)) (hpk : p ≤ k) (hk : k ≤ s.size) (hv : v = decide (k - p ≤ 20)) (hc : Cur w' b s k) (hg : w.grownBy w' (some b)) :
    Cur.Dom s p o w b (.returned (.tuple #[.string (s.extract p k), .bool v])) w' := by
  subst h; subst hv
  have hx : p + (k - p) = k := by omega
  refine ⟨fun m hm => ?_, fun hm => (by cases hm), hg⟩
  injection hm with hm
  subst hm
  rw [hx]
  exact ⟨rfl, hc, hk⟩
theorem Cur.dom_none {s : ByteArray} {p q : Nat} {o : Option Nat} {w w' : World} {b : Nat} (h : o = none) (hq : q ≤ s.size) (hc : Cur w' b s q) (hg : w.grownBy w' (some b)) :
    Cur.Dom s p o w b (.returned (.tuple #[.string ⟨#[]⟩, .bool false])) w' := by
  subst h
  exact ⟨fun m hm => (by cases hm), fun _ => ⟨rfl, q, hq, hc⟩, hg⟩
theorem Dm.more_step {t : List UInt8} {j : Nat} (hj : j < 3) (h : Nm.lenOk (Nm.run t) = true) : Dm.more (3 - j) (46 :: t) = (Dm.more (3 - (j + 1)) (t.drop (Nm.run t))).map (1 + Nm.run t + ·) := by
  rw [show 3 - j = (3 - (j + 1)) + 1 by omega]
  show (if (46 : UInt8) = 46 then (if Nm.lenOk (Nm.run t) = true then (Dm.more (3 - (j + 1)) (t.drop (Nm.run t))).map (1 + Nm.run t + ·) else none) else some 0) = _
  rw [if_pos rfl, if_pos h]
theorem Dm.more_bad {t : List UInt8} {j : Nat} (hj : j < 3) (h : Nm.lenOk (Nm.run t) = false) : Dm.more (3 - j) (46 :: t) = none := by
  rw [show 3 - j = (3 - (j + 1)) + 1 by omega]
  show (if (46 : UInt8) = 46 then (if Nm.lenOk (Nm.run t) = true then (Dm.more (3 - (j + 1)) (t.drop (Nm.run t))).map (1 + Nm.run t + ·) else none) else some 0) = _
  rw [if_pos rfl, if_neg (by rw [h]; decide)]
theorem Dm.more_nil (j : Nat) : Dm.more j [] = some 0 := by cases j <;> rfl
theorem Dm.more_other {c : UInt8} {t : List UInt8} (j : Nat) (h : c ≠ 46) : Dm.more j (c :: t) = some 0 := by
  cases j with
  | zero => rfl
  | succ j => exact Dm.more_not h

set_option maxRecDepth 100000 in
set_option maxHeartbeats 3200000 in
theorem domain_any (s : ByteArray) (p b : Nat) (w : World) (hp : p ≤ s.size) (hs : s.size ≤ maxLen) (h : Cur w b s p) :
    Calls Tryz.prog 45 #[.pointer (some ⟨b, 0, none⟩)] w (Cur.Dom s p (Dm.rd 2 (s.data.toList.drop p)) w b) := by
  have hsl := hs
  unfold maxLen at hsl
  have c0 := h.c0
  have c1 := h.c1
  go_enter Tryz.func45, Tryz.ntmps45
  go_wp2_with fail
  refine Calls.mono (name_any s p b _ hp hs h) ?_
  rintro e w1 ⟨rfl, hcn, hg1⟩
  have hlen := Nm.run_le (s.data.toList.drop p)
  rw [List.length_drop, slen] at hlen
  generalize hnn : Nm.run (s.data.toList.drop p) = n at hcn hlen ⊢
  have HNn := Lib.hid hnn
  clear hnn
  have HL : Hid (s.data.toList.length = s.size) := Lib.hid (slen s)
  cases hl : Nm.lenOk n
  · have HR : Hid (Dm.rd 2 (s.data.toList.drop p) = none) := Lib.hid (by unfold Dm.rd; rw [HNn.out, if_neg (by rw [hl]; decide)])
    clear hl
    go_wp2_with fail
    go_ret2
    exact Cur.dom_none HR.out (by omega) hcn hg1
  · have HR : Hid (Dm.rd 2 (s.data.toList.drop p) = (Dm.more (3 - 1) (s.data.toList.drop (p + n))).map ((p + n - p) + ·)) := Lib.hid (by unfold Dm.rd; rw [HNn.out, if_pos hl, List.drop_drop]; congr 1; funext x; omega)
    have HC1 := Lib.hid hcn
    have HG1 := Lib.hid hg1
    clear hl hcn hg1
    go_wp2_with fail
    go_loopg [7] 2 (fun g i wr => ∃ j k : Nat, 1 ≤ j ∧ j ≤ 3 ∧ Hid (g = 3 - j) ∧ i = .int .i64 (j : Int) ∧ p ≤ k ∧ k ≤ s.size ∧ Hid (Cur wr b s k) ∧ Hid (w.grownBy wr (some b)) ∧ Hid (Dm.rd 2 (s.data.toList.drop p) = (Dm.more (3 - j) (s.data.toList.drop k)).map ((k - p) + ·)))
    case atStart => exact ⟨1, p + n, by omega, by omega, Lib.hid rfl, rfl, by omega, by omega, HC1, HG1, HR⟩
    case round =>
      obtain ⟨j, k, hj1, hj3, HG, rfl, hpk, hks, HC, HGR, HRK⟩ := hrel
      clear c0 c1
      have c0 := HC.out.c0
      have c1 := HC.out.c1
      by_cases hj : j < 3
      · have hji : (j : Int) < 3 := by omega
        cases hd : s.data.toList.drop k with
        | nil =>
          have HRS : Hid (Dm.rd 2 (s.data.toList.drop p) = some (k - p)) := Lib.hid (by rw [HRK.out, hd, Dm.more_nil]; simp)
          have HD := Lib.hid hd
          clear hd
          go_wp2_with fail
          refine Calls.mono (take_other (c := 46) hs HC.out hks (fun t e => by rw [HD.out] at e; cases e)) ?_
          rintro e w2 ⟨rfl, hc2, hg2⟩
          have hg2' := grown_trans HGR.out hg2
          clear hg2
          have hci := hc2
          clear c0 c1
          have c0 := hci.c0
          have c1 := hci.c1
          have HCD : Hid (∀ n, Cur (w2.drewN n) b s k) := Lib.hid fun n => hci.drewN n
          have HGD : Hid (∀ n, w.grownBy (w2.drewN n) (some b)) := Lib.hid fun n => grown_drewN hg2' n
          clear hci
          have hsz1 : (p : Int) ≤ (k : Int) := by omega
          have hsz2 : (k : Int) ≤ (s.size : Int) := by omega
          by_cases h20 : k - p ≤ 20
          · have h20i : (k : Int) - (p : Int) ≤ 20 := by omega
            have HV : Hid (decide (k - p ≤ 20) = true) := Lib.hid (by simpa using h20)
            clear h20
            go_wp2_with fail
            go_quiet (fail)
            go_wp2_with fail
            go_ret2
            exact Cur.dom_some HRS.out hpk hks (Eq.trans (by first | rfl | exact decide_eq_false (by omega) | exact decide_eq_true (by omega)) HV.out.symm) (HCD.out _) (HGD.out _)
          · have h20i : ¬ (k : Int) - (p : Int) ≤ 20 := by omega
            have HV : Hid (decide (k - p ≤ 20) = false) := Lib.hid (by simpa using h20)
            clear h20
            go_wp2_with fail
            go_quiet (fail)
            go_wp2_with fail
            go_ret2
            exact Cur.dom_some HRS.out hpk hks (Eq.trans (by first | rfl | exact decide_eq_false (by omega) | exact decide_eq_true (by omega)) HV.out.symm) (HCD.out _) (HGD.out _)
        | cons c t =>
          by_cases h46 : c = 46
          · subst h46
            obtain ⟨hkl, ht⟩ := Cur.rest_lt hd
            have HTK := Lib.hid (take_cons (w := wr) hs HC.out hd)
            subst ht
            have HD := Lib.hid hd
            clear hd
            go_wp2_with fail
            refine Calls.mono HTK.out ?_
            rintro e w2 ⟨rfl, hc2, hg2⟩
            have hg2' := grown_trans HGR.out hg2
            clear hg2 HTK
            go_wp2_with fail
            refine Calls.mono (name_any s (k + 1) b _ (by omega) hs hc2) ?_
            rintro e w3 ⟨rfl, hcm, hg3⟩
            have hlem := Nm.run_le (s.data.toList.drop (k + 1))
            rw [List.length_drop, slen] at hlem
            generalize hnm : Nm.run (s.data.toList.drop (k + 1)) = m at hcm hlem ⊢
            have HNm := Lib.hid hnm
            clear hnm
            have hg3' := grown_trans hg2' hg3
            clear hg3 hc2 hg2'
            cases hl2 : Nm.lenOk m
            · have HRN : Hid (Dm.rd 2 (s.data.toList.drop p) = none) := Lib.hid (by rw [HRK.out, HD.out, Dm.more_bad hj (by rw [HNm.out]; exact hl2)]; rfl)
              clear hl2
              go_wp2_with fail
              go_ret2
              exact Cur.dom_none HRN.out (by omega) hcm hg3'
            · have HRN : Hid (Dm.rd 2 (s.data.toList.drop p) = (Dm.more (3 - (j + 1)) (s.data.toList.drop (k + 1 + m))).map ((k + 1 + m - p) + ·)) := Lib.hid (by rw [HRK.out, HD.out, Dm.more_step hj (by rw [HNm.out]; exact hl2), HNm.out, List.drop_drop, Option.map_map]; congr 1; funext x; simp only [Function.comp]; omega)
              have HC3 := Lib.hid hcm
              have HG3 := Lib.hid hg3'
              clear hl2 hcm hg3' c0 c1
              go_wp2_with fail
              go_roundg (3 - (j + 1))
              case measure => have := HG.out; omega
              case rel => exact ⟨j + 1, k + 1 + m, by omega, by omega, Lib.hid rfl, by go_num, by omega, by omega, HC3, HG3, HRN⟩
          · have HRS : Hid (Dm.rd 2 (s.data.toList.drop p) = some (k - p)) := Lib.hid (by rw [HRK.out, hd, Dm.more_other _ h46]; simp)
            have HD := Lib.hid hd
            have H46 := Lib.hid h46
            clear hd h46
            go_wp2_with fail
            refine Calls.mono (take_other (c := 46) hs HC.out hks (fun t e => by rw [HD.out] at e; injection e with e _; exact H46.out e)) ?_
            rintro e w2 ⟨rfl, hc2, hg2⟩
            have hg2' := grown_trans HGR.out hg2
            clear hg2
            have hci := hc2
            clear c0 c1
            have c0 := hci.c0
            have c1 := hci.c1
            have HCD : Hid (∀ n, Cur (w2.drewN n) b s k) := Lib.hid fun n => hci.drewN n
            have HGD : Hid (∀ n, w.grownBy (w2.drewN n) (some b)) := Lib.hid fun n => grown_drewN hg2' n
            clear hci
            have hsz1 : (p : Int) ≤ (k : Int) := by omega
            have hsz2 : (k : Int) ≤ (s.size : Int) := by omega
            by_cases h20 : k - p ≤ 20
            · have h20i : (k : Int) - (p : Int) ≤ 20 := by omega
              have HV : Hid (decide (k - p ≤ 20) = true) := Lib.hid (by simpa using h20)
              clear h20
              go_wp2_with fail
              go_quiet (fail)
              go_wp2_with fail
              go_ret2
              exact Cur.dom_some HRS.out hpk hks (Eq.trans (by first | rfl | exact decide_eq_false (by omega) | exact decide_eq_true (by omega)) HV.out.symm) (HCD.out _) (HGD.out _)
            · have h20i : ¬ (k : Int) - (p : Int) ≤ 20 := by omega
              have HV : Hid (decide (k - p ≤ 20) = false) := Lib.hid (by simpa using h20)
              clear h20
              go_wp2_with fail
              go_quiet (fail)
              go_wp2_with fail
              go_ret2
              exact Cur.dom_some HRS.out hpk hks (Eq.trans (by first | rfl | exact decide_eq_false (by omega) | exact decide_eq_true (by omega)) HV.out.symm) (HCD.out _) (HGD.out _)
      · obtain rfl : j = 3 := by omega
        have HRS : Hid (Dm.rd 2 (s.data.toList.drop p) = some (k - p)) := Lib.hid (by rw [HRK.out, show 3 - 3 = 0 from rfl]; simp [Dm.more])
        clear hj
        have hcr := HC.out
        have hgr := HGR.out
        have hci := hcr
        clear c0 c1
        have c0 := hci.c0
        have c1 := hci.c1
        have HCD : Hid (∀ n, Cur (wr.drewN n) b s k) := Lib.hid fun n => hci.drewN n
        have HGD : Hid (∀ n, w.grownBy (wr.drewN n) (some b)) := Lib.hid fun n => grown_drewN hgr n
        clear hci
        have hsz1 : (p : Int) ≤ (k : Int) := by omega
        have hsz2 : (k : Int) ≤ (s.size : Int) := by omega
        by_cases h20 : k - p ≤ 20
        · have h20i : (k : Int) - (p : Int) ≤ 20 := by omega
          have HV : Hid (decide (k - p ≤ 20) = true) := Lib.hid (by simpa using h20)
          clear h20
          go_wp2_with fail
          go_quiet (fail)
          go_wp2_with fail
          go_ret2
          exact Cur.dom_some HRS.out hpk hks (Eq.trans (by first | rfl | exact decide_eq_false (by omega) | exact decide_eq_true (by omega)) HV.out.symm) (HCD.out _) (HGD.out _)
        · have h20i : ¬ (k : Int) - (p : Int) ≤ 20 := by omega
          have HV : Hid (decide (k - p ≤ 20) = false) := Lib.hid (by simpa using h20)
          clear h20
          go_wp2_with fail
          go_quiet (fail)
          go_wp2_with fail
          go_ret2
          exact Cur.dom_some HRS.out hpk hks (Eq.trans (by first | rfl | exact decide_eq_false (by omega) | exact decide_eq_true (by omega)) HV.out.symm) (HCD.out _) (HGD.out _)
end Go.Proofs.YtpjifcljkgcnlaaGreatDoor

namespace Go.Proofs.YtpjifcljkgcnlaaGreatDoor
set_option linter.unusedVariables false
open Go.RowKit

set_option maxHeartbeats 800000 in
theorem hasPrefix_any (s p : ByteArray) (hs : s.size ≤ maxLen) (hp : p.size ≤ maxLen) (w : World) :
    Calls Tryz.prog 93 #[.string s, .string p] w fun e w' => e = .returned (.bool (decide (p.data.toList <+: s.data.toList))) ∧ w' = w := by
  unfold maxLen at hs hp
  by_cases h : p.size ≤ s.size
  · have HQ := Lib.hid (Pf.take_eq h)
    have hi : (p.size : Int) ≤ (s.size : Int) := by omega
    cases hb : decide (p.data.toList <+: s.data.toList)
    · have h1 : ((s.extract 0 p.size).toList == p.toList) = false := by rw [HQ.out, hb]
      clear hb
      go_enter Tryz.func93, Tryz.ntmps93
      go_wp2_with fail
      go_ret
      exact ⟨rfl, rfl⟩
    · have h1 : ((s.extract 0 p.size).toList == p.toList) = true := by rw [HQ.out, hb]
      clear hb
      go_enter Tryz.func93, Tryz.ntmps93
      go_wp2_with fail
      go_ret
      exact ⟨rfl, rfl⟩
  · have HQ := Lib.hid (Pf.short h)
    have hi : ¬ (p.size : Int) ≤ (s.size : Int) := by omega
    go_enter Tryz.func93, Tryz.ntmps93
    go_wp2_with fail
    go_ret
    rw [HQ.out]
    exact ⟨rfl, rfl⟩

def Pf.cut (p s : ByteArray) : Value := if p.data.toList <+: s.data.toList then .tuple #[.string (s.extract p.size s.size), .bool true] else .tuple #[.string s, .bool false]
theorem Pf.cut_yes {p s : ByteArray} (h : p.data.toList <+: s.data.toList) : Pf.cut p s = .tuple #[.string (s.extract p.size s.size), .bool true] := if_pos h
theorem Pf.cut_no {p s : ByteArray} (h : ¬ p.data.toList <+: s.data.toList) : Pf.cut p s = .tuple #[.string s, .bool false] := if_neg h

set_option maxHeartbeats 800000 in
theorem liteCutPrefix_any (s p : ByteArray) (hs : s.size ≤ maxLen) (hp : p.size ≤ maxLen) (w : World) :
    Calls Tryz.prog 100 #[.string s, .string p] w fun e w' => e = .returned (Pf.cut p s) ∧ w' = w := by
  have HS : Hid (p.data.toList <+: s.data.toList → p.size ≤ s.size) := Lib.hid fun h => by
    have hl : p.data.toList.length = p.size := Array.length_toList
    have hl2 : s.data.toList.length = s.size := Array.length_toList
    have := h.length_le; omega
  by_cases h : p.data.toList <+: s.data.toList
  · have HQ := Lib.hid (Pf.cut_yes h)
    have hle := HS.out h
    have HD := Lib.hid (decide_eq_true h)
    have hs' := hs
    have hp' := hp
    unfold maxLen at hs' hp'
    clear h
    go_enter Tryz.func100, Tryz.ntmps100
    go_wp2_with fail
    refine (hasPrefix_any s p hs hp _).mono ?_
    rintro e w1 ⟨rfl, rfl⟩
    rw [HD.out]
    go_wp2_with fail
    go_ret2
    rw [HQ.out]
    exact ⟨rfl, rfl⟩
  · have HQ := Lib.hid (Pf.cut_no h)
    have HD := Lib.hid (decide_eq_false h)
    clear h
    go_enter Tryz.func100, Tryz.ntmps100
    go_wp2_with fail
    refine (hasPrefix_any s p hs hp _).mono ?_
    rintro e w1 ⟨rfl, rfl⟩
    rw [HD.out]
    go_wp2_with fail
    go_ret2
    rw [HQ.out]
    exact ⟨rfl, rfl⟩

set_option maxHeartbeats 800000 in
theorem cutPrefix_any (s p : ByteArray) (hs : s.size ≤ maxLen) (hp : p.size ≤ maxLen) (w : World) :
    Calls Tryz.prog 86 #[.string s, .string p] w fun e w' => e = .returned (Pf.cut p s) ∧ w' = w := by
  by_cases h : p.data.toList <+: s.data.toList
  · have HQ := Lib.hid (Pf.cut_yes h)
    clear h
    go_enter Tryz.func86, Tryz.ntmps86
    go_wp2_with fail
    refine (liteCutPrefix_any s p hs hp _).mono ?_
    rintro e w1 ⟨rfl, rfl⟩
    rw [HQ.out]
    go_wp2_with fail
    go_ret2
    rw [HQ.out]
    exact ⟨rfl, rfl⟩
  · have HQ := Lib.hid (Pf.cut_no h)
    clear h
    go_enter Tryz.func86, Tryz.ntmps86
    go_wp2_with fail
    refine (liteCutPrefix_any s p hs hp _).mono ?_
    rintro e w1 ⟨rfl, rfl⟩
    rw [HQ.out]
    go_wp2_with fail
    go_ret2
    rw [HQ.out]
    exact ⟨rfl, rfl⟩

/-- the first part, the rest, and whether the byte stands there -/
def Pf.cut1 (c : UInt8) (s : ByteArray) : Value := if 0 ≤ Lib.indexByte s.data.toList c then .tuple #[.string (s.extract 0 (Lib.indexByte s.data.toList c).toNat), .string (s.extract ((Lib.indexByte s.data.toList c).toNat + 1) s.size), .bool true] else .tuple #[.string s, .string ⟨#[]⟩, .bool false]

set_option maxHeartbeats 800000 in
theorem liteCut_any (s : ByteArray) (c : UInt8) (hs : s.size ≤ maxLen) (w : World) :
    Calls Tryz.prog 114 #[.string s, .string ⟨#[c]⟩] w fun e w' => e = .returned (Pf.cut1 c s) ∧ Below w.heap.size w w' := by
  unfold maxLen at hs
  have HC : Hid (Pf.cut1 c s = if 0 ≤ Lib.indexByte s.data.toList c then .tuple #[.string (s.extract 0 (Lib.indexByte s.data.toList c).toNat), .string (s.extract ((Lib.indexByte s.data.toList c).toNat + 1) s.size), .bool true] else .tuple #[.string s, .string ⟨#[]⟩, .bool false]) := Lib.hid rfl
  have HI := Lib.hid (Tryz.stringslite_Index_one s c w)
  by_cases h : 0 ≤ Lib.indexByte s.data.toList c
  · obtain ⟨o, ho⟩ : ∃ o : Nat, Lib.indexByte s.data.toList c = (o : Int) := ⟨(Lib.indexByte s.data.toList c).toNat, by omega⟩
    have hlt : o < s.size := by
      have h1 := (Lib.indexByte_some ho).1
      have := (List.getElem?_eq_some_iff.1 h1).1
      rwa [Array.length_toList] at this
    have hone : (ByteArray.mk #[c]).size = 1 := rfl
    have HO := Lib.hid ho
    clear h ho
    go_enter Tryz.func114, Tryz.ntmps114
    go_wp2_with fail
    refine Calls.mono HI.out ?_
    rintro e w1 ⟨rfl, rfl⟩
    rw [HO.out]
    have hw1 : IntKind.i64.wrap ((o : Int) + 1) = (o : Int) + 1 := IntWalk.i64_in _ (by omega)
    have hw2 : (0 : Int) ≤ (o : Int) + 1 := by omega
    have hw3 : ((o : Int) + 1).toNat = o + 1 := by omega
    have hw4 : (o : Int) + 1 ≤ (s.size : Int) := by omega
    go_wp2_with fail
    go_quiet (fail)
    go_wp2_with fail
    go_ret3
    rw [HC.out, HO.out, if_pos (by omega)]
    exact ⟨rfl, below_drewN (Below.refl _ _) _⟩
  · have h1 : Lib.indexByte s.data.toList c = -1 := by have := Lib.indexByte_ge s.data.toList c; omega
    have HO := Lib.hid h1
    clear h h1
    go_enter Tryz.func114, Tryz.ntmps114
    go_wp2_with fail
    refine Calls.mono HI.out ?_
    rintro e w1 ⟨rfl, rfl⟩
    rw [HO.out]
    go_wp2_with fail
    go_ret3
    rw [HC.out, HO.out, if_neg (by omega)]
    exact ⟨rfl, Below.refl _ _⟩

set_option maxHeartbeats 800000 in
theorem cut1_any (s : ByteArray) (c : UInt8) (hs : s.size ≤ maxLen) (w : World) :
    Calls Tryz.prog 99 #[.string s, .string ⟨#[c]⟩] w fun e w' => e = .returned (Pf.cut1 c s) ∧ Below w.heap.size w w' := by
  have HI := Lib.hid (liteCut_any s c hs w)
  by_cases h : 0 ≤ Lib.indexByte s.data.toList c
  · have HQ : Hid (Pf.cut1 c s = .tuple #[.string (s.extract 0 (Lib.indexByte s.data.toList c).toNat), .string (s.extract ((Lib.indexByte s.data.toList c).toNat + 1) s.size), .bool true]) := Lib.hid (if_pos h)
    clear h
    go_enter Tryz.func99, Tryz.ntmps99
    go_wp2_with fail
    refine Calls.mono HI.out ?_
    rintro e w1 ⟨rfl, hb⟩
    rw [HQ.out]
    go_wp2_with fail
    go_ret3
    rw [HQ.out]
    exact ⟨rfl, hb⟩
  · have HQ : Hid (Pf.cut1 c s = .tuple #[.string s, .string ⟨#[]⟩, .bool false]) := Lib.hid (if_neg h)
    clear h
    go_enter Tryz.func99, Tryz.ntmps99
    go_wp2_with fail
    refine Calls.mono HI.out ?_
    rintro e w1 ⟨rfl, hb⟩
    rw [HQ.out]
    go_wp2_with fail
    go_ret3
    rw [HQ.out]
    exact ⟨rfl, hb⟩
end Go.Proofs.YtpjifcljkgcnlaaGreatDoor

namespace Go.Proofs.YtpjifcljkgcnlaaGreatDoor
set_option linter.unusedVariables false
open Go.RowKit

theorem Cur.other {w w' : World} {b p : Nat} {s : ByteArray} (h : Cur w b s p) (hb : w'.heap[b]? = w.heap[b]?) : Cur w' b s p := hb.trans h
theorem Cur.below {w w' : World} {b p : Nat} {s : ByteArray} (h : Cur w b s p) (hb : Below w.heap.size w w') : Cur w' b s p := h.other (hb.block b h.lt)
theorem Cur.set2 {w : World} {b r p : Nat} {s : ByteArray} (h : Cur w b s p) (hr : r ≠ b) (v0 v1 : Value) : Cur ((w.setCell ⟨r, 0, none⟩ v0).setCell ⟨r, 1, none⟩ v1) b s p :=
  h.other ((set_heap_ne hr).trans (set_heap_ne hr))
theorem grown_set2 {b r : Nat} {w W : World} (h : w.grownBy W (some b)) (hr : w.heap.size ≤ r) (v0 v1 : Value) : w.grownBy ((W.setCell ⟨r, 0, none⟩ v0).setCell ⟨r, 1, none⟩ v1) (some b) :=
  grown_setNew (grown_setNew h (p := ⟨r, 0, none⟩) hr _) (p := ⟨r, 1, none⟩) hr _
theorem below_set2 {B r : Nat} {w W : World} (h : Below B w W) (hr : B ≤ r) (v0 v1 : Value) : Below B w ((W.setCell ⟨r, 0, none⟩ v0).setCell ⟨r, 1, none⟩ v1) :=
  (h.setCell (p := ⟨r, 0, none⟩) hr _).setCell (p := ⟨r, 1, none⟩) hr _
/-- an address begins at a place -/
def Cur.IsAddr (s : ByteArray) (p n m : Nat) (t : List UInt8) : Prop :=
  Nm.lenOk n = true ∧ Nm.run (s.data.toList.drop p) = n ∧ s.data.toList.drop (p + n) = 64 :: t ∧ Dm.rd 2 t = some m ∧ m ≤ 20
def Cur.Addr (s : ByteArray) (p : Nat) (w : World) (b : Nat) (e : Ending) (w' : World) : Prop :=
  w.grownBy w' (some b) ∧ ((∃ n m t, Cur.IsAddr s p n m t ∧ e = .returned (.tuple #[.agg #[.string (s.extract p (p + n)), .string (s.extract (p + n + 1) (p + n + 1 + m))], .bool true]) ∧ Cur w' b s (p + n + 1 + m) ∧ p + n + 1 + m ≤ s.size) ∨
    ((∀ n m t, ¬ Cur.IsAddr s p n m t) ∧ e = .returned (.tuple #[.agg #[.string ⟨#[]⟩, .string ⟨#[]⟩], .bool false]) ∧ ∃ q, q ≤ s.size ∧ Cur w' b s q))

set_option maxRecDepth 100000 in
set_option maxHeartbeats 3200000 in
theorem iDomainValid_any (s : ByteArray) (w : World) (hs : s.size ≤ maxLen) :
    Calls Tryz.prog 27 #[.string s] w fun e w' => e = .returned (.bool (Dm.ok s.data.toList)) ∧ Below w.heap.size w w' := by
  have hl : s.data.toList.length = s.size := slen s
  have hcur : Cur (w.alloc (.cells #[.string s, .int .i64 0] 70)) w.heap.size s 0 := heap_alloc_new w _
  have HOK := Lib.hid (Dm.ok_iff s.data.toList)
  go_enter Tryz.func27, Tryz.ntmps27
  go_wp2_with fail
  refine Calls.mono (domain_any s 0 w.heap.size _ (by omega) hs hcur) ?_
  rintro e w1 ⟨hsome, hnone, hg1⟩
  have HB : Hid (Below w.heap.size w w1) := Lib.hid (((Below.refl w.heap.size w).alloc (Nat.le_refl _) (.cells #[.string s, .int .i64 0] 70)).trans (grown_to_below hg1 (Nat.le_refl _) (by simp)))
  rw [List.drop_zero] at hsome hnone
  cases hr : Dm.rd 2 s.data.toList with
  | none =>
    obtain ⟨rfl, q, hq, hc⟩ := hnone hr
    have HF : Hid (Dm.ok s.data.toList = false) := Lib.hid (by cases hk : Dm.ok s.data.toList; rfl; rw [((HOK.out).1 hk).1] at hr; cases hr)
    clear hsome hnone hr
    go_wp2_with fail
    go_ret
    exact ⟨by rw [HF.out]; rfl, HB.out⟩
  | some m =>
    obtain ⟨rfl, hc, hm⟩ := hsome m hr
    rw [Nat.zero_add] at hc hm ⊢
    have c0 := hc.c0
    have c1 := hc.c1
    by_cases h20 : m ≤ 20
    · have HD : Hid (decide (m ≤ 20) = true) := Lib.hid (decide_eq_true h20)
      rw [HD.out]
      by_cases he : m = s.size
      · have HF : Hid (Dm.ok s.data.toList = true) := Lib.hid ((HOK.out).2 ⟨by rw [hr, he, hl], by omega⟩)
        subst he
        clear hsome hnone hr hc h20
        go_wp2_with (go_at_call 46; refine (done_yes s w.heap.size _ (by simpa using c0) (by simpa using c1)).mono ?_; rintro e w2 ⟨rfl, nq, rfl⟩)
        go_ret
        exact ⟨by rw [HF.out]; rfl, below_drewN HB.out nq⟩
      · have HF : Hid (Dm.ok s.data.toList = false) := Lib.hid (by cases hk : Dm.ok s.data.toList; rfl; rw [((HOK.out).1 hk).1] at hr; injection hr with hr; omega)
        have hlt : m < s.size := by omega
        clear hsome hnone hr hc h20 he
        go_wp2_with (go_at_call 46; refine (done_no s m w.heap.size _ (by simpa using c0) (by simpa using c1) hlt).mono ?_; rintro e w2 ⟨rfl, nq, rfl⟩)
        go_ret
        exact ⟨by rw [HF.out]; rfl, below_drewN HB.out nq⟩
    · have HD : Hid (decide (m ≤ 20) = false) := Lib.hid (decide_eq_false h20)
      rw [HD.out]
      have HF : Hid (Dm.ok s.data.toList = false) := Lib.hid (by cases hk : Dm.ok s.data.toList; rfl; have h2 := (HOK.out).1 hk; rw [h2.1] at hr; injection hr with hr; omega)
      clear hsome hnone hr hc h20
      go_wp2_with fail
      go_ret
      exact ⟨by rw [HF.out]; rfl, HB.out⟩

set_option maxRecDepth 100000 in
set_option maxHeartbeats 3200000 in
theorem address_any (s : ByteArray) (p b : Nat) (w : World) (hp : p ≤ s.size) (hs : s.size ≤ maxLen) (h : Cur w b s p) :
    Calls Tryz.prog 101 #[.pointer (some ⟨b, 0, none⟩)] w (Cur.Addr s p w b) := by
  have hbl := h.lt
  have hwb : w.heap.size ≠ b := by omega
  have hx0 := heap_alloc_new w (.cells #[.string ⟨#[]⟩, .string ⟨#[]⟩] 81)
  have h0 : Cur (w.alloc (.cells #[.string ⟨#[]⟩, .string ⟨#[]⟩] 81)) b s p := h.below ((Below.refl _ _).alloc (Nat.le_refl _) _)
  have G0 := grown_laid (grown_refl b w) (.cells #[.string ⟨#[]⟩, .string ⟨#[]⟩] 81)
  have hs0 : w.heap.size < (w.alloc (.cells #[.string ⟨#[]⟩, .string ⟨#[]⟩] 81)).heap.size := by simp
  go_enter Tryz.func101, Tryz.ntmps101
  go_upto_region 1 with fail
  generalize w.alloc (.cells #[.string ⟨#[]⟩, .string ⟨#[]⟩] 81) = w0 at hx0 h0 G0 hs0 ⊢
  have HX0 := Lib.hid hx0
  clear hx0
  go_wp2_with fail
  refine Calls.mono (name_any s p b _ hp hs h0) ?_
  rintro e w1 ⟨rfl, hc1, hg1⟩
  have hle := Nm.run_le (s.data.toList.drop p)
  rw [List.length_drop, slen] at hle
  generalize hn : Nm.run (s.data.toList.drop p) = n at hc1 hle ⊢
  have HN := Lib.hid hn
  clear hn
  have G1 := grown_trans G0 hg1
  have HX1 := Lib.hid ((hg1.block w.heap.size hs0 (by intro e; injection e with e; exact hwb e)).trans HX0.out)
  have hs1 : w.heap.size < w1.heap.size := by have := hg1.size; omega
  have HC1 := Lib.hid hc1
  have r0 : w1.cell? ⟨w.heap.size, 0, none⟩ = some (.string ⟨#[]⟩) := cell_at HX1.out 0 _ rfl
  have r1 : w1.cell? ⟨w.heap.size, 1, none⟩ = some (.string ⟨#[]⟩) := cell_at HX1.out 1 _ rfl
  have z0 := free_at HX1.out 0
  have z1 := free_at HX1.out 1
  clear hc1 hg1 G0 h0 HX0
  cases hl : Nm.lenOk n
  · have HNO : Hid (∀ n m t, ¬ Cur.IsAddr s p n m t) := Lib.hid (fun n' m t hh => by have h1 := hh.1; rw [← hh.2.1, HN.out, hl] at h1; cases h1)
    clear hl
    go_wp2_with fail
    refine bodyPost_ret (v := .tuple #[.agg #[.string ⟨#[]⟩, .string ⟨#[]⟩], .bool false]) (by simp [results, Tryz.results101, go_sem, r0, r1]) rfl ?_
    exact ⟨grown_set2 G1 (Nat.le_refl _) _ _, .inr ⟨HNO.out, rfl, _, (by omega), HC1.out.set2 hwb _ _⟩⟩
  · have HL := Lib.hid hl
    clear hl
    by_cases h64 : ∃ t, s.data.toList.drop (p + n) = 64 :: t
    · obtain ⟨t, ht⟩ := h64
      obtain ⟨hlt, htt⟩ := Cur.rest_lt ht
      have HTK := Lib.hid (take_cons (w := w1) hs HC1.out ht)
      have HT := Lib.hid ht
      have HTT := Lib.hid htt
      clear ht htt
      go_wp2_with fail
      refine Calls.mono HTK.out ?_
      rintro e w2 ⟨rfl, hc2, hg2⟩
      clear HTK r0 r1 z0 z1
      have G2 := grown_trans G1 hg2
      have HX2 := Lib.hid ((hg2.block w.heap.size hs1 (by intro e; injection e with e; exact hwb e)).trans HX1.out)
      have hs2 : w.heap.size < w2.heap.size := by have := hg2.size; omega
      have HC2 := Lib.hid hc2
      clear hc2 hg2
      go_wp2_with fail
      refine Calls.mono (domain_any s (p + n + 1) b _ (by omega) hs HC2.out) ?_
      rintro e w3 ⟨hsome, hnone, hg3⟩
      have G3 := grown_trans G2 hg3
      have HX3 := Lib.hid ((hg3.block w.heap.size hs2 (by intro e; injection e with e; exact hwb e)).trans HX2.out)
      have hs3 : w.heap.size < w3.heap.size := by have := hg3.size; omega
      rw [← HTT.out] at hsome hnone
      clear hg3
      have r0 : w3.cell? ⟨w.heap.size, 0, none⟩ = some (.string ⟨#[]⟩) := cell_at HX3.out 0 _ rfl
      have r1 : w3.cell? ⟨w.heap.size, 1, none⟩ = some (.string ⟨#[]⟩) := cell_at HX3.out 1 _ rfl
      have z0 := free_at HX3.out 0
      have z1 := free_at HX3.out 1
      cases hr : Dm.rd 2 t with
      | none =>
        obtain ⟨rfl, q, hq, hc3⟩ := hnone hr
        have HNO : Hid (∀ n m t, ¬ Cur.IsAddr s p n m t) := Lib.hid (fun n' m' t' hh => by have e1 := hh.2.1; rw [HN.out] at e1; subst e1; have e2 := hh.2.2.1; rw [HT.out] at e2; injection e2 with _ e2; subst e2; have e3 := hh.2.2.2.1; rw [hr] at e3; cases e3)
        clear hsome hnone hr
        go_wp2_with fail
        refine bodyPost_ret (v := .tuple #[.agg #[.string ⟨#[]⟩, .string ⟨#[]⟩], .bool false]) (by simp [results, Tryz.results101, go_sem, r0, r1]) rfl ?_
        exact ⟨grown_set2 G3 (Nat.le_refl _) _ _, .inr ⟨HNO.out, rfl, _, hq, hc3.set2 hwb _ _⟩⟩
      | some m =>
        obtain ⟨rfl, hc3, hm⟩ := hsome m hr
        by_cases h20 : m ≤ 20
        · have HD : Hid (decide (m ≤ 20) = true) := Lib.hid (decide_eq_true h20)
          rw [HD.out]
          have HAD : Hid (Cur.IsAddr s p n m t) := Lib.hid ⟨HL.out, HN.out, HT.out, hr, h20⟩
          clear hsome hnone hr h20
          go_wp2_with fail
          refine bodyPost_ret (v := .tuple #[.agg #[.string (s.extract p (p + n)), .string (s.extract (p + n + 1) (p + n + 1 + m))], .bool true]) (by simp [results, Tryz.results101, go_sem, r0, r1]) rfl ?_
          exact ⟨grown_set2 G3 (Nat.le_refl _) _ _, .inl ⟨n, m, t, HAD.out, rfl, hc3.set2 hwb _ _, hm⟩⟩
        · have HD : Hid (decide (m ≤ 20) = false) := Lib.hid (decide_eq_false h20)
          rw [HD.out]
          have HNO : Hid (∀ n m t, ¬ Cur.IsAddr s p n m t) := Lib.hid (fun n' m' t' hh => by have e1 := hh.2.1; rw [HN.out] at e1; subst e1; have e2 := hh.2.2.1; rw [HT.out] at e2; injection e2 with _ e2; subst e2; have e3 := hh.2.2.2.1; rw [hr] at e3; injection e3 with e3; have e4 := hh.2.2.2.2; omega)
          clear hsome hnone hr h20
          go_wp2_with fail
          refine bodyPost_ret (v := .tuple #[.agg #[.string ⟨#[]⟩, .string ⟨#[]⟩], .bool false]) (by simp [results, Tryz.results101, go_sem, r0, r1]) rfl ?_
          exact ⟨grown_set2 G3 (Nat.le_refl _) _ _, .inr ⟨HNO.out, rfl, _, hm, hc3.set2 hwb _ _⟩⟩
    · have H64 : Hid (∀ t, s.data.toList.drop (p + n) ≠ 64 :: t) := Lib.hid (fun t e => h64 ⟨t, e⟩)
      have HNO : Hid (∀ n m t, ¬ Cur.IsAddr s p n m t) := Lib.hid (fun n' m t hh => by have e1 := hh.2.1; rw [HN.out] at e1; subst e1; exact H64.out t hh.2.2.1)
      clear h64
      go_wp2_with fail
      refine Calls.mono (take_other (c := 64) hs HC1.out (by omega) H64.out) ?_
      rintro e w2 ⟨rfl, hc2, hg2⟩
      have G2 := grown_trans G1 hg2
      have HX2 := Lib.hid ((hg2.block w.heap.size hs1 (by intro e; injection e with e; exact hwb e)).trans HX1.out)
      clear r0 r1 z0 z1 hg2
      have r0 : w2.cell? ⟨w.heap.size, 0, none⟩ = some (.string ⟨#[]⟩) := cell_at HX2.out 0 _ rfl
      have r1 : w2.cell? ⟨w.heap.size, 1, none⟩ = some (.string ⟨#[]⟩) := cell_at HX2.out 1 _ rfl
      have z0 := free_at HX2.out 0
      have z1 := free_at HX2.out 1
      go_wp2_with fail
      refine bodyPost_ret (v := .tuple #[.agg #[.string ⟨#[]⟩, .string ⟨#[]⟩], .bool false]) (by simp [results, Tryz.results101, go_sem, r0, r1]) rfl ?_
      exact ⟨grown_set2 G2 (Nat.le_refl _) _ _, .inr ⟨HNO.out, rfl, _, (by omega), hc2.set2 hwb _ _⟩⟩

theorem Sp1.mk_data (x : ByteArray) : Ct.mk x.data.toList = x := by cases x; rfl
theorem Pa.path_first {l : List UInt8} (h : ∀ t, l ≠ 60 :: t) : Pa.path l = none := by
  unfold Pa.path
  split
  · exact absurd rfl (h _)
  · rfl
theorem Cur.path_addr {s : ByteArray} {n m : Nat} {r t : List UInt8} (h0 : s.data.toList = 60 :: r) (h : Cur.IsAddr s 1 n m t) (hg : t.drop m = [62]) : Pa.path s.data.toList = some ((s.extract 1 (1 + n)).data.toList, (s.extract (1 + n + 1) (1 + n + 1 + m)).data.toList) := by
  obtain ⟨h1, h2, h3, h4, h5⟩ := h
  have hr : s.data.toList.drop 1 = r := by rw [h0]; rfl
  have hrn : r.drop n = 64 :: t := by rw [← hr, List.drop_drop]; exact h3
  rw [hr] at h2
  subst h2
  have hp := Pa.path_yes h1 hrn h4 h5 hg
  rw [← h0] at hp
  rw [hp]
  have ht : t = s.data.toList.drop (1 + Nm.run r + 1) := (Cur.rest_lt h3).2
  rw [Ct.extract_mk, Ct.extract_mk, Ct.mk_list, Ct.mk_list, hr, ← ht]
  congr 2
  · congr 1; omega
  · congr 1; omega
theorem Cur.path_none {s : ByteArray} {r : List UInt8} (h0 : s.data.toList = 60 :: r) (h : ∀ n m t, Cur.IsAddr s 1 n m t → t.drop m ≠ [62]) : Pa.path s.data.toList = none := by
  rw [h0]
  refine Pa.path_no ?_
  rintro ⟨h1, t, m, h2, h3, h4, h5⟩
  have hr : s.data.toList.drop 1 = r := by rw [h0]; rfl
  refine h (Nm.run r) m t ⟨h1, by rw [hr], ?_, h3, h4⟩ h5
  rw [← List.drop_drop, hr]
  exact h2
theorem Cur.addr_one {s : ByteArray} {p n m n' m' : Nat} {t t' : List UInt8} (h : Cur.IsAddr s p n m t) (h' : Cur.IsAddr s p n' m' t') : n' = n ∧ m' = m ∧ t' = t := by
  obtain ⟨_, a2, a3, a4, _⟩ := h
  obtain ⟨_, b2, b3, b4, _⟩ := h'
  have e1 : n' = n := b2.symm.trans a2
  subst e1
  rw [a3] at b3
  injection b3 with _ e2
  subst e2
  rw [a4] at b4
  injection b4 with e3
  exact ⟨rfl, e3.symm, rfl⟩
theorem Cur.addr_rest {s : ByteArray} {p n m : Nat} {t : List UInt8} (h : Cur.IsAddr s p n m t) : s.data.toList.drop (p + n + 1 + m) = t.drop m := by
  have ht := (Cur.rest_lt h.2.2.1).2
  rw [ht, List.drop_drop]
theorem Pa.pval_none {l : List UInt8} (h : l ≠ [60, 62]) (h2 : Pa.path l = none) : Pa.pval l = .tuple #[.agg #[.string ⟨#[]⟩, .string ⟨#[]⟩], .bool false] := by unfold Pa.pval; rw [if_neg h, h2]; rfl

set_option maxRecDepth 100000 in
set_option maxHeartbeats 3200000 in
theorem iPathParse_any (s : ByteArray) (w : World) (hs : s.size ≤ maxLen) :
    Calls Tryz.prog 87 #[.string s] w fun e w' => e = .returned (Pa.pval s.data.toList) ∧ Below w.heap.size w w' := by
  obtain ⟨hx0, hc0, hB, hsz⟩ := two_boxes w (.cells #[.string ⟨#[]⟩, .string ⟨#[]⟩] 81) (.cells #[.string s, .int .i64 0] 70)
  have hx00 := heap_alloc_new w (.cells #[.string ⟨#[]⟩, .string ⟨#[]⟩] 81)
  have hB0 : Below w.heap.size w (w.alloc (.cells #[.string ⟨#[]⟩, .string ⟨#[]⟩] 81)) := (Below.refl _ _).alloc (Nat.le_refl _) _
  by_cases he : s.data.toList = [60, 62]
  · have q0 : (s.toList == [60, 62]) = true := by rw [Go.ByteArray.toList_eq, he]; rfl
    have HV : Hid (Pa.pval s.data.toList = .tuple #[.agg #[.string ⟨#[]⟩, .string ⟨#[]⟩], .bool true]) := Lib.hid (if_pos he)
    clear he hx0 hc0 hB hsz
    go_enter Tryz.func87, Tryz.ntmps87
    go_upto_region 1 with fail
    generalize w.alloc (.cells #[.string ⟨#[]⟩, .string ⟨#[]⟩] 81) = w0 at hx00 hB0 ⊢
    have r0 : w0.cell? ⟨w.heap.size, 0, none⟩ = some (.string ⟨#[]⟩) := cell_at hx00 0 _ rfl
    have r1 : w0.cell? ⟨w.heap.size, 1, none⟩ = some (.string ⟨#[]⟩) := cell_at hx00 1 _ rfl
    have z0 := free_at hx00 0
    have z1 := free_at hx00 1
    clear hx00
    go_wp2_with fail
    refine bodyPost_ret (v := .tuple #[.agg #[.string ⟨#[]⟩, .string ⟨#[]⟩], .bool true]) (by simp [results, Tryz.results87, go_sem, r0, r1]) rfl ?_
    exact ⟨by rw [HV.out], below_set2 hB0 (Nat.le_refl _) _ _⟩
  · have q0 : (s.toList == [60, 62]) = false := by rw [Go.ByteArray.toList_eq]; simpa using he
    have HE := Lib.hid he
    clear he hx00 hB0
    go_enter Tryz.func87, Tryz.ntmps87
    go_upto_region 4 with fail
    generalize (w.alloc (.cells #[.string ⟨#[]⟩, .string ⟨#[]⟩] 81)).alloc (.cells #[.string s, .int .i64 0] 70) = W at hx0 hc0 hB hsz ⊢
    obtain ⟨b, hb⟩ : ∃ b, b = w.heap.size + 1 := ⟨_, rfl⟩
    rw [← hb] at hc0 ⊢
    have hwb : w.heap.size ≠ b := by omega
    have hwb2 : w.heap.size ≤ b := by omega
    have hs0 : w.heap.size < W.heap.size := by omega
    have hc : Cur W b s 0 := hc0
    have HC := Lib.hid hc
    have HX := Lib.hid hx0
    clear hb hsz hc0 hc hx0
    by_cases h60 : ∃ r, s.data.toList = 60 :: r
    · obtain ⟨r, hr⟩ := h60
      have hr0 : s.data.toList.drop 0 = 60 :: r := hr
      obtain ⟨hlt, htt⟩ := Cur.rest_lt hr0
      have HTK := Lib.hid (take_cons (w := W) hs HC.out hr0)
      have HR := Lib.hid hr
      clear hr hr0 htt
      go_wp2_with fail
      refine Calls.mono HTK.out ?_
      rintro e w1 ⟨rfl, hc1, hg1⟩
      clear HTK
      have HB1 := Lib.hid (hB.trans (grown_to_below hg1 hwb2 hB.size))
      have HX1 := Lib.hid ((hg1.block w.heap.size hs0 (by intro e; injection e with e; exact hwb e)).trans HX.out)
      have hs1 : w.heap.size < w1.heap.size := by have := hg1.size; omega
      have HC1 := Lib.hid hc1
      clear hg1 hc1
      go_wp2_with fail
      refine Calls.mono (address_any s 1 b _ (by omega) hs HC1.out) ?_
      rintro e w2 ⟨hg2, hcase⟩
      have HB2 := Lib.hid (HB1.out.trans (grown_to_below hg2 hwb2 HB1.out.size))
      have HX2 := Lib.hid ((hg2.block w.heap.size hs1 (by intro e; injection e with e; exact hwb e)).trans HX1.out)
      have hs2 : w.heap.size < w2.heap.size := by have := hg2.size; omega
      clear hg2
      rcases hcase with ⟨n, m, t, had, rfl, hc2, hle⟩ | ⟨hno, rfl, q, hq, hc2⟩
      · have HAD := Lib.hid had
        have HRST := Lib.hid (Cur.addr_rest had)
        clear had
        have hE := Below.alloc (Below.refl w2.heap.size w2) (Nat.le_refl _) (.cells #[.string (s.extract 1 (1 + n)), .string (s.extract (1 + n + 1) (1 + n + 1 + m))] 81)
        have hx5 := heap_alloc_new w2 (.cells #[.string (s.extract 1 (1 + n)), .string (s.extract (1 + n + 1) (1 + n + 1 + m))] 81)
        have hs5 : w2.heap.size < (w2.alloc (.cells #[.string (s.extract 1 (1 + n)), .string (s.extract (1 + n + 1) (1 + n + 1 + m))] 81)).heap.size := by simp
        go_upto_region 7 with fail
        generalize w2.alloc (.cells #[.string (s.extract 1 (1 + n)), .string (s.extract (1 + n + 1) (1 + n + 1 + m))] 81) = w3 at hE hx5 hs5 ⊢
        have HB3 := Lib.hid (HB2.out.trans (hE.mono HB2.out.size))
        have HX3 := Lib.hid ((hE.block _ hs2).trans HX2.out)
        have hc3 := hc2.below hE
        obtain ⟨b5, hb5⟩ : ∃ b5, b5 = w2.heap.size := ⟨_, rfl⟩
        rw [← hb5] at hx5 hs5 ⊢
        have hw5 : w.heap.size < b5 := by omega
        have hne5 : b5 ≠ w.heap.size := by omega
        have hbb5 : b < b5 := by have := hc2.lt; omega
        have HX5 := Lib.hid hx5
        clear hx5 hb5 hE hc2
        have hw3 : w.heap.size < w3.heap.size := by omega
        have HC3 := Lib.hid hc3
        clear hc3
        obtain ⟨q, HQ⟩ : ∃ q, Hid (1 + n + 1 + m = q) := ⟨_, Lib.hid rfl⟩
        rw [HQ.out] at hle HC3 HRST
        by_cases h62 : ∃ t2, s.data.toList.drop q = 62 :: t2
        · obtain ⟨t2, ht2⟩ := h62
          obtain ⟨hlt2, htt2⟩ := Cur.rest_lt ht2
          have HTK := Lib.hid (take_cons (w := w3) hs HC3.out ht2)
          have HT2 := Lib.hid ht2
          have HTT := Lib.hid htt2
          clear ht2 htt2
          go_wp2_with fail
          refine Calls.mono HTK.out ?_
          rintro e w4 ⟨rfl, hc4, hg4⟩
          clear HTK
          have HB4 := Lib.hid (HB3.out.trans (grown_to_below hg4 hwb2 HB3.out.size))
          have HX4 := Lib.hid ((hg4.block w.heap.size hw3 (by intro e; injection e with e; exact hwb e)).trans HX3.out)
          have HX54 := Lib.hid ((hg4.block b5 hs5 (by intro e; injection e with e; omega)).trans HX5.out)
          have c0 := hc4.c0
          have c1 := hc4.c1
          clear hg4
          have r0 : w4.cell? ⟨w.heap.size, 0, none⟩ = some (.string ⟨#[]⟩) := cell_at HX4.out 0 _ rfl
          have r1 : w4.cell? ⟨w.heap.size, 1, none⟩ = some (.string ⟨#[]⟩) := cell_at HX4.out 1 _ rfl
          have z0 := free_at HX4.out 0
          have z1 := free_at HX4.out 1
          have a0 : w4.cell? ⟨b5, 0, none⟩ = some (.string (s.extract 1 (1 + n))) := cell_at HX54.out 0 _ rfl
          have a1 : w4.cell? ⟨b5, 1, none⟩ = some (.string (s.extract (1 + n + 1) (1 + n + 1 + m))) := cell_at HX54.out 1 _ rfl
          by_cases hend : s.size = q + 1
          · have HV : Hid (Pa.pval s.data.toList = .tuple #[.agg #[.string (s.extract 1 (1 + n)), .string (s.extract (1 + n + 1) (1 + n + 1 + m))], .bool true]) := Lib.hid (by
              have hg : t.drop m = [62] := by rw [← HRST.out, HT2.out, HTT.out, ← hend, List.drop_of_length_le (by rw [slen]; exact Nat.le_refl _)]
              unfold Pa.pval
              rw [if_neg HE.out, Cur.path_addr HR.out HAD.out hg]
              show Value.tuple #[.agg #[.string (Ct.mk _), .string (Ct.mk _)], .bool true] = _
              rw [Sp1.mk_data, Sp1.mk_data])
            have HEND := Lib.hid hend
            clear hend
            go_wp2_with fail
            refine Calls.mono (done_end s (q + 1) b _ c0 c1 HEND.out) ?_
            rintro e w5 ⟨rfl, nq, rfl⟩
            go_wp2_with fail
            refine bodyPost_ret (v := .tuple #[.agg #[.string (s.extract 1 (1 + n)), .string (s.extract (1 + n + 1) (1 + n + 1 + m))], .bool true]) (by simp [results, Tryz.results87, go_sem, r0, r1]) rfl ?_
            exact ⟨by rw [HV.out], below_set2 (below_drewN HB4.out nq) (Nat.le_refl _) _ _⟩
          · have HV : Hid (Pa.pval s.data.toList = .tuple #[.agg #[.string ⟨#[]⟩, .string ⟨#[]⟩], .bool false]) := Lib.hid (by
              refine Pa.pval_none HE.out (Cur.path_none HR.out ?_)
              intro n' m' t' had' hg
              obtain ⟨rfl, rfl, rfl⟩ := Cur.addr_one HAD.out had'
              rw [← HRST.out, HT2.out] at hg
              injection hg with _ hg
              rw [HTT.out] at hg
              have := congrArg List.length hg
              rw [List.length_drop, slen] at this
              simp at this; omega)
            have hlt3 : q + 1 < s.size := by omega
            clear hend
            go_wp2_with fail
            refine Calls.mono (done_no s (q + 1) b _ c0 c1 hlt3) ?_
            rintro e w5 ⟨rfl, nq, rfl⟩
            go_wp2_with fail
            refine bodyPost_ret (v := .tuple #[.agg #[.string ⟨#[]⟩, .string ⟨#[]⟩], .bool false]) (by simp [results, Tryz.results87, go_sem, r0, r1]) rfl ?_
            exact ⟨by rw [HV.out], below_set2 (below_drewN HB4.out nq) (Nat.le_refl _) _ _⟩
        · have H62 : Hid (∀ t2, s.data.toList.drop q ≠ 62 :: t2) := Lib.hid (fun t2 e => h62 ⟨t2, e⟩)
          clear h62
          have HV : Hid (Pa.pval s.data.toList = .tuple #[.agg #[.string ⟨#[]⟩, .string ⟨#[]⟩], .bool false]) := Lib.hid (by
            refine Pa.pval_none HE.out (Cur.path_none HR.out ?_)
            intro n' m' t' had' hg
            obtain ⟨rfl, rfl, rfl⟩ := Cur.addr_one HAD.out had'
            rw [← HRST.out] at hg
            exact H62.out [] hg)
          go_wp2_with fail
          refine Calls.mono (take_other (c := 62) hs HC3.out hle H62.out) ?_
          rintro e w4 ⟨rfl, hc4, hg4⟩
          have HB4 := Lib.hid (HB3.out.trans (grown_to_below hg4 hwb2 HB3.out.size))
          have HX4 := Lib.hid ((hg4.block w.heap.size hw3 (by intro e; injection e with e; exact hwb e)).trans HX3.out)
          clear hg4
          have r0 : w4.cell? ⟨w.heap.size, 0, none⟩ = some (.string ⟨#[]⟩) := cell_at HX4.out 0 _ rfl
          have r1 : w4.cell? ⟨w.heap.size, 1, none⟩ = some (.string ⟨#[]⟩) := cell_at HX4.out 1 _ rfl
          have z0 := free_at HX4.out 0
          have z1 := free_at HX4.out 1
          go_wp2_with fail
          refine bodyPost_ret (v := .tuple #[.agg #[.string ⟨#[]⟩, .string ⟨#[]⟩], .bool false]) (by simp [results, Tryz.results87, go_sem, r0, r1]) rfl ?_
          exact ⟨by rw [HV.out], below_set2 HB4.out (Nat.le_refl _) _ _⟩
      · have HNO := Lib.hid hno
        clear hno
        have HV : Hid (Pa.pval s.data.toList = .tuple #[.agg #[.string ⟨#[]⟩, .string ⟨#[]⟩], .bool false]) := Lib.hid (Pa.pval_none HE.out (Cur.path_none HR.out (fun n m t h => absurd h (HNO.out n m t))))
        have hE := Below.alloc (Below.refl w2.heap.size w2) (Nat.le_refl _) (.cells #[.string ⟨#[]⟩, .string ⟨#[]⟩] 81)
        have hx5 := heap_alloc_new w2 (.cells #[.string ⟨#[]⟩, .string ⟨#[]⟩] 81)
        have hs5 : w2.heap.size < (w2.alloc (.cells #[.string ⟨#[]⟩, .string ⟨#[]⟩] 81)).heap.size := by simp
        go_upto_region 7 with fail
        generalize w2.alloc (.cells #[.string ⟨#[]⟩, .string ⟨#[]⟩] 81) = w3 at hE hx5 hs5 ⊢
        have HB3 := Lib.hid (HB2.out.trans (hE.mono HB2.out.size))
        have HX3 := Lib.hid ((hE.block _ hs2).trans HX2.out)
        have hc3 := hc2.below hE
        clear hE hx5
        have r0 : w3.cell? ⟨w.heap.size, 0, none⟩ = some (.string ⟨#[]⟩) := cell_at HX3.out 0 _ rfl
        have r1 : w3.cell? ⟨w.heap.size, 1, none⟩ = some (.string ⟨#[]⟩) := cell_at HX3.out 1 _ rfl
        have z0 := free_at HX3.out 0
        have z1 := free_at HX3.out 1
        go_wp2_with fail
        refine bodyPost_ret (v := .tuple #[.agg #[.string ⟨#[]⟩, .string ⟨#[]⟩], .bool false]) (by simp [results, Tryz.results87, go_sem, r0, r1]) rfl ?_
        exact ⟨by rw [HV.out], below_set2 HB3.out (Nat.le_refl _) _ _⟩
    · have H60 : Hid (∀ r, s.data.toList ≠ 60 :: r) := Lib.hid (fun r e => h60 ⟨r, e⟩)
      clear h60
      have HV : Hid (Pa.pval s.data.toList = .tuple #[.agg #[.string ⟨#[]⟩, .string ⟨#[]⟩], .bool false]) := Lib.hid (Pa.pval_none HE.out (Pa.path_first H60.out))
      go_wp2_with fail
      refine Calls.mono (take_other (c := 60) hs HC.out (Nat.zero_le _) H60.out) ?_
      rintro e w1 ⟨rfl, hc1, hg1⟩
      have HB1 := Lib.hid (hB.trans (grown_to_below hg1 hwb2 hB.size))
      have HX1 := Lib.hid ((hg1.block w.heap.size hs0 (by intro e; injection e with e; exact hwb e)).trans HX.out)
      clear hg1
      have r0 : w1.cell? ⟨w.heap.size, 0, none⟩ = some (.string ⟨#[]⟩) := cell_at HX1.out 0 _ rfl
      have r1 : w1.cell? ⟨w.heap.size, 1, none⟩ = some (.string ⟨#[]⟩) := cell_at HX1.out 1 _ rfl
      have z0 := free_at HX1.out 0
      have z1 := free_at HX1.out 1
      go_wp2_with fail
      refine bodyPost_ret (v := .tuple #[.agg #[.string ⟨#[]⟩, .string ⟨#[]⟩], .bool false]) (by simp [results, Tryz.results87, go_sem, r0, r1]) rfl ?_
      exact ⟨by rw [HV.out], below_set2 HB1.out (Nat.le_refl _) _ _⟩

set_option maxRecDepth 100000 in
set_option maxHeartbeats 3200000 in
theorem pathBehind_any (l g : ByteArray) (hl : l.size ≤ 16777216) (hg : g.size ≤ 100) (w : World) :
    Calls Tryz.prog 74 #[.string l, .string g] w fun e w' => e = .returned (Pa.val (Pa.behind g.data.toList l.data.toList)) ∧ Below w.heap.size w w' := by
  have hx0 := heap_alloc_new w (.cells #[.string ⟨#[]⟩, .string ⟨#[]⟩] 81)
  have hB0 : Below w.heap.size w (w.alloc (.cells #[.string ⟨#[]⟩, .string ⟨#[]⟩] 81)) := (Below.refl _ _).alloc (Nat.le_refl _) _
  have hs0 : w.heap.size < (w.alloc (.cells #[.string ⟨#[]⟩, .string ⟨#[]⟩] 81)).heap.size := by simp
  have hlm : l.size ≤ maxLen := by unfold maxLen; omega
  have hgm : g.size ≤ maxLen := by unfold maxLen; omega
  go_enter Tryz.func74, Tryz.ntmps74
  go_upto_region 1 with fail
  generalize w.alloc (.cells #[.string ⟨#[]⟩, .string ⟨#[]⟩] 81) = w0 at hx0 hB0 hs0 ⊢
  have r0 : w0.cell? ⟨w.heap.size, 0, none⟩ = some (.string ⟨#[]⟩) := cell_at hx0 0 _ rfl
  have r1 : w0.cell? ⟨w.heap.size, 1, none⟩ = some (.string ⟨#[]⟩) := cell_at hx0 1 _ rfl
  have z0 := free_at hx0 0
  have z1 := free_at hx0 1
  have HX0 := Lib.hid hx0
  clear hx0
  by_cases hpre : g.data.toList <+: l.data.toList
  · have HC : Hid (Pf.cut g l = .tuple #[.string (l.extract g.size l.size), .bool true]) := Lib.hid (Pf.cut_yes hpre)
    have HBV := Lib.hid (Pa.behind_yes hpre)
    have hz : (l.extract g.size l.size).size ≤ maxLen := by rw [ByteArray.size_extract]; omega
    clear hpre
    go_wp2_with fail
    refine Calls.mono (cutPrefix_any l g hlm hgm _) ?_
    rintro e w1 ⟨rfl, rfl⟩
    rw [HC.out]
    generalize l.extract g.size l.size = x at HBV hz ⊢
    by_cases he : x.data.toList = [60, 62]
    · have q0 : (x.toList == [60, 62]) = true := by rw [Go.ByteArray.toList_eq, he]; rfl
      have HV : Hid (Pa.behind g.data.toList l.data.toList = none) := Lib.hid (by rw [HBV.out, he, Pa.path_empty])
      clear he
      go_wp2_with fail
      refine bodyPost_ret (v := .tuple #[.agg #[.string ⟨#[]⟩, .string ⟨#[]⟩], .bool false]) (by simp [results, Tryz.results74, go_sem, r0, r1]) rfl ?_
      exact ⟨by rw [HV.out]; rfl, below_set2 hB0 (Nat.le_refl _) _ _⟩
    · have q0 : (x.toList == [60, 62]) = false := by rw [Go.ByteArray.toList_eq]; simpa using he
      have HPV : Hid (Pa.pval x.data.toList = Pa.val (Pa.path x.data.toList)) := Lib.hid (if_neg he)
      clear he
      go_wp2_with fail
      refine Calls.mono (iPathParse_any x _ hz) ?_
      rintro e w2 ⟨rfl, hb2⟩
      rw [HPV.out]
      have HB2 := Lib.hid (hB0.trans (hb2.mono hB0.size))
      have HX2 := Lib.hid ((hb2.block _ hs0).trans HX0.out)
      clear hb2 r0 r1 z0 z1
      have r0 : w2.cell? ⟨w.heap.size, 0, none⟩ = some (.string ⟨#[]⟩) := cell_at HX2.out 0 _ rfl
      have r1 : w2.cell? ⟨w.heap.size, 1, none⟩ = some (.string ⟨#[]⟩) := cell_at HX2.out 1 _ rfl
      have z0 := free_at HX2.out 0
      have z1 := free_at HX2.out 1
      cases hp : Pa.path x.data.toList with
      | none =>
        have HV : Hid (Pa.behind g.data.toList l.data.toList = none) := Lib.hid (by rw [HBV.out, hp])
        have HN : Hid (Pa.val none = .tuple #[.agg #[.string ⟨#[]⟩, .string ⟨#[]⟩], .bool false]) := Lib.hid rfl
        clear hp
        rw [HN.out]
        go_wp2_with fail
        refine bodyPost_ret (v := .tuple #[.agg #[.string ⟨#[]⟩, .string ⟨#[]⟩], .bool false]) (by simp [results, Tryz.results74, go_sem, r0, r1]) rfl ?_
        exact ⟨by rw [HV.out]; rfl, below_set2 HB2.out (Nat.le_refl _) _ _⟩
      | some ab =>
        obtain ⟨a, c⟩ := ab
        have HV : Hid (Pa.behind g.data.toList l.data.toList = some (a, c)) := Lib.hid (by rw [HBV.out, hp])
        have HN : Hid (Pa.val (some (a, c)) = .tuple #[.agg #[.string (Ct.mk a), .string (Ct.mk c)], .bool true]) := Lib.hid rfl
        clear hp
        rw [HN.out]
        go_wp2_with fail
        refine bodyPost_ret (v := .tuple #[.agg #[.string (Ct.mk a), .string (Ct.mk c)], .bool true]) (by simp [results, Tryz.results74, go_sem, r0, r1]) rfl ?_
        exact ⟨by rw [HV.out]; rfl, below_set2 HB2.out (Nat.le_refl _) _ _⟩
  · have HC : Hid (Pf.cut g l = .tuple #[.string l, .bool false]) := Lib.hid (Pf.cut_no hpre)
    have HV := Lib.hid (Pa.behind_no hpre)
    clear hpre
    go_wp2_with fail
    refine Calls.mono (cutPrefix_any l g hlm hgm _) ?_
    rintro e w1 ⟨rfl, rfl⟩
    rw [HC.out]
    go_wp2_with fail
    refine bodyPost_ret (v := .tuple #[.agg #[.string ⟨#[]⟩, .string ⟨#[]⟩], .bool false]) (by simp [results, Tryz.results74, go_sem, r0, r1]) rfl ?_
    exact ⟨by rw [HV.out]; rfl, below_set2 hB0 (Nat.le_refl _) _ _⟩
end Go.Proofs.YtpjifcljkgcnlaaGreatDoor
