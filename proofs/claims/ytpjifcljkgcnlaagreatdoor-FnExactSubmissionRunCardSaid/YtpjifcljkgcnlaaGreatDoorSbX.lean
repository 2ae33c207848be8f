/- SbX: SbW SbW2 SbLet, in one text. -/
import Derived.Test.YtpjifcljkgcnlaaGreatDoorStW2
import Derived.Test.YtpjifcljkgcnlaaGreatDoorStX
import Derived.Deep.RegionHeld3
namespace Go.Proofs.YtpjifcljkgcnlaaGreatDoor
set_option linter.unusedVariables false
open Go.RowKit

def Sb.recv (us : List ByteArray) : Bool := St.namesOk us && decide (0 < us.length)
def Sb.ok (st : Int) (f : ByteArray) (us : List ByteArray) (t : ByteArray) : Bool :=
  if st = 0 ∨ st = 1 ∨ st = 6 then f.toList.isEmpty && (decide (us.length = 0) && t.toList.isEmpty)
  else if st = 2 ∨ st = 3 then Nm.nameOk f.data.toList && (decide (us.length = 0) && t.toList.isEmpty)
  else if st = 4 then Nm.nameOk f.data.toList && (Sb.recv us && t.toList.isEmpty)
  else if st = 5 then Nm.nameOk f.data.toList && (Sb.recv us && decide (t.size ≤ 21))
  else false
theorem Sb.ok0 {st : Int} {f t : ByteArray} {us : List ByteArray} (h : st = 0 ∨ st = 1 ∨ st = 6) : Sb.ok st f us t = (f.toList.isEmpty && (decide (us.length = 0) && t.toList.isEmpty)) := by unfold Sb.ok; rw [if_pos h]
theorem Sb.ok2 {st : Int} {f t : ByteArray} {us : List ByteArray} (h : st = 2 ∨ st = 3) : Sb.ok st f us t = (Nm.nameOk f.data.toList && (decide (us.length = 0) && t.toList.isEmpty)) := by unfold Sb.ok; rw [if_neg (by omega), if_pos h]
theorem Sb.ok4 {st : Int} {f t : ByteArray} {us : List ByteArray} (h : st = 4) : Sb.ok st f us t = (Nm.nameOk f.data.toList && (Sb.recv us && t.toList.isEmpty)) := by unfold Sb.ok; rw [if_neg (by omega), if_neg (by omega), if_pos h]
theorem Sb.ok5 {st : Int} {f t : ByteArray} {us : List ByteArray} (h : st = 5) : Sb.ok st f us t = (Nm.nameOk f.data.toList && (Sb.recv us && decide (t.size ≤ 21))) := by unfold Sb.ok; rw [if_neg (by omega), if_neg (by omega), if_neg (by omega), if_pos h]
theorem Sb.okN {st : Int} {f t : ByteArray} {us : List ByteArray} (h : ¬ (0 ≤ st ∧ st ≤ 6)) : Sb.ok st f us t = false := by unfold Sb.ok; rw [if_neg (by omega), if_neg (by omega), if_neg (by omega), if_neg (by omega)]

set_option maxHeartbeats 1600000 in
theorem iSub0 (st : Int) (f t : ByteArray) (A : Option Addr) (us : List ByteArray) (c : Nat) (w : World) (h : AtStrs w w.heap.size A us) (hcap : us.length ≤ c) (hn : c ≤ maxLen) (hf : f.size ≤ maxLen) (ht : t.size ≤ maxLen) (hst : st = 0) :
    Calls Tryz.prog 47 #[.agg #[.int .i64 st, .string f, .slice A us.length c, .string t]] w fun e w' => e = .returned (.bool (Sb.ok st f us t)) ∧ Below w.heap.size w w' := by
  subst hst
  have htl := ht
  unfold maxLen at htl
  have HO := Lib.hid (Sb.ok0 (st := 0) (f := f) (us := us) (t := t) (by omega))
  have hB : Below w.heap.size w (w.alloc (.cells #[.int .i64 0, .string f, .slice A us.length c, .string t] 45)) := (Below.refl _ _).alloc (Nat.le_refl _) _
  cases hf0 : f.toList.isEmpty
  · go_enter Tryz.func47, Tryz.ntmps47
    go_wp2_with fail
    go_ret
    exact ⟨by rw [HO.out]; simp [*], (Below.refl _ _).alloc (Nat.le_refl _) _⟩
  · by_cases hu0 : us.length = 0
    · cases ht0 : t.toList.isEmpty
      · go_enter Tryz.func47, Tryz.ntmps47
        go_wp2_with fail
        go_ret
        exact ⟨by rw [HO.out]; simp [*], (Below.refl _ _).alloc (Nat.le_refl _) _⟩
      · go_enter Tryz.func47, Tryz.ntmps47
        go_wp2_with fail
        go_ret
        exact ⟨by rw [HO.out]; simp [*], (Below.refl _ _).alloc (Nat.le_refl _) _⟩
    · go_enter Tryz.func47, Tryz.ntmps47
      go_wp2_with fail
      go_ret
      exact ⟨by rw [HO.out]; simp [*], (Below.refl _ _).alloc (Nat.le_refl _) _⟩

set_option maxHeartbeats 1600000 in
theorem iSub1 (st : Int) (f t : ByteArray) (A : Option Addr) (us : List ByteArray) (c : Nat) (w : World) (h : AtStrs w w.heap.size A us) (hcap : us.length ≤ c) (hn : c ≤ maxLen) (hf : f.size ≤ maxLen) (ht : t.size ≤ maxLen) (hst : st = 1) :
    Calls Tryz.prog 47 #[.agg #[.int .i64 st, .string f, .slice A us.length c, .string t]] w fun e w' => e = .returned (.bool (Sb.ok st f us t)) ∧ Below w.heap.size w w' := by
  subst hst
  have htl := ht
  unfold maxLen at htl
  have HO := Lib.hid (Sb.ok0 (st := 1) (f := f) (us := us) (t := t) (by omega))
  have hB : Below w.heap.size w (w.alloc (.cells #[.int .i64 1, .string f, .slice A us.length c, .string t] 45)) := (Below.refl _ _).alloc (Nat.le_refl _) _
  cases hf0 : f.toList.isEmpty
  · go_enter Tryz.func47, Tryz.ntmps47
    go_wp2_with fail
    go_ret
    exact ⟨by rw [HO.out]; simp [*], (Below.refl _ _).alloc (Nat.le_refl _) _⟩
  · by_cases hu0 : us.length = 0
    · cases ht0 : t.toList.isEmpty
      · go_enter Tryz.func47, Tryz.ntmps47
        go_wp2_with fail
        go_ret
        exact ⟨by rw [HO.out]; simp [*], (Below.refl _ _).alloc (Nat.le_refl _) _⟩
      · go_enter Tryz.func47, Tryz.ntmps47
        go_wp2_with fail
        go_ret
        exact ⟨by rw [HO.out]; simp [*], (Below.refl _ _).alloc (Nat.le_refl _) _⟩
    · go_enter Tryz.func47, Tryz.ntmps47
      go_wp2_with fail
      go_ret
      exact ⟨by rw [HO.out]; simp [*], (Below.refl _ _).alloc (Nat.le_refl _) _⟩

set_option maxHeartbeats 1600000 in
theorem iSub6 (st : Int) (f t : ByteArray) (A : Option Addr) (us : List ByteArray) (c : Nat) (w : World) (h : AtStrs w w.heap.size A us) (hcap : us.length ≤ c) (hn : c ≤ maxLen) (hf : f.size ≤ maxLen) (ht : t.size ≤ maxLen) (hst : st = 6) :
    Calls Tryz.prog 47 #[.agg #[.int .i64 st, .string f, .slice A us.length c, .string t]] w fun e w' => e = .returned (.bool (Sb.ok st f us t)) ∧ Below w.heap.size w w' := by
  subst hst
  have htl := ht
  unfold maxLen at htl
  have HO := Lib.hid (Sb.ok0 (st := 6) (f := f) (us := us) (t := t) (by omega))
  have hB : Below w.heap.size w (w.alloc (.cells #[.int .i64 6, .string f, .slice A us.length c, .string t] 45)) := (Below.refl _ _).alloc (Nat.le_refl _) _
  cases hf0 : f.toList.isEmpty
  · go_enter Tryz.func47, Tryz.ntmps47
    go_wp2_with fail
    go_ret
    exact ⟨by rw [HO.out]; simp [*], (Below.refl _ _).alloc (Nat.le_refl _) _⟩
  · by_cases hu0 : us.length = 0
    · cases ht0 : t.toList.isEmpty
      · go_enter Tryz.func47, Tryz.ntmps47
        go_wp2_with fail
        go_ret
        exact ⟨by rw [HO.out]; simp [*], (Below.refl _ _).alloc (Nat.le_refl _) _⟩
      · go_enter Tryz.func47, Tryz.ntmps47
        go_wp2_with fail
        go_ret
        exact ⟨by rw [HO.out]; simp [*], (Below.refl _ _).alloc (Nat.le_refl _) _⟩
    · go_enter Tryz.func47, Tryz.ntmps47
      go_wp2_with fail
      go_ret
      exact ⟨by rw [HO.out]; simp [*], (Below.refl _ _).alloc (Nat.le_refl _) _⟩

set_option maxHeartbeats 1600000 in
theorem iSub2 (st : Int) (f t : ByteArray) (A : Option Addr) (us : List ByteArray) (c : Nat) (w : World) (h : AtStrs w w.heap.size A us) (hcap : us.length ≤ c) (hn : c ≤ maxLen) (hf : f.size ≤ maxLen) (ht : t.size ≤ maxLen) (hst : st = 2) :
    Calls Tryz.prog 47 #[.agg #[.int .i64 st, .string f, .slice A us.length c, .string t]] w fun e w' => e = .returned (.bool (Sb.ok st f us t)) ∧ Below w.heap.size w w' := by
  subst hst
  have htl := ht
  unfold maxLen at htl
  have HO := Lib.hid (Sb.ok2 (st := 2) (f := f) (us := us) (t := t) (by omega))
  have hB : Below w.heap.size w (w.alloc (.cells #[.int .i64 2, .string f, .slice A us.length c, .string t] 45)) := (Below.refl _ _).alloc (Nat.le_refl _) _
  go_enter Tryz.func47, Tryz.ntmps47
  go_wp2_with fail
  refine (iNameValid_any _ _ hf).mono ?_
  rintro e w1 ⟨rfl, hb1⟩
  have hbx := boxed hb1
  have hB1 := unbox hb1
  have hs1 := (Array.getElem?_eq_some_iff.1 hbx).1
  have d2 : w1.cell? ⟨w.heap.size, 2, none⟩ = some (.slice A us.length c) := cell_at hbx 2 _ rfl
  have d3 : w1.cell? ⟨w.heap.size, 3, none⟩ = some (.string t) := cell_at hbx 3 _ rfl
  clear hbx
  cases n1 : Nm.nameOk f.data.toList
  · go_wp2_with fail
    go_ret
    exact ⟨by rw [HO.out]; simp [*], hB1⟩
  · by_cases hu0 : us.length = 0
    · cases ht0 : t.toList.isEmpty
      · go_wp2_with fail
        go_ret
        exact ⟨by rw [HO.out]; simp [*], hB1⟩
      · go_wp2_with fail
        go_ret
        exact ⟨by rw [HO.out]; simp [*], hB1⟩
    · go_wp2_with fail
      go_ret
      exact ⟨by rw [HO.out]; simp [*], hB1⟩

set_option maxHeartbeats 1600000 in
theorem iSub3 (st : Int) (f t : ByteArray) (A : Option Addr) (us : List ByteArray) (c : Nat) (w : World) (h : AtStrs w w.heap.size A us) (hcap : us.length ≤ c) (hn : c ≤ maxLen) (hf : f.size ≤ maxLen) (ht : t.size ≤ maxLen) (hst : st = 3) :
    Calls Tryz.prog 47 #[.agg #[.int .i64 st, .string f, .slice A us.length c, .string t]] w fun e w' => e = .returned (.bool (Sb.ok st f us t)) ∧ Below w.heap.size w w' := by
  subst hst
  have htl := ht
  unfold maxLen at htl
  have HO := Lib.hid (Sb.ok2 (st := 3) (f := f) (us := us) (t := t) (by omega))
  have hB : Below w.heap.size w (w.alloc (.cells #[.int .i64 3, .string f, .slice A us.length c, .string t] 45)) := (Below.refl _ _).alloc (Nat.le_refl _) _
  go_enter Tryz.func47, Tryz.ntmps47
  go_wp2_with fail
  refine (iNameValid_any _ _ hf).mono ?_
  rintro e w1 ⟨rfl, hb1⟩
  have hbx := boxed hb1
  have hB1 := unbox hb1
  have hs1 := (Array.getElem?_eq_some_iff.1 hbx).1
  have d2 : w1.cell? ⟨w.heap.size, 2, none⟩ = some (.slice A us.length c) := cell_at hbx 2 _ rfl
  have d3 : w1.cell? ⟨w.heap.size, 3, none⟩ = some (.string t) := cell_at hbx 3 _ rfl
  clear hbx
  cases n1 : Nm.nameOk f.data.toList
  · go_wp2_with fail
    go_ret
    exact ⟨by rw [HO.out]; simp [*], hB1⟩
  · by_cases hu0 : us.length = 0
    · cases ht0 : t.toList.isEmpty
      · go_wp2_with fail
        go_ret
        exact ⟨by rw [HO.out]; simp [*], hB1⟩
      · go_wp2_with fail
        go_ret
        exact ⟨by rw [HO.out]; simp [*], hB1⟩
    · go_wp2_with fail
      go_ret
      exact ⟨by rw [HO.out]; simp [*], hB1⟩

set_option maxHeartbeats 1600000 in
theorem iSub4 (st : Int) (f t : ByteArray) (A : Option Addr) (us : List ByteArray) (c : Nat) (w : World) (h : AtStrs w w.heap.size A us) (hcap : us.length ≤ c) (hn : c ≤ maxLen) (hf : f.size ≤ maxLen) (ht : t.size ≤ maxLen) (hst : st = 4) :
    Calls Tryz.prog 47 #[.agg #[.int .i64 st, .string f, .slice A us.length c, .string t]] w fun e w' => e = .returned (.bool (Sb.ok st f us t)) ∧ Below w.heap.size w w' := by
  subst hst
  have htl := ht
  unfold maxLen at htl
  have HO := Lib.hid (Sb.ok4 (st := 4) (f := f) (us := us) (t := t) rfl)
  have hB : Below w.heap.size w (w.alloc (.cells #[.int .i64 4, .string f, .slice A us.length c, .string t] 45)) := (Below.refl _ _).alloc (Nat.le_refl _) _
  go_enter Tryz.func47, Tryz.ntmps47
  go_wp2_with fail
  refine (iNameValid_any _ _ hf).mono ?_
  rintro e w1 ⟨rfl, hb1⟩
  have hbx := boxed hb1
  have hB1 := unbox hb1
  have hs1 := (Array.getElem?_eq_some_iff.1 hbx).1
  have d2 : w1.cell? ⟨w.heap.size, 2, none⟩ = some (.slice A us.length c) := cell_at hbx 2 _ rfl
  have d3 : w1.cell? ⟨w.heap.size, 3, none⟩ = some (.string t) := cell_at hbx 3 _ rfl
  clear hbx
  have HA := Lib.hid ((h.below hB1).mono hB1.size)
  cases n1 : Nm.nameOk f.data.toList
  · go_wp2_with fail
    go_ret
    exact ⟨by rw [HO.out]; simp [*], hB1⟩
  · go_wp2_with fail
    refine (receiversValid_any A us c _ HA.out hcap hn).mono ?_
    rintro e w2 ⟨rfl, hb2⟩
    have hB2 := hB1.trans (hb2.mono hB1.size)
    have d3 := (hb2.cell (p := ⟨w.heap.size, 3, none⟩) hs1).trans d3
    have hrv : (St.namesOk us && decide (0 < us.length)) = Sb.recv us := rfl
    rw [hrv]
    cases n2 : Sb.recv us
    · go_wp2_with fail
      go_ret
      exact ⟨by rw [HO.out]; simp [*], hB2⟩
    · cases ht0 : t.toList.isEmpty
      · go_wp2_with fail
        go_ret
        exact ⟨by rw [HO.out]; simp [*], hB2⟩
      · go_wp2_with fail
        go_ret
        exact ⟨by rw [HO.out]; simp [*], hB2⟩

set_option maxHeartbeats 1600000 in
theorem iSub5 (st : Int) (f t : ByteArray) (A : Option Addr) (us : List ByteArray) (c : Nat) (w : World) (h : AtStrs w w.heap.size A us) (hcap : us.length ≤ c) (hn : c ≤ maxLen) (hf : f.size ≤ maxLen) (ht : t.size ≤ maxLen) (hst : st = 5) :
    Calls Tryz.prog 47 #[.agg #[.int .i64 st, .string f, .slice A us.length c, .string t]] w fun e w' => e = .returned (.bool (Sb.ok st f us t)) ∧ Below w.heap.size w w' := by
  subst hst
  have htl := ht
  unfold maxLen at htl
  have HO := Lib.hid (Sb.ok5 (st := 5) (f := f) (us := us) (t := t) rfl)
  have hB : Below w.heap.size w (w.alloc (.cells #[.int .i64 5, .string f, .slice A us.length c, .string t] 45)) := (Below.refl _ _).alloc (Nat.le_refl _) _
  go_enter Tryz.func47, Tryz.ntmps47
  go_wp2_with fail
  refine (iNameValid_any _ _ hf).mono ?_
  rintro e w1 ⟨rfl, hb1⟩
  have hbx := boxed hb1
  have hB1 := unbox hb1
  have hs1 := (Array.getElem?_eq_some_iff.1 hbx).1
  have d2 : w1.cell? ⟨w.heap.size, 2, none⟩ = some (.slice A us.length c) := cell_at hbx 2 _ rfl
  have d3 : w1.cell? ⟨w.heap.size, 3, none⟩ = some (.string t) := cell_at hbx 3 _ rfl
  clear hbx
  have HA := Lib.hid ((h.below hB1).mono hB1.size)
  cases n1 : Nm.nameOk f.data.toList
  · go_wp2_with fail
    go_ret
    exact ⟨by rw [HO.out]; simp [*], hB1⟩
  · go_wp2_with fail
    refine (receiversValid_any A us c _ HA.out hcap hn).mono ?_
    rintro e w2 ⟨rfl, hb2⟩
    have hB2 := hB1.trans (hb2.mono hB1.size)
    have d3 := (hb2.cell (p := ⟨w.heap.size, 3, none⟩) hs1).trans d3
    have hrv : (St.namesOk us && decide (0 < us.length)) = Sb.recv us := rfl
    rw [hrv]
    cases n2 : Sb.recv us
    · go_wp2_with fail
      go_ret
      exact ⟨by rw [HO.out]; simp [*], hB2⟩
    · go_wp2_with fail
      go_ret
      exact ⟨by rw [HO.out]; simp [*]; omega, hB2⟩

set_option maxHeartbeats 1600000 in
theorem iSubN (st : Int) (f t : ByteArray) (A : Option Addr) (us : List ByteArray) (c : Nat) (w : World) (h : AtStrs w w.heap.size A us) (hcap : us.length ≤ c) (hn : c ≤ maxLen) (hf : f.size ≤ maxLen) (ht : t.size ≤ maxLen) (hst : ¬ (0 ≤ st ∧ st ≤ 6)) :
    Calls Tryz.prog 47 #[.agg #[.int .i64 st, .string f, .slice A us.length c, .string t]] w fun e w' => e = .returned (.bool (Sb.ok st f us t)) ∧ Below w.heap.size w w' := by
  have htl := ht
  unfold maxLen at htl
  have HO := Lib.hid (Sb.okN (st := st) (f := f) (us := us) (t := t) hst)
  have hB : Below w.heap.size w (w.alloc (.cells #[.int .i64 st, .string f, .slice A us.length c, .string t] 45)) := (Below.refl _ _).alloc (Nat.le_refl _) _
  have z0 : ¬ st = 0 := by omega
  have z1 : ¬ st = 1 := by omega
  have z2 : ¬ st = 2 := by omega
  have z3 : ¬ st = 3 := by omega
  have z4 : ¬ st = 4 := by omega
  have z5 : ¬ st = 5 := by omega
  have z6 : ¬ st = 6 := by omega
  go_enter Tryz.func47, Tryz.ntmps47
  go_wp2_with fail
  go_ret
  exact ⟨by rw [HO.out]; rfl, hB⟩

theorem iSubmissionValid_any (st : Int) (f t : ByteArray) (A : Option Addr) (us : List ByteArray) (c : Nat) (w : World) (h : AtStrs w w.heap.size A us) (hcap : us.length ≤ c) (hn : c ≤ maxLen) (hf : f.size ≤ maxLen) (ht : t.size ≤ maxLen) :
    Calls Tryz.prog 47 #[.agg #[.int .i64 st, .string f, .slice A us.length c, .string t]] w fun e w' => e = .returned (.bool (Sb.ok st f us t)) ∧ Below w.heap.size w w' := by
  by_cases hst : 0 ≤ st ∧ st ≤ 6
  · obtain hs | hs | hs | hs | hs | hs | hs : st = 0 ∨ st = 1 ∨ st = 2 ∨ st = 3 ∨ st = 4 ∨ st = 5 ∨ st = 6 := by omega
    · exact iSub0 st f t A us c w h hcap hn hf ht hs
    · exact iSub1 st f t A us c w h hcap hn hf ht hs
    · exact iSub2 st f t A us c w h hcap hn hf ht hs
    · exact iSub3 st f t A us c w h hcap hn hf ht hs
    · exact iSub4 st f t A us c w h hcap hn hf ht hs
    · exact iSub5 st f t A us c w h hcap hn hf ht hs
    · exact iSub6 st f t A us c w h hcap hn hf ht hs
  · exact iSubN st f t A us c w h hcap hn hf ht hst

end Go.Proofs.YtpjifcljkgcnlaaGreatDoor

namespace Go.Proofs.YtpjifcljkgcnlaaGreatDoor
set_option linter.unusedVariables false
open Go.RowKit

theorem Sb.empty_size {t : ByteArray} (h : 21 < t.size) : t.toList.isEmpty = false := by
  cases he : t.toList.isEmpty
  · rfl
  · rw [List.isEmpty_iff, Go.ByteArray.toList_eq] at he
    have : t.size = 0 := by show t.data.size = 0; rw [← Array.length_toList, he]; rfl
    omega
theorem Sb.name_some {f : ByteArray} (h : Nm.nameOk f.data.toList = true) : f.toList.isEmpty = false := by
  have := Nm.nameOk_len h
  cases he : f.toList.isEmpty
  · rfl
  · rw [List.isEmpty_iff, Go.ByteArray.toList_eq] at he
    rw [he] at this; simp at this
theorem Sb.none_ok {us : List ByteArray} (h : us.length = 0) : St.namesOk us = true := by
  rw [List.length_eq_zero_iff] at h
  subst h; rfl

set_option maxHeartbeats 1600000 in
theorem sSub0 (f t : ByteArray) (A : Option Addr) (us : List ByteArray) (c : Nat) (w : World) (h : AtStrs w w.heap.size A us) (hcap : us.length ≤ c) (hn : c ≤ maxLen) (hf : f.size ≤ maxLen) (ht : t.size ≤ maxLen) :
    Calls Tryz.prog 37 #[.agg #[.int .i64 0, .string f, .slice A us.length c, .string t]] w fun e w' => e = .returned (.bool (Sb.ok 0 f us t)) ∧ Below w.heap.size w w' := by
  have htl := ht
  unfold maxLen at htl
  have HO := Lib.hid (Sb.ok0 (st := 0) (f := f) (us := us) (t := t) (by omega))
  have hB : Below w.heap.size w (w.alloc (.cells #[.int .i64 0, .string f, .slice A us.length c, .string t] 45)) := (Below.refl _ _).alloc (Nat.le_refl _) _
  have hbx := heap_alloc_new w (.cells #[.int .i64 0, .string f, .slice A us.length c, .string t] 45)
  have HBX := Lib.hid hbx
  have HA := Lib.hid ((h.below hB).mono hB.size)
  clear hbx
  have i1 : inB 0 0 6 = true := by decide
  have i2 : inB 0 2 5 = false := by decide
  go_enter Tryz.func37, Tryz.ntmps37
  go_wp2_with fail
  refine (l6In_any _ _ _ _).mono ?_
  rintro e wq ⟨rfl, rfl⟩
  rw [i1]
  go_wp2_with fail
  refine (l21Names_any A us c _ HA.out hcap hn).mono ?_
  rintro e w2 ⟨rfl, hb2⟩
  have hB2 := hB.trans (hb2.mono hB.size)
  have hbx2 := (hb2.block w.heap.size (by simp)).trans HBX.out
  have d0 : w2.cell? ⟨w.heap.size, 0, none⟩ = some (.int .i64 0) := cell_at hbx2 0 _ rfl
  have d1 : w2.cell? ⟨w.heap.size, 1, none⟩ = some (.string f) := cell_at hbx2 1 _ rfl
  have d2 : w2.cell? ⟨w.heap.size, 2, none⟩ = some (.slice A us.length c) := cell_at hbx2 2 _ rfl
  have d3 : w2.cell? ⟨w.heap.size, 3, none⟩ = some (.string t) := cell_at hbx2 3 _ rfl
  clear hbx2
  cases n1 : St.namesOk us
  · have n2 : ¬ us.length = 0 := fun e => by rw [Sb.none_ok e] at n1; cases n1
    go_wp2_with fail
    go_ret
    exact ⟨by rw [HO.out]; simp [*], hB2⟩
  · by_cases hts : 21 < t.size
    · have n3 := Sb.empty_size hts
      go_wp2_with fail
      go_ret
      exact ⟨by rw [HO.out]; simp [*], hB2⟩
    · go_wp2_with fail
      refine (l6In_any _ _ _ _).mono ?_
      rintro e wq ⟨rfl, rfl⟩
      rw [i2]
      go_wp2_with fail
      refine (sNameValid_any _ _ hf).mono ?_
      rintro e wq ⟨rfl, rfl⟩
      cases n4 : Nm.nameOk f.data.toList
      · cases hf0 : f.toList.isEmpty
        · go_wp2_with fail
          go_ret
          exact ⟨by rw [HO.out]; simp [*], hB2⟩
        · have n7 : True := trivial
          by_cases hu0 : us.length = 0
          · cases ht0 : t.toList.isEmpty
            · go_wp2_with fail
              go_ret
              exact ⟨by rw [HO.out]; simp [*], hB2⟩
            · go_wp2_with fail
              go_ret
              exact ⟨by rw [HO.out]; simp [*], hB2⟩
          · have hu1 : 0 < us.length := by omega
            go_wp2_with fail
            go_ret
            exact ⟨by rw [HO.out]; simp [*], hB2⟩
      · have hf0 := Sb.name_some n4
        go_wp2_with fail
        go_ret
        exact ⟨by rw [HO.out]; simp [*], hB2⟩

set_option maxHeartbeats 1600000 in
theorem sSub1 (f t : ByteArray) (A : Option Addr) (us : List ByteArray) (c : Nat) (w : World) (h : AtStrs w w.heap.size A us) (hcap : us.length ≤ c) (hn : c ≤ maxLen) (hf : f.size ≤ maxLen) (ht : t.size ≤ maxLen) :
    Calls Tryz.prog 37 #[.agg #[.int .i64 1, .string f, .slice A us.length c, .string t]] w fun e w' => e = .returned (.bool (Sb.ok 1 f us t)) ∧ Below w.heap.size w w' := by
  have htl := ht
  unfold maxLen at htl
  have HO := Lib.hid (Sb.ok0 (st := 1) (f := f) (us := us) (t := t) (by omega))
  have hB : Below w.heap.size w (w.alloc (.cells #[.int .i64 1, .string f, .slice A us.length c, .string t] 45)) := (Below.refl _ _).alloc (Nat.le_refl _) _
  have hbx := heap_alloc_new w (.cells #[.int .i64 1, .string f, .slice A us.length c, .string t] 45)
  have HBX := Lib.hid hbx
  have HA := Lib.hid ((h.below hB).mono hB.size)
  clear hbx
  have i1 : inB 1 0 6 = true := by decide
  have i2 : inB 1 2 5 = false := by decide
  go_enter Tryz.func37, Tryz.ntmps37
  go_wp2_with fail
  refine (l6In_any _ _ _ _).mono ?_
  rintro e wq ⟨rfl, rfl⟩
  rw [i1]
  go_wp2_with fail
  refine (l21Names_any A us c _ HA.out hcap hn).mono ?_
  rintro e w2 ⟨rfl, hb2⟩
  have hB2 := hB.trans (hb2.mono hB.size)
  have hbx2 := (hb2.block w.heap.size (by simp)).trans HBX.out
  have d0 : w2.cell? ⟨w.heap.size, 0, none⟩ = some (.int .i64 1) := cell_at hbx2 0 _ rfl
  have d1 : w2.cell? ⟨w.heap.size, 1, none⟩ = some (.string f) := cell_at hbx2 1 _ rfl
  have d2 : w2.cell? ⟨w.heap.size, 2, none⟩ = some (.slice A us.length c) := cell_at hbx2 2 _ rfl
  have d3 : w2.cell? ⟨w.heap.size, 3, none⟩ = some (.string t) := cell_at hbx2 3 _ rfl
  clear hbx2
  cases n1 : St.namesOk us
  · have n2 : ¬ us.length = 0 := fun e => by rw [Sb.none_ok e] at n1; cases n1
    go_wp2_with fail
    go_ret
    exact ⟨by rw [HO.out]; simp [*], hB2⟩
  · by_cases hts : 21 < t.size
    · have n3 := Sb.empty_size hts
      go_wp2_with fail
      go_ret
      exact ⟨by rw [HO.out]; simp [*], hB2⟩
    · go_wp2_with fail
      refine (l6In_any _ _ _ _).mono ?_
      rintro e wq ⟨rfl, rfl⟩
      rw [i2]
      go_wp2_with fail
      refine (sNameValid_any _ _ hf).mono ?_
      rintro e wq ⟨rfl, rfl⟩
      cases n4 : Nm.nameOk f.data.toList
      · cases hf0 : f.toList.isEmpty
        · go_wp2_with fail
          go_ret
          exact ⟨by rw [HO.out]; simp [*], hB2⟩
        · have n7 : True := trivial
          by_cases hu0 : us.length = 0
          · cases ht0 : t.toList.isEmpty
            · go_wp2_with fail
              go_ret
              exact ⟨by rw [HO.out]; simp [*], hB2⟩
            · go_wp2_with fail
              go_ret
              exact ⟨by rw [HO.out]; simp [*], hB2⟩
          · have hu1 : 0 < us.length := by omega
            go_wp2_with fail
            go_ret
            exact ⟨by rw [HO.out]; simp [*], hB2⟩
      · have hf0 := Sb.name_some n4
        go_wp2_with fail
        go_ret
        exact ⟨by rw [HO.out]; simp [*], hB2⟩

set_option maxHeartbeats 1600000 in
theorem sSub2 (f t : ByteArray) (A : Option Addr) (us : List ByteArray) (c : Nat) (w : World) (h : AtStrs w w.heap.size A us) (hcap : us.length ≤ c) (hn : c ≤ maxLen) (hf : f.size ≤ maxLen) (ht : t.size ≤ maxLen) :
    Calls Tryz.prog 37 #[.agg #[.int .i64 2, .string f, .slice A us.length c, .string t]] w fun e w' => e = .returned (.bool (Sb.ok 2 f us t)) ∧ Below w.heap.size w w' := by
  have htl := ht
  unfold maxLen at htl
  have HO := Lib.hid (Sb.ok2 (st := 2) (f := f) (us := us) (t := t) (by omega))
  have hB : Below w.heap.size w (w.alloc (.cells #[.int .i64 2, .string f, .slice A us.length c, .string t] 45)) := (Below.refl _ _).alloc (Nat.le_refl _) _
  have hbx := heap_alloc_new w (.cells #[.int .i64 2, .string f, .slice A us.length c, .string t] 45)
  have HBX := Lib.hid hbx
  have HA := Lib.hid ((h.below hB).mono hB.size)
  clear hbx
  have i1 : inB 2 0 6 = true := by decide
  have i2 : inB 2 2 5 = true := by decide
  go_enter Tryz.func37, Tryz.ntmps37
  go_wp2_with fail
  refine (l6In_any _ _ _ _).mono ?_
  rintro e wq ⟨rfl, rfl⟩
  rw [i1]
  go_wp2_with fail
  refine (l21Names_any A us c _ HA.out hcap hn).mono ?_
  rintro e w2 ⟨rfl, hb2⟩
  have hB2 := hB.trans (hb2.mono hB.size)
  have hbx2 := (hb2.block w.heap.size (by simp)).trans HBX.out
  have d0 : w2.cell? ⟨w.heap.size, 0, none⟩ = some (.int .i64 2) := cell_at hbx2 0 _ rfl
  have d1 : w2.cell? ⟨w.heap.size, 1, none⟩ = some (.string f) := cell_at hbx2 1 _ rfl
  have d2 : w2.cell? ⟨w.heap.size, 2, none⟩ = some (.slice A us.length c) := cell_at hbx2 2 _ rfl
  have d3 : w2.cell? ⟨w.heap.size, 3, none⟩ = some (.string t) := cell_at hbx2 3 _ rfl
  clear hbx2
  cases n1 : St.namesOk us
  · have n2 : ¬ us.length = 0 := fun e => by rw [Sb.none_ok e] at n1; cases n1
    go_wp2_with fail
    go_ret
    exact ⟨by rw [HO.out]; simp [*], hB2⟩
  · by_cases hts : 21 < t.size
    · have n3 := Sb.empty_size hts
      go_wp2_with fail
      go_ret
      exact ⟨by rw [HO.out]; simp [*], hB2⟩
    · go_wp2_with fail
      refine (l6In_any _ _ _ _).mono ?_
      rintro e wq ⟨rfl, rfl⟩
      rw [i2]
      go_wp2_with fail
      refine (sNameValid_any _ _ hf).mono ?_
      rintro e wq ⟨rfl, rfl⟩
      cases n4 : Nm.nameOk f.data.toList
      · go_wp2_with fail
        go_ret
        exact ⟨by rw [HO.out]; simp [*], hB2⟩
      · have n7 : True := trivial
        by_cases hu0 : us.length = 0
        · cases ht0 : t.toList.isEmpty
          · go_wp2_with fail
            go_ret
            exact ⟨by rw [HO.out]; simp [*], hB2⟩
          · go_wp2_with fail
            go_ret
            exact ⟨by rw [HO.out]; simp [*], hB2⟩
        · have hu1 : 0 < us.length := by omega
          go_wp2_with fail
          go_ret
          exact ⟨by rw [HO.out]; simp [*], hB2⟩

set_option maxHeartbeats 1600000 in
theorem sSub3 (f t : ByteArray) (A : Option Addr) (us : List ByteArray) (c : Nat) (w : World) (h : AtStrs w w.heap.size A us) (hcap : us.length ≤ c) (hn : c ≤ maxLen) (hf : f.size ≤ maxLen) (ht : t.size ≤ maxLen) :
    Calls Tryz.prog 37 #[.agg #[.int .i64 3, .string f, .slice A us.length c, .string t]] w fun e w' => e = .returned (.bool (Sb.ok 3 f us t)) ∧ Below w.heap.size w w' := by
  have htl := ht
  unfold maxLen at htl
  have HO := Lib.hid (Sb.ok2 (st := 3) (f := f) (us := us) (t := t) (by omega))
  have hB : Below w.heap.size w (w.alloc (.cells #[.int .i64 3, .string f, .slice A us.length c, .string t] 45)) := (Below.refl _ _).alloc (Nat.le_refl _) _
  have hbx := heap_alloc_new w (.cells #[.int .i64 3, .string f, .slice A us.length c, .string t] 45)
  have HBX := Lib.hid hbx
  have HA := Lib.hid ((h.below hB).mono hB.size)
  clear hbx
  have i1 : inB 3 0 6 = true := by decide
  have i2 : inB 3 2 5 = true := by decide
  go_enter Tryz.func37, Tryz.ntmps37
  go_wp2_with fail
  refine (l6In_any _ _ _ _).mono ?_
  rintro e wq ⟨rfl, rfl⟩
  rw [i1]
  go_wp2_with fail
  refine (l21Names_any A us c _ HA.out hcap hn).mono ?_
  rintro e w2 ⟨rfl, hb2⟩
  have hB2 := hB.trans (hb2.mono hB.size)
  have hbx2 := (hb2.block w.heap.size (by simp)).trans HBX.out
  have d0 : w2.cell? ⟨w.heap.size, 0, none⟩ = some (.int .i64 3) := cell_at hbx2 0 _ rfl
  have d1 : w2.cell? ⟨w.heap.size, 1, none⟩ = some (.string f) := cell_at hbx2 1 _ rfl
  have d2 : w2.cell? ⟨w.heap.size, 2, none⟩ = some (.slice A us.length c) := cell_at hbx2 2 _ rfl
  have d3 : w2.cell? ⟨w.heap.size, 3, none⟩ = some (.string t) := cell_at hbx2 3 _ rfl
  clear hbx2
  cases n1 : St.namesOk us
  · have n2 : ¬ us.length = 0 := fun e => by rw [Sb.none_ok e] at n1; cases n1
    go_wp2_with fail
    go_ret
    exact ⟨by rw [HO.out]; simp [*], hB2⟩
  · by_cases hts : 21 < t.size
    · have n3 := Sb.empty_size hts
      go_wp2_with fail
      go_ret
      exact ⟨by rw [HO.out]; simp [*], hB2⟩
    · go_wp2_with fail
      refine (l6In_any _ _ _ _).mono ?_
      rintro e wq ⟨rfl, rfl⟩
      rw [i2]
      go_wp2_with fail
      refine (sNameValid_any _ _ hf).mono ?_
      rintro e wq ⟨rfl, rfl⟩
      cases n4 : Nm.nameOk f.data.toList
      · go_wp2_with fail
        go_ret
        exact ⟨by rw [HO.out]; simp [*], hB2⟩
      · have n7 : True := trivial
        by_cases hu0 : us.length = 0
        · cases ht0 : t.toList.isEmpty
          · go_wp2_with fail
            go_ret
            exact ⟨by rw [HO.out]; simp [*], hB2⟩
          · go_wp2_with fail
            go_ret
            exact ⟨by rw [HO.out]; simp [*], hB2⟩
        · have hu1 : 0 < us.length := by omega
          go_wp2_with fail
          go_ret
          exact ⟨by rw [HO.out]; simp [*], hB2⟩

set_option maxHeartbeats 1600000 in
theorem sSub4 (f t : ByteArray) (A : Option Addr) (us : List ByteArray) (c : Nat) (w : World) (h : AtStrs w w.heap.size A us) (hcap : us.length ≤ c) (hn : c ≤ maxLen) (hf : f.size ≤ maxLen) (ht : t.size ≤ maxLen) :
    Calls Tryz.prog 37 #[.agg #[.int .i64 4, .string f, .slice A us.length c, .string t]] w fun e w' => e = .returned (.bool (Sb.ok 4 f us t)) ∧ Below w.heap.size w w' := by
  have htl := ht
  unfold maxLen at htl
  have HO := Lib.hid (Sb.ok4 (st := 4) (f := f) (us := us) (t := t) (by omega))
  have hB : Below w.heap.size w (w.alloc (.cells #[.int .i64 4, .string f, .slice A us.length c, .string t] 45)) := (Below.refl _ _).alloc (Nat.le_refl _) _
  have hbx := heap_alloc_new w (.cells #[.int .i64 4, .string f, .slice A us.length c, .string t] 45)
  have HBX := Lib.hid hbx
  have HA := Lib.hid ((h.below hB).mono hB.size)
  clear hbx
  have i1 : inB 4 0 6 = true := by decide
  have i2 : inB 4 2 5 = true := by decide
  go_enter Tryz.func37, Tryz.ntmps37
  go_wp2_with fail
  refine (l6In_any _ _ _ _).mono ?_
  rintro e wq ⟨rfl, rfl⟩
  rw [i1]
  go_wp2_with fail
  refine (l21Names_any A us c _ HA.out hcap hn).mono ?_
  rintro e w2 ⟨rfl, hb2⟩
  have hB2 := hB.trans (hb2.mono hB.size)
  have hbx2 := (hb2.block w.heap.size (by simp)).trans HBX.out
  have d0 : w2.cell? ⟨w.heap.size, 0, none⟩ = some (.int .i64 4) := cell_at hbx2 0 _ rfl
  have d1 : w2.cell? ⟨w.heap.size, 1, none⟩ = some (.string f) := cell_at hbx2 1 _ rfl
  have d2 : w2.cell? ⟨w.heap.size, 2, none⟩ = some (.slice A us.length c) := cell_at hbx2 2 _ rfl
  have d3 : w2.cell? ⟨w.heap.size, 3, none⟩ = some (.string t) := cell_at hbx2 3 _ rfl
  clear hbx2
  cases n1 : St.namesOk us
  · have n2 : Sb.recv us = false := by unfold Sb.recv; rw [n1]; rfl
    go_wp2_with fail
    go_ret
    exact ⟨by rw [HO.out]; simp [*], hB2⟩
  · by_cases hts : 21 < t.size
    · have n3 := Sb.empty_size hts
      go_wp2_with fail
      go_ret
      exact ⟨by rw [HO.out]; simp [*], hB2⟩
    · go_wp2_with fail
      refine (l6In_any _ _ _ _).mono ?_
      rintro e wq ⟨rfl, rfl⟩
      rw [i2]
      go_wp2_with fail
      refine (sNameValid_any _ _ hf).mono ?_
      rintro e wq ⟨rfl, rfl⟩
      cases n4 : Nm.nameOk f.data.toList
      · go_wp2_with fail
        go_ret
        exact ⟨by rw [HO.out]; simp [*], hB2⟩
      · have n7 : True := trivial
        by_cases hu0 : 0 < us.length
        · have n5 : Sb.recv us = true := by unfold Sb.recv; rw [n1, decide_eq_true hu0]; rfl
          cases ht0 : t.toList.isEmpty
          · go_wp2_with fail
            go_ret
            exact ⟨by rw [HO.out]; simp [*], hB2⟩
          · go_wp2_with fail
            go_ret
            exact ⟨by rw [HO.out]; simp [*], hB2⟩
        · have n5 : Sb.recv us = false := by unfold Sb.recv; rw [decide_eq_false hu0]; simp
          go_wp2_with fail
          go_ret
          exact ⟨by rw [HO.out]; simp [*], hB2⟩

set_option maxHeartbeats 1600000 in
theorem sSub5 (f t : ByteArray) (A : Option Addr) (us : List ByteArray) (c : Nat) (w : World) (h : AtStrs w w.heap.size A us) (hcap : us.length ≤ c) (hn : c ≤ maxLen) (hf : f.size ≤ maxLen) (ht : t.size ≤ maxLen) :
    Calls Tryz.prog 37 #[.agg #[.int .i64 5, .string f, .slice A us.length c, .string t]] w fun e w' => e = .returned (.bool (Sb.ok 5 f us t)) ∧ Below w.heap.size w w' := by
  have htl := ht
  unfold maxLen at htl
  have HO := Lib.hid (Sb.ok5 (st := 5) (f := f) (us := us) (t := t) (by omega))
  have hB : Below w.heap.size w (w.alloc (.cells #[.int .i64 5, .string f, .slice A us.length c, .string t] 45)) := (Below.refl _ _).alloc (Nat.le_refl _) _
  have hbx := heap_alloc_new w (.cells #[.int .i64 5, .string f, .slice A us.length c, .string t] 45)
  have HBX := Lib.hid hbx
  have HA := Lib.hid ((h.below hB).mono hB.size)
  clear hbx
  have i1 : inB 5 0 6 = true := by decide
  have i2 : inB 5 2 5 = true := by decide
  go_enter Tryz.func37, Tryz.ntmps37
  go_wp2_with fail
  refine (l6In_any _ _ _ _).mono ?_
  rintro e wq ⟨rfl, rfl⟩
  rw [i1]
  go_wp2_with fail
  refine (l21Names_any A us c _ HA.out hcap hn).mono ?_
  rintro e w2 ⟨rfl, hb2⟩
  have hB2 := hB.trans (hb2.mono hB.size)
  have hbx2 := (hb2.block w.heap.size (by simp)).trans HBX.out
  have d0 : w2.cell? ⟨w.heap.size, 0, none⟩ = some (.int .i64 5) := cell_at hbx2 0 _ rfl
  have d1 : w2.cell? ⟨w.heap.size, 1, none⟩ = some (.string f) := cell_at hbx2 1 _ rfl
  have d2 : w2.cell? ⟨w.heap.size, 2, none⟩ = some (.slice A us.length c) := cell_at hbx2 2 _ rfl
  have d3 : w2.cell? ⟨w.heap.size, 3, none⟩ = some (.string t) := cell_at hbx2 3 _ rfl
  clear hbx2
  cases n1 : St.namesOk us
  · have n2 : Sb.recv us = false := by unfold Sb.recv; rw [n1]; rfl
    go_wp2_with fail
    go_ret
    exact ⟨by rw [HO.out]; simp [*], hB2⟩
  · by_cases hts : 21 < t.size
    · have n3 : ¬ t.size ≤ 21 := by omega
      go_wp2_with fail
      go_ret
      exact ⟨by rw [HO.out]; simp [*], hB2⟩
    · go_wp2_with fail
      refine (l6In_any _ _ _ _).mono ?_
      rintro e wq ⟨rfl, rfl⟩
      rw [i2]
      go_wp2_with fail
      refine (sNameValid_any _ _ hf).mono ?_
      rintro e wq ⟨rfl, rfl⟩
      cases n4 : Nm.nameOk f.data.toList
      · go_wp2_with fail
        go_ret
        exact ⟨by rw [HO.out]; simp [*], hB2⟩
      · have n7 : True := trivial
        by_cases hu0 : 0 < us.length
        · have n5 : Sb.recv us = true := by unfold Sb.recv; rw [n1, decide_eq_true hu0]; rfl
          have n6 : t.size ≤ 21 := by omega
          go_wp2_with fail
          go_ret
          exact ⟨by rw [HO.out]; simp [*], hB2⟩
        · have n5 : Sb.recv us = false := by unfold Sb.recv; rw [decide_eq_false hu0]; simp
          go_wp2_with fail
          go_ret
          exact ⟨by rw [HO.out]; simp [*], hB2⟩

set_option maxHeartbeats 1600000 in
theorem sSub6 (f t : ByteArray) (A : Option Addr) (us : List ByteArray) (c : Nat) (w : World) (h : AtStrs w w.heap.size A us) (hcap : us.length ≤ c) (hn : c ≤ maxLen) (hf : f.size ≤ maxLen) (ht : t.size ≤ maxLen) :
    Calls Tryz.prog 37 #[.agg #[.int .i64 6, .string f, .slice A us.length c, .string t]] w fun e w' => e = .returned (.bool (Sb.ok 6 f us t)) ∧ Below w.heap.size w w' := by
  have htl := ht
  unfold maxLen at htl
  have HO := Lib.hid (Sb.ok0 (st := 6) (f := f) (us := us) (t := t) (by omega))
  have hB : Below w.heap.size w (w.alloc (.cells #[.int .i64 6, .string f, .slice A us.length c, .string t] 45)) := (Below.refl _ _).alloc (Nat.le_refl _) _
  have hbx := heap_alloc_new w (.cells #[.int .i64 6, .string f, .slice A us.length c, .string t] 45)
  have HBX := Lib.hid hbx
  have HA := Lib.hid ((h.below hB).mono hB.size)
  clear hbx
  have i1 : inB 6 0 6 = true := by decide
  have i2 : inB 6 2 5 = false := by decide
  go_enter Tryz.func37, Tryz.ntmps37
  go_wp2_with fail
  refine (l6In_any _ _ _ _).mono ?_
  rintro e wq ⟨rfl, rfl⟩
  rw [i1]
  go_wp2_with fail
  refine (l21Names_any A us c _ HA.out hcap hn).mono ?_
  rintro e w2 ⟨rfl, hb2⟩
  have hB2 := hB.trans (hb2.mono hB.size)
  have hbx2 := (hb2.block w.heap.size (by simp)).trans HBX.out
  have d0 : w2.cell? ⟨w.heap.size, 0, none⟩ = some (.int .i64 6) := cell_at hbx2 0 _ rfl
  have d1 : w2.cell? ⟨w.heap.size, 1, none⟩ = some (.string f) := cell_at hbx2 1 _ rfl
  have d2 : w2.cell? ⟨w.heap.size, 2, none⟩ = some (.slice A us.length c) := cell_at hbx2 2 _ rfl
  have d3 : w2.cell? ⟨w.heap.size, 3, none⟩ = some (.string t) := cell_at hbx2 3 _ rfl
  clear hbx2
  cases n1 : St.namesOk us
  · have n2 : ¬ us.length = 0 := fun e => by rw [Sb.none_ok e] at n1; cases n1
    go_wp2_with fail
    go_ret
    exact ⟨by rw [HO.out]; simp [*], hB2⟩
  · by_cases hts : 21 < t.size
    · have n3 := Sb.empty_size hts
      go_wp2_with fail
      go_ret
      exact ⟨by rw [HO.out]; simp [*], hB2⟩
    · go_wp2_with fail
      refine (l6In_any _ _ _ _).mono ?_
      rintro e wq ⟨rfl, rfl⟩
      rw [i2]
      go_wp2_with fail
      refine (sNameValid_any _ _ hf).mono ?_
      rintro e wq ⟨rfl, rfl⟩
      cases n4 : Nm.nameOk f.data.toList
      · cases hf0 : f.toList.isEmpty
        · go_wp2_with fail
          go_ret
          exact ⟨by rw [HO.out]; simp [*], hB2⟩
        · have n7 : True := trivial
          by_cases hu0 : us.length = 0
          · cases ht0 : t.toList.isEmpty
            · go_wp2_with fail
              go_ret
              exact ⟨by rw [HO.out]; simp [*], hB2⟩
            · go_wp2_with fail
              go_ret
              exact ⟨by rw [HO.out]; simp [*], hB2⟩
          · have hu1 : 0 < us.length := by omega
            go_wp2_with fail
            go_ret
            exact ⟨by rw [HO.out]; simp [*], hB2⟩
      · have hf0 := Sb.name_some n4
        go_wp2_with fail
        go_ret
        exact ⟨by rw [HO.out]; simp [*], hB2⟩

set_option maxHeartbeats 1600000 in
theorem sSubmissionValid_any (st : Int) (f t : ByteArray) (A : Option Addr) (us : List ByteArray) (c : Nat) (w : World) (h : AtStrs w w.heap.size A us) (hcap : us.length ≤ c) (hn : c ≤ maxLen) (hf : f.size ≤ maxLen) (ht : t.size ≤ maxLen) :
    Calls Tryz.prog 37 #[.agg #[.int .i64 st, .string f, .slice A us.length c, .string t]] w fun e w' => e = .returned (.bool (Sb.ok st f us t)) ∧ Below w.heap.size w w' := by
  by_cases hst : 0 ≤ st ∧ st ≤ 6
  · obtain rfl | rfl | rfl | rfl | rfl | rfl | rfl : st = 0 ∨ st = 1 ∨ st = 2 ∨ st = 3 ∨ st = 4 ∨ st = 5 ∨ st = 6 := by omega
    · exact sSub0 f t A us c w h hcap hn hf ht
    · exact sSub1 f t A us c w h hcap hn hf ht
    · exact sSub2 f t A us c w h hcap hn hf ht
    · exact sSub3 f t A us c w h hcap hn hf ht
    · exact sSub4 f t A us c w h hcap hn hf ht
    · exact sSub5 f t A us c w h hcap hn hf ht
    · exact sSub6 f t A us c w h hcap hn hf ht
  · have HO := Lib.hid (Sb.okN (f := f) (us := us) (t := t) hst)
    have i1 : inB st 0 6 = false := inB_no.2 hst
    have hB : Below w.heap.size w (w.alloc (.cells #[.int .i64 st, .string f, .slice A us.length c, .string t] 45)) := (Below.refl _ _).alloc (Nat.le_refl _) _
    go_enter Tryz.func37, Tryz.ntmps37
    go_wp2_with fail
    refine (l6In_any _ _ _ _).mono ?_
    rintro e wq ⟨rfl, rfl⟩
    rw [i1]
    go_wp2_with fail
    go_ret
    exact ⟨by rw [HO.out]; rfl, hB⟩

end Go.Proofs.YtpjifcljkgcnlaaGreatDoor

namespace Go.Proofs.YtpjifcljkgcnlaaGreatDoor
set_option linter.unusedVariables false
open Go.RowKit

/-- may the text be completed? -/
def Sb.done (st : Int) (f : ByteArray) (us : List ByteArray) (t : ByteArray) : Bool := Sb.ok st f us t && decide (st = 5) && decide (t.size ≤ 20)
theorem Sb.done_no1 {st : Int} {f t : ByteArray} {us : List ByteArray} (h : Sb.ok st f us t = false) : Sb.done st f us t = false := by unfold Sb.done; rw [h]; rfl
theorem Sb.done_no2 {st : Int} {f t : ByteArray} {us : List ByteArray} (h : ¬ st = 5) : Sb.done st f us t = false := by unfold Sb.done; rw [decide_eq_false h]; simp
theorem Sb.done_no3 {st : Int} {f t : ByteArray} {us : List ByteArray} (h : ¬ t.size ≤ 20) : Sb.done st f us t = false := by unfold Sb.done; rw [decide_eq_false h]; simp
theorem Sb.done_yes {st : Int} {f t : ByteArray} {us : List ByteArray} (h1 : Sb.ok st f us t = true) (h2 : st = 5) (h3 : t.size ≤ 20) : Sb.done st f us t = true := by unfold Sb.done; rw [h1, decide_eq_true h2, decide_eq_true h3]; rfl
/-- what completing gives -/
def Sb.Let (st : Int) (f : ByteArray) (us : List ByteArray) (t : ByteArray) (w : World) (e : Ending) (w' : World) : Prop :=
  (Sb.done st f us t = true → ∃ A c, e = .returned (.tuple #[.agg #[.string f, .slice A us.length c, .string t], .bool true]) ∧ St.Own w' w.heap.size (.slice A us.length c) us) ∧
  (Sb.done st f us t = false → e = .returned (.tuple #[.agg #[.string ⟨#[]⟩, .slice none 0 0, .string ⟨#[]⟩], .bool false])) ∧ Below w.heap.size w w'
theorem St.at_of {w : World} {B : Nat} {A : Option Addr} {us : List ByteArray} (h : AtStrs w B A us) : At w B 1 St.cells A us := fun hl => by
  obtain ⟨g, off, ha, hlt, hc⟩ := h.1 hl
  refine ⟨g, off, ha, hlt, fun i u hu j v hv => ?_⟩
  match j, hv with
  | 0, hv => simp [St.cells] at hv; subst hv; simpa using hc i u hu
  | j + 1, hv => simp [St.cells] at hv
theorem St.cells_one (us : List ByteArray) : ∀ v ∈ us.flatMap St.cells, v.oneCell' = true := by
  intro v hv
  obtain ⟨u, _, hu⟩ := List.mem_flatMap.1 hv
  exact St.cells_one1 u v hu
theorem below_drew {B : Nat} {a w : World} (h : Below B a w) : Below B a w.drew := ⟨h.os, h.tape, h.output, h.size, h.block⟩
theorem own_setNew {α : Type} {E : TypeId} {size : Nat} {f : α → List Value} {w : World} {B : Nat} {v : Value} {us : List α} (ho : OwnL E size f w B v us) {p : Addr} (hp : p.block < B) (u : Value) : OwnL E size f (w.setCell p u) B v us :=
  World.ownsRow.kept ho (row := some p.block) ⟨rfl, rfl, rfl, by simp [World.setCell], fun j hj hne => Below.heap_setCell w p u j (fun e => hne (by rw [e]))⟩ (by
    cases hq : v.ownBlock with
    | none => exact .inl rfl
    | some q => exact .inr fun e => by have h1 := OwnL.blk ho hq; injection e with e; omega)


set_option maxRecDepth 100000 in
set_option maxHeartbeats 3200000 in
theorem sSubmissionLetter_any (st : Int) (f t : ByteArray) (A : Option Addr) (us : List ByteArray) (c : Nat) (w : World) (h : AtStrs w w.heap.size A us) (hcap : us.length ≤ c) (hn : c ≤ maxLen) (hf : f.size ≤ maxLen) (ht : t.size ≤ maxLen) (hul : us.length ≤ 1048576) :
    Calls Tryz.prog 23 #[.agg #[.int .i64 st, .string f, .slice A us.length c, .string t]] w (Sb.Let st f us t w) := by
  have htl := ht
  unfold maxLen at htl
  have hbx0 := heap_alloc_new w (.cells #[.int .i64 st, .string f, .slice A us.length c, .string t] 45)
  have hB0 : Below w.heap.size w ((w.alloc (.cells #[.int .i64 st, .string f, .slice A us.length c, .string t] 45)).alloc (.cells #[.string ⟨#[]⟩, .slice none 0 0, .string ⟨#[]⟩] 49)) := ((Below.refl _ _).alloc (Nat.le_refl _) _).alloc (by simp) _
  have hbx1 := (Below.heap_alloc (w.alloc (.cells #[.int .i64 st, .string f, .slice A us.length c, .string t] 45)) (.cells #[.string ⟨#[]⟩, .slice none 0 0, .string ⟨#[]⟩] 49) w.heap.size (by simp)).trans hbx0
  have hbl1 := heap_alloc_new (w.alloc (.cells #[.int .i64 st, .string f, .slice A us.length c, .string t] 45)) (.cells #[.string ⟨#[]⟩, .slice none 0 0, .string ⟨#[]⟩] 49)
  rw [show (w.alloc (.cells #[.int .i64 st, .string f, .slice A us.length c, .string t] 45)).heap.size = w.heap.size + 1 by simp] at hbl1
  have hsz1 : ((w.alloc (.cells #[.int .i64 st, .string f, .slice A us.length c, .string t] 45)).alloc (.cells #[.string ⟨#[]⟩, .slice none 0 0, .string ⟨#[]⟩] 49)).heap.size = w.heap.size + 2 := by simp
  go_enter Tryz.func23, Tryz.ntmps23
  go_upto_region 1 with fail
  generalize (w.alloc (.cells #[.int .i64 st, .string f, .slice A us.length c, .string t] 45)).alloc (.cells #[.string ⟨#[]⟩, .slice none 0 0, .string ⟨#[]⟩] 49) = w1 at hB0 hbx1 hbl1 hsz1 ⊢
  have hs1 : w.heap.size + 1 < w1.heap.size := by omega
  have d0 : w1.cell? ⟨w.heap.size, 0, none⟩ = some (.int .i64 st) := cell_at hbx1 0 _ rfl
  have d1 : w1.cell? ⟨w.heap.size, 1, none⟩ = some (.string f) := cell_at hbx1 1 _ rfl
  have d2 : w1.cell? ⟨w.heap.size, 2, none⟩ = some (.slice A us.length c) := cell_at hbx1 2 _ rfl
  have d3 : w1.cell? ⟨w.heap.size, 3, none⟩ = some (.string t) := cell_at hbx1 3 _ rfl
  clear hbx0 hbx1 hsz1
  go_wp2_with fail
  refine (sSubmissionValid_any st f t A us c _ ((h.below hB0).mono hB0.size) hcap hn hf ht).mono ?_
  rintro e w2 ⟨rfl, hb2⟩
  have hB2 := hB0.trans (hb2.mono hB0.size)
  have d0 := (hb2.cell (p := ⟨w.heap.size, 0, none⟩) (by simp; omega)).trans d0
  have d1 := (hb2.cell (p := ⟨w.heap.size, 1, none⟩) (by simp; omega)).trans d1
  have d2 := (hb2.cell (p := ⟨w.heap.size, 2, none⟩) (by simp; omega)).trans d2
  have d3 := (hb2.cell (p := ⟨w.heap.size, 3, none⟩) (by simp; omega)).trans d3
  have hbl2 := (hb2.block (w.heap.size + 1) hs1).trans hbl1
  have hs2 : w.heap.size + 1 < w2.heap.size := Nat.lt_of_lt_of_le hs1 hb2.size
  have l0 : w2.cell? ⟨w.heap.size + 1, 0, none⟩ = some (.string ⟨#[]⟩) := cell_at hbl2 0 _ rfl
  have l1 : w2.cell? ⟨w.heap.size + 1, 1, none⟩ = some (.slice none 0 0) := cell_at hbl2 1 _ rfl
  have l2 : w2.cell? ⟨w.heap.size + 1, 2, none⟩ = some (.string ⟨#[]⟩) := cell_at hbl2 2 _ rfl
  have z0 : w2.frozen? ⟨w.heap.size + 1, 0, none⟩ = false := free_at hbl2 0
  have z1 : w2.frozen? ⟨w.heap.size + 1, 1, none⟩ = false := free_at hbl2 1
  have z2 : w2.frozen? ⟨w.heap.size + 1, 2, none⟩ = false := free_at hbl2 2
  have HBL2 := Lib.hid hbl2
  clear hbl1 hbl2 hb2
  have HNO : Hid (Sb.done st f us t = false → ∀ w', Below w.heap.size w w' → Sb.Let st f us t w (.returned (.tuple #[.agg #[.string ⟨#[]⟩, .slice none 0 0, .string ⟨#[]⟩], .bool false])) w') := Lib.hid fun hd w' hb => ⟨fun e => (by rw [hd] at e; cases e), fun _ => rfl, hb⟩
  have HB3 : Hid (∀ v0 v1 v2, Below w.heap.size w (((w2.setCell ⟨w.heap.size + 1, 0, none⟩ v0).setCell ⟨w.heap.size + 1, 1, none⟩ v1).setCell ⟨w.heap.size + 1, 2, none⟩ v2)) := Lib.hid fun v0 v1 v2 =>
    ((hB2.setCell (p := ⟨w.heap.size + 1, 0, none⟩) (by simp) _).setCell (p := ⟨w.heap.size + 1, 1, none⟩) (by simp) _).setCell (p := ⟨w.heap.size + 1, 2, none⟩) (by simp) _
  cases n1 : Sb.ok st f us t
  · have hd := Lib.hid (Sb.done_no1 n1)
    go_wp2_with fail
    refine bodyPost_ret (v := .tuple #[.agg #[.string ⟨#[]⟩, .slice none 0 0, .string ⟨#[]⟩], .bool false]) (by simp [results, Tryz.results23, go_sem, l0, l1, l2]) rfl ?_
    exact HNO.out hd.out _ (HB3.out _ _ _)
  · by_cases n2 : st = 5
    · have hst : (st == 5) = true := by simpa using n2
      by_cases n3 : t.size ≤ 20
      · have hd := Lib.hid (Sb.done_yes n1 n2 n3)
        have n3i : (t.size : Int) ≤ 20 := by omega
        have hst2 : (st != 5) = false := by simp [n2]
        obtain ⟨i0, hi, hz0, hz1, hz2⟩ := info_parts str_info
        have HB4 : Hid (Below w2.heap.size w2 (w2.alloc (.cells #[] 9)).drew) := Lib.hid (below_drew ((Below.refl w2.heap.size w2).alloc (Nat.le_refl _) (.cells #[] 9)))
        have H0 : Hid ((w2.alloc (.cells #[] 9)).drew.ownsRow w2.heap.size 9 1 (.slice (some ⟨w2.heap.size, 0, none⟩) 0 0) 0 []) := Lib.hid (World.ownsRow_lit (base := w2.heap.size) (e := 9) (size := 1) w2 #[] 0 (Nat.le_refl _) (Nat.zero_le _) rfl)
        have HR1 := Lib.hid (reads_of_at (by omega) St.cells_len (((St.at_of ((h.below hB2).mono hB2.size)).below HB4.out)))
        have K1 := Lib.hid (St.cells_one us)
        have K3 : Hid (0 + us.length ≤ maxLen) := Lib.hid (by unfold maxLen; omega)
        have K4 : Hid ((0 + us.length) * 16 ≤ 140737488355328) := Lib.hid (by omega)
        have K5 : Hid (w2.heap.size ≤ (w2.alloc (.cells #[] 9)).drew.heap.size) := Lib.hid HB4.out.size
        have x1 := (HB4.out.cell (p := ⟨w.heap.size, 1, none⟩) (by simp; omega)).trans d1
        have x2 := (HB4.out.cell (p := ⟨w.heap.size, 2, none⟩) (by simp; omega)).trans d2
        have x3 := (HB4.out.cell (p := ⟨w.heap.size, 3, none⟩) (by simp; omega)).trans d3
        have hs0 : w.heap.size < w2.heap.size := by omega
        subst n2
        clear n1 n3
        go_upto_region 3 with fail
        go_region_held3 (fun w' => w'.cell? ⟨w.heap.size, 1, none⟩ = some (.string f) ∧ w'.cell? ⟨w.heap.size, 2, none⟩ = some (.slice A us.length c) ∧ w'.cell? ⟨w.heap.size, 3, none⟩ = some (.string t)) (first | exact ⟨d1, d2, d3⟩ | exact ⟨x1, x2, x3⟩ | exact ⟨e1, e2, e3⟩ | (refine ⟨?_, ?_, ?_⟩ <;> (simp [go_sem]; first | exact e1 | exact e2 | exact e3)))
          (first
            | (refine step_append_any _ rfl (.tmp 21) (.tmp 23) _ rfl w2.heap.size 9 i0 _ 1 16 Tryz.underlying23 hi hz0 hz1 hz2 rfl (by omega) _ 0 [] (by simp [Act.eval]) H0.out _ A us.length c _ (by simp [Act.eval]) HR1.out K1.out K3.out K4.out K5.out ?_; intro v wa hown hgr hbk; obtain ⟨A3, c3, rfl⟩ := own_form hown; have hba : Below w2.heap.size w2 wa := HB4.out.grown hgr HB4.out.size (by intro q hq; have hq : w2.heap.size = q := Option.some.inj hq; omega); have e1 := (hba.cell (p := ⟨w.heap.size, 1, none⟩) hs0).trans d1; have e2 := (hba.cell (p := ⟨w.heap.size, 2, none⟩) hs0).trans d2; have e3 := (hba.cell (p := ⟨w.heap.size, 3, none⟩) hs0).trans d3; have HLA := Lib.hid ((hba.block (w.heap.size + 1) hs2).trans HBL2.out); have m0 : wa.cell? ⟨w.heap.size + 1, 0, none⟩ = some (.string ⟨#[]⟩) := cell_at HLA.out 0 _ rfl; have m1 : wa.cell? ⟨w.heap.size + 1, 1, none⟩ = some (.slice none 0 0) := cell_at HLA.out 1 _ rfl; have m2 : wa.cell? ⟨w.heap.size + 1, 2, none⟩ = some (.string ⟨#[]⟩) := cell_at HLA.out 2 _ rfl; have y0 : wa.frozen? ⟨w.heap.size + 1, 0, none⟩ = false := free_at HLA.out 0; have y1 : wa.frozen? ⟨w.heap.size + 1, 1, none⟩ = false := free_at HLA.out 1; have y2 : wa.frozen? ⟨w.heap.size + 1, 2, none⟩ = false := free_at HLA.out 2))
        go_wp2_with fail
        have ho : OwnL 9 1 St.cells wa w2.heap.size (.slice A3 us.length c3) us := by unfold OwnL; simpa using hown
        refine bodyPost_ret (v := .tuple #[.agg #[.string f, .slice A3 us.length c3, .string t], .bool true]) (by simp [results, Tryz.results23, go_sem, m0, m1, m2]) rfl ?_
        refine ⟨fun _ => ⟨A3, c3, rfl, ?_⟩, fun e => (by rw [hd.out] at e; cases e), (((hB2.trans (hba.mono hB2.size)).setCell (p := ⟨w.heap.size + 1, 0, none⟩) (by simp) _).setCell (p := ⟨w.heap.size + 1, 1, none⟩) (by simp) _).setCell (p := ⟨w.heap.size + 1, 2, none⟩) (by simp) _⟩
        exact (own_setNew (p := ⟨w.heap.size + 1, 2, none⟩) (own_setNew (p := ⟨w.heap.size + 1, 1, none⟩) (own_setNew (p := ⟨w.heap.size + 1, 0, none⟩) ho hs2 _) hs2 _) hs2 _).base (by omega)
      · have hd := Lib.hid (Sb.done_no3 (st := st) (f := f) (us := us) n3)
        have n3i : (20 : Int) < (t.size : Int) := by omega
        have hst2 : (st != 5) = false := by simp [n2]
        subst n2
        clear n3
        go_wp2_with fail
        refine bodyPost_ret (v := .tuple #[.agg #[.string ⟨#[]⟩, .slice none 0 0, .string ⟨#[]⟩], .bool false]) (by simp [results, Tryz.results23, go_sem, l0, l1, l2]) rfl ?_
        exact HNO.out hd.out _ (HB3.out _ _ _)
    · have hd := Lib.hid (Sb.done_no2 (f := f) (us := us) (t := t) n2)
      have hst2 : (st != 5) = true := by simpa using n2
      go_wp2_with fail
      refine bodyPost_ret (v := .tuple #[.agg #[.string ⟨#[]⟩, .slice none 0 0, .string ⟨#[]⟩], .bool false]) (by simp [results, Tryz.results23, go_sem, l0, l1, l2]) rfl ?_
      exact HNO.out hd.out _ (HB3.out _ _ _)


set_option maxRecDepth 100000 in
set_option maxHeartbeats 3200000 in
theorem iSubmissionLetter_any (st : Int) (f t : ByteArray) (A : Option Addr) (us : List ByteArray) (c : Nat) (w : World) (h : AtStrs w w.heap.size A us) (hcap : us.length ≤ c) (hn : c ≤ maxLen) (hf : f.size ≤ maxLen) (ht : t.size ≤ maxLen) (hul : us.length ≤ 1048576) :
    Calls Tryz.prog 28 #[.agg #[.int .i64 st, .string f, .slice A us.length c, .string t]] w (Sb.Let st f us t w) := by
  have htl := ht
  unfold maxLen at htl
  have hbx0 := heap_alloc_new w (.cells #[.int .i64 st, .string f, .slice A us.length c, .string t] 45)
  have hB0 : Below w.heap.size w ((w.alloc (.cells #[.int .i64 st, .string f, .slice A us.length c, .string t] 45)).alloc (.cells #[.string ⟨#[]⟩, .slice none 0 0, .string ⟨#[]⟩] 49)) := ((Below.refl _ _).alloc (Nat.le_refl _) _).alloc (by simp) _
  have hbx1 := (Below.heap_alloc (w.alloc (.cells #[.int .i64 st, .string f, .slice A us.length c, .string t] 45)) (.cells #[.string ⟨#[]⟩, .slice none 0 0, .string ⟨#[]⟩] 49) w.heap.size (by simp)).trans hbx0
  have hbl1 := heap_alloc_new (w.alloc (.cells #[.int .i64 st, .string f, .slice A us.length c, .string t] 45)) (.cells #[.string ⟨#[]⟩, .slice none 0 0, .string ⟨#[]⟩] 49)
  rw [show (w.alloc (.cells #[.int .i64 st, .string f, .slice A us.length c, .string t] 45)).heap.size = w.heap.size + 1 by simp] at hbl1
  have hsz1 : ((w.alloc (.cells #[.int .i64 st, .string f, .slice A us.length c, .string t] 45)).alloc (.cells #[.string ⟨#[]⟩, .slice none 0 0, .string ⟨#[]⟩] 49)).heap.size = w.heap.size + 2 := by simp
  go_enter Tryz.func28, Tryz.ntmps28
  go_upto_region 1 with fail
  generalize (w.alloc (.cells #[.int .i64 st, .string f, .slice A us.length c, .string t] 45)).alloc (.cells #[.string ⟨#[]⟩, .slice none 0 0, .string ⟨#[]⟩] 49) = w1 at hB0 hbx1 hbl1 hsz1 ⊢
  have hs1 : w.heap.size + 1 < w1.heap.size := by omega
  have d0 : w1.cell? ⟨w.heap.size, 0, none⟩ = some (.int .i64 st) := cell_at hbx1 0 _ rfl
  have d1 : w1.cell? ⟨w.heap.size, 1, none⟩ = some (.string f) := cell_at hbx1 1 _ rfl
  have d2 : w1.cell? ⟨w.heap.size, 2, none⟩ = some (.slice A us.length c) := cell_at hbx1 2 _ rfl
  have d3 : w1.cell? ⟨w.heap.size, 3, none⟩ = some (.string t) := cell_at hbx1 3 _ rfl
  clear hbx0 hbx1 hsz1
  go_wp2_with fail
  refine (iSubmissionValid_any st f t A us c _ ((h.below hB0).mono hB0.size) hcap hn hf ht).mono ?_
  rintro e w2 ⟨rfl, hb2⟩
  have hB2 := hB0.trans (hb2.mono hB0.size)
  have d0 := (hb2.cell (p := ⟨w.heap.size, 0, none⟩) (by simp; omega)).trans d0
  have d1 := (hb2.cell (p := ⟨w.heap.size, 1, none⟩) (by simp; omega)).trans d1
  have d2 := (hb2.cell (p := ⟨w.heap.size, 2, none⟩) (by simp; omega)).trans d2
  have d3 := (hb2.cell (p := ⟨w.heap.size, 3, none⟩) (by simp; omega)).trans d3
  have hbl2 := (hb2.block (w.heap.size + 1) hs1).trans hbl1
  have hs2 : w.heap.size + 1 < w2.heap.size := Nat.lt_of_lt_of_le hs1 hb2.size
  have l0 : w2.cell? ⟨w.heap.size + 1, 0, none⟩ = some (.string ⟨#[]⟩) := cell_at hbl2 0 _ rfl
  have l1 : w2.cell? ⟨w.heap.size + 1, 1, none⟩ = some (.slice none 0 0) := cell_at hbl2 1 _ rfl
  have l2 : w2.cell? ⟨w.heap.size + 1, 2, none⟩ = some (.string ⟨#[]⟩) := cell_at hbl2 2 _ rfl
  have z0 : w2.frozen? ⟨w.heap.size + 1, 0, none⟩ = false := free_at hbl2 0
  have z1 : w2.frozen? ⟨w.heap.size + 1, 1, none⟩ = false := free_at hbl2 1
  have z2 : w2.frozen? ⟨w.heap.size + 1, 2, none⟩ = false := free_at hbl2 2
  have HBL2 := Lib.hid hbl2
  clear hbl1 hbl2 hb2
  have HNO : Hid (Sb.done st f us t = false → ∀ w', Below w.heap.size w w' → Sb.Let st f us t w (.returned (.tuple #[.agg #[.string ⟨#[]⟩, .slice none 0 0, .string ⟨#[]⟩], .bool false])) w') := Lib.hid fun hd w' hb => ⟨fun e => (by rw [hd] at e; cases e), fun _ => rfl, hb⟩
  have HB3 : Hid (∀ v0 v1 v2, Below w.heap.size w (((w2.setCell ⟨w.heap.size + 1, 0, none⟩ v0).setCell ⟨w.heap.size + 1, 1, none⟩ v1).setCell ⟨w.heap.size + 1, 2, none⟩ v2)) := Lib.hid fun v0 v1 v2 =>
    ((hB2.setCell (p := ⟨w.heap.size + 1, 0, none⟩) (by simp) _).setCell (p := ⟨w.heap.size + 1, 1, none⟩) (by simp) _).setCell (p := ⟨w.heap.size + 1, 2, none⟩) (by simp) _
  cases n1 : Sb.ok st f us t
  · have hd := Lib.hid (Sb.done_no1 n1)
    go_wp2_with fail
    refine bodyPost_ret (v := .tuple #[.agg #[.string ⟨#[]⟩, .slice none 0 0, .string ⟨#[]⟩], .bool false]) (by simp [results, Tryz.results28, go_sem, l0, l1, l2]) rfl ?_
    exact HNO.out hd.out _ (HB3.out _ _ _)
  · by_cases n2 : st = 5
    · have hst : (st == 5) = true := by simpa using n2
      by_cases n3 : t.size ≤ 20
      · have hd := Lib.hid (Sb.done_yes n1 n2 n3)
        have n3i : (t.size : Int) ≤ 20 := by omega
        have hst2 : (st != 5) = false := by simp [n2]
        obtain ⟨i0, hi, hz0, hz1, hz2⟩ := info_parts str_info
        have HB4 : Hid (Below w2.heap.size w2 (w2.alloc (.cells #[] 9)).drew) := Lib.hid (below_drew ((Below.refl w2.heap.size w2).alloc (Nat.le_refl _) (.cells #[] 9)))
        have H0 : Hid ((w2.alloc (.cells #[] 9)).drew.ownsRow w2.heap.size 9 1 (.slice (some ⟨w2.heap.size, 0, none⟩) 0 0) 0 []) := Lib.hid (World.ownsRow_lit (base := w2.heap.size) (e := 9) (size := 1) w2 #[] 0 (Nat.le_refl _) (Nat.zero_le _) rfl)
        have HR1 := Lib.hid (reads_of_at (by omega) St.cells_len (((St.at_of ((h.below hB2).mono hB2.size)).below HB4.out)))
        have K1 := Lib.hid (St.cells_one us)
        have K3 : Hid (0 + us.length ≤ maxLen) := Lib.hid (by unfold maxLen; omega)
        have K4 : Hid ((0 + us.length) * 16 ≤ 140737488355328) := Lib.hid (by omega)
        have K5 : Hid (w2.heap.size ≤ (w2.alloc (.cells #[] 9)).drew.heap.size) := Lib.hid HB4.out.size
        have x1 := (HB4.out.cell (p := ⟨w.heap.size, 1, none⟩) (by simp; omega)).trans d1
        have x2 := (HB4.out.cell (p := ⟨w.heap.size, 2, none⟩) (by simp; omega)).trans d2
        have x3 := (HB4.out.cell (p := ⟨w.heap.size, 3, none⟩) (by simp; omega)).trans d3
        have hs0 : w.heap.size < w2.heap.size := by omega
        subst n2
        clear n1 n3
        go_upto_region 3 with fail
        go_region_held3 (fun w' => w'.cell? ⟨w.heap.size, 1, none⟩ = some (.string f) ∧ w'.cell? ⟨w.heap.size, 2, none⟩ = some (.slice A us.length c) ∧ w'.cell? ⟨w.heap.size, 3, none⟩ = some (.string t)) (first | exact ⟨d1, d2, d3⟩ | exact ⟨x1, x2, x3⟩ | exact ⟨e1, e2, e3⟩ | (refine ⟨?_, ?_, ?_⟩ <;> (simp [go_sem]; first | exact e1 | exact e2 | exact e3)))
          (first
            | (refine step_append_any _ rfl (.tmp 21) (.tmp 23) _ rfl w2.heap.size 9 i0 _ 1 16 Tryz.underlying23 hi hz0 hz1 hz2 rfl (by omega) _ 0 [] (by simp [Act.eval]) H0.out _ A us.length c _ (by simp [Act.eval]) HR1.out K1.out K3.out K4.out K5.out ?_; intro v wa hown hgr hbk; obtain ⟨A3, c3, rfl⟩ := own_form hown; have hba : Below w2.heap.size w2 wa := HB4.out.grown hgr HB4.out.size (by intro q hq; have hq : w2.heap.size = q := Option.some.inj hq; omega); have e1 := (hba.cell (p := ⟨w.heap.size, 1, none⟩) hs0).trans d1; have e2 := (hba.cell (p := ⟨w.heap.size, 2, none⟩) hs0).trans d2; have e3 := (hba.cell (p := ⟨w.heap.size, 3, none⟩) hs0).trans d3; have HLA := Lib.hid ((hba.block (w.heap.size + 1) hs2).trans HBL2.out); have m0 : wa.cell? ⟨w.heap.size + 1, 0, none⟩ = some (.string ⟨#[]⟩) := cell_at HLA.out 0 _ rfl; have m1 : wa.cell? ⟨w.heap.size + 1, 1, none⟩ = some (.slice none 0 0) := cell_at HLA.out 1 _ rfl; have m2 : wa.cell? ⟨w.heap.size + 1, 2, none⟩ = some (.string ⟨#[]⟩) := cell_at HLA.out 2 _ rfl; have y0 : wa.frozen? ⟨w.heap.size + 1, 0, none⟩ = false := free_at HLA.out 0; have y1 : wa.frozen? ⟨w.heap.size + 1, 1, none⟩ = false := free_at HLA.out 1; have y2 : wa.frozen? ⟨w.heap.size + 1, 2, none⟩ = false := free_at HLA.out 2))
        go_wp2_with fail
        have ho : OwnL 9 1 St.cells wa w2.heap.size (.slice A3 us.length c3) us := by unfold OwnL; simpa using hown
        refine bodyPost_ret (v := .tuple #[.agg #[.string f, .slice A3 us.length c3, .string t], .bool true]) (by simp [results, Tryz.results28, go_sem, m0, m1, m2]) rfl ?_
        refine ⟨fun _ => ⟨A3, c3, rfl, ?_⟩, fun e => (by rw [hd.out] at e; cases e), (((hB2.trans (hba.mono hB2.size)).setCell (p := ⟨w.heap.size + 1, 0, none⟩) (by simp) _).setCell (p := ⟨w.heap.size + 1, 1, none⟩) (by simp) _).setCell (p := ⟨w.heap.size + 1, 2, none⟩) (by simp) _⟩
        exact (own_setNew (p := ⟨w.heap.size + 1, 2, none⟩) (own_setNew (p := ⟨w.heap.size + 1, 1, none⟩) (own_setNew (p := ⟨w.heap.size + 1, 0, none⟩) ho hs2 _) hs2 _) hs2 _).base (by omega)
      · have hd := Lib.hid (Sb.done_no3 (st := st) (f := f) (us := us) n3)
        have n3i : (20 : Int) < (t.size : Int) := by omega
        have hst2 : (st != 5) = false := by simp [n2]
        subst n2
        clear n3
        go_wp2_with fail
        refine bodyPost_ret (v := .tuple #[.agg #[.string ⟨#[]⟩, .slice none 0 0, .string ⟨#[]⟩], .bool false]) (by simp [results, Tryz.results28, go_sem, l0, l1, l2]) rfl ?_
        exact HNO.out hd.out _ (HB3.out _ _ _)
    · have hd := Lib.hid (Sb.done_no2 (f := f) (us := us) (t := t) n2)
      have hst2 : (st != 5) = true := by simpa using n2
      go_wp2_with fail
      refine bodyPost_ret (v := .tuple #[.agg #[.string ⟨#[]⟩, .slice none 0 0, .string ⟨#[]⟩], .bool false]) (by simp [results, Tryz.results28, go_sem, l0, l1, l2]) rfl ?_
      exact HNO.out hd.out _ (HB3.out _ _ _)

end Go.Proofs.YtpjifcljkgcnlaaGreatDoor
