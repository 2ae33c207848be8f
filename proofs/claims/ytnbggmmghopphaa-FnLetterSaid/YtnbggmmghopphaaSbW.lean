/- Submissions: SubmissionValid of both sides. -/
import Derived.Test.YtnbggmmghopphaaStW2
import Derived.Test.YtnbggmmghopphaaStEx
namespace Go.Proofs.Ytnbggmmghopphaa
set_option linter.unusedVariables false
open Go.RowKit

def Sb.recv (us : List ByteArray) : Bool := St.namesOk us && decide (0 < us.length)
def Sb.ok (st : Int) (f : ByteArray) (us : List ByteArray) (t : ByteArray) : Bool :=
  if st = 0 ∨ st = 1 ∨ st = 6 then f.toList.isEmpty && (decide (us.length = 0) && t.toList.isEmpty)
  else if st = 2 ∨ st = 3 then Nm.nameOk f.data.toList && (decide (us.length = 0) && t.toList.isEmpty)
  else if st = 4 then Nm.nameOk f.data.toList && (Sb.recv us && t.toList.isEmpty)
  else if st = 5 then Nm.nameOk f.data.toList && (Sb.recv us && decide (t.size ≤ 21))
  else false
theorem Sb.ok0 {st : Int} {f t : ByteArray} {us : List ByteArray} (h : st = 0 ∨ st = 1 ∨ st = 6) : Sb.ok st f us t = (f.toList.isEmpty && (decide (us.length = 0) && t.toList.isEmpty)) := by unfold Sb.ok; rw [if_pos h]
theorem Sb.ok2 {st : Int} {f t : ByteArray} {us : List ByteArray} (h : st = 2 ∨ st = 3) : Sb.ok st f us t = (Nm.nameOk f.data.toList && (decide (us.length = 0) && t.toList.isEmpty)) := by unfold Sb.ok; rw [if_neg (by omega), if_pos h]
theorem Sb.ok4 {st : Int} {f t : ByteArray} {us : List ByteArray} (h : st = 4) : Sb.ok st f us t = (Nm.nameOk f.data.toList && (Sb.recv us && t.toList.isEmpty)) := by unfold Sb.ok; rw [if_neg (by omega), if_neg (by omega), if_pos h]
theorem Sb.ok5 {st : Int} {f t : ByteArray} {us : List ByteArray} (h : st = 5) : Sb.ok st f us t = (Nm.nameOk f.data.toList && (Sb.recv us && decide (t.size ≤ 21))) := by unfold Sb.ok; rw [if_neg (by omega), if_neg (by omega), if_neg (by omega), if_pos h]
theorem Sb.okN {st : Int} {f t : ByteArray} {us : List ByteArray} (h : ¬ (0 ≤ st ∧ st ≤ 6)) : Sb.ok st f us t = false := by unfold Sb.ok; rw [if_neg (by omega), if_neg (by omega), if_neg (by omega), if_neg (by omega)]

set_option maxHeartbeats 1600000 in
theorem iSub0 (st : Int) (f t : ByteArray) (A : Option Addr) (us : List ByteArray) (c : Nat) (w : World) (h : AtStrs w w.heap.size A us) (hcap : us.length ≤ c) (hn : c ≤ maxLen) (hf : f.size ≤ maxLen) (ht : t.size ≤ maxLen) (hst : st = 0) :
    Calls Try.prog 9 #[.agg #[.int .i64 st, .string f, .slice A us.length c, .string t]] w fun e w' => e = .returned (.bool (Sb.ok st f us t)) ∧ Below w.heap.size w w' := by
  subst hst
  have htl := ht
  unfold maxLen at htl
  have HO := Lib.hid (Sb.ok0 (st := 0) (f := f) (us := us) (t := t) (by omega))
  have hB : Below w.heap.size w (w.alloc (.cells #[.int .i64 0, .string f, .slice A us.length c, .string t] 25)) := (Below.refl _ _).alloc (Nat.le_refl _) _
  cases hf0 : f.toList.isEmpty
  · go_enter Try.func9, Try.ntmps9
    go_wp2_with fail
    go_ret
    exact ⟨by rw [HO.out]; simp [*], (Below.refl _ _).alloc (Nat.le_refl _) _⟩
  · by_cases hu0 : us.length = 0
    · cases ht0 : t.toList.isEmpty
      · go_enter Try.func9, Try.ntmps9
        go_wp2_with fail
        go_ret
        exact ⟨by rw [HO.out]; simp [*], (Below.refl _ _).alloc (Nat.le_refl _) _⟩
      · go_enter Try.func9, Try.ntmps9
        go_wp2_with fail
        go_ret
        exact ⟨by rw [HO.out]; simp [*], (Below.refl _ _).alloc (Nat.le_refl _) _⟩
    · go_enter Try.func9, Try.ntmps9
      go_wp2_with fail
      go_ret
      exact ⟨by rw [HO.out]; simp [*], (Below.refl _ _).alloc (Nat.le_refl _) _⟩

set_option maxHeartbeats 1600000 in
theorem iSub1 (st : Int) (f t : ByteArray) (A : Option Addr) (us : List ByteArray) (c : Nat) (w : World) (h : AtStrs w w.heap.size A us) (hcap : us.length ≤ c) (hn : c ≤ maxLen) (hf : f.size ≤ maxLen) (ht : t.size ≤ maxLen) (hst : st = 1) :
    Calls Try.prog 9 #[.agg #[.int .i64 st, .string f, .slice A us.length c, .string t]] w fun e w' => e = .returned (.bool (Sb.ok st f us t)) ∧ Below w.heap.size w w' := by
  subst hst
  have htl := ht
  unfold maxLen at htl
  have HO := Lib.hid (Sb.ok0 (st := 1) (f := f) (us := us) (t := t) (by omega))
  have hB : Below w.heap.size w (w.alloc (.cells #[.int .i64 1, .string f, .slice A us.length c, .string t] 25)) := (Below.refl _ _).alloc (Nat.le_refl _) _
  cases hf0 : f.toList.isEmpty
  · go_enter Try.func9, Try.ntmps9
    go_wp2_with fail
    go_ret
    exact ⟨by rw [HO.out]; simp [*], (Below.refl _ _).alloc (Nat.le_refl _) _⟩
  · by_cases hu0 : us.length = 0
    · cases ht0 : t.toList.isEmpty
      · go_enter Try.func9, Try.ntmps9
        go_wp2_with fail
        go_ret
        exact ⟨by rw [HO.out]; simp [*], (Below.refl _ _).alloc (Nat.le_refl _) _⟩
      · go_enter Try.func9, Try.ntmps9
        go_wp2_with fail
        go_ret
        exact ⟨by rw [HO.out]; simp [*], (Below.refl _ _).alloc (Nat.le_refl _) _⟩
    · go_enter Try.func9, Try.ntmps9
      go_wp2_with fail
      go_ret
      exact ⟨by rw [HO.out]; simp [*], (Below.refl _ _).alloc (Nat.le_refl _) _⟩

set_option maxHeartbeats 1600000 in
theorem iSub6 (st : Int) (f t : ByteArray) (A : Option Addr) (us : List ByteArray) (c : Nat) (w : World) (h : AtStrs w w.heap.size A us) (hcap : us.length ≤ c) (hn : c ≤ maxLen) (hf : f.size ≤ maxLen) (ht : t.size ≤ maxLen) (hst : st = 6) :
    Calls Try.prog 9 #[.agg #[.int .i64 st, .string f, .slice A us.length c, .string t]] w fun e w' => e = .returned (.bool (Sb.ok st f us t)) ∧ Below w.heap.size w w' := by
  subst hst
  have htl := ht
  unfold maxLen at htl
  have HO := Lib.hid (Sb.ok0 (st := 6) (f := f) (us := us) (t := t) (by omega))
  have hB : Below w.heap.size w (w.alloc (.cells #[.int .i64 6, .string f, .slice A us.length c, .string t] 25)) := (Below.refl _ _).alloc (Nat.le_refl _) _
  cases hf0 : f.toList.isEmpty
  · go_enter Try.func9, Try.ntmps9
    go_wp2_with fail
    go_ret
    exact ⟨by rw [HO.out]; simp [*], (Below.refl _ _).alloc (Nat.le_refl _) _⟩
  · by_cases hu0 : us.length = 0
    · cases ht0 : t.toList.isEmpty
      · go_enter Try.func9, Try.ntmps9
        go_wp2_with fail
        go_ret
        exact ⟨by rw [HO.out]; simp [*], (Below.refl _ _).alloc (Nat.le_refl _) _⟩
      · go_enter Try.func9, Try.ntmps9
        go_wp2_with fail
        go_ret
        exact ⟨by rw [HO.out]; simp [*], (Below.refl _ _).alloc (Nat.le_refl _) _⟩
    · go_enter Try.func9, Try.ntmps9
      go_wp2_with fail
      go_ret
      exact ⟨by rw [HO.out]; simp [*], (Below.refl _ _).alloc (Nat.le_refl _) _⟩

set_option maxHeartbeats 1600000 in
theorem iSub2 (st : Int) (f t : ByteArray) (A : Option Addr) (us : List ByteArray) (c : Nat) (w : World) (h : AtStrs w w.heap.size A us) (hcap : us.length ≤ c) (hn : c ≤ maxLen) (hf : f.size ≤ maxLen) (ht : t.size ≤ maxLen) (hst : st = 2) :
    Calls Try.prog 9 #[.agg #[.int .i64 st, .string f, .slice A us.length c, .string t]] w fun e w' => e = .returned (.bool (Sb.ok st f us t)) ∧ Below w.heap.size w w' := by
  subst hst
  have htl := ht
  unfold maxLen at htl
  have HO := Lib.hid (Sb.ok2 (st := 2) (f := f) (us := us) (t := t) (by omega))
  have hB : Below w.heap.size w (w.alloc (.cells #[.int .i64 2, .string f, .slice A us.length c, .string t] 25)) := (Below.refl _ _).alloc (Nat.le_refl _) _
  go_enter Try.func9, Try.ntmps9
  go_wp2_with fail
  refine (iNameValid_any _ _ hf).mono ?_
  rintro e w1 ⟨rfl, hb1⟩
  have hbx := boxed hb1
  have hB1 := unbox hb1
  have hs1 := (Array.getElem?_eq_some_iff.1 hbx).1
  have d2 : w1.cell? ⟨w.heap.size, 2, none⟩ = some (.slice A us.length c) := cell_at hbx 2 _ rfl
  have d3 : w1.cell? ⟨w.heap.size, 3, none⟩ = some (.string t) := cell_at hbx 3 _ rfl
  clear hbx
  cases n1 : Nm.nameOk f.data.toList
  · go_wp2_with fail
    go_ret
    exact ⟨by rw [HO.out]; simp [*], hB1⟩
  · by_cases hu0 : us.length = 0
    · cases ht0 : t.toList.isEmpty
      · go_wp2_with fail
        go_ret
        exact ⟨by rw [HO.out]; simp [*], hB1⟩
      · go_wp2_with fail
        go_ret
        exact ⟨by rw [HO.out]; simp [*], hB1⟩
    · go_wp2_with fail
      go_ret
      exact ⟨by rw [HO.out]; simp [*], hB1⟩

set_option maxHeartbeats 1600000 in
theorem iSub3 (st : Int) (f t : ByteArray) (A : Option Addr) (us : List ByteArray) (c : Nat) (w : World) (h : AtStrs w w.heap.size A us) (hcap : us.length ≤ c) (hn : c ≤ maxLen) (hf : f.size ≤ maxLen) (ht : t.size ≤ maxLen) (hst : st = 3) :
    Calls Try.prog 9 #[.agg #[.int .i64 st, .string f, .slice A us.length c, .string t]] w fun e w' => e = .returned (.bool (Sb.ok st f us t)) ∧ Below w.heap.size w w' := by
  subst hst
  have htl := ht
  unfold maxLen at htl
  have HO := Lib.hid (Sb.ok2 (st := 3) (f := f) (us := us) (t := t) (by omega))
  have hB : Below w.heap.size w (w.alloc (.cells #[.int .i64 3, .string f, .slice A us.length c, .string t] 25)) := (Below.refl _ _).alloc (Nat.le_refl _) _
  go_enter Try.func9, Try.ntmps9
  go_wp2_with fail
  refine (iNameValid_any _ _ hf).mono ?_
  rintro e w1 ⟨rfl, hb1⟩
  have hbx := boxed hb1
  have hB1 := unbox hb1
  have hs1 := (Array.getElem?_eq_some_iff.1 hbx).1
  have d2 : w1.cell? ⟨w.heap.size, 2, none⟩ = some (.slice A us.length c) := cell_at hbx 2 _ rfl
  have d3 : w1.cell? ⟨w.heap.size, 3, none⟩ = some (.string t) := cell_at hbx 3 _ rfl
  clear hbx
  cases n1 : Nm.nameOk f.data.toList
  · go_wp2_with fail
    go_ret
    exact ⟨by rw [HO.out]; simp [*], hB1⟩
  · by_cases hu0 : us.length = 0
    · cases ht0 : t.toList.isEmpty
      · go_wp2_with fail
        go_ret
        exact ⟨by rw [HO.out]; simp [*], hB1⟩
      · go_wp2_with fail
        go_ret
        exact ⟨by rw [HO.out]; simp [*], hB1⟩
    · go_wp2_with fail
      go_ret
      exact ⟨by rw [HO.out]; simp [*], hB1⟩

set_option maxHeartbeats 1600000 in
theorem iSub4 (st : Int) (f t : ByteArray) (A : Option Addr) (us : List ByteArray) (c : Nat) (w : World) (h : AtStrs w w.heap.size A us) (hcap : us.length ≤ c) (hn : c ≤ maxLen) (hf : f.size ≤ maxLen) (ht : t.size ≤ maxLen) (hst : st = 4) :
    Calls Try.prog 9 #[.agg #[.int .i64 st, .string f, .slice A us.length c, .string t]] w fun e w' => e = .returned (.bool (Sb.ok st f us t)) ∧ Below w.heap.size w w' := by
  subst hst
  have htl := ht
  unfold maxLen at htl
  have HO := Lib.hid (Sb.ok4 (st := 4) (f := f) (us := us) (t := t) rfl)
  have hB : Below w.heap.size w (w.alloc (.cells #[.int .i64 4, .string f, .slice A us.length c, .string t] 25)) := (Below.refl _ _).alloc (Nat.le_refl _) _
  go_enter Try.func9, Try.ntmps9
  go_wp2_with fail
  refine (iNameValid_any _ _ hf).mono ?_
  rintro e w1 ⟨rfl, hb1⟩
  have hbx := boxed hb1
  have hB1 := unbox hb1
  have hs1 := (Array.getElem?_eq_some_iff.1 hbx).1
  have d2 : w1.cell? ⟨w.heap.size, 2, none⟩ = some (.slice A us.length c) := cell_at hbx 2 _ rfl
  have d3 : w1.cell? ⟨w.heap.size, 3, none⟩ = some (.string t) := cell_at hbx 3 _ rfl
  clear hbx
  have HA := Lib.hid ((h.below hB1).mono hB1.size)
  cases n1 : Nm.nameOk f.data.toList
  · go_wp2_with fail
    go_ret
    exact ⟨by rw [HO.out]; simp [*], hB1⟩
  · go_wp2_with fail
    refine (receiversValid_any A us c _ HA.out hcap hn).mono ?_
    rintro e w2 ⟨rfl, hb2⟩
    have hB2 := hB1.trans (hb2.mono hB1.size)
    have d3 := (hb2.cell (p := ⟨w.heap.size, 3, none⟩) hs1).trans d3
    have hrv : (St.namesOk us && decide (0 < us.length)) = Sb.recv us := rfl
    rw [hrv]
    cases n2 : Sb.recv us
    · go_wp2_with fail
      go_ret
      exact ⟨by rw [HO.out]; simp [*], hB2⟩
    · cases ht0 : t.toList.isEmpty
      · go_wp2_with fail
        go_ret
        exact ⟨by rw [HO.out]; simp [*], hB2⟩
      · go_wp2_with fail
        go_ret
        exact ⟨by rw [HO.out]; simp [*], hB2⟩

set_option maxHeartbeats 1600000 in
theorem iSub5 (st : Int) (f t : ByteArray) (A : Option Addr) (us : List ByteArray) (c : Nat) (w : World) (h : AtStrs w w.heap.size A us) (hcap : us.length ≤ c) (hn : c ≤ maxLen) (hf : f.size ≤ maxLen) (ht : t.size ≤ maxLen) (hst : st = 5) :
    Calls Try.prog 9 #[.agg #[.int .i64 st, .string f, .slice A us.length c, .string t]] w fun e w' => e = .returned (.bool (Sb.ok st f us t)) ∧ Below w.heap.size w w' := by
  subst hst
  have htl := ht
  unfold maxLen at htl
  have HO := Lib.hid (Sb.ok5 (st := 5) (f := f) (us := us) (t := t) rfl)
  have hB : Below w.heap.size w (w.alloc (.cells #[.int .i64 5, .string f, .slice A us.length c, .string t] 25)) := (Below.refl _ _).alloc (Nat.le_refl _) _
  go_enter Try.func9, Try.ntmps9
  go_wp2_with fail
  refine (iNameValid_any _ _ hf).mono ?_
  rintro e w1 ⟨rfl, hb1⟩
  have hbx := boxed hb1
  have hB1 := unbox hb1
  have hs1 := (Array.getElem?_eq_some_iff.1 hbx).1
  have d2 : w1.cell? ⟨w.heap.size, 2, none⟩ = some (.slice A us.length c) := cell_at hbx 2 _ rfl
  have d3 : w1.cell? ⟨w.heap.size, 3, none⟩ = some (.string t) := cell_at hbx 3 _ rfl
  clear hbx
  have HA := Lib.hid ((h.below hB1).mono hB1.size)
  cases n1 : Nm.nameOk f.data.toList
  · go_wp2_with fail
    go_ret
    exact ⟨by rw [HO.out]; simp [*], hB1⟩
  · go_wp2_with fail
    refine (receiversValid_any A us c _ HA.out hcap hn).mono ?_
    rintro e w2 ⟨rfl, hb2⟩
    have hB2 := hB1.trans (hb2.mono hB1.size)
    have d3 := (hb2.cell (p := ⟨w.heap.size, 3, none⟩) hs1).trans d3
    have hrv : (St.namesOk us && decide (0 < us.length)) = Sb.recv us := rfl
    rw [hrv]
    cases n2 : Sb.recv us
    · go_wp2_with fail
      go_ret
      exact ⟨by rw [HO.out]; simp [*], hB2⟩
    · go_wp2_with fail
      go_ret
      exact ⟨by rw [HO.out]; simp [*]; omega, hB2⟩

set_option maxHeartbeats 1600000 in
theorem iSubN (st : Int) (f t : ByteArray) (A : Option Addr) (us : List ByteArray) (c : Nat) (w : World) (h : AtStrs w w.heap.size A us) (hcap : us.length ≤ c) (hn : c ≤ maxLen) (hf : f.size ≤ maxLen) (ht : t.size ≤ maxLen) (hst : ¬ (0 ≤ st ∧ st ≤ 6)) :
    Calls Try.prog 9 #[.agg #[.int .i64 st, .string f, .slice A us.length c, .string t]] w fun e w' => e = .returned (.bool (Sb.ok st f us t)) ∧ Below w.heap.size w w' := by
  have htl := ht
  unfold maxLen at htl
  have HO := Lib.hid (Sb.okN (st := st) (f := f) (us := us) (t := t) hst)
  have hB : Below w.heap.size w (w.alloc (.cells #[.int .i64 st, .string f, .slice A us.length c, .string t] 25)) := (Below.refl _ _).alloc (Nat.le_refl _) _
  have z0 : ¬ st = 0 := by omega
  have z1 : ¬ st = 1 := by omega
  have z2 : ¬ st = 2 := by omega
  have z3 : ¬ st = 3 := by omega
  have z4 : ¬ st = 4 := by omega
  have z5 : ¬ st = 5 := by omega
  have z6 : ¬ st = 6 := by omega
  go_enter Try.func9, Try.ntmps9
  go_wp2_with fail
  go_ret
  exact ⟨by rw [HO.out]; rfl, hB⟩

theorem iSubmissionValid_any (st : Int) (f t : ByteArray) (A : Option Addr) (us : List ByteArray) (c : Nat) (w : World) (h : AtStrs w w.heap.size A us) (hcap : us.length ≤ c) (hn : c ≤ maxLen) (hf : f.size ≤ maxLen) (ht : t.size ≤ maxLen) :
    Calls Try.prog 9 #[.agg #[.int .i64 st, .string f, .slice A us.length c, .string t]] w fun e w' => e = .returned (.bool (Sb.ok st f us t)) ∧ Below w.heap.size w w' := by
  by_cases hst : 0 ≤ st ∧ st ≤ 6
  · obtain hs | hs | hs | hs | hs | hs | hs : st = 0 ∨ st = 1 ∨ st = 2 ∨ st = 3 ∨ st = 4 ∨ st = 5 ∨ st = 6 := by omega
    · exact iSub0 st f t A us c w h hcap hn hf ht hs
    · exact iSub1 st f t A us c w h hcap hn hf ht hs
    · exact iSub2 st f t A us c w h hcap hn hf ht hs
    · exact iSub3 st f t A us c w h hcap hn hf ht hs
    · exact iSub4 st f t A us c w h hcap hn hf ht hs
    · exact iSub5 st f t A us c w h hcap hn hf ht hs
    · exact iSub6 st f t A us c w h hcap hn hf ht hs
  · exact iSubN st f t A us c w h hcap hn hf ht hst

end Go.Proofs.Ytnbggmmghopphaa
