/- Submissions: SubmissionValid of the reference. -/
import Derived.Test.YtnbggmmghopphaaSbW
namespace Go.Proofs.Ytnbggmmghopphaa
set_option linter.unusedVariables false
open Go.RowKit

theorem Sb.empty_size {t : ByteArray} (h : 21 < t.size) : t.toList.isEmpty = false := by
  cases he : t.toList.isEmpty
  · rfl
  · rw [List.isEmpty_iff, Go.ByteArray.toList_eq] at he
    have : t.size = 0 := by show t.data.size = 0; rw [← Array.length_toList, he]; rfl
    omega
theorem Sb.name_some {f : ByteArray} (h : Nm.nameOk f.data.toList = true) : f.toList.isEmpty = false := by
  have := Nm.nameOk_len h
  cases he : f.toList.isEmpty
  · rfl
  · rw [List.isEmpty_iff, Go.ByteArray.toList_eq] at he
    rw [he] at this; simp at this
theorem Sb.none_ok {us : List ByteArray} (h : us.length = 0) : St.namesOk us = true := by
  rw [List.length_eq_zero_iff] at h
  subst h; rfl

set_option maxHeartbeats 1600000 in
theorem sSub0 (f t : ByteArray) (A : Option Addr) (us : List ByteArray) (c : Nat) (w : World) (h : AtStrs w w.heap.size A us) (hcap : us.length ≤ c) (hn : c ≤ maxLen) (hf : f.size ≤ maxLen) (ht : t.size ≤ maxLen) :
    Calls Try.prog 14 #[.agg #[.int .i64 0, .string f, .slice A us.length c, .string t]] w fun e w' => e = .returned (.bool (Sb.ok 0 f us t)) ∧ Below w.heap.size w w' := by
  have htl := ht
  unfold maxLen at htl
  have HO := Lib.hid (Sb.ok0 (st := 0) (f := f) (us := us) (t := t) (by omega))
  have hB : Below w.heap.size w (w.alloc (.cells #[.int .i64 0, .string f, .slice A us.length c, .string t] 25)) := (Below.refl _ _).alloc (Nat.le_refl _) _
  have hbx := heap_alloc_new w (.cells #[.int .i64 0, .string f, .slice A us.length c, .string t] 25)
  have HBX := Lib.hid hbx
  have HA := Lib.hid ((h.below hB).mono hB.size)
  clear hbx
  have i1 : inB 0 0 6 = true := by decide
  have i2 : inB 0 2 5 = false := by decide
  go_enter Try.func14, Try.ntmps14
  go_wp2_with fail
  refine (l6In_any _ _ _ _).mono ?_
  rintro e wq ⟨rfl, rfl⟩
  rw [i1]
  go_wp2_with fail
  refine (l21Names_any A us c _ HA.out hcap hn).mono ?_
  rintro e w2 ⟨rfl, hb2⟩
  have hB2 := hB.trans (hb2.mono hB.size)
  have hbx2 := (hb2.block w.heap.size (by simp)).trans HBX.out
  have d0 : w2.cell? ⟨w.heap.size, 0, none⟩ = some (.int .i64 0) := cell_at hbx2 0 _ rfl
  have d1 : w2.cell? ⟨w.heap.size, 1, none⟩ = some (.string f) := cell_at hbx2 1 _ rfl
  have d2 : w2.cell? ⟨w.heap.size, 2, none⟩ = some (.slice A us.length c) := cell_at hbx2 2 _ rfl
  have d3 : w2.cell? ⟨w.heap.size, 3, none⟩ = some (.string t) := cell_at hbx2 3 _ rfl
  clear hbx2
  cases n1 : St.namesOk us
  · have n2 : ¬ us.length = 0 := fun e => by rw [Sb.none_ok e] at n1; cases n1
    go_wp2_with fail
    go_ret
    exact ⟨by rw [HO.out]; simp [*], hB2⟩
  · by_cases hts : 21 < t.size
    · have n3 := Sb.empty_size hts
      go_wp2_with fail
      go_ret
      exact ⟨by rw [HO.out]; simp [*], hB2⟩
    · go_wp2_with fail
      refine (l6In_any _ _ _ _).mono ?_
      rintro e wq ⟨rfl, rfl⟩
      rw [i2]
      go_wp2_with fail
      refine (sNameValid_any _ _ hf).mono ?_
      rintro e wq ⟨rfl, rfl⟩
      cases n4 : Nm.nameOk f.data.toList
      · cases hf0 : f.toList.isEmpty
        · go_wp2_with fail
          go_ret
          exact ⟨by rw [HO.out]; simp [*], hB2⟩
        · have n7 : True := trivial
          by_cases hu0 : us.length = 0
          · cases ht0 : t.toList.isEmpty
            · go_wp2_with fail
              go_ret
              exact ⟨by rw [HO.out]; simp [*], hB2⟩
            · go_wp2_with fail
              go_ret
              exact ⟨by rw [HO.out]; simp [*], hB2⟩
          · have hu1 : 0 < us.length := by omega
            go_wp2_with fail
            go_ret
            exact ⟨by rw [HO.out]; simp [*], hB2⟩
      · have hf0 := Sb.name_some n4
        go_wp2_with fail
        go_ret
        exact ⟨by rw [HO.out]; simp [*], hB2⟩

set_option maxHeartbeats 1600000 in
theorem sSub1 (f t : ByteArray) (A : Option Addr) (us : List ByteArray) (c : Nat) (w : World) (h : AtStrs w w.heap.size A us) (hcap : us.length ≤ c) (hn : c ≤ maxLen) (hf : f.size ≤ maxLen) (ht : t.size ≤ maxLen) :
    Calls Try.prog 14 #[.agg #[.int .i64 1, .string f, .slice A us.length c, .string t]] w fun e w' => e = .returned (.bool (Sb.ok 1 f us t)) ∧ Below w.heap.size w w' := by
  have htl := ht
  unfold maxLen at htl
  have HO := Lib.hid (Sb.ok0 (st := 1) (f := f) (us := us) (t := t) (by omega))
  have hB : Below w.heap.size w (w.alloc (.cells #[.int .i64 1, .string f, .slice A us.length c, .string t] 25)) := (Below.refl _ _).alloc (Nat.le_refl _) _
  have hbx := heap_alloc_new w (.cells #[.int .i64 1, .string f, .slice A us.length c, .string t] 25)
  have HBX := Lib.hid hbx
  have HA := Lib.hid ((h.below hB).mono hB.size)
  clear hbx
  have i1 : inB 1 0 6 = true := by decide
  have i2 : inB 1 2 5 = false := by decide
  go_enter Try.func14, Try.ntmps14
  go_wp2_with fail
  refine (l6In_any _ _ _ _).mono ?_
  rintro e wq ⟨rfl, rfl⟩
  rw [i1]
  go_wp2_with fail
  refine (l21Names_any A us c _ HA.out hcap hn).mono ?_
  rintro e w2 ⟨rfl, hb2⟩
  have hB2 := hB.trans (hb2.mono hB.size)
  have hbx2 := (hb2.block w.heap.size (by simp)).trans HBX.out
  have d0 : w2.cell? ⟨w.heap.size, 0, none⟩ = some (.int .i64 1) := cell_at hbx2 0 _ rfl
  have d1 : w2.cell? ⟨w.heap.size, 1, none⟩ = some (.string f) := cell_at hbx2 1 _ rfl
  have d2 : w2.cell? ⟨w.heap.size, 2, none⟩ = some (.slice A us.length c) := cell_at hbx2 2 _ rfl
  have d3 : w2.cell? ⟨w.heap.size, 3, none⟩ = some (.string t) := cell_at hbx2 3 _ rfl
  clear hbx2
  cases n1 : St.namesOk us
  · have n2 : ¬ us.length = 0 := fun e => by rw [Sb.none_ok e] at n1; cases n1
    go_wp2_with fail
    go_ret
    exact ⟨by rw [HO.out]; simp [*], hB2⟩
  · by_cases hts : 21 < t.size
    · have n3 := Sb.empty_size hts
      go_wp2_with fail
      go_ret
      exact ⟨by rw [HO.out]; simp [*], hB2⟩
    · go_wp2_with fail
      refine (l6In_any _ _ _ _).mono ?_
      rintro e wq ⟨rfl, rfl⟩
      rw [i2]
      go_wp2_with fail
      refine (sNameValid_any _ _ hf).mono ?_
      rintro e wq ⟨rfl, rfl⟩
      cases n4 : Nm.nameOk f.data.toList
      · cases hf0 : f.toList.isEmpty
        · go_wp2_with fail
          go_ret
          exact ⟨by rw [HO.out]; simp [*], hB2⟩
        · have n7 : True := trivial
          by_cases hu0 : us.length = 0
          · cases ht0 : t.toList.isEmpty
            · go_wp2_with fail
              go_ret
              exact ⟨by rw [HO.out]; simp [*], hB2⟩
            · go_wp2_with fail
              go_ret
              exact ⟨by rw [HO.out]; simp [*], hB2⟩
          · have hu1 : 0 < us.length := by omega
            go_wp2_with fail
            go_ret
            exact ⟨by rw [HO.out]; simp [*], hB2⟩
      · have hf0 := Sb.name_some n4
        go_wp2_with fail
        go_ret
        exact ⟨by rw [HO.out]; simp [*], hB2⟩

set_option maxHeartbeats 1600000 in
theorem sSub2 (f t : ByteArray) (A : Option Addr) (us : List ByteArray) (c : Nat) (w : World) (h : AtStrs w w.heap.size A us) (hcap : us.length ≤ c) (hn : c ≤ maxLen) (hf : f.size ≤ maxLen) (ht : t.size ≤ maxLen) :
    Calls Try.prog 14 #[.agg #[.int .i64 2, .string f, .slice A us.length c, .string t]] w fun e w' => e = .returned (.bool (Sb.ok 2 f us t)) ∧ Below w.heap.size w w' := by
  have htl := ht
  unfold maxLen at htl
  have HO := Lib.hid (Sb.ok2 (st := 2) (f := f) (us := us) (t := t) (by omega))
  have hB : Below w.heap.size w (w.alloc (.cells #[.int .i64 2, .string f, .slice A us.length c, .string t] 25)) := (Below.refl _ _).alloc (Nat.le_refl _) _
  have hbx := heap_alloc_new w (.cells #[.int .i64 2, .string f, .slice A us.length c, .string t] 25)
  have HBX := Lib.hid hbx
  have HA := Lib.hid ((h.below hB).mono hB.size)
  clear hbx
  have i1 : inB 2 0 6 = true := by decide
  have i2 : inB 2 2 5 = true := by decide
  go_enter Try.func14, Try.ntmps14
  go_wp2_with fail
  refine (l6In_any _ _ _ _).mono ?_
  rintro e wq ⟨rfl, rfl⟩
  rw [i1]
  go_wp2_with fail
  refine (l21Names_any A us c _ HA.out hcap hn).mono ?_
  rintro e w2 ⟨rfl, hb2⟩
  have hB2 := hB.trans (hb2.mono hB.size)
  have hbx2 := (hb2.block w.heap.size (by simp)).trans HBX.out
  have d0 : w2.cell? ⟨w.heap.size, 0, none⟩ = some (.int .i64 2) := cell_at hbx2 0 _ rfl
  have d1 : w2.cell? ⟨w.heap.size, 1, none⟩ = some (.string f) := cell_at hbx2 1 _ rfl
  have d2 : w2.cell? ⟨w.heap.size, 2, none⟩ = some (.slice A us.length c) := cell_at hbx2 2 _ rfl
  have d3 : w2.cell? ⟨w.heap.size, 3, none⟩ = some (.string t) := cell_at hbx2 3 _ rfl
  clear hbx2
  cases n1 : St.namesOk us
  · have n2 : ¬ us.length = 0 := fun e => by rw [Sb.none_ok e] at n1; cases n1
    go_wp2_with fail
    go_ret
    exact ⟨by rw [HO.out]; simp [*], hB2⟩
  · by_cases hts : 21 < t.size
    · have n3 := Sb.empty_size hts
      go_wp2_with fail
      go_ret
      exact ⟨by rw [HO.out]; simp [*], hB2⟩
    · go_wp2_with fail
      refine (l6In_any _ _ _ _).mono ?_
      rintro e wq ⟨rfl, rfl⟩
      rw [i2]
      go_wp2_with fail
      refine (sNameValid_any _ _ hf).mono ?_
      rintro e wq ⟨rfl, rfl⟩
      cases n4 : Nm.nameOk f.data.toList
      · go_wp2_with fail
        go_ret
        exact ⟨by rw [HO.out]; simp [*], hB2⟩
      · have n7 : True := trivial
        by_cases hu0 : us.length = 0
        · cases ht0 : t.toList.isEmpty
          · go_wp2_with fail
            go_ret
            exact ⟨by rw [HO.out]; simp [*], hB2⟩
          · go_wp2_with fail
            go_ret
            exact ⟨by rw [HO.out]; simp [*], hB2⟩
        · have hu1 : 0 < us.length := by omega
          go_wp2_with fail
          go_ret
          exact ⟨by rw [HO.out]; simp [*], hB2⟩

set_option maxHeartbeats 1600000 in
theorem sSub3 (f t : ByteArray) (A : Option Addr) (us : List ByteArray) (c : Nat) (w : World) (h : AtStrs w w.heap.size A us) (hcap : us.length ≤ c) (hn : c ≤ maxLen) (hf : f.size ≤ maxLen) (ht : t.size ≤ maxLen) :
    Calls Try.prog 14 #[.agg #[.int .i64 3, .string f, .slice A us.length c, .string t]] w fun e w' => e = .returned (.bool (Sb.ok 3 f us t)) ∧ Below w.heap.size w w' := by
  have htl := ht
  unfold maxLen at htl
  have HO := Lib.hid (Sb.ok2 (st := 3) (f := f) (us := us) (t := t) (by omega))
  have hB : Below w.heap.size w (w.alloc (.cells #[.int .i64 3, .string f, .slice A us.length c, .string t] 25)) := (Below.refl _ _).alloc (Nat.le_refl _) _
  have hbx := heap_alloc_new w (.cells #[.int .i64 3, .string f, .slice A us.length c, .string t] 25)
  have HBX := Lib.hid hbx
  have HA := Lib.hid ((h.below hB).mono hB.size)
  clear hbx
  have i1 : inB 3 0 6 = true := by decide
  have i2 : inB 3 2 5 = true := by decide
  go_enter Try.func14, Try.ntmps14
  go_wp2_with fail
  refine (l6In_any _ _ _ _).mono ?_
  rintro e wq ⟨rfl, rfl⟩
  rw [i1]
  go_wp2_with fail
  refine (l21Names_any A us c _ HA.out hcap hn).mono ?_
  rintro e w2 ⟨rfl, hb2⟩
  have hB2 := hB.trans (hb2.mono hB.size)
  have hbx2 := (hb2.block w.heap.size (by simp)).trans HBX.out
  have d0 : w2.cell? ⟨w.heap.size, 0, none⟩ = some (.int .i64 3) := cell_at hbx2 0 _ rfl
  have d1 : w2.cell? ⟨w.heap.size, 1, none⟩ = some (.string f) := cell_at hbx2 1 _ rfl
  have d2 : w2.cell? ⟨w.heap.size, 2, none⟩ = some (.slice A us.length c) := cell_at hbx2 2 _ rfl
  have d3 : w2.cell? ⟨w.heap.size, 3, none⟩ = some (.string t) := cell_at hbx2 3 _ rfl
  clear hbx2
  cases n1 : St.namesOk us
  · have n2 : ¬ us.length = 0 := fun e => by rw [Sb.none_ok e] at n1; cases n1
    go_wp2_with fail
    go_ret
    exact ⟨by rw [HO.out]; simp [*], hB2⟩
  · by_cases hts : 21 < t.size
    · have n3 := Sb.empty_size hts
      go_wp2_with fail
      go_ret
      exact ⟨by rw [HO.out]; simp [*], hB2⟩
    · go_wp2_with fail
      refine (l6In_any _ _ _ _).mono ?_
      rintro e wq ⟨rfl, rfl⟩
      rw [i2]
      go_wp2_with fail
      refine (sNameValid_any _ _ hf).mono ?_
      rintro e wq ⟨rfl, rfl⟩
      cases n4 : Nm.nameOk f.data.toList
      · go_wp2_with fail
        go_ret
        exact ⟨by rw [HO.out]; simp [*], hB2⟩
      · have n7 : True := trivial
        by_cases hu0 : us.length = 0
        · cases ht0 : t.toList.isEmpty
          · go_wp2_with fail
            go_ret
            exact ⟨by rw [HO.out]; simp [*], hB2⟩
          · go_wp2_with fail
            go_ret
            exact ⟨by rw [HO.out]; simp [*], hB2⟩
        · have hu1 : 0 < us.length := by omega
          go_wp2_with fail
          go_ret
          exact ⟨by rw [HO.out]; simp [*], hB2⟩

set_option maxHeartbeats 1600000 in
theorem sSub4 (f t : ByteArray) (A : Option Addr) (us : List ByteArray) (c : Nat) (w : World) (h : AtStrs w w.heap.size A us) (hcap : us.length ≤ c) (hn : c ≤ maxLen) (hf : f.size ≤ maxLen) (ht : t.size ≤ maxLen) :
    Calls Try.prog 14 #[.agg #[.int .i64 4, .string f, .slice A us.length c, .string t]] w fun e w' => e = .returned (.bool (Sb.ok 4 f us t)) ∧ Below w.heap.size w w' := by
  have htl := ht
  unfold maxLen at htl
  have HO := Lib.hid (Sb.ok4 (st := 4) (f := f) (us := us) (t := t) (by omega))
  have hB : Below w.heap.size w (w.alloc (.cells #[.int .i64 4, .string f, .slice A us.length c, .string t] 25)) := (Below.refl _ _).alloc (Nat.le_refl _) _
  have hbx := heap_alloc_new w (.cells #[.int .i64 4, .string f, .slice A us.length c, .string t] 25)
  have HBX := Lib.hid hbx
  have HA := Lib.hid ((h.below hB).mono hB.size)
  clear hbx
  have i1 : inB 4 0 6 = true := by decide
  have i2 : inB 4 2 5 = true := by decide
  go_enter Try.func14, Try.ntmps14
  go_wp2_with fail
  refine (l6In_any _ _ _ _).mono ?_
  rintro e wq ⟨rfl, rfl⟩
  rw [i1]
  go_wp2_with fail
  refine (l21Names_any A us c _ HA.out hcap hn).mono ?_
  rintro e w2 ⟨rfl, hb2⟩
  have hB2 := hB.trans (hb2.mono hB.size)
  have hbx2 := (hb2.block w.heap.size (by simp)).trans HBX.out
  have d0 : w2.cell? ⟨w.heap.size, 0, none⟩ = some (.int .i64 4) := cell_at hbx2 0 _ rfl
  have d1 : w2.cell? ⟨w.heap.size, 1, none⟩ = some (.string f) := cell_at hbx2 1 _ rfl
  have d2 : w2.cell? ⟨w.heap.size, 2, none⟩ = some (.slice A us.length c) := cell_at hbx2 2 _ rfl
  have d3 : w2.cell? ⟨w.heap.size, 3, none⟩ = some (.string t) := cell_at hbx2 3 _ rfl
  clear hbx2
  cases n1 : St.namesOk us
  · have n2 : Sb.recv us = false := by unfold Sb.recv; rw [n1]; rfl
    go_wp2_with fail
    go_ret
    exact ⟨by rw [HO.out]; simp [*], hB2⟩
  · by_cases hts : 21 < t.size
    · have n3 := Sb.empty_size hts
      go_wp2_with fail
      go_ret
      exact ⟨by rw [HO.out]; simp [*], hB2⟩
    · go_wp2_with fail
      refine (l6In_any _ _ _ _).mono ?_
      rintro e wq ⟨rfl, rfl⟩
      rw [i2]
      go_wp2_with fail
      refine (sNameValid_any _ _ hf).mono ?_
      rintro e wq ⟨rfl, rfl⟩
      cases n4 : Nm.nameOk f.data.toList
      · go_wp2_with fail
        go_ret
        exact ⟨by rw [HO.out]; simp [*], hB2⟩
      · have n7 : True := trivial
        by_cases hu0 : 0 < us.length
        · have n5 : Sb.recv us = true := by unfold Sb.recv; rw [n1, decide_eq_true hu0]; rfl
          cases ht0 : t.toList.isEmpty
          · go_wp2_with fail
            go_ret
            exact ⟨by rw [HO.out]; simp [*], hB2⟩
          · go_wp2_with fail
            go_ret
            exact ⟨by rw [HO.out]; simp [*], hB2⟩
        · have n5 : Sb.recv us = false := by unfold Sb.recv; rw [decide_eq_false hu0]; simp
          go_wp2_with fail
          go_ret
          exact ⟨by rw [HO.out]; simp [*], hB2⟩

set_option maxHeartbeats 1600000 in
theorem sSub5 (f t : ByteArray) (A : Option Addr) (us : List ByteArray) (c : Nat) (w : World) (h : AtStrs w w.heap.size A us) (hcap : us.length ≤ c) (hn : c ≤ maxLen) (hf : f.size ≤ maxLen) (ht : t.size ≤ maxLen) :
    Calls Try.prog 14 #[.agg #[.int .i64 5, .string f, .slice A us.length c, .string t]] w fun e w' => e = .returned (.bool (Sb.ok 5 f us t)) ∧ Below w.heap.size w w' := by
  have htl := ht
  unfold maxLen at htl
  have HO := Lib.hid (Sb.ok5 (st := 5) (f := f) (us := us) (t := t) (by omega))
  have hB : Below w.heap.size w (w.alloc (.cells #[.int .i64 5, .string f, .slice A us.length c, .string t] 25)) := (Below.refl _ _).alloc (Nat.le_refl _) _
  have hbx := heap_alloc_new w (.cells #[.int .i64 5, .string f, .slice A us.length c, .string t] 25)
  have HBX := Lib.hid hbx
  have HA := Lib.hid ((h.below hB).mono hB.size)
  clear hbx
  have i1 : inB 5 0 6 = true := by decide
  have i2 : inB 5 2 5 = true := by decide
  go_enter Try.func14, Try.ntmps14
  go_wp2_with fail
  refine (l6In_any _ _ _ _).mono ?_
  rintro e wq ⟨rfl, rfl⟩
  rw [i1]
  go_wp2_with fail
  refine (l21Names_any A us c _ HA.out hcap hn).mono ?_
  rintro e w2 ⟨rfl, hb2⟩
  have hB2 := hB.trans (hb2.mono hB.size)
  have hbx2 := (hb2.block w.heap.size (by simp)).trans HBX.out
  have d0 : w2.cell? ⟨w.heap.size, 0, none⟩ = some (.int .i64 5) := cell_at hbx2 0 _ rfl
  have d1 : w2.cell? ⟨w.heap.size, 1, none⟩ = some (.string f) := cell_at hbx2 1 _ rfl
  have d2 : w2.cell? ⟨w.heap.size, 2, none⟩ = some (.slice A us.length c) := cell_at hbx2 2 _ rfl
  have d3 : w2.cell? ⟨w.heap.size, 3, none⟩ = some (.string t) := cell_at hbx2 3 _ rfl
  clear hbx2
  cases n1 : St.namesOk us
  · have n2 : Sb.recv us = false := by unfold Sb.recv; rw [n1]; rfl
    go_wp2_with fail
    go_ret
    exact ⟨by rw [HO.out]; simp [*], hB2⟩
  · by_cases hts : 21 < t.size
    · have n3 : ¬ t.size ≤ 21 := by omega
      go_wp2_with fail
      go_ret
      exact ⟨by rw [HO.out]; simp [*], hB2⟩
    · go_wp2_with fail
      refine (l6In_any _ _ _ _).mono ?_
      rintro e wq ⟨rfl, rfl⟩
      rw [i2]
      go_wp2_with fail
      refine (sNameValid_any _ _ hf).mono ?_
      rintro e wq ⟨rfl, rfl⟩
      cases n4 : Nm.nameOk f.data.toList
      · go_wp2_with fail
        go_ret
        exact ⟨by rw [HO.out]; simp [*], hB2⟩
      · have n7 : True := trivial
        by_cases hu0 : 0 < us.length
        · have n5 : Sb.recv us = true := by unfold Sb.recv; rw [n1, decide_eq_true hu0]; rfl
          have n6 : t.size ≤ 21 := by omega
          go_wp2_with fail
          go_ret
          exact ⟨by rw [HO.out]; simp [*], hB2⟩
        · have n5 : Sb.recv us = false := by unfold Sb.recv; rw [decide_eq_false hu0]; simp
          go_wp2_with fail
          go_ret
          exact ⟨by rw [HO.out]; simp [*], hB2⟩

set_option maxHeartbeats 1600000 in
theorem sSub6 (f t : ByteArray) (A : Option Addr) (us : List ByteArray) (c : Nat) (w : World) (h : AtStrs w w.heap.size A us) (hcap : us.length ≤ c) (hn : c ≤ maxLen) (hf : f.size ≤ maxLen) (ht : t.size ≤ maxLen) :
    Calls Try.prog 14 #[.agg #[.int .i64 6, .string f, .slice A us.length c, .string t]] w fun e w' => e = .returned (.bool (Sb.ok 6 f us t)) ∧ Below w.heap.size w w' := by
  have htl := ht
  unfold maxLen at htl
  have HO := Lib.hid (Sb.ok0 (st := 6) (f := f) (us := us) (t := t) (by omega))
  have hB : Below w.heap.size w (w.alloc (.cells #[.int .i64 6, .string f, .slice A us.length c, .string t] 25)) := (Below.refl _ _).alloc (Nat.le_refl _) _
  have hbx := heap_alloc_new w (.cells #[.int .i64 6, .string f, .slice A us.length c, .string t] 25)
  have HBX := Lib.hid hbx
  have HA := Lib.hid ((h.below hB).mono hB.size)
  clear hbx
  have i1 : inB 6 0 6 = true := by decide
  have i2 : inB 6 2 5 = false := by decide
  go_enter Try.func14, Try.ntmps14
  go_wp2_with fail
  refine (l6In_any _ _ _ _).mono ?_
  rintro e wq ⟨rfl, rfl⟩
  rw [i1]
  go_wp2_with fail
  refine (l21Names_any A us c _ HA.out hcap hn).mono ?_
  rintro e w2 ⟨rfl, hb2⟩
  have hB2 := hB.trans (hb2.mono hB.size)
  have hbx2 := (hb2.block w.heap.size (by simp)).trans HBX.out
  have d0 : w2.cell? ⟨w.heap.size, 0, none⟩ = some (.int .i64 6) := cell_at hbx2 0 _ rfl
  have d1 : w2.cell? ⟨w.heap.size, 1, none⟩ = some (.string f) := cell_at hbx2 1 _ rfl
  have d2 : w2.cell? ⟨w.heap.size, 2, none⟩ = some (.slice A us.length c) := cell_at hbx2 2 _ rfl
  have d3 : w2.cell? ⟨w.heap.size, 3, none⟩ = some (.string t) := cell_at hbx2 3 _ rfl
  clear hbx2
  cases n1 : St.namesOk us
  · have n2 : ¬ us.length = 0 := fun e => by rw [Sb.none_ok e] at n1; cases n1
    go_wp2_with fail
    go_ret
    exact ⟨by rw [HO.out]; simp [*], hB2⟩
  · by_cases hts : 21 < t.size
    · have n3 := Sb.empty_size hts
      go_wp2_with fail
      go_ret
      exact ⟨by rw [HO.out]; simp [*], hB2⟩
    · go_wp2_with fail
      refine (l6In_any _ _ _ _).mono ?_
      rintro e wq ⟨rfl, rfl⟩
      rw [i2]
      go_wp2_with fail
      refine (sNameValid_any _ _ hf).mono ?_
      rintro e wq ⟨rfl, rfl⟩
      cases n4 : Nm.nameOk f.data.toList
      · cases hf0 : f.toList.isEmpty
        · go_wp2_with fail
          go_ret
          exact ⟨by rw [HO.out]; simp [*], hB2⟩
        · have n7 : True := trivial
          by_cases hu0 : us.length = 0
          · cases ht0 : t.toList.isEmpty
            · go_wp2_with fail
              go_ret
              exact ⟨by rw [HO.out]; simp [*], hB2⟩
            · go_wp2_with fail
              go_ret
              exact ⟨by rw [HO.out]; simp [*], hB2⟩
          · have hu1 : 0 < us.length := by omega
            go_wp2_with fail
            go_ret
            exact ⟨by rw [HO.out]; simp [*], hB2⟩
      · have hf0 := Sb.name_some n4
        go_wp2_with fail
        go_ret
        exact ⟨by rw [HO.out]; simp [*], hB2⟩

set_option maxHeartbeats 1600000 in
theorem sSubmissionValid_any (st : Int) (f t : ByteArray) (A : Option Addr) (us : List ByteArray) (c : Nat) (w : World) (h : AtStrs w w.heap.size A us) (hcap : us.length ≤ c) (hn : c ≤ maxLen) (hf : f.size ≤ maxLen) (ht : t.size ≤ maxLen) :
    Calls Try.prog 14 #[.agg #[.int .i64 st, .string f, .slice A us.length c, .string t]] w fun e w' => e = .returned (.bool (Sb.ok st f us t)) ∧ Below w.heap.size w w' := by
  by_cases hst : 0 ≤ st ∧ st ≤ 6
  · obtain rfl | rfl | rfl | rfl | rfl | rfl | rfl : st = 0 ∨ st = 1 ∨ st = 2 ∨ st = 3 ∨ st = 4 ∨ st = 5 ∨ st = 6 := by omega
    · exact sSub0 f t A us c w h hcap hn hf ht
    · exact sSub1 f t A us c w h hcap hn hf ht
    · exact sSub2 f t A us c w h hcap hn hf ht
    · exact sSub3 f t A us c w h hcap hn hf ht
    · exact sSub4 f t A us c w h hcap hn hf ht
    · exact sSub5 f t A us c w h hcap hn hf ht
    · exact sSub6 f t A us c w h hcap hn hf ht
  · have HO := Lib.hid (Sb.okN (f := f) (us := us) (t := t) hst)
    have i1 : inB st 0 6 = false := inB_no.2 hst
    have hB : Below w.heap.size w (w.alloc (.cells #[.int .i64 st, .string f, .slice A us.length c, .string t] 25)) := (Below.refl _ _).alloc (Nat.le_refl _) _
    go_enter Try.func14, Try.ntmps14
    go_wp2_with fail
    refine (l6In_any _ _ _ _).mono ?_
    rintro e wq ⟨rfl, rfl⟩
    rw [i1]
    go_wp2_with fail
    go_ret
    exact ⟨by rw [HO.out]; rfl, hB⟩

end Go.Proofs.Ytnbggmmghopphaa
