/- strings.CutPrefix, and strings.Cut at one byte. -/
import Derived.Test.YtjoohmokjliecaaShelf
import Derived.Test.YtjoohmokjliecaaCtS
import Derived.Lib.IndexLaws
import Derived.IntWalk
import Derived.BigQuiet
import Derived.Test.YtjoohmokjliecaaNm
namespace Go.Proofs.Ytjoohmokjliecaa
set_option linter.unusedVariables false
open Go.RowKit

theorem Pf.take_eq {s p : ByteArray} (h : p.size ≤ s.size) : ((s.extract 0 p.size).toList == p.toList) = decide (p.data.toList <+: s.data.toList) := by
  have hl : p.data.toList.length = p.size := Array.length_toList
  have e : (s.extract 0 p.size).toList = s.data.toList.take p.size := by rw [Go.ByteArray.toList_eq]; simp [ByteArray.data_extract]
  rw [e, Go.ByteArray.toList_eq, ← hl, Bool.eq_iff_iff, beq_iff_eq, decide_eq_true_eq, List.prefix_iff_eq_take]
  exact eq_comm
theorem Pf.short {s p : ByteArray} (h : ¬ p.size ≤ s.size) : decide (p.data.toList <+: s.data.toList) = false := by
  have hl : p.data.toList.length = p.size := Array.length_toList
  have hl2 : s.data.toList.length = s.size := Array.length_toList
  rw [decide_eq_false_iff_not]
  intro hp
  have := hp.length_le
  omega

set_option maxHeartbeats 800000 in
theorem hasPrefix_any (s p : ByteArray) (hs : s.size ≤ maxLen) (hp : p.size ≤ maxLen) (w : World) :
    Calls Try.prog 130 #[.string s, .string p] w fun e w' => e = .returned (.bool (decide (p.data.toList <+: s.data.toList))) ∧ w' = w := by
  unfold maxLen at hs hp
  by_cases h : p.size ≤ s.size
  · have HQ := Lib.hid (Pf.take_eq h)
    have hi : (p.size : Int) ≤ (s.size : Int) := by omega
    cases hb : decide (p.data.toList <+: s.data.toList)
    · have h1 : ((s.extract 0 p.size).toList == p.toList) = false := by rw [HQ.out, hb]
      clear hb
      go_enter Try.func130, Try.ntmps130
      go_wp2_with fail
      go_ret
      exact ⟨rfl, rfl⟩
    · have h1 : ((s.extract 0 p.size).toList == p.toList) = true := by rw [HQ.out, hb]
      clear hb
      go_enter Try.func130, Try.ntmps130
      go_wp2_with fail
      go_ret
      exact ⟨rfl, rfl⟩
  · have HQ := Lib.hid (Pf.short h)
    have hi : ¬ (p.size : Int) ≤ (s.size : Int) := by omega
    go_enter Try.func130, Try.ntmps130
    go_wp2_with fail
    go_ret
    rw [HQ.out]
    exact ⟨rfl, rfl⟩

def Pf.cut (p s : ByteArray) : Value := if p.data.toList <+: s.data.toList then .tuple #[.string (s.extract p.size s.size), .bool true] else .tuple #[.string s, .bool false]
theorem Pf.cut_yes {p s : ByteArray} (h : p.data.toList <+: s.data.toList) : Pf.cut p s = .tuple #[.string (s.extract p.size s.size), .bool true] := if_pos h
theorem Pf.cut_no {p s : ByteArray} (h : ¬ p.data.toList <+: s.data.toList) : Pf.cut p s = .tuple #[.string s, .bool false] := if_neg h

set_option maxHeartbeats 800000 in
theorem liteCutPrefix_any (s p : ByteArray) (hs : s.size ≤ maxLen) (hp : p.size ≤ maxLen) (w : World) :
    Calls Try.prog 118 #[.string s, .string p] w fun e w' => e = .returned (Pf.cut p s) ∧ w' = w := by
  have HS : Hid (p.data.toList <+: s.data.toList → p.size ≤ s.size) := Lib.hid fun h => by
    have hl : p.data.toList.length = p.size := Array.length_toList
    have hl2 : s.data.toList.length = s.size := Array.length_toList
    have := h.length_le; omega
  by_cases h : p.data.toList <+: s.data.toList
  · have HQ := Lib.hid (Pf.cut_yes h)
    have hle := HS.out h
    have HD := Lib.hid (decide_eq_true h)
    have hs' := hs
    have hp' := hp
    unfold maxLen at hs' hp'
    clear h
    go_enter Try.func118, Try.ntmps118
    go_wp2_with fail
    refine (hasPrefix_any s p hs hp _).mono ?_
    rintro e w1 ⟨rfl, rfl⟩
    rw [HD.out]
    go_wp2_with fail
    go_ret2
    rw [HQ.out]
    exact ⟨rfl, rfl⟩
  · have HQ := Lib.hid (Pf.cut_no h)
    have HD := Lib.hid (decide_eq_false h)
    clear h
    go_enter Try.func118, Try.ntmps118
    go_wp2_with fail
    refine (hasPrefix_any s p hs hp _).mono ?_
    rintro e w1 ⟨rfl, rfl⟩
    rw [HD.out]
    go_wp2_with fail
    go_ret2
    rw [HQ.out]
    exact ⟨rfl, rfl⟩

set_option maxHeartbeats 800000 in
theorem cutPrefix_any (s p : ByteArray) (hs : s.size ≤ maxLen) (hp : p.size ≤ maxLen) (w : World) :
    Calls Try.prog 96 #[.string s, .string p] w fun e w' => e = .returned (Pf.cut p s) ∧ w' = w := by
  by_cases h : p.data.toList <+: s.data.toList
  · have HQ := Lib.hid (Pf.cut_yes h)
    clear h
    go_enter Try.func96, Try.ntmps96
    go_wp2_with fail
    refine (liteCutPrefix_any s p hs hp _).mono ?_
    rintro e w1 ⟨rfl, rfl⟩
    rw [HQ.out]
    go_wp2_with fail
    go_ret2
    rw [HQ.out]
    exact ⟨rfl, rfl⟩
  · have HQ := Lib.hid (Pf.cut_no h)
    clear h
    go_enter Try.func96, Try.ntmps96
    go_wp2_with fail
    refine (liteCutPrefix_any s p hs hp _).mono ?_
    rintro e w1 ⟨rfl, rfl⟩
    rw [HQ.out]
    go_wp2_with fail
    go_ret2
    rw [HQ.out]
    exact ⟨rfl, rfl⟩

/-- the first part, the rest, and whether the byte stands there -/
def Pf.cut1 (c : UInt8) (s : ByteArray) : Value := if 0 ≤ Lib.indexByte s.data.toList c then .tuple #[.string (s.extract 0 (Lib.indexByte s.data.toList c).toNat), .string (s.extract ((Lib.indexByte s.data.toList c).toNat + 1) s.size), .bool true] else .tuple #[.string s, .string ⟨#[]⟩, .bool false]

set_option maxHeartbeats 800000 in
theorem liteCut_any (s : ByteArray) (c : UInt8) (hs : s.size ≤ maxLen) (w : World) :
    Calls Try.prog 119 #[.string s, .string ⟨#[c]⟩] w fun e w' => e = .returned (Pf.cut1 c s) ∧ Below w.heap.size w w' := by
  unfold maxLen at hs
  have HC : Hid (Pf.cut1 c s = if 0 ≤ Lib.indexByte s.data.toList c then .tuple #[.string (s.extract 0 (Lib.indexByte s.data.toList c).toNat), .string (s.extract ((Lib.indexByte s.data.toList c).toNat + 1) s.size), .bool true] else .tuple #[.string s, .string ⟨#[]⟩, .bool false]) := Lib.hid rfl
  have HI := Lib.hid (Try.stringslite_Index_one s c w)
  by_cases h : 0 ≤ Lib.indexByte s.data.toList c
  · obtain ⟨o, ho⟩ : ∃ o : Nat, Lib.indexByte s.data.toList c = (o : Int) := ⟨(Lib.indexByte s.data.toList c).toNat, by omega⟩
    have hlt : o < s.size := by
      have h1 := (Lib.indexByte_some ho).1
      have := (List.getElem?_eq_some_iff.1 h1).1
      rwa [Array.length_toList] at this
    have hone : (ByteArray.mk #[c]).size = 1 := rfl
    have HO := Lib.hid ho
    clear h ho
    go_enter Try.func119, Try.ntmps119
    go_wp2_with fail
    refine Calls.mono HI.out ?_
    rintro e w1 ⟨rfl, rfl⟩
    rw [HO.out]
    have hw1 : IntKind.i64.wrap ((o : Int) + 1) = (o : Int) + 1 := IntWalk.i64_in _ (by omega)
    have hw2 : (0 : Int) ≤ (o : Int) + 1 := by omega
    have hw3 : ((o : Int) + 1).toNat = o + 1 := by omega
    have hw4 : (o : Int) + 1 ≤ (s.size : Int) := by omega
    go_wp2_with fail
    go_quiet (fail)
    go_wp2_with fail
    go_ret3
    rw [HC.out, HO.out, if_pos (by omega)]
    exact ⟨rfl, below_drewN (Below.refl _ _) _⟩
  · have h1 : Lib.indexByte s.data.toList c = -1 := by have := Lib.indexByte_ge s.data.toList c; omega
    have HO := Lib.hid h1
    clear h h1
    go_enter Try.func119, Try.ntmps119
    go_wp2_with fail
    refine Calls.mono HI.out ?_
    rintro e w1 ⟨rfl, rfl⟩
    rw [HO.out]
    go_wp2_with fail
    go_ret3
    rw [HC.out, HO.out, if_neg (by omega)]
    exact ⟨rfl, Below.refl _ _⟩

set_option maxHeartbeats 800000 in
theorem cut1_any (s : ByteArray) (c : UInt8) (hs : s.size ≤ maxLen) (w : World) :
    Calls Try.prog 97 #[.string s, .string ⟨#[c]⟩] w fun e w' => e = .returned (Pf.cut1 c s) ∧ Below w.heap.size w w' := by
  have HI := Lib.hid (liteCut_any s c hs w)
  by_cases h : 0 ≤ Lib.indexByte s.data.toList c
  · have HQ : Hid (Pf.cut1 c s = .tuple #[.string (s.extract 0 (Lib.indexByte s.data.toList c).toNat), .string (s.extract ((Lib.indexByte s.data.toList c).toNat + 1) s.size), .bool true]) := Lib.hid (if_pos h)
    clear h
    go_enter Try.func97, Try.ntmps97
    go_wp2_with fail
    refine Calls.mono HI.out ?_
    rintro e w1 ⟨rfl, hb⟩
    rw [HQ.out]
    go_wp2_with fail
    go_ret3
    rw [HQ.out]
    exact ⟨rfl, hb⟩
  · have HQ : Hid (Pf.cut1 c s = .tuple #[.string s, .string ⟨#[]⟩, .bool false]) := Lib.hid (if_neg h)
    clear h
    go_enter Try.func97, Try.ntmps97
    go_wp2_with fail
    refine Calls.mono HI.out ?_
    rintro e w1 ⟨rfl, hb⟩
    rw [HQ.out]
    go_wp2_with fail
    go_ret3
    rw [HQ.out]
    exact ⟨rfl, hb⟩
end Go.Proofs.Ytjoohmokjliecaa
