/- Letters: LetterValid of both sides; sizes, copies, comparison. -/
import Derived.Test.YtpbaimofffcnaaaStW2
import Derived.Test.YtpbaimofffcnaaaStX
namespace Go.Proofs.Ytpbaimofffcnaaa
set_option linter.unusedVariables false
open Go.RowKit

def Lt.ok (f : ByteArray) (us : List ByteArray) (t : ByteArray) : Bool := Nm.nameOk f.data.toList && (St.namesOk us && decide (0 < us.length)) && decide (t.size ≤ 20)
theorem Lt.no1 {f t : ByteArray} {us : List ByteArray} (h : Nm.nameOk f.data.toList = false) : Lt.ok f us t = false := by unfold Lt.ok; rw [h]; rfl
theorem Lt.no2 {f t : ByteArray} {us : List ByteArray} (h : (St.namesOk us && decide (0 < us.length)) = false) : Lt.ok f us t = false := by unfold Lt.ok; rw [h]; simp
theorem Lt.yes {f t : ByteArray} {us : List ByteArray} (h1 : Nm.nameOk f.data.toList = true) (h : (St.namesOk us && decide (0 < us.length)) = true) : Lt.ok f us t = decide (t.size ≤ 20) := by unfold Lt.ok; rw [h1, h]; rfl

set_option maxHeartbeats 1600000 in
theorem iLetterValid_any (f t : ByteArray) (A : Option Addr) (us : List ByteArray) (c : Nat) (w : World) (h : AtStrs w w.heap.size A us) (hcap : us.length ≤ c) (hn : c ≤ maxLen) (hf : f.size ≤ maxLen) (ht : t.size ≤ maxLen) :
    Calls Try.prog 21 #[.agg #[.string f, .slice A us.length c, .string t]] w fun e w' => e = .returned (.bool (Lt.ok f us t)) ∧ Below w.heap.size w w' := by
  have htl := ht
  unfold maxLen at htl
  go_enter Try.func21, Try.ntmps21
  go_wp2_with fail
  refine (iNameValid_any _ _ hf).mono ?_
  rintro e w1 ⟨rfl, hb1⟩
  have hbx := boxed hb1
  have hB := unbox hb1
  have hs1 := (Array.getElem?_eq_some_iff.1 hbx).1
  cases n1 : Nm.nameOk f.data.toList
  · have HF := Lib.hid (Lt.no1 (us := us) (t := t) n1)
    go_wp2_with fail
    go_ret
    exact ⟨by rw [HF.out]; rfl, hB⟩
  · have d1 : w1.cell? ⟨w.heap.size, 1, none⟩ = some (.slice A us.length c) := cell_at hbx 1 _ rfl
    have HBX := Lib.hid hbx
    have HA := Lib.hid ((h.below hB).mono hB.size)
    clear hbx
    go_wp2_with fail
    refine (receiversValid_any A us c _ HA.out hcap hn).mono ?_
    rintro e w2 ⟨rfl, hb2⟩
    have hB2 := hB.trans (hb2.mono hB.size)
    have d2 : w2.cell? ⟨w.heap.size, 2, none⟩ = some (.string t) := cell_at ((hb2.block _ hs1).trans HBX.out) 2 _ rfl
    cases n2 : (St.namesOk us && decide (0 < us.length))
    · have HF := Lib.hid (Lt.no2 (f := f) (t := t) n2)
      clear n2
      go_wp2_with fail
      go_ret
      exact ⟨by rw [HF.out]; rfl, hB2⟩
    · have HF := Lib.hid (Lt.yes (t := t) n1 n2)
      clear n2
      go_wp2_with fail
      go_ret
      exact ⟨by rw [HF.out]; simp; omega, hB2⟩

set_option maxHeartbeats 1600000 in
theorem sLetterValid_any (f t : ByteArray) (A : Option Addr) (us : List ByteArray) (c : Nat) (w : World) (h : AtStrs w w.heap.size A us) (hcap : us.length ≤ c) (hn : c ≤ maxLen) (hf : f.size ≤ maxLen) (ht : t.size ≤ maxLen) :
    Calls Try.prog 19 #[.agg #[.string f, .slice A us.length c, .string t]] w fun e w' => e = .returned (.bool (Lt.ok f us t)) ∧ Below w.heap.size w w' := by
  have htl := ht
  unfold maxLen at htl
  go_enter Try.func19, Try.ntmps19
  go_wp2_with fail
  refine (sNameValid_any _ _ hf).mono ?_
  rintro e w1 ⟨rfl, rfl⟩
  have hB : Below w.heap.size w (w.alloc (.cells #[.string f, .slice A us.length c, .string t] 49)) := (Below.refl _ _).alloc (Nat.le_refl _) _
  have hbx := heap_alloc_new w (.cells #[.string f, .slice A us.length c, .string t] 49)
  cases n1 : Nm.nameOk f.data.toList
  · have HF := Lib.hid (Lt.no1 (us := us) (t := t) n1)
    go_wp2_with fail
    go_ret
    exact ⟨by rw [HF.out]; rfl, hB⟩
  · have HBX := Lib.hid hbx
    have HA := Lib.hid ((h.below hB).mono hB.size)
    clear hbx
    go_wp2_with fail
    refine (l21Names_any A us c _ HA.out hcap hn).mono ?_
    rintro e w2 ⟨rfl, hb2⟩
    have hB2 := hB.trans (hb2.mono hB.size)
    have hbx2 := (hb2.block w.heap.size (by simp)).trans HBX.out
    have d1 : w2.cell? ⟨w.heap.size, 1, none⟩ = some (.slice A us.length c) := cell_at hbx2 1 _ rfl
    have d2 : w2.cell? ⟨w.heap.size, 2, none⟩ = some (.string t) := cell_at hbx2 2 _ rfl
    clear hbx2
    cases n2 : St.namesOk us
    · have HF := Lib.hid (Lt.no2 (f := f) (t := t) (us := us) (by rw [n2]; rfl))
      clear n2
      go_wp2_with fail
      go_ret
      exact ⟨by rw [HF.out]; rfl, hB2⟩
    · by_cases n3 : 0 < us.length
      · have HF := Lib.hid (Lt.yes (t := t) n1 (by rw [n2, decide_eq_true n3]; rfl))
        clear n2
        go_wp2_with fail
        go_ret
        exact ⟨by rw [HF.out]; simp; omega, hB2⟩
      · have HF := Lib.hid (Lt.no2 (f := f) (t := t) (us := us) (by rw [decide_eq_false n3]; simp))
        clear n2
        go_wp2_with fail
        go_ret
        exact ⟨by rw [HF.out]; rfl, hB2⟩

end Go.Proofs.Ytpbaimofffcnaaa
