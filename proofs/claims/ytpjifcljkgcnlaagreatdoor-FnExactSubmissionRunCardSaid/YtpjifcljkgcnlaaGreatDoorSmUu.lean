/- SmUu: SmT SmN SmU LtW LwKit, in one text. -/
import Derived.Test.YtpjifcljkgcnlaaGreatDoorSmJl
import Derived.Test.YtpjifcljkgcnlaaGreatDoorSmQ
import Derived.Test.YtpjifcljkgcnlaaGreatDoorLawKit
import Derived.Test.YtpjifcljkgcnlaaGreatDoorStW2
import Derived.Test.YtpjifcljkgcnlaaGreatDoorStX
namespace Go.Proofs.YtpjifcljkgcnlaaGreatDoor
set_option linter.unusedVariables false
open Go.RowKit
open Us (U)

/-- a session, users, a domain and a line were drawn -/
def Sm.DrawnL (w : World) (e : Ending) (w' : World) : Prop :=
  ∃ st f A us c t Au vs cu d l, Sm.small ⟨st, f, us, t⟩ ∧ us.length ≤ c ∧ c ≤ maxLen ∧ SmallUsers vs ∧ d.size ≤ 30 ∧ l.size ≤ 200 ∧ e = .returned (.tuple #[.agg #[.int .i64 st, .string f, .slice A us.length c, .string t], .slice Au vs.length cu, .string d, .string l]) ∧ AtStrs w' w'.heap.size A us ∧ At w' w'.heap.size 3 Us.cells Au vs ∧ Below w.heap.size w w'
theorem At.set4' {W : World} {B b5 : Nat} {Au : Option Addr} {vs : List U} (hat : At W B 3 Us.cells Au vs) {st : Int} {f t : ByteArray} {v : Value} (hv : ∀ s, v ≠ .string s) (hx : W.heap[b5]? = some (.cells #[.int .i64 st, .string f, v, .string t] 45 (0, 0))) (v0 v1 v2 v3 : Value) :
    At ((((W.setCell ⟨b5, 0, none⟩ v0).setCell ⟨b5, 1, none⟩ v1).setCell ⟨b5, 2, none⟩ v2).setCell ⟨b5, 3, none⟩ v3) B 3 Us.cells Au vs := fun hl => by
  obtain ⟨g, off, ha, hlt, hne⟩ := users_ne hat hv hx hl
  exact At.keepAt hat (fun g' off' ha' _ => res_set4 (by rw [ha] at ha'; injection ha' with ha'; injection ha' with h1 h2; omega) v0 v1 v2 v3) hl

end Go.Proofs.YtpjifcljkgcnlaaGreatDoor

namespace Go.Proofs.YtpjifcljkgcnlaaGreatDoor
set_option linter.unusedVariables false
open Go.RowKit

end Go.Proofs.YtpjifcljkgcnlaaGreatDoor

namespace Go.Proofs.YtpjifcljkgcnlaaGreatDoor
set_option linter.unusedVariables false
open Go.RowKit
open Us (U)

theorem Sm.ans_good {us : List U} {d : ByteArray} {s : Sm.S} {l : ByteArray} (h : Sm.ok s = true ∧ Us.usersOk us = true ∧ Dm.ok d.data.toList = true) : Sm.ans us d s l = Sm.line us d s l := by unfold Sm.ans; rw [if_pos h]
theorem Sm.ans_bad {us : List U} {d : ByteArray} {s : Sm.S} {l : ByteArray} (h : ¬ (Sm.ok s = true ∧ Us.usersOk us = true ∧ Dm.ok d.data.toList = true)) : Sm.ans us d s l = (⟨0, Sm.e0, [], Sm.e0⟩, -1) := by unfold Sm.ans; rw [if_neg h]
theorem Sm.ans_sizes (us : List U) (d : ByteArray) (s : Sm.S) (l : ByteArray) : (Sm.ans us d s l).1.tos.length ≤ 3 ∧ (∀ u ∈ (Sm.ans us d s l).1.tos, u.size ≤ maxLen) ∧ (Sm.ans us d s l).1.user.size ≤ maxLen ∧ (Sm.ans us d s l).1.text.size ≤ maxLen := by
  by_cases h : Sm.ok s = true ∧ Us.usersOk us = true ∧ Dm.ok d.data.toList = true
  · rw [Sm.ans_good h]
    obtain ⟨h1, h2, h3, h4, _⟩ := Sm.ok_sizes (Sm.line_ok h.1 (us := us) (d := d) l)
    unfold maxLen
    exact ⟨h2, fun u hu => by have := h3 u hu; omega, by omega, by omega⟩
  · rw [Sm.ans_bad h]
    exact ⟨by simp, fun u hu => absurd hu (by simp), Nat.zero_le _, Nat.zero_le _⟩
theorem Sm.line_reply (us : List U) (d : ByteArray) (s : Sm.S) (l : ByteArray) : ¬ (Sm.line us d s l).2 < 0 := by
  unfold Sm.line
  split
  · (first | decide | (dsimp only; decide))
  split
  · unfold Sm.data; split
    · dsimp only; split <;> (first | decide | (dsimp only; decide))
    · (first | decide | (dsimp only; decide))
  unfold Sm.word
  split
  · split
    · unfold Sm.hello; split
      · split <;> (first | decide | (dsimp only; decide))
      · (first | decide | (dsimp only; decide))
    split
    · unfold Sm.auth; split
      · (first | decide | (dsimp only; decide))
      · split
        · split
          · split <;> (first | decide | (dsimp only; decide))
          · (first | decide | (dsimp only; decide))
        · (first | decide | (dsimp only; decide))
    split
    · unfold Sm.mail; split
      · (first | decide | (dsimp only; decide))
      split
      · (first | decide | (dsimp only; decide))
      split
      · split <;> (first | decide | (dsimp only; decide))
      · (first | decide | (dsimp only; decide))
    split
    · unfold Sm.rcpt; split
      · (first | decide | (dsimp only; decide))
      split
      · split
        · split
          · (first | decide | (dsimp only; decide))
          split <;> (first | decide | (dsimp only; decide))
        · (first | decide | (dsimp only; decide))
      · (first | decide | (dsimp only; decide))
    · unfold Sm.plain
      split
      · split <;> (first | decide | (dsimp only; decide))
      split
      · (first | decide | (dsimp only; decide))
      split
      · (first | decide | (dsimp only; decide))
      split <;> (first | decide | (dsimp only; decide))
  · (first | decide | (dsimp only; decide))
/-- a session and a reply of a law -/
def Sm.OwnV (so : Int) (fo : ByteArray) (uo : List ByteArray) (t : ByteArray) (no : Int) (w : World) (e : Ending) (w' : World) : Prop :=
  ∃ A c, e = .returned (.tuple #[.agg #[.int .i64 so, .string fo, .slice A uo.length c, .string t], .int .i64 no]) ∧ AtStrs w' w'.heap.size A uo ∧ uo.length ≤ c ∧ c ≤ maxLen ∧ Below w.heap.size w w'
theorem Sm.ownV {us : List U} {d : ByteArray} {s : Sm.S} {l : ByteArray} {so : Int} {fo t : ByteArray} {uo : List ByteArray} {no : Int} (hR : Sm.ans us d s l = (⟨so, fo, uo, t⟩, no)) {w : World} {e : Ending} {w' : World} (h : Sm.Own (Sm.ans us d s l) w e w') : Sm.OwnV so fo uo t no w e w' := by
  have hs := (Sm.ans_sizes us d s l).2.1
  rw [hR] at h hs
  obtain ⟨A, c, rfl, ho, hb⟩ := h
  exact ⟨A, c, rfl, at_strs (OwnL.at_ ho St.cells_len rfl) hs, (own_cap ho).1, (own_cap ho).2, hb⟩
theorem iLine_any (st : Int) (f t : ByteArray) (A : Option Addr) (us : List ByteArray) (c : Nat) (w : World) (h : AtStrs w w.heap.size A us) (hcap : us.length ≤ c) (hcm : c ≤ maxLen) (hfl : f.size ≤ maxLen) (htl : t.size ≤ maxLen) (Au : Option Addr) (vs : List U) (cu : Nat) (hu : AtUsers w w.heap.size Au vs) (hvl : vs.length ≤ maxLen) (d l : ByteArray) (hd : d.size ≤ 16777216) (hl : l.size ≤ 16777216) (m : Int) (hm : w.cell? ⟨0, 0, none⟩ = some (.int .i64 m)) {so : Int} {fo to_ : ByteArray} {uo : List ByteArray} {no : Int} (hR : Sm.ans vs d ⟨st, f, us, t⟩ l = (⟨so, fo, uo, to_⟩, no)) :
    Calls Tryz.prog 29 #[.agg #[.int .i64 st, .string f, .slice A us.length c, .string t], .slice Au vs.length cu, .string d, .string l] w (Sm.OwnV so fo uo to_ no w) :=
  (iSubmissionLine_any st f t A us c w h hcap hcm hfl htl Au vs cu hu hvl d l hd hl m hm).mono fun _ _ hh => Sm.ownV hR hh
theorem Sm.small_len {s : Sm.S} (h : Sm.small s) : s.tos.length ≤ maxLen := by
  have := h.2.1
  unfold maxLen; omega
end Go.Proofs.YtpjifcljkgcnlaaGreatDoor

namespace Go.Proofs.YtpjifcljkgcnlaaGreatDoor
set_option linter.unusedVariables false
open Go.RowKit

def Lt.ok (f : ByteArray) (us : List ByteArray) (t : ByteArray) : Bool := Nm.nameOk f.data.toList && (St.namesOk us && decide (0 < us.length)) && decide (t.size ≤ 20)
theorem Lt.no1 {f t : ByteArray} {us : List ByteArray} (h : Nm.nameOk f.data.toList = false) : Lt.ok f us t = false := by unfold Lt.ok; rw [h]; rfl
theorem Lt.no2 {f t : ByteArray} {us : List ByteArray} (h : (St.namesOk us && decide (0 < us.length)) = false) : Lt.ok f us t = false := by unfold Lt.ok; rw [h]; simp
theorem Lt.yes {f t : ByteArray} {us : List ByteArray} (h1 : Nm.nameOk f.data.toList = true) (h : (St.namesOk us && decide (0 < us.length)) = true) : Lt.ok f us t = decide (t.size ≤ 20) := by unfold Lt.ok; rw [h1, h]; rfl



end Go.Proofs.YtpjifcljkgcnlaaGreatDoor

namespace Go.Proofs.YtpjifcljkgcnlaaGreatDoor
set_option linter.unusedVariables false
open Go.RowKit

theorem Sm.cut21_small {y : ByteArray} (h : y.size ≤ 21) : Sm.cut21 y = y := by
  unfold Sm.cut21
  rw [Nat.min_eq_left h, ByteArray.extract_zero_size]
theorem Sm.cut21_big {y : ByteArray} (h : 21 < y.size) : y.extract 0 21 = Sm.cut21 y := by
  unfold Sm.cut21
  rw [Nat.min_eq_right (by omega)]
theorem Sm.ne_of {l : ByteArray} (h : 0 < l.size) : l.toList.isEmpty = false := by
  have hl : l.data.toList.length = l.size := Array.length_toList
  rw [Go.ByteArray.toList_eq]
  cases hq : l.data.toList with
  | nil => rw [hq] at hl; simp at hl; omega
  | cons a r => rfl
theorem Sm.em_of {l : ByteArray} (h : ¬ 0 < l.size) : l.toList.isEmpty = true := by
  have hl : l.data.toList.length = l.size := Array.length_toList
  rw [Go.ByteArray.toList_eq, List.isEmpty_iff]
  exact List.eq_nil_of_length_eq_zero (by omega)
end Go.Proofs.YtpjifcljkgcnlaaGreatDoor
