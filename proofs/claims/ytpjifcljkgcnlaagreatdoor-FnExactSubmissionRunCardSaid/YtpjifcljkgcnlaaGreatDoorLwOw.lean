/- SubmissionLine of the program, its session's list in a row of the call's own. -/
import Derived.Test.YtpjifcljkgcnlaaGreatDoorSmUu
namespace Go.Proofs.YtpjifcljkgcnlaaGreatDoor
set_option linter.unusedVariables false
open Go.RowKit
open Us (U)

theorem Lw.strs_own {w : World} {B : Nat} {A : Option Addr} {us : List ByteArray} {c n : Nat} (ho : St.Own w B (.slice A n c) us) (hn : us.length = n) (hs : ∀ u ∈ us, u.size ≤ maxLen) : AtStrs w w.heap.size A us :=
  at_strs (OwnL.at_ ho St.cells_len hn) hs
theorem Lw.own4 {w : World} {B b : Nat} {v : Value} {us : List ByteArray} (ho : St.Own w B v us) (hb : b < B) (v0 v1 v2 v3 : Value) : St.Own ((((w.setCell ⟨b, 0, none⟩ v0).setCell ⟨b, 1, none⟩ v1).setCell ⟨b, 2, none⟩ v2).setCell ⟨b, 3, none⟩ v3) B v us :=
  own_setNew (p := ⟨b, 3, none⟩) (own_setNew (p := ⟨b, 2, none⟩) (own_setNew (p := ⟨b, 1, none⟩) (own_setNew (p := ⟨b, 0, none⟩) ho hb _) hb _) hb _) hb _
theorem Lw.box4 {w : World} {b : Nat} {a0 a1 a2 a3 : Value} {T : TypeId} (h : w.heap[b]? = some (.cells #[a0, a1, a2, a3] T (0, 0))) (v0 v1 v2 v3 : Value) :
    ((((w.setCell ⟨b, 0, none⟩ v0).setCell ⟨b, 1, none⟩ v1).setCell ⟨b, 2, none⟩ v2).setCell ⟨b, 3, none⟩ v3).heap[b]? = some (.cells #[v0, v1, v2, v3] T (0, 0)) := by
  rw [set_heap (set_heap (set_heap (set_heap h)))]
  rfl
/-- a session and a reply, the session's list in a row of the call's own -/
def Sm.OwnW (so : Int) (fo : ByteArray) (uo : List ByteArray) (t : ByteArray) (no : Int) (w : World) (e : Ending) (w' : World) : Prop :=
  ∃ A c, e = .returned (.tuple #[.agg #[.int .i64 so, .string fo, .slice A uo.length c, .string t], .int .i64 no]) ∧ St.Own w' w.heap.size (.slice A uo.length c) uo ∧ uo.length ≤ c ∧ c ≤ maxLen ∧ Below w.heap.size w w'
theorem iLineW_any (st : Int) (f t : ByteArray) (A : Option Addr) (us : List ByteArray) (c : Nat) (w : World) (h : AtStrs w w.heap.size A us) (hcap : us.length ≤ c) (hcm : c ≤ maxLen) (hfl : f.size ≤ maxLen) (htl : t.size ≤ maxLen) (Au : Option Addr) (vs : List U) (cu : Nat) (hu : AtUsers w w.heap.size Au vs) (hvl : vs.length ≤ maxLen) (d l : ByteArray) (hd : d.size ≤ 16777216) (hl : l.size ≤ 16777216) (m : Int) (hm : w.cell? ⟨0, 0, none⟩ = some (.int .i64 m)) {so : Int} {fo to_ : ByteArray} {uo : List ByteArray} {no : Int} (hR : Sm.ans vs d ⟨st, f, us, t⟩ l = (⟨so, fo, uo, to_⟩, no)) :
    Calls Tryz.prog 29 #[.agg #[.int .i64 st, .string f, .slice A us.length c, .string t], .slice Au vs.length cu, .string d, .string l] w (Sm.OwnW so fo uo to_ no w) :=
  (iSubmissionLine_any st f t A us c w h hcap hcm hfl htl Au vs cu hu hvl d l hd hl m hm).mono fun e w' hh => by
    rw [hR] at hh
    obtain ⟨A', c', rfl, ho, hb⟩ := hh
    exact ⟨A', c', rfl, ho, (own_cap ho).1, (own_cap ho).2, hb⟩
end Go.Proofs.YtpjifcljkgcnlaaGreatDoor
