/- RnDv: RnD RnV, in one text. -/
import Derived.Test.YtpjifcljkgcnlaaGreatDoorRnSt
import Derived.Test.YtpjifcljkgcnlaaGreatDoorSmJl
import Derived.Deep.CutBlock
import Derived.Test.YtpjifcljkgcnlaaGreatDoorRnC
namespace Go.Proofs.YtpjifcljkgcnlaaGreatDoor
set_option linter.unusedVariables false
open Go.RowKit
open Us (U)

theorem AtTy.switch {q q' : Nat} {w w' : World} {B B' : Nat} {A : Option Addr} {us : List ByteArray} (h : AtTy q w B A us) (h' : AtTy q w' B' A us) (hq : B ≤ q') : AtTy q' w' B' A us :=
  ⟨h'.1, fun hl => by
    obtain ⟨g, off, ha, hg, _⟩ := h.1.1 hl
    obtain ⟨g', off', cs, ha', hx, _⟩ := h'.2 hl
    rw [ha] at ha'; injection ha' with ha'; injection ha' with e1 e2
    subst e1; subst e2
    exact ⟨g, off, cs, ha, hx, by omega⟩⟩
theorem AtTy.keepQ {q : Nat} {w w' : World} {A : Option Addr} {ss : List ByteArray} (h : AtTy q w w.heap.size A ss) (hs : w.heap.size ≤ w'.heap.size) (hk : ∀ (g : Nat) (cs : Array Value), w.heap[g]? = some (Obj.cells cs 9 (0, 0)) → g ≠ q → w'.heap[g]? = w.heap[g]?) : AtTy q w' w'.heap.size A ss := by
  refine ⟨⟨fun hl => ?_, h.1.2⟩, fun hl => ?_⟩
  all_goals
    obtain ⟨g, off, ha, hlt, hc⟩ := h.1.1 hl
    obtain ⟨g', off', cs, ha', hx, hne⟩ := h.2 hl
    rw [ha] at ha'; injection ha' with ha'; injection ha' with e1 e2
    subst e1; subst e2
    have hk2 := hk g cs hx hne
  · exact ⟨g, off, ha, Nat.lt_of_lt_of_le hlt hs, fun i u hu => by rw [World.cell?_of_block hk2]; exact hc i u hu⟩
  · exact ⟨g, off, cs, ha, hk2.trans hx, hne⟩
namespace Rn
variable {w w' : World} {B b m m' B2 bs : Nat} {Au : Option Addr} {vs : List U} {v7 : Value} {lines : List ByteArray} {s : Sm.S}
/-- what was drawn -/
def Drawn (w : World) (e : Ending) (w' : World) : Prop :=
  ∃ vs Au cu d A lines c, SmallUsers vs ∧ d.size ≤ 30 ∧ lines.length ≤ 30 ∧ (∀ l ∈ lines, l.size ≤ 200) ∧ lines.length ≤ c ∧ c ≤ maxLen ∧ e = .returned (.tuple #[.slice Au vs.length cu, .string d, .slice A lines.length c]) ∧ At w' w'.heap.size 3 Us.cells Au vs ∧ AtStrs w' w'.heap.size A lines ∧ Below w.heap.size w w'
end Rn

end Go.Proofs.YtpjifcljkgcnlaaGreatDoor

namespace Go.Proofs.YtpjifcljkgcnlaaGreatDoor
set_option linter.unusedVariables false
open Go.RowKit
open Us (U)

namespace Rn
/-- replies and letters, as they read -/
def OutV (rs : List Int) (vl : List V) (w : World) (e : Ending) (w' : World) : Prop :=
  ∃ A1 c1 A2 c2 ls, e = .returned (.tuple #[.slice A1 rs.length c1, .slice A2 ls.length c2]) ∧ At w' w'.heap.size 1 It.cells A1 rs ∧ AtLets w' w'.heap.size A2 ls ∧ rs.length ≤ c1 ∧ c1 ≤ maxLen ∧ ls.length ≤ c2 ∧ c2 ≤ maxLen ∧ ls.map Rl.v = vl ∧ Below w.heap.size w w'
theorem outV {rs : List Int} {vl : List V} {w : World} {e : Ending} {w' : World} (h : Out rs vl w e w') : OutV rs vl w e w' := by
  obtain ⟨v1, v2, ls, rfl, h1, h2, h3, h4, -, hb⟩ := h
  obtain ⟨A1, c1, rfl, a1, a2⟩ := OwnL.form h1
  obtain ⟨A2, c2, rfl, b1, b2⟩ := OwnL.form h2
  exact ⟨A1, c1, A2, c2, ls, rfl, OwnL.at_ h1 It.cells_len rfl, ⟨OwnL.at_ h2 Rl.cells_len rfl, fun x hx => ⟨(h3 x hx).1.1, (h3 x hx).2⟩⟩, a1, a2, b1, b2, h4, hb⟩
theorem ansR_good {vs : List U} {d : ByteArray} {ls : List ByteArray} (h : good vs d) : ansR vs d ls = reps vs d s0 ls := by unfold ansR; rw [if_pos h]
theorem ansL_good {vs : List U} {d : ByteArray} {ls : List ByteArray} (h : good vs d) : ansL vs d ls = lets vs d s0 ls := by unfold ansL; rw [if_pos h]
theorem ansR_bad {vs : List U} {d : ByteArray} {ls : List ByteArray} (h : ¬ good vs d) : ansR vs d ls = [] := by unfold ansR; rw [if_neg h]
theorem ansL_bad {vs : List U} {d : ByteArray} {ls : List ByteArray} (h : ¬ good vs d) : ansL vs d ls = [] := by unfold ansL; rw [if_neg h]
theorem ansR_len (vs : List U) (d : ByteArray) (ls : List ByteArray) : (ansR vs d ls).length ≤ ls.length := by
  by_cases h : good vs d
  · rw [ansR_good h, reps_len]; exact Nat.le_refl _
  · rw [ansR_bad h]; exact Nat.zero_le _
theorem ansL_len (vs : List U) (d : ByteArray) (ls : List ByteArray) : (ansL vs d ls).length ≤ ls.length := by
  by_cases h : good vs d
  · rw [ansL_good h]; exact lets_len _ _
  · rw [ansL_bad h]; exact Nat.zero_le _
/-- the replies to the first lines are the first replies -/
theorem ansR_part (vs : List U) (d : ByteArray) (ls : List ByteArray) (k : Nat) : (ansR vs d ls).take (ansR vs d (ls.take k)).length = ansR vs d (ls.take k) ∧ (ansR vs d (ls.take k)).length ≤ (ansR vs d ls).length := by
  by_cases h : good vs d
  · rw [ansR_good h, ansR_good h, reps_part s0 ls k]
    exact ⟨List.take_left' rfl, by simp⟩
  · rw [ansR_bad h, ansR_bad h]; simp
theorem ansL_part (vs : List U) (d : ByteArray) (ls : List ByteArray) (k : Nat) : (ansL vs d ls).take (ansL vs d (ls.take k)).length = ansL vs d (ls.take k) ∧ (ansL vs d (ls.take k)).length ≤ (ansL vs d ls).length := by
  by_cases h : good vs d
  · obtain ⟨r, hr⟩ := lets_part (us := vs) (d := d) s0 ls k
    rw [ansL_good h, ansL_good h, hr]
    exact ⟨List.take_left' rfl, by simp⟩
  · rw [ansL_bad h, ansL_bad h]; simp
theorem ansL_fine (vs : List U) (d : ByteArray) (ls : List ByteArray) : ∀ x ∈ ansL vs d ls, fine vs x := by
  by_cases h : good vs d
  · rw [ansL_good h]; exact lets_fine s0_good ls
  · rw [ansL_bad h]; intro x hx; cases hx
theorem ans_235 (vs : List U) (d : ByteArray) (ls : List ByteArray) (hn : 0 < (ansL vs d ls).length) : 235 ∈ ansR vs d ls := by
  by_cases h : good vs d
  · rw [ansR_good h]
    rw [ansL_good h] at hn
    by_cases hm : (235 : Int) ∈ reps vs d s0 ls
    · exact hm
    · rw [lets_none s0_ok (.inl (by unfold s0; decide)) ls hm] at hn
      simp at hn
  · rw [ansL_bad h] at hn; simp at hn
theorem at_take {α : Type} {f : α → List Value} {c : Nat} {w : World} {B : Nat} {A : Option Addr} {us : List α} (m : Nat) (h : At w B c f A us) : At w B c f A (us.take m) := fun hl => by
  obtain ⟨g, off, ha, hg, hc⟩ := h (by rw [List.length_take] at hl; omega)
  refine ⟨g, off, ha, hg, fun i u hu j v hv => hc i u ?_ j v hv⟩
  rw [List.getElem?_take] at hu
  split at hu
  · exact hu
  · cases hu
theorem strs_take {w : World} {B : Nat} {A : Option Addr} {us : List ByteArray} (m : Nat) (h : AtStrs w B A us) : AtStrs w B A (us.take m) := by
  refine ⟨fun hl => ?_, fun u hu => h.2 u (List.mem_of_mem_take hu)⟩
  obtain ⟨g, off, ha, hg, hc⟩ := h.1 (by rw [List.length_take] at hl; omega)
  refine ⟨g, off, ha, hg, fun i u hu => hc i u ?_⟩
  rw [List.getElem?_take] at hu
  split at hu
  · exact hu
  · cases hu
theorem lets_take {w : World} {B : Nat} {A : Option Addr} {ls : List Rl.L} (m : Nat) (h : AtLets w B A ls) : AtLets w B A (ls.take m) :=
  ⟨at_take m h.1, fun x hx => h.2 x (List.mem_of_mem_take hx)⟩
end Rn
theorem iRun_any (Au : Option Addr) (vs : List U) (cu : Nat) (d : ByteArray) (A : Option Addr) (lines : List ByteArray) (c : Nat) (w : World) (hu : AtUsers w w.heap.size Au vs) (hvl : vs.length ≤ maxLen) (hd : d.size ≤ 16777216) (h : AtStrs w w.heap.size A lines) (hl : lines.length ≤ 1048576) (hls : ∀ l ∈ lines, l.size ≤ 16777216) (m : Int) (hm : w.cell? ⟨0, 0, none⟩ = some (.int .i64 m)) {rs : List Int} {vl : List Rn.V} (hr : rs = Rn.ansR vs d lines) (hv : vl = Rn.ansL vs d lines) :
    Calls Tryz.prog 9 #[.slice Au vs.length cu, .string d, .slice A lines.length c] w (Rn.OutV rs vl w) := by
  subst hr hv
  exact (iSubmissionRun_any Au vs cu d A lines c w hu hvl hd h hl hls m hm).mono fun _ _ h => Rn.outV h
theorem sRun_any (Au : Option Addr) (vs : List U) (cu : Nat) (d : ByteArray) (A : Option Addr) (lines : List ByteArray) (c : Nat) (w : World) (hu : AtUsers w w.heap.size Au vs) (hvl : vs.length ≤ maxLen) (hd : d.size ≤ 16777216) (h : AtStrs w w.heap.size A lines) (hl : lines.length ≤ 1048576) (hls : ∀ l ∈ lines, l.size ≤ 16777216) {rs : List Int} {vl : List Rn.V} (hr : rs = Rn.ansR vs d lines) (hv : vl = Rn.ansL vs d lines) :
    Calls Tryz.prog 6 #[.slice Au vs.length cu, .string d, .slice A lines.length c] w (Rn.OutV rs vl w) := by
  subst hr hv
  exact (sSubmissionRun_any Au vs cu d A lines c w hu hvl hd h hl hls).mono fun _ _ h => Rn.outV h
end Go.Proofs.YtpjifcljkgcnlaaGreatDoor
