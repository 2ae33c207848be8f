/- Strings that come in as plain data: sizes, copies and comparison (szStringS, toStringS, eqStringS). -/
import Derived.Test.YtnbggmmghopphaaKt
import Derived.Test.YtnbggmmghopphaaStW
import Derived.Deep.LoopGhost
import Derived.Deep.RegionWith
import Derived.BigQuiet
namespace Go.Proofs.Ytnbggmmghopphaa
set_option linter.unusedVariables false
open Go.RowKit Go.ChangeShapes Go.WideShapes Go.Deep

def St.cells (u : ByteArray) : List Value := [.string u]
theorem St.cells_len (u : ByteArray) : (St.cells u).length = 1 := rfl
theorem at_strs {w : World} {B : Nat} {A : Option Addr} {us : List ByteArray} (h : At w B 1 St.cells A us) (hs : ∀ u ∈ us, u.size ≤ maxLen) : AtStrs w B A us := by
  refine ⟨fun hl => ?_, hs⟩
  obtain ⟨g, off, ha, hlt, hc⟩ := h hl
  exact ⟨g, off, ha, hlt, fun i u hu => by simpa using hc i u hu 0 _ rfl⟩
theorem str_info : (Try.prog.info? 9).map (fun i => (i.zero, i.size, i.bytes)) = some (some (.string ⟨#[]⟩), 1, 16) := by kernel_rfl

theorem AtStrs.setCell {w : World} {B : Nat} {A : Option Addr} {us : List ByteArray} {p : Addr} (h : AtStrs w B A us) (hp : ∀ g off, A = some ⟨g, off, none⟩ → p.block ≠ g) (v : Value) : AtStrs (w.setCell p v) B A us := by
  refine ⟨fun hl => ?_, h.2⟩
  obtain ⟨g, off, ha, hlt, hc⟩ := h.1 hl
  exact ⟨g, off, ha, hlt, fun i u hu => by rw [World.cell?_setCell_other w p _ v (fun e => hp g off ha (by rw [e]))]; exact hc i u hu⟩


def St.zero : ByteArray := ⟨#[]⟩
/-- the rows after k rounds of copying -/
def St.part (us : List ByteArray) (k : Nat) : List ByteArray := us.take k ++ List.replicate (us.length - k) St.zero
theorem St.part_len (us : List ByteArray) (k : Nat) (hk : k ≤ us.length) : (St.part us k).length = us.length := by
  unfold St.part; rw [List.length_append, List.length_take, List.length_replicate]; omega
theorem St.part_get (us : List ByteArray) (k : Nat) (hk : k < us.length) : (St.part us k)[k]? = some St.zero := by
  unfold St.part
  rw [List.getElem?_append_right (by rw [List.length_take]; omega), List.length_take, List.getElem?_replicate, if_pos (by omega)]
theorem St.part_set (us : List ByteArray) (k : Nat) (u : ByteArray) (hu : us[k]? = some u) : (St.part us k).set k u = St.part us (k + 1) := by
  have hk : k < us.length := (List.getElem?_eq_some_iff.1 hu).1
  apply List.ext_getElem?
  intro j
  rw [List.getElem?_set]
  unfold St.part
  by_cases h1 : k = j
  · subst h1
    rw [if_pos rfl, if_pos (by rw [List.length_append, List.length_take, List.length_replicate]; omega), List.getElem?_append_left (by rw [List.length_take]; omega), List.getElem?_take, if_pos (by omega), hu]
  · rw [if_neg h1]
    rcases Nat.lt_or_ge j k with h2 | h2
    · rw [List.getElem?_append_left (by rw [List.length_take]; omega), List.getElem?_append_left (by rw [List.length_take]; omega), List.getElem?_take, List.getElem?_take, if_pos h2, if_pos (by omega)]
    · rw [List.getElem?_append_right (by rw [List.length_take]; omega), List.getElem?_append_right (by rw [List.length_take]; omega), List.length_take, List.length_take, List.getElem?_replicate, List.getElem?_replicate]
      by_cases h3 : j < us.length
      · rw [if_pos (by omega), if_pos (by omega)]
      · rw [if_neg (by omega), if_neg (by omega)]
theorem St.part_zero (us : List ByteArray) : St.part us 0 = List.replicate us.length St.zero := by unfold St.part; simp
theorem St.part_all (us : List ByteArray) : St.part us us.length = us := by unfold St.part; simp


end Go.Proofs.Ytnbggmmghopphaa
