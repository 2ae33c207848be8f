/- Mailboxes, sets, keys: what both sides compute, in plain Lean. -/
import Derived.Test.YtmlmdpdboigojaaGreatDoorKyMem
import Derived.Lib.IndexMore
namespace Go.Proofs.YtmlmdpdboigojaaGreatDoor
open Go.RowKit
set_option linter.unusedVariables false

namespace Ky
def numOk (n : Int) : Bool := decide (0 ≤ n) && decide (n ≤ 99)
def spanOk (s : Sn) : Bool := numOk s.1 && numOk s.2
def setOk (ss : List Sn) : Bool := ss.all spanOk && (decide (1 ≤ ss.length) && decide (ss.length ≤ 6))
def flagsOk (n : Int) : Bool := decide (0 ≤ n) && decide (n ≤ 31)
def mailOk (m : Ml) : Bool := (decide (1 ≤ m.uid) && decide (m.uid ≤ 99)) && flagsOk m.flags && decide (m.text.size ≤ 20)
/-- the last number, if all messages are valid and their numbers ascend -/
def run : Int → List Ml → Option Int
  | last, [] => some last
  | last, m :: r => if (mailOk m && decide (last < m.uid)) = true then run m.uid r else none
def boxOk (nx : Int) (ms : List Ml) : Bool := match run 0 ms with
  | none => false
  | some l => (decide (l + 1 ≤ nx) && decide (nx ≤ 100)) && decide (ms.length ≤ 10)
theorem run_yes {last : Int} {m : Ml} {r : List Ml} (h1 : mailOk m = true) (h2 : last < m.uid) : run last (m :: r) = run m.uid r := by
  show (if (mailOk m && decide (last < m.uid)) = true then run m.uid r else none) = _
  rw [h1, decide_eq_true h2]; rfl
theorem run_no {last : Int} {m : Ml} {r : List Ml} (h : mailOk m = false ∨ m.uid ≤ last) : run last (m :: r) = none := by
  show (if (mailOk m && decide (last < m.uid)) = true then run m.uid r else none) = _
  rcases h with h | h
  · rw [h]; rfl
  · rw [decide_eq_false (by omega : ¬ last < m.uid), Bool.and_false]; rfl
theorem boxOk_none {nx : Int} {ms : List Ml} (h : run 0 ms = none) : boxOk nx ms = false := by unfold boxOk; rw [h]
theorem boxOk_some {nx l : Int} {ms : List Ml} (h : run 0 ms = some l) : boxOk nx ms = ((decide (l + 1 ≤ nx) && decide (nx ≤ 100)) && decide (ms.length ≤ 10)) := by unfold boxOk; rw [h]
theorem setOk_no {ss : List Sn} {u : Sn} (hm : u ∈ ss) (h : ¬ (0 ≤ u.1 ∧ u.1 ≤ 99) ∨ ¬ (0 ≤ u.2 ∧ u.2 ≤ 99)) : setOk ss = false := by
  cases hs : setOk ss
  · rfl
  · exfalso
    unfold setOk at hs
    simp only [Bool.and_eq_true, List.all_eq_true] at hs
    have := hs.1 u hm
    unfold spanOk numOk at this
    simp only [Bool.and_eq_true, decide_eq_true_eq] at this
    rcases h with h | h
    · exact h this.1
    · exact h this.2
theorem setOk_not {ss : List Sn} {u : Sn} (hm : u ∈ ss) (h : numOk u.1 = false ∨ numOk u.2 = false) : setOk ss = false := by
  refine setOk_no hm ?_
  rcases h with h | h
  · left; intro h2; unfold numOk at h; rw [decide_eq_true h2.1, decide_eq_true h2.2] at h; cases h
  · right; intro h2; unfold numOk at h; rw [decide_eq_true h2.1, decide_eq_true h2.2] at h; cases h
theorem setOk_off {ss : List Sn} (h : ¬ (1 ≤ ss.length ∧ ss.length ≤ 6)) : setOk ss = false := by
  cases hs : setOk ss
  · rfl
  · exfalso
    unfold setOk at hs
    simp only [Bool.and_eq_true, decide_eq_true_eq] at hs
    exact h hs.2
theorem setOk_len {ss : List Sn} (h : ∀ u ∈ ss, spanOk u = true) : setOk ss = (decide (1 ≤ ss.length) && decide (ss.length ≤ 6)) := by
  unfold setOk
  rw [List.all_eq_true.2 h, Bool.true_and]
/-- is n a single flag? -/
def flagOne (n : Int) : Bool := n == 1 || n == 2 || n == 4 || n == 8 || n == 16
theorem and_tab : ∀ o, o < 32 → ∀ j, j < 5 → (bits BinOp.and IntKind.i64 ((o : Nat) : Int) ((2 ^ j : Nat) : Int) == ((2 ^ j : Nat) : Int)) = decide (((o : Nat) : Int) / ((2 ^ j : Nat) : Int) % 2 = 1) := by decide +kernel
theorem flag_and {a f : Int} (ha : flagsOk a = true) (hf : flagOne f = true) : (bits BinOp.and IntKind.i64 a f == f) = decide (a / f % 2 = 1) := by
  unfold flagsOk at ha
  simp at ha
  obtain ⟨o, rfl⟩ : ∃ o : Nat, a = (o : Int) := ⟨a.toNat, by omega⟩
  have ho : o < 32 := by omega
  unfold flagOne at hf
  simp at hf
  rcases hf with (((rfl | rfl) | rfl) | rfl) | rfl
  · exact and_tab o ho 0 (by omega)
  · exact and_tab o ho 1 (by omega)
  · exact and_tab o ho 2 (by omega)
  · exact and_tab o ho 3 (by omega)
  · exact and_tab o ho 4 (by omega)
/-- the fields of a node; n: how many keys it has -/
def nodeOk (kind flag : Int) (text : ByteArray) (set : List Sn) (n : Nat) : Bool :=
  ((kind == 1 || flag == 0) && (kind == 2 || text.data.toList.isEmpty) && (kind == 3 || kind == 4 || set.length == 0)) &&
  (if kind = 0 then n == 0 else if kind = 1 then flagOne flag && n == 0 else if kind = 2 then Nm.nameOk text.data.toList && n == 0 else if kind = 3 ∨ kind = 4 then setOk set && n == 0 else if kind = 5 then n == 1 else if kind = 6 ∨ kind = 7 then n == 2 else false)
/-- what a kind asks of its own fields -/
def inner (kind flag : Int) (text : ByteArray) (set : List Sn) (n : Nat) : Bool :=
  if kind = 0 then n == 0 else if kind = 1 then flagOne flag && n == 0 else if kind = 2 then Nm.nameOk text.data.toList && n == 0 else if kind = 3 ∨ kind = 4 then setOk set && n == 0 else if kind = 5 then n == 1 else if kind = 6 ∨ kind = 7 then n == 2 else false
section
variable {kind flag : Int} {text : ByteArray} {set : List Sn} {n : Nat}
theorem node_flag (h1 : (kind == 1) = false) (h : (flag == 0) = false) : nodeOk kind flag text set n = false := by unfold nodeOk; rw [h1, h]; rfl
theorem node_text (h1 : (kind == 2) = false) (h : text.data.toList.isEmpty = false) : nodeOk kind flag text set n = false := by unfold nodeOk; rw [h1, h]; simp
theorem node_set (h1 : (kind == 3) = false) (h2 : (kind == 4) = false) (h : 0 < set.length) : nodeOk kind flag text set n = false := by
  have : (set.length == 0) = false := by simp; intro e; rw [e] at h; simp at h
  unfold nodeOk; rw [h1, h2, this]; simp
theorem node_in (h1 : (kind == 1) = true ∨ (flag == 0) = true) (h2 : (kind == 2) = true ∨ text.data.toList.isEmpty = true) (h3 : (kind == 3 || kind == 4) = true ∨ set.length = 0) : nodeOk kind flag text set n = inner kind flag text set n := by
  have e1 : (kind == 1 || flag == 0) = true := by rcases h1 with h | h <;> rw [h] <;> simp
  have e2 : (kind == 2 || text.data.toList.isEmpty) = true := by rcases h2 with h | h <;> rw [h] <;> simp
  have e3 : (kind == 3 || kind == 4 || set.length == 0) = true := by rcases h3 with h | h <;> rw [h] <;> simp
  unfold nodeOk inner
  rw [e1, e2, e3, Bool.and_self, Bool.and_self, Bool.true_and]
theorem node_else (h0 : (kind == 0) = false) (h1 : (kind == 1) = false) (h2 : (kind == 2) = false) (h3 : (kind == 3) = false) (h4 : (kind == 4) = false) (h5 : (kind == 5) = false) (h6 : (kind == 6) = false) (h7 : (kind == 7) = false) : nodeOk kind flag text set n = false := by
  simp at h0 h1 h2 h3 h4 h5 h6 h7
  unfold nodeOk
  simp [h0, h1, h2, h3, h4, h5, h6, h7]
end
theorem nat_beq0 (n : Nat) : ((n : Int) == 0) = (n == 0) := by rw [Bool.eq_iff_iff, beq_iff_eq, beq_iff_eq]; omega
theorem nat_beq1 (n : Nat) : ((n : Int) == 1) = (n == 1) := by rw [Bool.eq_iff_iff, beq_iff_eq, beq_iff_eq]; omega
theorem nat_beq2 (n : Nat) : ((n : Int) == 2) = (n == 2) := by rw [Bool.eq_iff_iff, beq_iff_eq, beq_iff_eq]; omega
/-- does a set, whose last number is given, have n? -/
def bound (n last : Int) : Int := if n = 0 then last else n
def has (ss : List Sn) (last n : Int) : Bool := ss.any fun s => decide (min (bound s.1 last) (bound s.2 last) ≤ n) && decide (n ≤ max (bound s.1 last) (bound s.2 last))
theorem has_cons (s : Sn) (r : List Sn) (last n : Int) : has (s :: r) last n = ((decide (min (bound s.1 last) (bound s.2 last) ≤ n) && decide (n ≤ max (bound s.1 last) (bound s.2 last))) || has r last n) := by
  unfold has
  rw [List.any_cons]
/-- the number of the last message -/
def lastUid (ms : List Ml) : Int := (ms.getLast?.map Ml.uid).getD 0
end Ky
/-- are all nodes valid? -/
def Kt.all : Nat → Kt → Bool
  | 0, _ => false
  | d + 1, t => t.keys.all (Kt.all d) && Ky.nodeOk t.kind t.flag t.text t.set t.keys.length
def Kt.nodes : Nat → Kt → Nat
  | 0, _ => 0
  | d + 1, t => 1 + (t.keys.map (Kt.nodes d)).sum
def Kt.ok (d : Nat) (t : Kt) : Bool := Kt.all d t && decide (Kt.nodes d t ≤ 9)
/-- does a key find message i? -/
def Kt.finds (ms : List Ml) (m : Ml) (i : Nat) : Nat → Kt → Bool
  | 0, _ => true
  | d + 1, t =>
    if t.kind = 1 then decide (m.flags / t.flag % 2 = 1)
    else if t.kind = 2 then Lib.contains m.text.data.toList t.text.data.toList
    else if t.kind = 3 then Ky.has t.set ms.length ((i : Int) + 1)
    else if t.kind = 4 then Ky.has t.set (Ky.lastUid ms) m.uid
    else if t.kind = 5 then (match t.keys with | [a] => !Kt.finds ms m i d a | _ => true)
    else if t.kind = 6 then (match t.keys with | [a, b] => Kt.finds ms m i d a && Kt.finds ms m i d b | _ => true)
    else if t.kind = 7 then (match t.keys with | [a, b] => Kt.finds ms m i d a || Kt.finds ms m i d b | _ => true)
    else true
/-- the places that a search finds -/
def Ky.places (ms : List Ml) (d : Nat) (t : Kt) (k : Nat) : List Int := ((List.range k).filter fun i => match ms[i]? with | some m => Kt.finds ms m i d t | none => false).map fun i => ((i + 1 : Nat) : Int)
theorem Ky.places_yes {ms : List Ml} {d : Nat} {t : Kt} {k : Nat} {m : Ml} (h : ms[k]? = some m) (hf : Kt.finds ms m k d t = true) : Ky.places ms d t (k + 1) = Ky.places ms d t k ++ [((k + 1 : Nat) : Int)] := by
  unfold Ky.places
  rw [List.range_succ, List.filter_append, List.map_append]
  simp [h, hf]
theorem Ky.places_no {ms : List Ml} {d : Nat} {t : Kt} {k : Nat} {m : Ml} (h : ms[k]? = some m) (hf : Kt.finds ms m k d t = false) : Ky.places ms d t (k + 1) = Ky.places ms d t k := by
  unfold Ky.places
  rw [List.range_succ, List.filter_append, List.map_append]
  simp [h, hf]
theorem Ky.places_len (ms : List Ml) (d : Nat) (t : Kt) (k : Nat) : (Ky.places ms d t k).length ≤ k := by
  unfold Ky.places
  rw [List.length_map]
  refine Nat.le_trans (List.length_filter_le _ _) ?_
  rw [List.length_range]; exact Nat.le_refl _
/-- what SearchBox answers -/
def Ky.search (nx : Int) (ms : List Ml) (d : Nat) (t : Kt) : List Int := if (Ky.boxOk nx ms && Kt.ok d t) = true then Ky.places ms d t ms.length else []
end Go.Proofs.YtmlmdpdboigojaaGreatDoor
