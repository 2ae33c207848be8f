/- The nodes that the program builds out of a key. -/
import Derived.Test.YtmlmdpdboigojaaGreatDoorKyAll
import Derived.Test.YtmlmdpdboigojaaGreatDoorKyFw
namespace Go.Proofs.YtmlmdpdboigojaaGreatDoor
set_option linter.unusedVariables false
open Go.RowKit

inductive Nd where
  | all
  | has (f : Int)
  | text (t : ByteArray)
  | place (A : Option Addr) (set : List Sn) (c : Nat)
  | uid (A : Option Addr) (set : List Sn) (c : Nat)
  | not (n : Nd)
  | pair (both : Bool) (l r : Nd)
def Nd.val : Nd → Value
  | .all => .iface 87 (.agg #[])
  | .has f => .iface 89 (.agg #[.int .i64 f])
  | .text t => .iface 92 (.agg #[.string t])
  | .place A set c => .iface 94 (.agg #[.slice A set.length c])
  | .uid A set c => .iface 96 (.agg #[.slice A set.length c])
  | .not n => .iface 100 (.agg #[n.val])
  | .pair both l r => .iface 102 (.agg #[.bool both, l.val, r.val])
/-- the node of a valid key -/
def Kx.nd : Nat → Kx → Nd
  | 0, _ => .all
  | d + 1, x =>
    if x.kind = 1 then .has x.flag
    else if x.kind = 2 then .text x.text
    else if x.kind = 3 then .place x.A x.set x.c
    else if x.kind = 4 then .uid x.A x.set x.c
    else if x.kind = 5 then (match x.keys with | [a] => .not (Kx.nd d a) | _ => .all)
    else if x.kind = 6 ∨ x.kind = 7 then (match x.keys with | [a, b] => .pair (decide (x.kind = 6)) (Kx.nd d a) (Kx.nd d b) | _ => .all)
    else .all
namespace Ky
variable {flag : Int} {text : ByteArray} {set : List Sn} {n : Nat}
theorem leaf0 : nodeOk 0 flag text set n = (n == 0 && plain flag text set.length) := by
  unfold nodeOk plain
  generalize (flag == 0) = a
  generalize text.data.toList.isEmpty = b
  generalize (set.length == 0) = c
  show (((false || a) && (false || b) && (false || false || c)) && (n == 0)) = _
  generalize (n == 0) = e
  cases a <;> cases b <;> cases c <;> cases e <;> rfl
theorem leaf1 : nodeOk 1 flag text set n = (flagOne flag && (n == 0 && plain 0 text set.length)) := by
  unfold nodeOk plain
  generalize flagOne flag = a
  generalize text.data.toList.isEmpty = b
  generalize (set.length == 0) = c
  show (((true || flag == 0) && (false || b) && (false || false || c)) && (a && n == 0)) = _
  generalize (n == 0) = e
  cases a <;> cases b <;> cases c <;> cases e <;> rfl
theorem leaf2 : nodeOk 2 flag text set n = (Nm.nameOk text.data.toList && (n == 0 && plain flag ⟨#[]⟩ set.length)) := by
  unfold nodeOk plain
  generalize (flag == 0) = a
  generalize text.data.toList.isEmpty = b
  generalize (set.length == 0) = c
  show (((false || a) && (true || b) && (false || false || c)) && (Nm.nameOk text.data.toList && n == 0)) = _
  generalize (n == 0) = e
  generalize Nm.nameOk text.data.toList = f
  cases a <;> cases f <;> cases c <;> cases e <;> rfl
theorem leaf3 : nodeOk 3 flag text set n = (setOk set && (n == 0 && plain flag text 0)) := by
  unfold nodeOk plain
  generalize (flag == 0) = a
  generalize text.data.toList.isEmpty = b
  generalize (set.length == 0) = c
  show (((false || a) && (false || b) && (true || false || c)) && (setOk set && n == 0)) = _
  generalize (n == 0) = e
  generalize setOk set = f
  cases a <;> cases b <;> cases f <;> cases e <;> rfl
theorem leaf4 : nodeOk 4 flag text set n = (setOk set && (n == 0 && plain flag text 0)) := by
  unfold nodeOk plain
  generalize (flag == 0) = a
  generalize text.data.toList.isEmpty = b
  generalize (set.length == 0) = c
  show (((false || a) && (false || b) && (false || true || c)) && (setOk set && n == 0)) = _
  generalize (n == 0) = e
  generalize setOk set = f
  cases a <;> cases b <;> cases f <;> cases e <;> rfl
theorem branch5 : nodeOk 5 flag text set n = (n == 1 && plain flag text set.length) := by
  unfold nodeOk plain
  generalize (flag == 0) = a
  generalize text.data.toList.isEmpty = b
  generalize (set.length == 0) = c
  show (((false || a) && (false || b) && (false || false || c)) && (n == 1)) = _
  generalize (n == 1) = e
  cases a <;> cases b <;> cases c <;> cases e <;> rfl
theorem branch6 : nodeOk 6 flag text set n = (n == 2 && plain flag text set.length) := by
  unfold nodeOk plain
  generalize (flag == 0) = a
  generalize text.data.toList.isEmpty = b
  generalize (set.length == 0) = c
  show (((false || a) && (false || b) && (false || false || c)) && (n == 2)) = _
  generalize (n == 2) = e
  cases a <;> cases b <;> cases c <;> cases e <;> rfl
theorem branch7 : nodeOk 7 flag text set n = (n == 2 && plain flag text set.length) := by
  unfold nodeOk plain
  generalize (flag == 0) = a
  generalize text.data.toList.isEmpty = b
  generalize (set.length == 0) = c
  show (((false || a) && (false || b) && (false || false || c)) && (n == 2)) = _
  generalize (n == 2) = e
  cases a <;> cases b <;> cases c <;> cases e <;> rfl
/-- a leaf is valid if its fields are and there is room -/
theorem leaf_ok {d r : Nat} {x : Kx} (h : Ky.nodeOk x.kind x.flag x.text x.set x.keys.length = true → x.keys.length = 0) (hr : 1 ≤ r) : (Kt.all (d + 1) (Kx.v (d + 1) x) && decide (Kt.nodes (d + 1) (Kx.v (d + 1) x) ≤ r)) = Ky.nodeOk x.kind x.flag x.text x.set x.keys.length := by
  rw [Kt.all_succ, Kt.nodes_succ]
  cases hn : Ky.nodeOk x.kind x.flag x.text x.set x.keys.length
  · rw [Bool.and_false, Bool.false_and]
  · have h0 := List.eq_nil_of_length_eq_zero (h hn)
    rw [h0]
    simp
    exact hr
theorem br1 {d q : Nat} {x a : Kx} (hk : x.keys = [a]) (hn : Ky.nodeOk x.kind x.flag x.text x.set x.keys.length = true) : (Kt.all (d + 1) (Kx.v (d + 1) x) && decide (Kt.nodes (d + 1) (Kx.v (d + 1) x) ≤ q + 1)) = (Kt.all d (Kx.v d a) && decide (Kt.nodes d (Kx.v d a) ≤ q)) := by
  rw [Kt.all_succ, Kt.nodes_succ, hn, hk, Bool.and_true]
  have e : decide (1 + ([a].map fun y => Kt.nodes d (Kx.v d y)).sum ≤ q + 1) = decide (Kt.nodes d (Kx.v d a) ≤ q) := by
    rw [decide_eq_decide]; simp; omega
  rw [e]; simp
theorem br2 {d q : Nat} {x a b : Kx} (hk : x.keys = [a, b]) (hn : Ky.nodeOk x.kind x.flag x.text x.set x.keys.length = true) : (Kt.all (d + 1) (Kx.v (d + 1) x) && decide (Kt.nodes (d + 1) (Kx.v (d + 1) x) ≤ q + 1)) =
    ((Kt.all d (Kx.v d a) && decide (Kt.nodes d (Kx.v d a) ≤ q)) && (Kt.all d (Kx.v d b) && decide (Kt.nodes d (Kx.v d b) ≤ q - Kt.nodes d (Kx.v d a)))) := by
  rw [Kt.all_succ, Kt.nodes_succ, hn, hk, Bool.and_true]
  simp only [List.map_cons, List.map_nil, List.sum_cons, List.sum_nil, List.all_cons, List.all_nil, Bool.and_true]
  generalize Kt.nodes d (Kx.v d a) = na
  generalize Kt.nodes d (Kx.v d b) = nb
  generalize Kt.all d (Kx.v d a) = aa
  generalize Kt.all d (Kx.v d b) = ab
  cases aa
  · simp
  · cases ab
    · simp
    · rw [Bool.eq_iff_iff]
      simp
      omega
theorem br_no {d q : Nat} {x : Kx} (hn : Ky.nodeOk x.kind x.flag x.text x.set x.keys.length = false) : (Kt.all (d + 1) (Kx.v (d + 1) x) && decide (Kt.nodes (d + 1) (Kx.v (d + 1) x) ≤ q)) = false := by
  rw [Kt.all_succ, hn, Bool.and_false, Bool.false_and]
end Ky
theorem Ky.len_no {n : Nat} (h : ¬ n = 0) : (n == 0) = false := by simp [h]
/-- the room's variable holds r; all else lies as it lay -/
def Ky.Rm (p : Nat) (r : Int) (w w' : World) : Prop := w'.heap[p]? = some (.cells #[.int .i64 r] 3 (0, 0)) ∧ w.grownBy w' (some p)
theorem Ky.Rm.below {p : Nat} {r : Int} {w w1 w2 : World} (h : Ky.Rm p r w w1) (hb : Below w1.heap.size w1 w2) : Ky.Rm p r w w2 :=
  ⟨(hb.block p (Array.getElem?_eq_some_iff.1 h.1).1).trans h.1, grown_trans h.2 (grown_below hb)⟩
theorem Ky.Rm.set {p : Nat} {r : Int} {w w1 : World} (h : Ky.Rm p r w w1) {a : Addr} (h1 : w.heap.size ≤ a.block) (h2 : p ≠ a.block) (v : Value) : Ky.Rm p r w (w1.setCell a v) :=
  ⟨(Below.heap_setCell w1 a v p h2).trans h.1, grown_setNew h.2 h1 v⟩
/-- what building a key gives -/
def Ky.Bd (d : Nat) (x : Kx) (p r : Nat) (w : World) (e : Ending) (w' : World) : Prop :=
  ∃ (v : Value) (ok : Bool) (r' : Int), e = .returned (.tuple #[v, .bool ok]) ∧ ok = (Kt.all d (Kx.v d x) && decide (Kt.nodes d (Kx.v d x) ≤ r)) ∧ (ok = true → v = (Kx.nd d x).val ∧ r' = ((r - Kt.nodes d (Kx.v d x) : Nat) : Int)) ∧ Ky.Rm p r' w w'
end Go.Proofs.YtmlmdpdboigojaaGreatDoor
