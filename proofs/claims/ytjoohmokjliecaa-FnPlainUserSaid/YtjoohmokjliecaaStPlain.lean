/- Plain facts on lists of names (receivers). No program. -/
import Derived.Test.YtjoohmokjliecaaNmPlain
import Derived.Test.YtjoohmokjliecaaOrdPlain
namespace Go.Proofs.Ytjoohmokjliecaa.St
set_option linter.unusedVariables false

def has (l : List ByteArray) (s : ByteArray) : Bool := l.any fun x => x.toList == s.toList
def itemOk (ss : List ByteArray) (i : Nat) : Bool :=
  match ss[i]? with
  | some s => Nm.nameOk s.data.toList && !has (ss.take i) s
  | none => true
def okTo (ss : List ByteArray) : Nat → Bool
  | 0 => true
  | k + 1 => okTo ss k && itemOk ss k
/-- names, each once, no more than may be -/
def namesOk (ss : List ByteArray) : Bool := decide (ss.length ≤ 3) && okTo ss ss.length

theorem okTo_succ (us : List ByteArray) (k : Nat) : okTo us (k + 1) = (okTo us k && itemOk us k) := rfl
theorem okTo_mono {us : List ByteArray} {k : Nat} (h : okTo us k = false) : ∀ n, k ≤ n → okTo us n = false := by
  intro n hn
  obtain ⟨d, rfl⟩ : ∃ d, n = k + d := ⟨n - k, by omega⟩
  induction d with
  | zero => exact h
  | succ d ih => rw [← Nat.add_assoc, okTo_succ, ih (by omega)]; rfl
theorem stop {us : List ByteArray} {k : Nat} (hk : k < us.length) (h : itemOk us k = false) : okTo us us.length = false :=
  okTo_mono (k := k + 1) (by rw [okTo_succ, h]; simp) us.length (by omega)
theorem namesOk_stop {us : List ByteArray} {k : Nat} (hk : k < us.length) (h : itemOk us k = false) : namesOk us = false := by
  unfold namesOk
  rw [stop hk h]; simp
theorem namesOk_size {us : List ByteArray} (h : ¬ us.length ≤ 3) : namesOk us = false := by
  unfold namesOk; simp [h]
theorem namesOk_all {us : List ByteArray} (h : okTo us us.length = true) : namesOk us = decide (us.length ≤ 3) := by
  unfold namesOk; rw [h]; simp
theorem item_no1 {us : List ByteArray} {k : Nat} {s : ByteArray} (h : us[k]? = some s) (hn : Nm.nameOk s.data.toList = false) : itemOk us k = false := by
  unfold itemOk; rw [h]; simp [hn]
theorem item_is {us : List ByteArray} {k : Nat} {s : ByteArray} (h : us[k]? = some s) (hn : Nm.nameOk s.data.toList = true) : itemOk us k = !has (us.take k) s := by
  unfold itemOk; rw [h]; simp [hn]
theorem has_yes {us : List ByteArray} {nm s : ByteArray} {k : Nat} (h : has us nm = (us.drop k).any fun x => x.toList == nm.toList) (hu : us[k]? = some s) (hn : (s.toList == nm.toList) = true) : has us nm = true := by
  have hk : k < us.length := (List.getElem?_eq_some_iff.1 hu).1
  have e : us[k] = s := (List.getElem?_eq_some_iff.1 hu).2
  rw [h, List.drop_eq_getElem_cons hk, e, List.any_cons, hn]; rfl
theorem has_next {us : List ByteArray} {nm s : ByteArray} {k : Nat} (h : has us nm = (us.drop k).any fun x => x.toList == nm.toList) (hu : us[k]? = some s) (hn : (s.toList == nm.toList) = false) : has us nm = (us.drop (k + 1)).any fun x => x.toList == nm.toList := by
  have hk : k < us.length := (List.getElem?_eq_some_iff.1 hu).1
  have e : us[k] = s := (List.getElem?_eq_some_iff.1 hu).2
  rw [h, List.drop_eq_getElem_cons hk, e, List.any_cons, hn]; rfl
theorem has_end {us : List ByteArray} {nm : ByteArray} (h : has us nm = (us.drop us.length).any fun x => x.toList == nm.toList) : has us nm = false := by
  rw [h, List.drop_length]; rfl

end Go.Proofs.Ytjoohmokjliecaa.St
