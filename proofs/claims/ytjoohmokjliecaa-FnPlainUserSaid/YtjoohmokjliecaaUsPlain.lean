/- Plain facts on users. No program. -/
import Derived.Test.YtjoohmokjliecaaOrdPlain
import Derived.Test.YtjoohmokjliecaaNmPlain
namespace Go.Proofs.Ytjoohmokjliecaa.Us
set_option linter.unusedVariables false

structure U where
  name : ByteArray
  pass : ByteArray
  quota : Int
abbrev anyoneL : List UInt8 := [97, 110, 121, 111, 110, 101]
def valid (u : U) : Bool := Nm.nameOk u.name.data.toList && !(u.name.toList == anyoneL) && Nm.nameOk u.pass.data.toList && decide (0 ≤ u.quota ∧ u.quota ≤ 200)
/-- is element i in order, and valid? -/
def itemOk (us : List U) (i : Nat) : Bool :=
  match us[i]? with
  | some u => valid u && (i == 0 || match us[i - 1]? with | some p => slt p.name u.name | none => true)
  | none => true
def okTo (us : List U) : Nat → Bool
  | 0 => true
  | k + 1 => okTo us k && itemOk us k
def usersOk (us : List U) : Bool := decide (1 ≤ us.length ∧ us.length ≤ 4) && okTo us us.length

theorem okTo_succ (us : List U) (k : Nat) : okTo us (k + 1) = (okTo us k && itemOk us k) := rfl
theorem okTo_mono {us : List U} {k : Nat} (h : okTo us k = false) : ∀ n, k ≤ n → okTo us n = false := by
  intro n hn
  obtain ⟨d, rfl⟩ : ∃ d, n = k + d := ⟨n - k, by omega⟩
  induction d with
  | zero => exact h
  | succ d ih => rw [← Nat.add_assoc, okTo_succ, ih (by omega)]; rfl
theorem usersOk_stop {us : List U} {k : Nat} (hk : k < us.length) (h : itemOk us k = false) : usersOk us = false := by
  unfold usersOk
  rw [okTo_mono (k := k + 1) (by rw [okTo_succ, h]; simp) us.length (by omega)]; simp
theorem usersOk_size {us : List U} (h : ¬ (1 ≤ us.length ∧ us.length ≤ 4)) : usersOk us = false := by
  unfold usersOk; simp [h]
theorem usersOk_all {us : List U} (h : okTo us us.length = true) : usersOk us = decide (1 ≤ us.length ∧ us.length ≤ 4) := by
  unfold usersOk; rw [h]; simp
theorem itemOk_zero {us : List U} (h : 0 < us.length) : itemOk us 0 = valid us[0] := by
  unfold itemOk; rw [List.getElem?_eq_getElem h]; simp
theorem itemOk_next {us : List U} {k : Nat} (h : k < us.length) (hk : 0 < k) : itemOk us k = (valid us[k] && slt us[k - 1].name us[k].name) := by
  unfold itemOk
  rw [List.getElem?_eq_getElem h, List.getElem?_eq_getElem (by omega : k - 1 < us.length)]
  have : (k == 0) = false := by simp; omega
  simp [this]
theorem valid_of {u : U} (h1 : Nm.nameOk u.name.data.toList = true) (h2 : (u.name.toList == anyoneL) = false) (h3 : Nm.nameOk u.pass.data.toList = true) (h4 : 0 ≤ u.quota ∧ u.quota ≤ 200) : valid u = true := by
  unfold valid; rw [h1, h2, h3]; simp [h4]
theorem valid_no1 {u : U} (h1 : Nm.nameOk u.name.data.toList = false) : valid u = false := by unfold valid; rw [h1]; rfl
theorem valid_no2 {u : U} (h : (u.name.toList == anyoneL) = true) : valid u = false := by unfold valid; rw [h]; simp
theorem valid_no3 {u : U} (h : Nm.nameOk u.pass.data.toList = false) : valid u = false := by unfold valid; rw [h]; simp
theorem valid_no4 {u : U} (h : ¬ (0 ≤ u.quota ∧ u.quota ≤ 200)) : valid u = false := by unfold valid; simp [h]
theorem valid_ne {u : U} (h : valid u = true) : u.name.toList ≠ [] := by
  unfold valid at h
  simp only [Bool.and_eq_true] at h
  have := Nm.nameOk_len h.1.1.1
  intro e
  rw [Go.ByteArray.toList_eq] at e
  rw [e] at this
  simp at this

/-- the name ahead of element k -/
def prevName (us : List U) : Nat → ByteArray
  | 0 => ⟨#[]⟩
  | k + 1 => match us[k]? with | some p => p.name | none => ⟨#[]⟩
theorem prevName_succ {us : List U} {k : Nat} {u : U} (h : us[k]? = some u) : prevName us (k + 1) = u.name := by
  show (match us[k]? with | some p => p.name | none => ⟨#[]⟩) = u.name
  rw [h]
theorem slt_empty {a : ByteArray} (h : a.toList ≠ []) : slt ⟨#[]⟩ a = true := by
  unfold slt
  have e : (ByteArray.mk #[]).toList = [] := by rw [Go.ByteArray.toList_eq]
  rw [e]
  cases hl : a.toList with
  | nil => exact absurd hl h
  | cons x l => rfl
theorem itemOk_prev {us : List U} {k : Nat} {u : U} (h : us[k]? = some u) (hv : valid u = true) : itemOk us k = slt (prevName us k) u.name := by
  unfold itemOk
  rw [h]
  cases k with
  | zero => simp [hv, prevName, slt_empty (valid_ne hv)]
  | succ k =>
    have hk : k < us.length := by
      have := (List.getElem?_eq_some_iff.1 h).1
      omega
    have e : (k + 1 == 0) = false := by simp
    simp [hv, prevName, List.getElem?_eq_getElem hk]
theorem itemOk_bad {us : List U} {k : Nat} {u : U} (h : us[k]? = some u) (hv : valid u = false) : itemOk us k = false := by
  unfold itemOk
  rw [h]; simp [hv]

theorem usersOk_set {us : List U} {k : Nat} {u : U} (hk : k < us.length) (hv : valid u = false) : usersOk (us.set k u) = false :=
  usersOk_stop (k := k) (by rw [List.length_set]; exact hk) (itemOk_bad (u := u) (by rw [List.getElem?_set_self hk]) hv)

end Go.Proofs.Ytjoohmokjliecaa.Us
