/- Plain facts on grants. No program. -/
import Derived.Test.YtkmaandeljancaaOrdPlain
import Derived.Test.YtkmaandeljancaaNmPlain
namespace Go.Proofs.Ytkmaandeljancaa.Ac
set_option linter.unusedVariables false

structure G where
  user : ByteArray
  rights : Int
def valid (u : G) : Bool := Nm.nameOk u.user.data.toList && decide (1 ≤ u.rights ∧ u.rights ≤ 63)
/-- is element i in order, and valid? -/
def itemOk (us : List G) (i : Nat) : Bool :=
  match us[i]? with
  | some u => valid u && (i == 0 || match us[i - 1]? with | some p => slt p.user u.user | none => true)
  | none => true
def okTo (us : List G) : Nat → Bool
  | 0 => true
  | k + 1 => okTo us k && itemOk us k
def aclOk (us : List G) : Bool := decide (us.length ≤ 4) && okTo us us.length

theorem okTo_succ (us : List G) (k : Nat) : okTo us (k + 1) = (okTo us k && itemOk us k) := rfl
theorem okTo_mono {us : List G} {k : Nat} (h : okTo us k = false) : ∀ n, k ≤ n → okTo us n = false := by
  intro n hn
  obtain ⟨d, rfl⟩ : ∃ d, n = k + d := ⟨n - k, by omega⟩
  induction d with
  | zero => exact h
  | succ d ih => rw [← Nat.add_assoc, okTo_succ, ih (by omega)]; rfl
theorem aclOk_stop {us : List G} {k : Nat} (hk : k < us.length) (h : itemOk us k = false) : aclOk us = false := by
  unfold aclOk
  rw [okTo_mono (k := k + 1) (by rw [okTo_succ, h]; simp) us.length (by omega)]; simp
theorem aclOk_size {us : List G} (h : ¬ us.length ≤ 4) : aclOk us = false := by
  unfold aclOk; simp [h]
theorem aclOk_all {us : List G} (h : okTo us us.length = true) : aclOk us = decide (us.length ≤ 4) := by
  unfold aclOk; rw [h]; simp
theorem valid_of {u : G} (h1 : Nm.nameOk u.user.data.toList = true) (h4 : 1 ≤ u.rights ∧ u.rights ≤ 63) : valid u = true := by
  unfold valid; rw [h1]; simp [h4]
theorem valid_no1 {u : G} (h1 : Nm.nameOk u.user.data.toList = false) : valid u = false := by unfold valid; rw [h1]; rfl
theorem valid_no4 {u : G} (h : ¬ (1 ≤ u.rights ∧ u.rights ≤ 63)) : valid u = false := by unfold valid; simp [h]
theorem valid_ne {u : G} (h : valid u = true) : u.user.toList ≠ [] := by
  unfold valid at h
  simp only [Bool.and_eq_true] at h
  have := Nm.nameOk_len h.1
  intro e
  rw [Go.ByteArray.toList_eq] at e
  rw [e] at this
  simp at this

/-- the name ahead of element k -/
def prevName (us : List G) : Nat → ByteArray
  | 0 => ⟨#[]⟩
  | k + 1 => match us[k]? with | some p => p.user | none => ⟨#[]⟩
theorem prevName_succ {us : List G} {k : Nat} {u : G} (h : us[k]? = some u) : prevName us (k + 1) = u.user := by
  show (match us[k]? with | some p => p.user | none => ⟨#[]⟩) = u.user
  rw [h]
theorem slt_empty {a : ByteArray} (h : a.toList ≠ []) : slt ⟨#[]⟩ a = true := by
  unfold slt
  have e : (ByteArray.mk #[]).toList = [] := by rw [Go.ByteArray.toList_eq]
  rw [e]
  cases hl : a.toList with
  | nil => exact absurd hl h
  | cons x l => rfl
theorem itemOk_prev {us : List G} {k : Nat} {u : G} (h : us[k]? = some u) (hv : valid u = true) : itemOk us k = slt (prevName us k) u.user := by
  unfold itemOk
  rw [h]
  cases k with
  | zero => simp [hv, prevName, slt_empty (valid_ne hv)]
  | succ k =>
    have hk : k < us.length := by
      have := (List.getElem?_eq_some_iff.1 h).1
      omega
    simp [hv, prevName, List.getElem?_eq_getElem hk]
theorem itemOk_bad {us : List G} {k : Nat} {u : G} (h : us[k]? = some u) (hv : valid u = false) : itemOk us k = false := by
  unfold itemOk
  rw [h]; simp [hv]
theorem itemOk_less {us : List G} {k : Nat} {u : G} (h : us[k]? = some u) (hv : slt (prevName us k) u.user = false) : itemOk us k = false := by
  cases hw : valid u
  · exact itemOk_bad h hw
  · rw [itemOk_prev h hw]; exact hv

end Go.Proofs.Ytkmaandeljancaa.Ac
