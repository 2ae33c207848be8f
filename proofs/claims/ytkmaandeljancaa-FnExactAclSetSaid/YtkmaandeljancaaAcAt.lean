/- What a look-up in the map of grants gives. -/
import Derived.Test.YtkmaandeljancaaAcMap
import Derived.Maps.Views
import Derived.Maps.OwnOps
namespace Go.Proofs.Ytkmaandeljancaa
set_option linter.unusedVariables false
open Go.RowKit Go.Maps
open Ac (G)

/-- the rights of the last of the first k grants that has a name -/
def Ac.lastR (us : List G) (s : ByteArray) (k : Nat) : Int := (us.take k).foldl (fun r u => if u.user.data.toList = s.data.toList then u.rights else r) 0
theorem Ac.lastR_succ {us : List G} {s : ByteArray} {k : Nat} {u : G} (h : us[k]? = some u) : Ac.lastR us s (k + 1) = if u.user.data.toList = s.data.toList then u.rights else Ac.lastR us s k := by
  unfold Ac.lastR
  rw [List.take_add_one, h]
  simp
theorem Ac.put_map {D : DataW Unit} (h : IsMap D) (k : Lit) (d : DataW Unit) : IsMap (D.put k d) := by
  obtain ⟨es, rfl⟩ := h
  exact ⟨_, rfl⟩
theorem Ac.mapD_map (us : List G) : ∀ k, k ≤ us.length → IsMap (Ac.mapD us k)
  | 0, _ => ⟨[], rfl⟩
  | k + 1, h => by
    rw [Ac.mapD_succ (List.getElem?_eq_getElem (by omega : k < us.length))]
    exact Ac.put_map (Ac.mapD_map us k (by omega)) _ _
theorem Ac.mapD_at (us : List G) (s : ByteArray) : ∀ k, k ≤ us.length → (Ac.mapD us k).atKey (.string s.data.toList) (.lit (.int .i64 0)) = .lit (.int .i64 (Ac.lastR us s k))
  | 0, _ => rfl
  | k + 1, h => by
    have hu := List.getElem?_eq_getElem (by omega : k < us.length)
    rw [Ac.mapD_succ hu, Ac.lastR_succ hu]
    by_cases he : us[k].user.data.toList = s.data.toList
    · rw [if_pos he, he, atKey_put_same (Ac.mapD_map us k (by omega)) (by first | trivial | simp [WideAt.IsKeyLit])]
    · rw [if_neg he, atKey_put_other (fun e => he (by injection e with e; exact e.symm)), Ac.mapD_at us s k (by omega)]

end Go.Proofs.Ytkmaandeljancaa
