/- The user and the password of a text, as the program takes them out of it: plain. -/
import Derived.Test.YtjoohmokjliecaaPpPlain
import Derived.Test.YtjoohmokjliecaaDmPlain
import Derived.Lib.IndexLaws
namespace Go.Proofs.Ytjoohmokjliecaa
set_option linter.unusedVariables false
namespace Pp
theorem nb0 : Nm.nb 0 = false := by decide
theorem parts_yes {u p : List UInt8} (hu : Nm.nameOk u = true) (hp : Nm.nameOk p = true) : parts (0 :: (u ++ 0 :: p)) = some (u, p) := by
  have h : Ct.cut 0 (0 :: (u ++ 0 :: p)) = [[], u, p] := by
    have h1 := Ct.cut_at 0 (u ++ 0 :: p) [] (by simp)
    rw [List.nil_append] at h1
    rw [h1, Ct.cut_at 0 p u (Dm.all_ne (Dm.name_all hu) nb0), Ct.cut_none 0 p (Dm.all_ne (Dm.name_all hp) nb0)]
  rw [parts_three h, if_pos ⟨rfl, hu, hp⟩]
theorem parts_inv {s u p : List UInt8} (h : parts s = some (u, p)) : s = 0 :: (u ++ 0 :: p) ∧ Nm.nameOk u = true ∧ Nm.nameOk p = true := by
  unfold parts at h
  split at h
  · rename_i p0 p1 p2 hc
    split at h
    · rename_i hk
      injection h with h
      injection h with h1 h2
      subst h1; subst h2
      obtain ⟨r, hr, hc2⟩ := Ct.double 0 hc
      obtain ⟨r2, hr2, hc3⟩ := Ct.double 0 hc2
      rw [Ct.single 0 hc3] at hr2
      rw [hk.1, List.nil_append] at hr
      exact ⟨by rw [hr, hr2], hk.2.1, hk.2.2⟩
    · cases h
  · cases h
theorem idx {u p : List UInt8} (hu : Nm.nameOk u = true) {o : Nat} (h : Lib.indexByte (u ++ 0 :: p) 0 = (o : Int)) : o = u.length := by
  obtain ⟨h1, h2⟩ := Lib.indexByte_some h
  have hne := Dm.all_ne (Dm.name_all hu) nb0
  rcases Nat.lt_trichotomy o u.length with h3 | h3 | h3
  · rw [List.getElem?_append_left h3, List.getElem?_eq_getElem h3] at h1
    injection h1 with h1
    exact absurd h1 (hne _ (List.getElem_mem _))
  · exact h3
  · exact absurd (by simp) (h2 u.length h3)
/-- no byte 0 ahead -/
theorem no1 {s : List UInt8} (h : ¬ [0] <+: s) : parts s = none := by
  cases hp : parts s with
  | none => rfl
  | some x =>
    obtain ⟨u, p⟩ := x
    obtain ⟨e, _⟩ := parts_inv hp
    exact absurd ⟨u ++ 0 :: p, by rw [e]; rfl⟩ h
theorem no2 {r : List UInt8} (h : ¬ 0 ≤ Lib.indexByte r 0) : parts (0 :: r) = none := by
  cases hp : parts (0 :: r) with
  | none => rfl
  | some x =>
    obtain ⟨u, p⟩ := x
    obtain ⟨e, _⟩ := parts_inv hp
    injection e with _ e
    have h1 : Lib.indexByte r 0 = -1 := by have := Lib.indexByte_ge r 0; omega
    have := Lib.indexByte_none h1 u.length
    rw [e] at this
    exact absurd (by simp) this
theorem no3 {r : List UInt8} {o : Nat} (h : Lib.indexByte r 0 = (o : Int)) (hn : ¬ (Nm.nameOk (r.take o) = true ∧ Nm.nameOk (r.drop (o + 1)) = true)) : parts (0 :: r) = none := by
  cases hp : parts (0 :: r) with
  | none => rfl
  | some x =>
    obtain ⟨u, p⟩ := x
    obtain ⟨e, hu, hq⟩ := parts_inv hp
    injection e with _ e
    subst e
    have := idx hu h
    subst this
    exact absurd ⟨by simpa using hu, by simpa using hq⟩ hn
theorem yes {r : List UInt8} {o : Nat} (h : Lib.indexByte r 0 = (o : Int)) (h1 : Nm.nameOk (r.take o) = true) (h2 : Nm.nameOk (r.drop (o + 1)) = true) : parts (0 :: r) = some (r.take o, r.drop (o + 1)) := by
  have h3 := (Lib.indexByte_some h).1
  have hlt := (List.getElem?_eq_some_iff.1 h3).1
  have e : r = r.take o ++ 0 :: r.drop (o + 1) := by
    conv => lhs; rw [← List.take_append_drop o r, List.drop_eq_getElem_cons hlt, (List.getElem?_eq_some_iff.1 h3).2]
  conv => lhs; rw [e]
  exact parts_yes h1 h2
end Pp
end Go.Proofs.Ytjoohmokjliecaa
