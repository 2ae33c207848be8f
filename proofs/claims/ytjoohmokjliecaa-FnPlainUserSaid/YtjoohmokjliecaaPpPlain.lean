/- The user and the password of a text: plain Lean. -/
import Derived.Test.YtjoohmokjliecaaB6Plain
import Derived.Test.YtjoohmokjliecaaCtPlain
import Derived.Test.YtjoohmokjliecaaNmPlain
namespace Go.Proofs.Ytjoohmokjliecaa
set_option linter.unusedVariables false
namespace Pp
/-- of the bytes -/
def parts (s : List UInt8) : Option (List UInt8 × List UInt8) := match Ct.cut 0 s with
  | [p0, p1, p2] => if p0 = [] ∧ Nm.nameOk p1 = true ∧ Nm.nameOk p2 = true then some (p1, p2) else none
  | _ => none
/-- of the text -/
def parse (t : List UInt8) : Option (List UInt8 × List UInt8) := match B6.decode t with
  | some s => parts s
  | none => none
theorem parts_len {s : List UInt8} (h : (Ct.cut 0 s).length ≠ 3) : parts s = none := by
  unfold parts
  split
  · rename_i e; rw [e] at h; exact absurd rfl h
  · rfl
theorem parts_three {s p0 p1 p2 : List UInt8} (h : Ct.cut 0 s = [p0, p1, p2]) : parts s = if p0 = [] ∧ Nm.nameOk p1 = true ∧ Nm.nameOk p2 = true then some (p1, p2) else none := by
  unfold parts
  rw [h]
end Pp
end Go.Proofs.Ytjoohmokjliecaa
