/- Lists of numbers and of letters: sameInts, hasInt, sameLetters of the laws. -/
import Derived.Test.YtpjifcljkgcnlaaGreatDoorSmUu
import Derived.Test.YtpjifcljkgcnlaaGreatDoorItB
import Derived.Test.YtpjifcljkgcnlaaGreatDoorRnPlain
namespace Go.Proofs.YtpjifcljkgcnlaaGreatDoor
set_option linter.unusedVariables false
open Go.RowKit

/-- a letter that lies in a row: its list lies elsewhere -/
structure Rl.L where
  f : ByteArray
  A : Option Addr
  us : List ByteArray
  c : Nat
  t : ByteArray
def Rl.cells (x : Rl.L) : List Value := [.string x.f, .slice x.A x.us.length x.c, .string x.t]
theorem Rl.cells_len (x : Rl.L) : (Rl.cells x).length = 3 := rfl
def Rl.v (x : Rl.L) : Rn.V := ⟨x.f, x.us, x.t⟩
def AtLets (w : World) (B : Nat) (A : Option Addr) (ls : List Rl.L) : Prop :=
  At w B 3 Rl.cells A ls ∧ ∀ x ∈ ls, AtStrs w B x.A x.us ∧ x.us.length ≤ 3 ∧ x.us.length ≤ x.c ∧ x.c ≤ maxLen
theorem AtLets.below {w w' : World} {B : Nat} {A : Option Addr} {ls : List Rl.L} (h : AtLets w B A ls) (hb : Below B w w') : AtLets w' B A ls :=
  ⟨h.1.below hb, fun x hx => ⟨(h.2 x hx).1.below hb, (h.2 x hx).2⟩⟩
theorem AtLets.mono {w : World} {B B' : Nat} {A : Option Addr} {ls : List Rl.L} (h : AtLets w B A ls) (hb : B ≤ B') : AtLets w B' A ls :=
  ⟨h.1.mono hb, fun x hx => ⟨(h.2 x hx).1.mono hb, (h.2 x hx).2⟩⟩



end Go.Proofs.YtpjifcljkgcnlaaGreatDoor
