/- A guarded append in a region that draws; sameSub at a session with a new receiver. -/
import Derived.Test.YtnbggmmghopphaaGreatDoorLwOw
namespace Go.Proofs.YtnbggmmghopphaaGreatDoor
set_option linter.unusedVariables false
open Go.RowKit
open Us (U)

theorem step_append_anyG {P : Program} {w : World} {ops : Array Oper} {o : Oper} {a : Act} {K : Act → World → Prop} {Q : Exit → Act → World → Prop} {E : Prop} (hw : Region.wanted o (yielded ops a.tmps) = true) (s x : Operand) (t : TypeId)
    (ho : o.op = .call { callee := .builtin .append, args := #[s, x], argTypes := #[t, t] })
    (base : Nat) (e : TypeId) (i : TypeInfo) (z : Value) (size bytes : Nat) (ht : P.underlying t = some (.slice e)) (hi : P.info? e = some i) (hz : i.zero = some z)
    (hsize : i.size = size) (hby : i.bytes = bytes) (hzs : z.cells.size = size) (hsz : 0 < size)
    (v : Value) (n : Nat) (xs : List Value) (hs : a.eval s = v) (hown : w.ownsRow base e size v n xs)
    (B : Nat) (A : Option Addr) (m c : Nat) (news : List Value) (hx : a.eval x = .slice A m c) (hr : Reads w B size A m news) (h1 : ∀ u ∈ news, u.oneCell' = true)
    (h63 : n + m ≤ maxLen) (hbytes : (n + m) * bytes ≤ 140737488355328) (hbase : base ≤ w.heap.size)
    (h : ∀ v' w', w'.ownsRow base e size v' (n + m) (xs ++ news) → w.grownBy w' v.ownBlock → (v'.ownBlock = v.ownBlock ∨ v'.ownBlock = some w.heap.size) → K (a.put o.dst v') w') :
    if Region.wanted o (yielded ops a.tmps) = true then Oper.wp P o a w K Q else E := by
  rw [if_pos hw]
  exact wp_append_any w s x t ho base e i z size bytes ht hi hz hsize hby hzs hsz v n xs hs hown B A m c news hx hr h1 h63 hbytes hbase h
theorem Lw.same_new (f : ByteArray) (Ax A2 : Option Addr) (us un : List ByteArray) (x : ByteArray) (cx c2 : Nat) (w : World) {B : Nat} (hX : AtStrs w w.heap.size Ax un) (hO : St.Own w B (.slice A2 (us.length + 1) c2) (us ++ [x])) (hu : un = us ++ [x]) (hs : ∀ u ∈ us, u.size ≤ maxLen) (hx : x.size ≤ 8) (h3 : us.length ≤ 3) :
    Calls Tryz.prog 47 #[.agg #[.int .i64 4, .string f, .slice Ax un.length cx, .string Sm.e0], .agg #[.int .i64 4, .string f, .slice A2 (us.length + 1) c2, .string ⟨#[]⟩]] w fun e w' => e = .returned (.bool true) ∧ Below w.heap.size w w' := by
  have hl : un.length = us.length + 1 := by rw [hu]; simp
  have hO2 : AtStrs w w.heap.size A2 un := by
    rw [hu]
    exact Lw.strs_own hO (by simp) (fun u h => by
      rcases List.mem_append.1 h with h | h
      · exact hs u h
      · rw [List.mem_singleton] at h; subst h; unfold maxLen; omega)
  have := sameSub_any 4 f Sm.e0 Ax A2 un cx c2 w hX hO2 (by rw [hl]; unfold maxLen; omega)
  rw [hl] at this ⊢
  exact this
end Go.Proofs.YtnbggmmghopphaaGreatDoor
