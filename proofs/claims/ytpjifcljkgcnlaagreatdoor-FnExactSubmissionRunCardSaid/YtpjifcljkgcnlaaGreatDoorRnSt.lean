/- The state of a run: replies, letters and the session's variable, each in blocks of its own type. -/
import Derived.Test.YtpjifcljkgcnlaaGreatDoorRnI
import Derived.Test.YtpjifcljkgcnlaaGreatDoorTyG
import Derived.Test.YtpjifcljkgcnlaaGreatDoorSmJl
import Derived.Test.YtpjifcljkgcnlaaGreatDoorSbX
namespace Go.Proofs.YtpjifcljkgcnlaaGreatDoor
set_option linter.unusedVariables false
open Go.RowKit
open Us (U)

section
variable {α β : Type} {E E2 : TypeId} {n n2 : Nat} {f : α → List Value} {f2 : β → List Value} {w w' : World} {B B2 : Nat} {v v2 : Value} {us : List α} {us2 : List β}
theorem Rl.grown_setCell (w : World) (p : Addr) (v : Value) : w.grownBy (w.setCell p v) (some p.block) :=
  ⟨rfl, rfl, rfl, by simp, fun i hi hne => Below.heap_setCell _ _ _ _ (fun e => hne (by rw [e]))⟩
theorem OwnL.typed (h : OwnL E n f w B v us) {q : Nat} (hq : v.ownBlock = some q) : ∃ cur, w.heap[q]? = some (.cells cur E (0, 0)) := by
  rcases h.2 with ⟨rfl, _⟩ | ⟨g, cap, cur, rfl, _, hx, _⟩
  · simp [Value.ownBlock] at hq
  · simp only [Value.ownBlock, Option.some.injEq] at hq
    subst hq
    exact ⟨cur, hx⟩
theorem OwnL.not (h : OwnL E n f w B v us) (hE : E ≠ E2) {q : Nat} {cs : Array Value} (hx : w.heap[q]? = some (.cells cs E2 (0, 0))) : v.ownBlock ≠ some q := fun hq => by
  obtain ⟨cur, hc⟩ := h.typed hq
  rw [hx] at hc
  injection hc with hc; injection hc with _ ht _
  exact hE ht.symm
theorem OwnL.keptBy (h2 : OwnL E2 n2 f2 w B2 v2 us2) (h : OwnL E n f w B v us) (hE : E ≠ E2) (hg : w.grownBy w' v.ownBlock) : OwnL E2 n2 f2 w' B2 v2 us2 :=
  World.ownsRow.kept h2 hg (by
    cases hq : v2.ownBlock with
    | none => exact .inl rfl
    | some q =>
      obtain ⟨cur, hc⟩ := h2.typed hq
      exact .inr (fun e => h.not hE hc e.symm))
theorem OwnL.setTo (h : OwnL E n f w B v us) {b : Nat} {cs : Array Value} {T : TypeId} (hb : w.heap[b]? = some (.cells cs T (0, 0))) (hE : E ≠ T) (i : Nat) (x : Value) : OwnL E n f (w.setCell ⟨b, i, none⟩ x) B v us :=
  World.ownsRow.kept (row := some b) h (Rl.grown_setCell w ⟨b, i, none⟩ x) (by
    cases hq : v.ownBlock with
    | none => exact .inl rfl
    | some q => exact .inr (fun e => by injection e with e; subst e; exact h.not hE hb hq))
theorem AtTy.keepAt {A : Option Addr} {ss : List ByteArray} (h : AtTy 0 w w.heap.size A ss) (hs : w.heap.size ≤ w'.heap.size) (hk : ∀ (g : Nat) (cs : Array Value), w.heap[g]? = some (Obj.cells cs 9 (0, 0)) → w'.heap[g]? = w.heap[g]?) : AtTy 0 w' w'.heap.size A ss := by
  refine ⟨⟨fun hl => ?_, h.1.2⟩, fun hl => ?_⟩
  all_goals
    obtain ⟨g, off, ha, hlt, hc⟩ := h.1.1 hl
    obtain ⟨g', off', cs, ha', hx, hne⟩ := h.2 hl
    rw [ha] at ha'; injection ha' with ha'; injection ha' with e1 e2
    subst e1; subst e2
    have hk2 := hk g cs hx
  · exact ⟨g, off, ha, Nat.lt_of_lt_of_le hlt hs, fun i u hu => by rw [World.cell?_of_block hk2]; exact hc i u hu⟩
  · exact ⟨g, off, cs, ha, hk2.trans hx, hne⟩
theorem AtTy.grown {A : Option Addr} {ss : List ByteArray} (h : AtTy 0 w w.heap.size A ss) (ho : OwnL E n f w B v us) (hE : E ≠ 9) (hg : w.grownBy w' v.ownBlock) : AtTy 0 w' w'.heap.size A ss :=
  h.keepAt hg.size fun g cs hx => hg.block g (Array.getElem?_eq_some_iff.1 hx).1 (fun e => ho.not hE hx e.symm)
theorem AtTy.set4 {A : Option Addr} {ss : List ByteArray} {b : Nat} {a0 a1 a2 a3 : Value} (h : AtTy 0 w w.heap.size A ss) (hb : w.heap[b]? = some (.cells #[a0, a1, a2, a3] 45 (0, 0))) (v0 v1 v2 v3 : Value) :
    AtTy 0 ((((w.setCell ⟨b, 0, none⟩ v0).setCell ⟨b, 1, none⟩ v1).setCell ⟨b, 2, none⟩ v2).setCell ⟨b, 3, none⟩ v3) ((((w.setCell ⟨b, 0, none⟩ v0).setCell ⟨b, 1, none⟩ v1).setCell ⟨b, 2, none⟩ v2).setCell ⟨b, 3, none⟩ v3).heap.size A ss := by
  have hk : ∀ (g : Nat) (cs : Array Value), w.heap[g]? = some (Obj.cells cs 9 (0, 0)) → ((((w.setCell ⟨b, 0, none⟩ v0).setCell ⟨b, 1, none⟩ v1).setCell ⟨b, 2, none⟩ v2).setCell ⟨b, 3, none⟩ v3).heap[g]? = w.heap[g]? := fun g cs hx => res_set4 (by
    rintro rfl
    rw [hb] at hx
    injection hx with hx; injection hx with _ ht _
    exact absurd ht (by decide)) v0 v1 v2 v3
  have hs : w.heap.size ≤ ((((w.setCell ⟨b, 0, none⟩ v0).setCell ⟨b, 1, none⟩ v1).setCell ⟨b, 2, none⟩ v2).setCell ⟨b, 3, none⟩ v3).heap.size := by simp
  generalize (((w.setCell ⟨b, 0, none⟩ v0).setCell ⟨b, 1, none⟩ v1).setCell ⟨b, 2, none⟩ v2).setCell ⟨b, 3, none⟩ v3 = W at hk hs ⊢
  exact h.keepAt hs hk
theorem OwnL.set4 (h : OwnL E n f w B v us) {b : Nat} {a0 a1 a2 a3 : Value} {T : TypeId} (hb : w.heap[b]? = some (.cells #[a0, a1, a2, a3] T (0, 0))) (hE : E ≠ T) (v0 v1 v2 v3 : Value) :
    OwnL E n f ((((w.setCell ⟨b, 0, none⟩ v0).setCell ⟨b, 1, none⟩ v1).setCell ⟨b, 2, none⟩ v2).setCell ⟨b, 3, none⟩ v3) B v us :=
  (((h.setTo hb hE 0 v0).setTo (set_heap hb) hE 1 v1).setTo (set_heap (set_heap hb)) hE 2 v2).setTo (set_heap (set_heap (set_heap hb))) hE 3 v3
end

def Rl.val (x : Rl.L) : Value := .slice x.A x.us.length x.c
structure Rn.Sep (w : World) (B : Nat) (ls : List Rl.L) : Prop where
  own : ∀ x ∈ ls, St.Own w B (Rl.val x) x.us
  apart : ls.Pairwise (fun x y => ∀ q, (Rl.val x).ownBlock = some q → (Rl.val y).ownBlock = some q → False)
namespace Rn
variable {w w' : World} {B : Nat} {ls : List Rl.L}
theorem Sep.nil : Sep w B [] := ⟨fun x hx => absurd hx (by simp), List.Pairwise.nil⟩
theorem Sep.below (h : Sep w B ls) (hb : Below w.heap.size w w') : Sep w' B ls := ⟨fun x hx => OwnL.below (h.own x hx) hb, h.apart⟩
theorem Sep.keptBy {α : Type} {E : TypeId} {n : Nat} {f : α → List Value} {B2 : Nat} {v : Value} {us : List α} (h : Sep w B ls) (ho : OwnL E n f w B2 v us) (hE : E ≠ 9) (hg : w.grownBy w' v.ownBlock) : Sep w' B ls :=
  ⟨fun x hx => OwnL.keptBy (h.own x hx) ho hE hg, h.apart⟩
theorem Sep.set4 (h : Sep w B ls) {b : Nat} {a0 a1 a2 a3 : Value} (hb : w.heap[b]? = some (.cells #[a0, a1, a2, a3] 45 (0, 0))) (v0 v1 v2 v3 : Value) :
    Sep ((((w.setCell ⟨b, 0, none⟩ v0).setCell ⟨b, 1, none⟩ v1).setCell ⟨b, 2, none⟩ v2).setCell ⟨b, 3, none⟩ v3) B ls :=
  ⟨fun x hx => OwnL.set4 (h.own x hx) hb (by decide) v0 v1 v2 v3, h.apart⟩
theorem Sep.snoc (h : Sep w B ls) {x : Rl.L} (hx : St.Own w B (Rl.val x) x.us) (hf : ∀ y ∈ ls, ∀ q, (Rl.val y).ownBlock = some q → (Rl.val x).ownBlock = some q → False) : Sep w B (ls ++ [x]) := by
  refine ⟨fun y hy => ?_, ?_⟩
  · rcases List.mem_append.1 hy with hy | hy
    · exact h.own y hy
    · rw [List.mem_singleton] at hy; subst hy; exact hx
  · rw [List.pairwise_append]
    refine ⟨h.apart, List.pairwise_singleton _ _, fun y hy z hz => ?_⟩
    rw [List.mem_singleton] at hz; subst hz
    exact hf y hy
/-- a letter whose list was made since -/
theorem Sep.fresh (h : Sep w B ls) (hb : Below w.heap.size w w') {x : Rl.L} (hx : St.Own w' w.heap.size (Rl.val x) x.us) (hB : B ≤ w.heap.size) : Sep w' B (ls ++ [x]) :=
  (h.below hb).snoc (OwnL.base hx hB) (fun y hy q h1 h2 => by
    have a := OwnL.blt (h.own y hy) h1
    have b := OwnL.blk hx h2
    omega)
/-- one list is marked: the others stay -/
theorem Sep.others (h : Sep w B ls) {k : Nat} {x : Rl.L} (hk : ls[k]? = some x) (hg : w.grownBy w' (Rl.val x).ownBlock) {i : Nat} {y : Rl.L} (hi : i ≠ k) (hy : ls[i]? = some y) : St.Own w' B (Rl.val y) y.us := by
  have hne : ∀ q, (Rl.val x).ownBlock = some q → (Rl.val y).ownBlock = some q → False := by
    have hkl := (List.getElem?_eq_some_iff.1 hk).1
    have hil := (List.getElem?_eq_some_iff.1 hy).1
    have ek := (List.getElem?_eq_some_iff.1 hk).2
    have ei := (List.getElem?_eq_some_iff.1 hy).2
    have hp := List.pairwise_iff_getElem.1 h.apart
    intro q h1 h2
    rcases Nat.lt_or_gt_of_ne hi with hlt | hlt
    · exact hp i k hil hkl hlt q (by rw [ei]; exact h2) (by rw [ek]; exact h1)
    · exact hp k i hkl hil hlt q (by rw [ek]; exact h1) (by rw [ei]; exact h2)
  exact World.ownsRow.kept (h.own y (List.mem_of_getElem? hy)) hg (by
    cases hq : (Rl.val y).ownBlock with
    | none => exact .inl rfl
    | some q => exact .inr (fun e => hne q e.symm hq))
end Rn

namespace Rn
/-- the session's variable -/
def Var (w : World) (b : Nat) (s : Sm.S) : Prop :=
  ∃ A c, w.heap[b]? = some (.cells #[.int .i64 s.st, .string s.user, .slice A s.tos.length c, .string s.text] 45 (0, 0)) ∧ AtTy 0 w w.heap.size A s.tos ∧ s.tos.length ≤ c ∧ c ≤ maxLen
structure Run (w : World) (B b : Nat) (vr vl : Value) (ns : List Int) (ls : List Rl.L) (s : Sm.S) : Prop where
  reps : OwnL 3 1 It.cells w B vr ns
  lets : OwnL 49 3 Rl.cells w B vl ls
  tos : ∀ x ∈ ls, AtTy 0 w w.heap.size x.A x.us ∧ x.us.length ≤ 3 ∧ x.us.length ≤ x.c ∧ x.c ≤ maxLen
  var : Var w b s
  sep : Sep w B ls
variable {w w' : World} {B b : Nat} {vr vl : Value} {ns : List Int} {ls : List Rl.L} {s : Sm.S}
theorem Var.lt (h : Var w b s) : b < w.heap.size := by
  obtain ⟨A, c, hx, _⟩ := h
  exact (Array.getElem?_eq_some_iff.1 hx).1
theorem Var.below (h : Var w b s) (hb : Below w.heap.size w w') : Var w' b s := by
  have hl := h.lt
  obtain ⟨A, c, hx, ht, h1, h2⟩ := h
  exact ⟨A, c, (hb.block b hl).trans hx, (ht.below hb).mono hb.size, h1, h2⟩
theorem Run.below (h : Run w B b vr vl ns ls s) (hb : Below w.heap.size w w') : Run w' B b vr vl ns ls s :=
  ⟨OwnL.below h.reps hb, OwnL.below h.lets hb, fun x hx => ⟨((h.tos x hx).1.below hb).mono hb.size, (h.tos x hx).2⟩, h.var.below hb, h.sep.below hb⟩
theorem Run.alloc (h : Run w B b vr vl ns ls s) (o : Obj) : Run (w.alloc o) B b vr vl ns ls s := h.below ((Below.refl _ _).alloc (Nat.le_refl _) o)
theorem Run.drew (h : Run w B b vr vl ns ls s) : Run w.drew B b vr vl ns ls s := h.below (Sx.below_drew (Below.refl _ _))
theorem Run.drew' (h : Run w.drew B b vr vl ns ls s) : Run w B b vr vl ns ls s := h.below (w' := w) ⟨rfl, rfl, rfl, Nat.le_refl _, fun _ _ => rfl⟩
/-- a reply is appended -/
theorem Run.snocR (h : Run w B b vr vl ns ls s) {o : Obj} {v' : Value} {n : Int} (ho : OwnL 3 1 It.cells w' B v' (ns ++ [n])) (hg : (w.alloc o).grownBy w' vr.ownBlock) : Run w' B b v' vl (ns ++ [n]) ls s := by
  have h' := h.alloc o
  refine ⟨ho, h'.lets.keptBy h'.reps (by decide) hg, fun x hx => ⟨(h'.tos x hx).1.grown h'.reps (by decide) hg, (h.tos x hx).2⟩, ?_, h'.sep.keptBy h'.reps (by decide) hg⟩
  have hl := h'.var.lt
  obtain ⟨A, c, hx, ht, h1, h2⟩ := h'.var
  exact ⟨A, c, (hg.block b hl (fun e => h'.reps.not (by decide) hx e.symm)).trans hx, ht.grown h'.reps (by decide) hg, h1, h2⟩
/-- a letter is appended -/
theorem Run.snocL (h : Run w B b vr vl ns ls s) {o : Obj} {v' : Value} {x : Rl.L} (ho : OwnL 49 3 Rl.cells w' B v' (ls ++ [x])) (hg : (w.alloc o).grownBy w' vl.ownBlock) (hx : AtTy 0 w w.heap.size x.A x.us) (hsp : Sep w B (ls ++ [x])) (h3 : x.us.length ≤ 3 ∧ x.us.length ≤ x.c ∧ x.c ≤ maxLen) : Run w' B b vr v' ns (ls ++ [x]) s := by
  have h' := h.alloc o
  have hb : Below w.heap.size w (w.alloc o) := (Below.refl _ _).alloc (Nat.le_refl _) o
  have hx' := (hx.below hb).mono hb.size
  refine ⟨h'.reps.keptBy h'.lets (by decide) hg, ho, fun y hy => ?_, ?_, (hsp.below hb).keptBy h'.lets (by decide) hg⟩
  · rcases List.mem_append.1 hy with hy | hy
    · exact ⟨(h'.tos y hy).1.grown h'.lets (by decide) hg, (h.tos y hy).2⟩
    · rw [List.mem_singleton] at hy; subst hy
      exact ⟨hx'.grown h'.lets (by decide) hg, h3⟩
  · have hl := h'.var.lt
    obtain ⟨A, c, hx, ht, h1, h2⟩ := h'.var
    exact ⟨A, c, (hg.block b hl (fun e => h'.lets.not (by decide) hx e.symm)).trans hx, ht.grown h'.lets (by decide) hg, h1, h2⟩
/-- another session is stored -/
theorem Run.store (h : Run w B b vr vl ns ls s) {s2 : Sm.S} {A : Option Addr} {c : Nat} (ht : AtTy 0 w w.heap.size A s2.tos) (h1 : s2.tos.length ≤ c) (h2 : c ≤ maxLen) :
    Run ((((w.setCell ⟨b, 0, none⟩ (.int .i64 s2.st)).setCell ⟨b, 1, none⟩ (.string s2.user)).setCell ⟨b, 2, none⟩ (.slice A s2.tos.length c)).setCell ⟨b, 3, none⟩ (.string s2.text)) B b vr vl ns ls s2 := by
  obtain ⟨A0, c0, hx, _⟩ := h.var
  refine ⟨h.reps.set4 hx (by decide) _ _ _ _, h.lets.set4 hx (by decide) _ _ _ _, fun x hx2 => ⟨(h.tos x hx2).1.set4 hx _ _ _ _, (h.tos x hx2).2⟩, ⟨A, c, ?_, ht.set4 hx _ _ _ _, h1, h2⟩, h.sep.set4 hx _ _ _ _⟩
  rw [set_heap (set_heap (set_heap (set_heap hx)))]
  rfl
/-- what the lists read -/
theorem Run.ints (h : Run w B b vr vl ns ls s) : ∃ A c, vr = .slice A ns.length c ∧ At w w.heap.size 1 It.cells A ns ∧ ns.length ≤ c ∧ c ≤ maxLen := by
  obtain ⟨A, c, rfl, h1, h2⟩ := OwnL.form h.reps
  exact ⟨A, c, rfl, OwnL.at_ h.reps It.cells_len rfl, h1, h2⟩
theorem Run.letters (h : Run w B b vr vl ns ls s) : ∃ A c, vl = .slice A ls.length c ∧ AtLets w w.heap.size A ls ∧ ls.length ≤ c ∧ c ≤ maxLen := by
  obtain ⟨A, c, rfl, h1, h2⟩ := OwnL.form h.lets
  exact ⟨A, c, rfl, ⟨OwnL.at_ h.lets Rl.cells_len rfl, fun x hx => ⟨(h.tos x hx).1.1, (h.tos x hx).2⟩⟩, h1, h2⟩
end Rn
end Go.Proofs.YtpjifcljkgcnlaaGreatDoor
