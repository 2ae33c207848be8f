/- Channels within one goroutine: a walk at one frame (of the usual kind), with laws for a send, a receive and a close. No program. -/
import Derived.Conc.LoneCalls
import Derived.Calls
import Derived.WalkKit
namespace Go.Proofs.YtpjifcljkgcnlaaGreatDoor
set_option linter.unusedVariables false
open Go.RowKit Go.Conc

/-- what is asked of a piece of code, at one frame -/
def Ch (b : Frame) (P : Program) (c : Code) (Q : Exit → Act → World → Prop) (a : Act) (w : World) : Prop :=
  ∀ (k : List Item) (cs : List Frame), ∃ e a' w', Q e a' w' ∧ Arrives P (lone (b.at a (.code c :: k)) cs w) b k cs e a' w'
/-- the same, within a region -/
def ChOps (b : Frame) (P : Program) (ops : Array Oper) (Q : Exit → Act → World → Prop) (l : List Nat) (a : Act) (w : World) : Prop :=
  ∀ (k : List Item) (cs : List Frame), ∃ e a' w', Q e a' w' ∧ Arrives P (lone (b.at a (.inRegion ops l :: k)) cs w) b k cs e a' w'

section
variable {b : Frame} {P : Program} {Q : Exit → Act → World → Prop} {a : Act} {w : World}
theorem Ch.of_wp {c : Code} (h : c.wp P Q a w) : Ch b P c Q a w := fun k cs => h b k cs
theorem Ch.mono {c : Code} {Q' : Exit → Act → World → Prop} (h : Ch b P c Q a w) (hq : ∀ e a w, Q e a w → Q' e a w) : Ch b P c Q' a w := fun k cs => by
  obtain ⟨e, a', w', q, r⟩ := h k cs
  exact ⟨e, a', w', hq _ _ _ q, r⟩
/-- an exit other than the normal one passes what stands behind -/
theorem arrives_pass {m : Machine} {x : Item} {k : List Item} {cs : List Frame} {e : Exit} {a : Act} {w : World} (hx : x.plain = true) (he : e ≠ .normal) (h : Arrives P m b (x :: k) cs e a w) : Arrives P m b k cs e a w :=
  Arrives.pass hx (fun _ _ => .inl he) h
theorem Ch.seq {x y : Code} (h : Ch b P x (Exit.then (Ch b P y Q) Q) a w) : Ch b P (.seq x y) Q a w := fun k cs => by
  obtain ⟨e, a₁, w₁, hq, harr⟩ := h (.code y :: k) cs
  by_cases he : e = .normal
  · subst he
    obtain ⟨e₂, a₂, w₂, hq₂, harr₂⟩ := hq k cs
    exact ⟨e₂, a₂, w₂, hq₂, .of_steps (.head step_seq harr) harr₂⟩
  · refine ⟨e, a₁, w₁, ?_, .of_steps (.one step_seq) (arrives_pass rfl he harr)⟩
    cases e <;> first | exact hq | exact absurd rfl he
theorem Ch.cond {c : Operand} {x y : Code} {t : Bool} (hc : a.eval c = .bool t) (h : Ch b P (if t then x else y) Q a w) : Ch b P (.cond c x y) Q a w := fun k cs => by
  obtain ⟨e, a', w', q, r⟩ := h k cs
  exact ⟨e, a', w', q, .of_steps (.one (step_cond hc)) r⟩
theorem Ch.block {id : Nat} {c : Code} (h : Ch b P c (Exit.inBlock id Q) a w) : Ch b P (.block id c) Q a w := fun k cs => by
  obtain ⟨e, a₁, w₁, hq, harr⟩ := h (.inBlock id :: k) cs
  cases e with
  | normal => exact ⟨.normal, a₁, w₁, hq, Steps.head step_block (Steps.trans harr (.one step_inBlock))⟩
  | exit j =>
    simp only [Exit.inBlock] at hq
    split at hq
    · rename_i hj
      exact ⟨.normal, a₁, w₁, hq, Steps.head step_block (harr k (by simp [exitTo, hj]))⟩
    · rename_i hj
      refine ⟨.exit j, a₁, w₁, hq, fun k' hk => .head step_block (harr k' ?_)⟩
      have : (id == j) = false := by simp; exact fun h => hj h.symm
      simp [exitTo, this, hk]
  | goto l => exact ⟨_, a₁, w₁, hq, fun k' hk => .head step_block (harr k' (by simp [gotoIn, hk]))⟩
  | ret => exact ⟨_, a₁, w₁, hq, .of_steps (.one step_block) harr⟩
  | panic ch => exact ⟨_, a₁, w₁, hq, .of_steps (.one step_block) harr⟩
  | outgrown => exact ⟨_, a₁, w₁, hq, .of_steps (b := b) (k := k) (cs := cs) (e := .outgrown) (.one step_block) harr⟩
/-- a loop, by a relation that has a number that falls -/
theorem Ch.loop {c : Code} (I : Nat → Act → World → Prop) (n₀ : Nat) (h₀ : I n₀ a w) (round : ∀ n a w, I n a w → Ch b P c (Exit.then (fun a' w' => ∃ n', n' < n ∧ I n' a' w') Q) a w) : Ch b P (.loop c) Q a w := fun k cs => by
  have key : ∀ n a w, I n a w → ∃ e a' w', Q e a' w' ∧ Arrives P (lone (b.at a (.code c :: .inLoop c :: k)) cs w) b k cs e a' w' := by
    intro n
    induction n using Nat.strongRecOn with
    | _ n ih =>
      intro a w hI
      obtain ⟨e, a₁, w₁, hq, harr⟩ := round n a w hI (.inLoop c :: k) cs
      by_cases he : e = .normal
      · subst he
        obtain ⟨n', hlt, hI'⟩ := hq
        obtain ⟨e₂, a₂, w₂, hq₂, harr₂⟩ := ih n' hlt a₁ w₁ hI'
        exact ⟨e₂, a₂, w₂, hq₂, .of_steps (Steps.trans harr (.one step_inLoop)) harr₂⟩
      · refine ⟨e, a₁, w₁, ?_, arrives_pass rfl he harr⟩
        cases e <;> first | exact hq | exact absurd rfl he
  obtain ⟨e, a', w', hq, harr⟩ := key n₀ a w h₀
  exact ⟨e, a', w', hq, .of_steps (.one step_loop) harr⟩
theorem Ch.region {id : Nat} {ops : Array Oper} (h : ChOps b P ops Q (List.range ops.size) a w) : Ch b P (.region id ops false) Q a w := fun k cs => by
  obtain ⟨e, a', w', q, r⟩ := h k cs
  exact ⟨e, a', w', q, .of_steps (.one step_region) r⟩

variable {ops : Array Oper} {i : Nat} {rest : List Nat} {o : Oper}
theorem ChOps.nil (h : Q .normal a w) : ChOps b P ops Q [] a w := fun k cs => ⟨.normal, a, w, h, .one step_region_end⟩
theorem chFin (ho : ops[i]? = some o) (k : List Item) (v : Value) : (b.at a (.inRegion ops (i :: rest) :: k)).finish v = b.at (a.put o.dst v) (.inRegion ops rest :: k) := by rw [Frame.finish_at, ho]; rfl
theorem chWant (hg : o.guard = none) : Region.wanted o (yielded ops a.tmps) = true := by simp [Region.wanted, hg]
theorem ChOps.value (ho : ops[i]? = some o) (hg : o.guard = none) {v : Value} {w₁ : World} (hr : (execOp a.eval o).run P w = .ok (.value v) w₁) (h : ChOps b P ops Q rest (a.put o.dst v) w₁) : ChOps b P ops Q (i :: rest) a w := fun k cs => by
  obtain ⟨e, a', w', q, r⟩ := h k cs
  refine ⟨e, a', w', q, .of_steps (.one (step_lone_go ?_)) r⟩
  rw [stepG_op (P := P) (b := b) (k := k) (cs := cs) (w := w) (rest := rest) ho (chWant hg), ← chFin ho k v]
  simp [stepG.apply, hr]
/-- a send into a buffer that has room -/
theorem ChOps.send (hk : b.kind ≠ .early) (ho : ops[i]? = some o) (hg : o.guard = none) {c cap s r : Nat} {buf : Array Value} {v z : Value} {tm : Bool} {w₁ : World}
    (hr : (execOp a.eval o).run P w = .ok (.comm #[scase c v z] true .send) w₁) (hc : w₁.heap[c]? = some (.chan cap buf false s r tm)) (hroom : buf.size < cap)
    (h : ChOps b P ops Q rest (a.put o.dst undef) (w₁.setChan c cap (buf.push v) false (s + 1) r tm)) : ChOps b P ops Q (i :: rest) a w := fun k cs => by
  obtain ⟨e, a', w', q, r'⟩ := h k cs
  refine ⟨e, a', w', q, .of_steps (.one ?_) r'⟩
  rw [lone_eq_solo, step_lone_send_room (stepG_comm ho (chWant hg) hk hr) hc hroom, chFin ho]
  rfl
/-- a receive from a buffer that holds something -/
theorem ChOps.recv (hk : b.kind ≠ .early) (ho : ops[i]? = some o) (hg : o.guard = none) {c cap s r : Nat} {buf : Array Value} {z : Value} {tm closed ok : Bool} {w₁ : World}
    (hr : (execOp a.eval o).run P w = .ok (.comm #[rcase c z] true (.recv ok)) w₁) (hc : w₁.heap[c]? = some (.chan cap buf closed s r tm)) (hsome : 0 < buf.size)
    (h : ChOps b P ops Q rest (a.put o.dst (got ok (buf.getD 0 undef) true)) (w₁.setChan c cap (buf.extract 1 buf.size) closed s (r + 1) tm)) : ChOps b P ops Q (i :: rest) a w := fun k cs => by
  obtain ⟨e, a', w', q, r'⟩ := h k cs
  refine ⟨e, a', w', q, .of_steps (.one ?_) r'⟩
  rw [lone_eq_solo, step_lone_recv_buf ok (stepG_comm ho (chWant hg) hk hr) hc hsome, chFin ho]
  rfl
/-- a receive from a closed channel whose buffer is empty -/
theorem ChOps.shut (hk : b.kind ≠ .early) (ho : ops[i]? = some o) (hg : o.guard = none) {c cap s r : Nat} {z : Value} {tm ok : Bool} {w₁ : World}
    (hr : (execOp a.eval o).run P w = .ok (.comm #[rcase c z] true (.recv ok)) w₁) (hc : w₁.heap[c]? = some (.chan cap #[] true s r tm))
    (h : ChOps b P ops Q rest (a.put o.dst (got ok z false)) w₁) : ChOps b P ops Q (i :: rest) a w := fun k cs => by
  obtain ⟨e, a', w', q, r'⟩ := h k cs
  refine ⟨e, a', w', q, .of_steps (.one ?_) r'⟩
  rw [lone_eq_solo, step_lone_recv_shut ok (stepG_comm ho (chWant hg) hk hr) hc, chFin ho]
  rfl
theorem calls_of_ch {f : FuncId} {fn : Func} {c : Code} {args : Array Value} {R : Ending → World → Prop} (hf : P.funcs[f]? = some fn) (hb : fn.body = some c)
    (h : ∀ b : Frame, b.kind ≠ .early → Ch b P c (bodyPost P fn R) { tmps := args ++ Array.replicate (fn.ntmps - args.size) undef, defers := [] } w) : Calls P f args w R := by
  intro cs
  have henter : Frame.enter P f args .normal = ({ (default : Frame) with fn := f, kind := .normal } : Frame).at { tmps := args ++ Array.replicate (fn.ntmps - args.size) undef, defers := [] } [.code c] := by
    simp [Frame.enter, Frame.at, hf, hb]
  obtain ⟨e, a', w', hq, harr⟩ := h { (default : Frame) with fn := f, kind := .normal } (by simp) [] cs
  rw [← henter] at harr
  cases e with
  | normal =>
    obtain ⟨hd, v, hr, hR⟩ := hq
    exact ⟨.returned v, w', _, hR, Steps.trans harr (.one step_end), rfl, rfl, hd, rfl, fn, hf, hr⟩
  | ret =>
    obtain ⟨hd, v, hr, hR⟩ := hq
    obtain ⟨todo, hs⟩ := harr
    exact ⟨.returned v, w', _, hR, hs, rfl, rfl, hd, rfl, fn, hf, hr⟩
  | panic chain =>
    obtain ⟨hd, hR⟩ := hq
    obtain ⟨todo, hs⟩ := harr
    exact ⟨.panicked chain, w', _, hR, hs, rfl, rfl, hd, fn, hf⟩
  | exit id => exact hq.elim
  | goto l => exact hq.elim
  | outgrown => exact ⟨.outgrown, w', { (default : Frame) with fn := f, kind := .normal }, hq, harr.resolve_left (by simp), rfl, trivial⟩
end
end Go.Proofs.YtpjifcljkgcnlaaGreatDoor
