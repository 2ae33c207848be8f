/- SmJl: SmJ SmK SmL, in one text. -/
import Derived.Test.YtpjifcljkgcnlaaGreatDoorSmGi
import Derived.Test.YtpjifcljkgcnlaaGreatDoorStDraw2
import Derived.Test.YtpjifcljkgcnlaaGreatDoorUsA
import Derived.Deep.RegionHeld3
import Derived.Outline
import Derived.Deep.DeepCutAuto
import Derived.Deep.CutBlock
namespace Go.Proofs.YtpjifcljkgcnlaaGreatDoor
set_option linter.unusedVariables false
open Go.RowKit
open Us (U)

theorem small_of {s : ByteArray} {n k : Nat} (h : decide (s.size ≤ n) = true) (hk : n ≤ k) : s.size ≤ k := Nat.le_trans (by simpa using h) hk
theorem Sm.make_size (u p : ByteArray) : (Pp.make u p).size ≤ 40 := by
  unfold Pp.make
  split
  · rename_i h
    have h1 := (Nm.nameOk_len h.1).2
    have h2 := (Nm.nameOk_len h.2).2
    show (B6.enc (0 :: (u.data.toList ++ 0 :: p.data.toList))).toArray.size ≤ 40
    rw [List.size_toArray, B6.enc_len]
    simp only [List.length_cons, List.length_append]
    omega
  · show (0 : Nat) ≤ 40; omega
end Go.Proofs.YtpjifcljkgcnlaaGreatDoor

namespace Go.Proofs.YtpjifcljkgcnlaaGreatDoor
set_option linter.unusedVariables false
open Go.RowKit
open Us (U)

/-- a list of strings that lies in a block from B on -/
def Sm.From (w : World) (B : Nat) (A : Option Addr) (us : List ByteArray) : Prop :=
  (0 < us.length → ∃ g off, A = some ⟨g, off, none⟩ ∧ B ≤ g ∧ g < w.heap.size ∧ ∀ i u, us[i]? = some u → w.cell? ⟨g, off + i, none⟩ = some (.string u)) ∧ ∀ u ∈ us, u.size ≤ maxLen
theorem Sm.From.at_ {w : World} {B : Nat} {A : Option Addr} {us : List ByteArray} (h : Sm.From w B A us) : AtStrs w w.heap.size A us :=
  ⟨fun hl => by obtain ⟨g, off, ha, _, hlt, hc⟩ := h.1 hl; exact ⟨g, off, ha, hlt, hc⟩, h.2⟩
theorem Sm.From.keep {w w' : World} {B : Nat} {A : Option Addr} {us : List ByteArray} (h : Sm.From w B A us) (hs : w.heap.size ≤ w'.heap.size) (hk : ∀ g, B ≤ g → g < w.heap.size → w'.heap[g]? = w.heap[g]?) : Sm.From w' B A us :=
  ⟨fun hl => by
    obtain ⟨g, off, ha, hB, hlt, hc⟩ := h.1 hl
    exact ⟨g, off, ha, hB, Nat.lt_of_lt_of_le hlt hs, fun i u hu => by rw [World.cell?_of_block (hk g hB hlt)]; exact hc i u hu⟩, h.2⟩
theorem Sm.From.below {w w' : World} {B : Nat} {A : Option Addr} {us : List ByteArray} (h : Sm.From w B A us) (hb : Below w.heap.size w w') : Sm.From w' B A us := h.keep hb.size fun g _ hlt => hb.block g hlt
theorem Sm.From.grown {w w' : World} {B b : Nat} {A : Option Addr} {us : List ByteArray} (h : Sm.From w B A us) (hg : w.grownBy w' (some b)) (hb : b < B) : Sm.From w' B A us := h.keep hg.size fun g hB hlt => hg.block g hlt (by intro e; injection e with e; omega)
theorem Sm.From.base {w : World} {B B' : Nat} {A : Option Addr} {us : List ByteArray} (h : Sm.From w B A us) (hb : B' ≤ B) : Sm.From w B' A us :=
  ⟨fun hl => by obtain ⟨g, off, ha, hB, hlt, hc⟩ := h.1 hl; exact ⟨g, off, ha, Nat.le_trans hb hB, hlt, hc⟩, h.2⟩
theorem Sm.From.set {w : World} {B : Nat} {A : Option Addr} {us : List ByteArray} (h : Sm.From w B A us) {p : Addr} (hp : p.block < B) (v : Value) : Sm.From (w.setCell p v) B A us :=
  h.keep (by simp) fun g hB _ => Below.heap_setCell w p v g (by omega)
theorem Sm.From.nil {w : World} {B : Nat} {A : Option Addr} : Sm.From w B A [] := ⟨fun h => absurd h (by simp), fun u hu => absurd hu (by simp)⟩
theorem Sm.From.of_own {w : World} {B c n : Nat} {A : Option Addr} {us : List ByteArray} (ho : St.Own w B (.slice A n c) us) (hn : us.length = n) (hs : ∀ u ∈ us, u.size ≤ maxLen) : Sm.From w B A us := by
  subst hn
  refine ⟨fun hl => ?_, hs⟩
  obtain ⟨g, off, ha, hlt, hc⟩ := (at_strs (OwnL.at_ ho St.cells_len rfl) hs).1 hl
  obtain ⟨g', c', hv, hB, _⟩ := OwnL.form' ho hl
  injection hv with hA
  rw [ha] at hA; injection hA with hA; injection hA with hg
  subst hg
  exact ⟨g, off, ha, hB, hlt, hc⟩
/-- block b5 is a session's variable; its list lies behind it -/
def Sm.Var (w : World) (b5 : Nat) (P : Sm.S → Prop) : Prop :=
  ∃ st f A us c t, w.heap[b5]? = some (.cells #[.int .i64 st, .string f, .slice A us.length c, .string t] 45 (0, 0)) ∧ P ⟨st, f, us, t⟩ ∧ Sm.From w (b5 + 1) A us ∧ us.length ≤ c ∧ c ≤ maxLen
/-- the sizes of a session that was drawn -/
def Sm.small (s : Sm.S) : Prop := s.user.size ≤ 30 ∧ s.tos.length ≤ 6 ∧ (∀ u ∈ s.tos, u.size ≤ 9) ∧ s.text.size ≤ 30
theorem Sm.small_ok {s : Sm.S} (h : Sm.ok s = true) : Sm.small s := by
  obtain ⟨h1, h2, h3, h4, _⟩ := Sm.ok_sizes h
  exact ⟨by omega, by omega, fun u hu => by have := h3 u hu; omega, by omega⟩
theorem Sm.Var.keep {w w' : World} {b5 : Nat} {P : Sm.S → Prop} (h : Sm.Var w b5 P) (hb : w'.heap[b5]? = w.heap[b5]?) (hs : w.heap.size ≤ w'.heap.size) (hk : ∀ g, b5 + 1 ≤ g → g < w.heap.size → w'.heap[g]? = w.heap[g]?) : Sm.Var w' b5 P := by
  obtain ⟨st, f, A, us, c, t, h1, h2, h3, h4, h5⟩ := h
  exact ⟨st, f, A, us, c, t, hb.trans h1, h2, h3.keep hs hk, h4, h5⟩
theorem Sm.Var.lt {w : World} {b5 : Nat} {P : Sm.S → Prop} (h : Sm.Var w b5 P) : b5 < w.heap.size := by
  obtain ⟨st, f, A, us, c, t, h1, _⟩ := h
  exact (Array.getElem?_eq_some_iff.1 h1).1
theorem Sm.Var.grown {w w' : World} {b5 b : Nat} {P : Sm.S → Prop} (h : Sm.Var w b5 P) (hg : w.grownBy w' (some b)) (hb : b < b5) : Sm.Var w' b5 P :=
  h.keep (hg.block b5 h.lt (by intro e; injection e with e; omega)) hg.size fun g h1 h2 => hg.block g h2 (by intro e; injection e with e; omega)
theorem Sm.Var.below {w w' : World} {b5 : Nat} {P : Sm.S → Prop} (h : Sm.Var w b5 P) (hb : Below w.heap.size w w') : Sm.Var w' b5 P :=
  h.keep (hb.block b5 h.lt) hb.size fun g _ h2 => hb.block g h2
theorem Sm.Var.mono {w : World} {b5 : Nat} {P Q : Sm.S → Prop} (h : Sm.Var w b5 P) (hq : ∀ s, P s → Q s) : Sm.Var w b5 Q := by
  obtain ⟨st, f, A, us, c, t, h1, h2, h3⟩ := h
  exact ⟨st, f, A, us, c, t, h1, hq _ h2, h3⟩

/-- a session of the call's own, valid -/
def Sm.OkOwn (w : World) (e : Ending) (w' : World) : Prop :=
  ∃ st f A us c t n, Sm.ok ⟨st, f, us, t⟩ = true ∧ us.length ≤ c ∧ c ≤ maxLen ∧ e = .returned (.tuple #[.agg #[.int .i64 st, .string f, .slice A us.length c, .string t], .int .i64 n]) ∧ Sm.From w' w.heap.size A us ∧ Below w.heap.size w w'
theorem Sm.Var.stored {w : World} {b5 : Nat} {P : Sm.S → Prop} {a0 a1 a2 a3 : Value} {st : Int} {f t : ByteArray} {A : Option Addr} {us : List ByteArray} {c : Nat} (hb : w.heap[b5]? = some (.cells #[a0, a1, a2, a3] 45 (0, 0))) (hp : P ⟨st, f, us, t⟩) (hf : Sm.From w (b5 + 1) A us) (hc : us.length ≤ c) (hm : c ≤ maxLen) :
    Sm.Var ((((w.setCell ⟨b5, 0, none⟩ (.int .i64 st)).setCell ⟨b5, 1, none⟩ (.string f)).setCell ⟨b5, 2, none⟩ (.slice A us.length c)).setCell ⟨b5, 3, none⟩ (.string t)) b5 P := by
  refine ⟨st, f, A, us, c, t, ?_, hp, (((hf.set (p := ⟨b5, 0, none⟩) (Nat.lt_succ_self _) _).set (p := ⟨b5, 1, none⟩) (Nat.lt_succ_self _) _).set (p := ⟨b5, 2, none⟩) (Nat.lt_succ_self _) _).set (p := ⟨b5, 3, none⟩) (Nat.lt_succ_self _) _, hc, hm⟩
  rw [set_heap (set_heap (set_heap (set_heap hb)))]
  rfl
theorem At.keepAt {α : Type} {f : α → List Value} {us : List α} {W W' : World} {B n : Nat} {A : Option Addr} (h : At W B n f A us) (hk : ∀ g off, A = some ⟨g, off, none⟩ → g < B → W'.heap[g]? = W.heap[g]?) : At W' B n f A us := fun hl => by
  obtain ⟨g, off, ha, hlt, hc⟩ := h hl
  exact ⟨g, off, ha, hlt, fun i u hu j v hv => by rw [World.cell?_of_block (hk g off ha hlt)]; exact hc i u hu j v hv⟩
theorem res_set4 {W : World} {b0 b5 : Nat} (hb : b0 ≠ b5) (v0 v1 v2 v3 : Value) : ((((W.setCell ⟨b5, 0, none⟩ v0).setCell ⟨b5, 1, none⟩ v1).setCell ⟨b5, 2, none⟩ v2).setCell ⟨b5, 3, none⟩ v3).heap[b0]? = W.heap[b0]? :=
  (set_heap_ne (Ne.symm hb)).trans ((set_heap_ne (Ne.symm hb)).trans ((set_heap_ne (Ne.symm hb)).trans (set_heap_ne (Ne.symm hb))))
theorem users_ne {w : World} {B b5 : Nat} {Au : Option Addr} {vs : List U} (hat : At w B 3 Us.cells Au vs) {st : Int} {f t : ByteArray} {v : Value} (hv : ∀ s, v ≠ .string s) (hx : w.heap[b5]? = some (.cells #[.int .i64 st, .string f, v, .string t] 45 (0, 0))) (hl : 0 < vs.length) : ∃ g off, Au = some ⟨g, off, none⟩ ∧ g < B ∧ g ≠ b5 := by
  obtain ⟨g, off, ha, hlt, hc⟩ := hat hl
  refine ⟨g, off, ha, hlt, ?_⟩
  rintro rfl
  have c0 := hc 0 vs[0] (List.getElem?_eq_getElem hl) 0 (.string vs[0].name) rfl
  have c1 := hc 0 vs[0] (List.getElem?_eq_getElem hl) 1 (.string vs[0].pass) rfl
  simp only [World.cell?, hx] at c0 c1
  match off, c0, c1 with
  | 0, c0, _ => simp at c0
  | 1, _, c1 => simp at c1; exact hv _ c1
  | 2, c0, _ => simp at c0; exact hv _ c0
  | 3, _, c1 => simp at c1
  | n + 4, c0, _ => simp at c0
theorem users_set4 {w : World} {B b5 : Nat} {Au : Option Addr} {vs : List U} (hat : At w B 3 Us.cells Au vs) {st : Int} {f t : ByteArray} {A : Option Addr} {n c : Nat} (hx : w.heap[b5]? = some (.cells #[.int .i64 st, .string f, .slice A n c, .string t] 45 (0, 0))) (v0 v1 v2 v3 : Value) :
    At ((((w.setCell ⟨b5, 0, none⟩ v0).setCell ⟨b5, 1, none⟩ v1).setCell ⟨b5, 2, none⟩ v2).setCell ⟨b5, 3, none⟩ v3) B 3 Us.cells Au vs := fun hl => by
  obtain ⟨g, off, ha, hlt, hne⟩ := users_ne hat (fun s e => by cases e) hx hl
  exact At.keepAt hat (fun g' off' ha' _ => res_set4 (by rw [ha] at ha'; injection ha' with ha'; injection ha' with h1 h2; omega) v0 v1 v2 v3) hl
theorem grown_set4 {b b5 : Nat} {w W : World} (h : w.grownBy W (some b)) (hb : w.heap.size ≤ b5) (v0 v1 v2 v3 : Value) : w.grownBy ((((W.setCell ⟨b5, 0, none⟩ v0).setCell ⟨b5, 1, none⟩ v1).setCell ⟨b5, 2, none⟩ v2).setCell ⟨b5, 3, none⟩ v3) (some b) :=
  grown_setNew (grown_setNew (grown_setNew (grown_setNew h (p := ⟨b5, 0, none⟩) hb _) (p := ⟨b5, 1, none⟩) hb _) (p := ⟨b5, 2, none⟩) hb _) (p := ⟨b5, 3, none⟩) hb _
theorem At.set4 {α : Type} {f : α → List Value} {us : List α} {W : World} {B n : Nat} {A : Option Addr} {b5 : Nat} (h : At W B n f A us) (hb : B ≤ b5) (v0 v1 v2 v3 : Value) : At ((((W.setCell ⟨b5, 0, none⟩ v0).setCell ⟨b5, 1, none⟩ v1).setCell ⟨b5, 2, none⟩ v2).setCell ⟨b5, 3, none⟩ v3) B n f A us :=
  h.keep fun i hi => (Below.heap_setCell _ _ _ _ (by simp; omega)).trans ((Below.heap_setCell _ _ _ _ (by simp; omega)).trans ((Below.heap_setCell _ _ _ _ (by simp; omega)).trans (Below.heap_setCell _ _ _ _ (by simp; omega))))

end Go.Proofs.YtpjifcljkgcnlaaGreatDoor

namespace Go.Proofs.YtpjifcljkgcnlaaGreatDoor
set_option linter.unusedVariables false
open Go.RowKit
open Us (U)

/-- a session that was drawn -/
def Sm.Drawn (w : World) (e : Ending) (w' : World) : Prop :=
  ∃ st f A us c t, Sm.small ⟨st, f, us, t⟩ ∧ us.length ≤ c ∧ c ≤ maxLen ∧ e = .returned (.agg #[.int .i64 st, .string f, .slice A us.length c, .string t]) ∧ AtStrs w' w'.heap.size A us ∧ Below w.heap.size w w'
theorem Sm.drawn_fin {w W : World} {st : Int} {f t : ByteArray} {A : Option Addr} {us : List ByteArray} {c B' : Nat} (hs : Sm.small ⟨st, f, us, t⟩) (hf : Sm.From W B' A us) (hB : w.heap.size < B') (hc : us.length ≤ c) (hm : c ≤ maxLen) (hb : Below w.heap.size w W) (v0 v1 v2 v3 : Value) :
    Sm.Drawn w (.returned (.agg #[.int .i64 st, .string f, .slice A us.length c, .string t])) ((((W.setCell ⟨w.heap.size, 0, none⟩ v0).setCell ⟨w.heap.size, 1, none⟩ v1).setCell ⟨w.heap.size, 2, none⟩ v2).setCell ⟨w.heap.size, 3, none⟩ v3) :=
  ⟨st, f, A, us, c, t, hs, hc, hm, rfl, ((((hf.set (p := ⟨w.heap.size, 0, none⟩) hB _).set (p := ⟨w.heap.size, 1, none⟩) hB _).set (p := ⟨w.heap.size, 2, none⟩) hB _).set (p := ⟨w.heap.size, 3, none⟩) hB _).at_, set4 hb (Nat.le_refl _) _ _ _ _⟩
theorem Sm.Drawn.alloc {w W : World} {e : Ending} (h : Sm.Drawn w e W) (o : Obj) : Sm.Drawn w e (W.alloc o) := by
  obtain ⟨st, f, A, us, c, t, h1, h2, h3, h4, h5, h6⟩ := h
  have hb := (Below.refl W.heap.size W).alloc (Nat.le_refl _) o
  exact ⟨st, f, A, us, c, t, h1, h2, h3, h4, (h5.below hb).mono hb.size, h6.alloc h6.size o⟩
theorem Sm.small_max {s : Sm.S} (h : Sm.small s) : s.user.size ≤ maxLen ∧ s.text.size ≤ maxLen ∧ s.tos.length ≤ 1048576 := by
  obtain ⟨h1, h2, h3, h4⟩ := h
  unfold maxLen
  exact ⟨by omega, by omega, by omega⟩
/-- block b5 is a session's variable; its list lies apart from it, behind block b -/
def Sm.Var2 (w : World) (b b5 : Nat) : Prop :=
  ∃ st f A us c t, w.heap[b5]? = some (.cells #[.int .i64 st, .string f, .slice A us.length c, .string t] 45 (0, 0)) ∧ Sm.small ⟨st, f, us, t⟩ ∧ Sm.From w (b + 1) A us ∧ us.length ≤ c ∧ c ≤ maxLen ∧ b < b5
theorem Sm.Var2.lt {w : World} {b b5 : Nat} (h : Sm.Var2 w b b5) : b5 < w.heap.size := by
  obtain ⟨st, f, A, us, c, t, h1, _⟩ := h
  exact (Array.getElem?_eq_some_iff.1 h1).1
theorem Sm.Var2.grown {w w' : World} {b b5 : Nat} (h : Sm.Var2 w b b5) (hg : w.grownBy w' (some b)) : Sm.Var2 w' b b5 := by
  have hlt := h.lt
  obtain ⟨st, f, A, us, c, t, h1, h2, h3, h4, h5, h6⟩ := h
  exact ⟨st, f, A, us, c, t, (hg.block b5 hlt (by intro e; injection e with e; omega)).trans h1, h2, h3.grown hg (Nat.lt_succ_self _), h4, h5, h6⟩
theorem Sm.Var2.below {w w' : World} {b b5 : Nat} (h : Sm.Var2 w b b5) (hb : Below w.heap.size w w') : Sm.Var2 w' b b5 := by
  have hlt := h.lt
  obtain ⟨st, f, A, us, c, t, h1, h2, h3, h4, h5, h6⟩ := h
  exact ⟨st, f, A, us, c, t, (hb.block b5 hlt).trans h1, h2, h3.below hb, h4, h5, h6⟩
theorem Sm.Var2.laid {w : World} {st : Int} {f t : ByteArray} {A : Option Addr} {us : List ByteArray} {c b : Nat} (hp : Sm.small ⟨st, f, us, t⟩) (hf : Sm.From w (b + 1) A us) (hc : us.length ≤ c) (hm : c ≤ maxLen) (hb : b < w.heap.size) : Sm.Var2 (w.alloc (.cells #[.int .i64 st, .string f, .slice A us.length c, .string t] 45)) b w.heap.size :=
  ⟨st, f, A, us, c, t, heap_alloc_new w _, hp, hf.below ((Below.refl _ _).alloc (Nat.le_refl _) _), hc, hm, hb⟩
theorem Sm.Var2.stored {w : World} {b b5 : Nat} (h : Sm.Var2 w b b5) {st : Int} {f t : ByteArray} {A : Option Addr} {us : List ByteArray} {c : Nat} (hp : Sm.small ⟨st, f, us, t⟩) (hf : Sm.From w (b5 + 1) A us) (hc : us.length ≤ c) (hm : c ≤ maxLen) :
    Sm.Var2 ((((w.setCell ⟨b5, 0, none⟩ (.int .i64 st)).setCell ⟨b5, 1, none⟩ (.string f)).setCell ⟨b5, 2, none⟩ (.slice A us.length c)).setCell ⟨b5, 3, none⟩ (.string t)) b b5 := by
  obtain ⟨st0, f0, A0, us0, c0, t0, h1, h2, h3, h4, h5, h6⟩ := h
  refine ⟨st, f, A, us, c, t, ?_, hp, ((((hf.set (p := ⟨b5, 0, none⟩) (Nat.lt_succ_self _) _).set (p := ⟨b5, 1, none⟩) (Nat.lt_succ_self _) _).set (p := ⟨b5, 2, none⟩) (Nat.lt_succ_self _) _).set (p := ⟨b5, 3, none⟩) (Nat.lt_succ_self _) _).base (by omega), hc, hm, h6⟩
  rw [set_heap (set_heap (set_heap (set_heap h1)))]
  rfl
theorem Bytes.laid {w : World} {a : Option Addr} {len cap : Nat} (h : Bytes w a len cap) (o : Obj) : Bytes (w.alloc o) a len cap := by
  obtain ⟨b1, b2, b3⟩ := h
  refine ⟨b1, b2, fun hl => ?_⟩
  obtain ⟨ab, off, e1, e2, e3⟩ := b3 hl
  refine ⟨ab, off, e1, by simp; omega, fun j hj => ?_⟩
  obtain ⟨v, hv, hc⟩ := e3 j hj
  exact ⟨v, hv, (World.cell?_alloc_lt w _ _ e2).trans hc⟩

end Go.Proofs.YtpjifcljkgcnlaaGreatDoor
