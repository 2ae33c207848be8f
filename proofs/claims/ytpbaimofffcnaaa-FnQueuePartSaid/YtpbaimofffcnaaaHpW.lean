/- container/heap over numbers: Push, Pop, up, down. -/
import Derived.Test.YtpbaimofffcnaaaItB
import Derived.Test.YtpbaimofffcnaaaOwT
import Derived.Test.YtpbaimofffcnaaaQuPlain
import Derived.RegionTactic
import Derived.BigQuiet
import Derived.Test.YtpbaimofffcnaaaRx
import Derived.Deep.LoopGhost
import Derived.Deep.RegionWith
import Derived.Deep.RegionHeld3
import Derived.Deep.RegionLaw
import Derived.Deep.DeepCutAuto
namespace Go.Proofs.Ytpbaimofffcnaaa
set_option linter.unusedVariables false
open Go.RowKit

/-- what the heap's operations leave as it was -/
structure HpB (B : Nat) (w w' : World) : Prop where
  b : Below B w w'
  k : ∀ (q : Nat) (cs : Array Value) (T : TypeId), 3 ≠ T → 68 ≠ T → w.heap[q]? = some (.cells cs T (0, 0)) → w'.heap[q]? = w.heap[q]?
namespace HpB
variable {B : Nat} {w w1 w2 : World}
theorem size (h : HpB B w w1) : w.heap.size ≤ w1.heap.size := h.b.size
theorem refl (B : Nat) (w : World) : HpB B w w := ⟨Below.refl _ _, fun _ _ _ _ _ _ => rfl⟩
theorem trans (h : HpB B w w1) (k : HpB B w1 w2) : HpB B w w2 := ⟨h.b.trans k.b, fun q cs T h1 h2 hq => (k.k q cs T h1 h2 ((h.k q cs T h1 h2 hq).trans hq)).trans (h.k q cs T h1 h2 hq)⟩
theorem tb (h : HpB B w w1) (hb : Below w1.heap.size w1 w2) (hB : B ≤ w1.heap.size) : HpB B w w2 :=
  ⟨h.b.trans (hb.mono hB), fun q cs T h1 h2 hq => (hb.block q (Array.getElem?_eq_some_iff.1 ((h.k q cs T h1 h2 hq).trans hq)).1).trans (h.k q cs T h1 h2 hq)⟩
theorem grown (h : HpB B w w1) {v : Value} {l : List Int} (ho : It.Own w1 B v l) (hg : w1.grownBy w2 v.ownBlock) (hB : B ≤ w1.heap.size) : HpB B w w2 :=
  ⟨h.b.grown hg hB (fun q hq => OwnL.blk ho hq), fun q cs T h1 h2 hq => (ow_block ho ((h.k q cs T h1 h2 hq).trans hq) h1 hg).trans (h.k q cs T h1 h2 hq)⟩
theorem set (h : HpB B w w1) {b : Nat} {x : Value} (hx : w1.heap[b]? = some (.cells #[x] 68 (0, 0))) (hb : B ≤ b) (y : Value) : HpB B w (w1.setCell ⟨b, 0, none⟩ y) :=
  ⟨h.b.setCell (p := ⟨b, 0, none⟩) hb y, fun q cs T h1 h2 hq => (Below.heap_setCell _ _ _ _ (fun e => by
    have h3 := (h.k q cs T h1 h2 hq).trans hq
    subst e
    rw [hx] at h3
    injection h3 with h3; injection h3 with _ h3 _
    exact h2 h3)).trans (h.k q cs T h1 h2 hq)⟩
end HpB
/-- the heap's variable -/
def HpSt (B b : Nat) (l : List Int) (w : World) : Prop := ∃ v, w.heap[b]? = some (.cells #[v] 68 (0, 0)) ∧ It.Own w B v l ∧ B ≤ b

theorem hp_m_push (b : Nat) (w : World) : (method 226 66 (.pointer (some ⟨b, 0, none⟩)) "Push").run Try.prog w = .ok (81, .pointer (some ⟨b, 0, none⟩)) w := by kernel_rfl
theorem hp_m_pop (b : Nat) (w : World) : (method 226 66 (.pointer (some ⟨b, 0, none⟩)) "Pop").run Try.prog w = .ok (80, .pointer (some ⟨b, 0, none⟩)) w := by kernel_rfl
theorem hp_load (b : Nat) (v : Value) (w : World) (h : w.heap[b]? = some (.cells #[v] 68 (0, 0))) : (loadVar 68 ⟨b, 0, none⟩).run Try.prog w = .ok v w := by
  have h1 : (isAgg 68).run Try.prog w = .ok false w := by kernel_rfl
  have h2 : w.cell? ⟨b, 0, none⟩ = some v := by simp [World.cell?, h]
  simp [loadVar, h1, go_sem, h2]
theorem call_method {P : Program} {T : TypeId} {v r : Value} {name : String} {f : FuncId} {w w' : World} (args : Array Value) (h : (method (P.types.size + Made.depth) T v name).run P w = .ok (f, r) w') : (callMethod (.iface T v) name args).run P w = (callFunc f (#[r] ++ args)).run P w' := by
  simp only [callMethod, Sem.run_bind, run_program, Result.andThen_ok, h]
/-- a method of the heap's value, called through a pointer -/
theorem hp_m_val (name : String) (f : FuncId) (hf : ((Try.prog.info? 66).bind fun i => i.methods.find? (·.name == name)).map (fun m => (m.func, m.path)) = some (some (f, false), #[])) (b : Nat) (v : Value) (w : World) (h : w.heap[b]? = some (.cells #[v] 68 (0, 0))) :
    (method 226 66 (.pointer (some ⟨b, 0, none⟩)) name).run Try.prog w = .ok (f, v) w := by
  have h1 := hp_load b v w h
  have hu : Try.prog.underlying 66 = some (.pointer 68) := Try.underlying66
  cases hi : Try.prog.info? 66 with
  | none => rw [hi] at hf; cases hf
  | some i =>
    rw [hi] at hf
    cases hm : i.methods.find? (·.name == name) with
    | none => simp [hm] at hf
    | some m =>
      simp [hm] at hf
      obtain ⟨hf1, hf2⟩ := hf
      have h2 : ∀ nm : String, (Builtin.ssaWrapNilChk_ #[66] 66 #[.pointer (some ⟨b, 0, none⟩), strVal "", strVal nm]).run Try.prog w = .ok (.pointer (some ⟨b, 0, none⟩)) w := fun nm => rfl
      have h3 : ∀ nm : String, (receiverAt 66 (.val (.pointer (some ⟨b, 0, none⟩))) false (some nm)).run Try.prog w = .ok v w := fun nm => by
        unfold receiverAt
        simp only [Sem.run_bind, run_underlying hu, Result.andThen_ok, Place.get, Sem.run_pure, h2, asAddr, h1]
      unfold method
      have h4 : (typeInfo 66).run Try.prog w = .ok i w := by simp only [typeInfo, Sem.run_bind, run_program, Result.andThen_ok, hi, Sem.run_pure]
      simp only [Sem.run_bind, h4, Result.andThen_ok, hm, hf2, follow, Sem.run_pure, hf1]
      rw [if_pos (show (#[] : Array FieldStep).isEmpty = true from rfl), h3]
      rfl
set_option maxRecDepth 100000 in
theorem hp_m_len (b : Nat) (v : Value) (w : World) (h : w.heap[b]? = some (.cells #[v] 68 (0, 0))) : (callMethod (.iface 66 (.pointer (some ⟨b, 0, none⟩))) "Len" #[]).run Try.prog w = (callFunc 78 #[v]).run Try.prog w :=
  call_method #[] (hp_m_val "Len" 78 (by kernel_rfl) b v w h)
set_option maxRecDepth 100000 in
theorem hp_m_less (b : Nat) (v : Value) (i j : Int) (w : World) (h : w.heap[b]? = some (.cells #[v] 68 (0, 0))) : (callMethod (.iface 66 (.pointer (some ⟨b, 0, none⟩))) "Less" #[.int .i64 i, .int .i64 j]).run Try.prog w = (callFunc 79 #[v, .int .i64 i, .int .i64 j]).run Try.prog w :=
  call_method _ (hp_m_val "Less" 79 (by kernel_rfl) b v w h)
set_option maxRecDepth 100000 in
theorem hp_m_swap (b : Nat) (v : Value) (i j : Int) (w : World) (h : w.heap[b]? = some (.cells #[v] 68 (0, 0))) : (callMethod (.iface 66 (.pointer (some ⟨b, 0, none⟩))) "Swap" #[.int .i64 i, .int .i64 j]).run Try.prog w = (callFunc 82 #[v, .int .i64 i, .int .i64 j]).run Try.prog w :=
  call_method _ (hp_m_val "Swap" 82 (by kernel_rfl) b v w h)

theorem hpLen_any (B b : Nat) (l : List Int) (v : Value) (h6 : l.length ≤ 7) (w : World) (h : It.Own w B v l) :
    Calls Try.prog 78 #[v] w fun e w' => e = .returned (.int .i64 l.length) ∧ Below w.heap.size w w' := by
  obtain ⟨A, c, rfl, _, _⟩ := OwnL.form h
  go_enter Try.func78, Try.ntmps78
  go_wp2_with fail
  go_ret
  exact ⟨rfl, Below.refl _ _⟩
theorem hpLess_any (B b : Nat) (l : List Int) (v : Value) (h6 : l.length ≤ 7) (i j : Nat) (hi : i < l.length) (hj : j < l.length) (w : World) (h : It.Own w B v l) :
    Calls Try.prog 79 #[v, .int .i64 i, .int .i64 j] w fun e w' => e = .returned (.bool (decide (Hp.at_ l i < Hp.at_ l j))) ∧ Below w.heap.size w w' := by
  obtain ⟨g, c, rfl, hb, hc⟩ := OwnL.form' h (by omega)
  have a1 : l[i]? = some (Hp.at_ l i) := by unfold Hp.at_; rw [List.getD_eq_getElem?_getD, List.getElem?_eq_getElem hi]; rfl
  have a2 : l[j]? = some (Hp.at_ l j) := by unfold Hp.at_; rw [List.getD_eq_getElem?_getD, List.getElem?_eq_getElem hj]; rfl
  have d1 : w.cell? ⟨g, i, none⟩ = some (.int .i64 (Hp.at_ l i)) := by simpa using own_cell (j := 0) It.cells_len h a1 rfl
  have d2 : w.cell? ⟨g, j, none⟩ = some (.int .i64 (Hp.at_ l j)) := by simpa using own_cell (j := 0) It.cells_len h a2 rfl
  generalize Hp.at_ l i = x at d1 ⊢
  generalize Hp.at_ l j = y at d2 ⊢
  clear h a1 a2
  go_enter Try.func79, Try.ntmps79
  go_upto_region 1 with fail
  go_quiet (fail)
  go_wp2_with fail
  go_ret
  exact ⟨rfl, below_drewN (Below.refl _ _) _⟩
theorem grown_drew {w w' : World} {r : Option Nat} (h : w.grownBy w' r) : w.grownBy w'.drew r := ⟨h.os, h.tape, h.output, h.size, h.block⟩
theorem hp_sw_own {w : World} {B g c : Nat} {l : List Int} (h : It.Own w B (.slice (some ⟨g, 0, none⟩) l.length c) l) {i j : Nat} (hi : i < l.length) (hj : j < l.length) :
    It.Own ((w.setCell ⟨g, i, none⟩ (.int .i64 (Hp.at_ l j))).setCell ⟨g, j, none⟩ (.int .i64 (Hp.at_ l i))) B (.slice (some ⟨g, 0, none⟩) l.length c) (Hp.sw l i j) := by
  have a1 : l[i]? = some l[i] := List.getElem?_eq_getElem hi
  have h1 := own_set (j := 0) (u' := Hp.at_ l j) (v := .int .i64 (Hp.at_ l j)) It.cells_len h a1 (by omega) rfl
  have hl : j < (l.set i (Hp.at_ l j)).length := by rw [List.length_set]; exact hj
  have h2 := own_set (j := 0) (u' := Hp.at_ l i) (v := .int .i64 (Hp.at_ l i)) It.cells_len h1 (List.getElem?_eq_getElem hl) (by omega) rfl
  simp only [Nat.mul_one, Nat.add_zero] at h2
  unfold It.Own OwnL
  rw [Hp.sw_len]
  exact h2
theorem hp_sw_own' {w : World} {B g c : Nat} {l : List Int} (h : It.Own w B (.slice (some ⟨g, 0, none⟩) l.length c) l) {i j : Nat} (hi : i < l.length) (hj : j < l.length) (hij : i ≠ j) :
    It.Own ((w.setCell ⟨g, j, none⟩ (.int .i64 (Hp.at_ l i))).setCell ⟨g, i, none⟩ (.int .i64 (Hp.at_ l j))) B (.slice (some ⟨g, 0, none⟩) l.length c) (Hp.sw l i j) := by
  have h1 := hp_sw_own h hj hi
  have e : Hp.sw l j i = Hp.sw l i j := by unfold Hp.sw; exact List.set_comm _ _ (Ne.symm hij)
  rwa [e] at h1
set_option maxRecDepth 100000 in
theorem hpSwap_any (B b : Nat) (l : List Int) (v : Value) (h6 : l.length ≤ 7) (i j : Nat) (hi : i < l.length) (hj : j < l.length) (w : World) (h : It.Own w B v l) :
    Calls Try.prog 82 #[v, .int .i64 i, .int .i64 j] w fun e w' => (∃ r, e = .returned r) ∧ It.Own w' B v (Hp.sw l i j) ∧ w.grownBy w' v.ownBlock := by
  obtain ⟨g, c, rfl, hb, hc⟩ := OwnL.form' h (by omega)
  have a1 : l[i]? = some (Hp.at_ l i) := by unfold Hp.at_; rw [List.getD_eq_getElem?_getD, List.getElem?_eq_getElem hi]; rfl
  have a2 : l[j]? = some (Hp.at_ l j) := by unfold Hp.at_; rw [List.getD_eq_getElem?_getD, List.getElem?_eq_getElem hj]; rfl
  have d1 : w.cell? ⟨g, i, none⟩ = some (.int .i64 (Hp.at_ l i)) := by simpa using own_cell (j := 0) It.cells_len h a1 rfl
  have d2 : w.cell? ⟨g, j, none⟩ = some (.int .i64 (Hp.at_ l j)) := by simpa using own_cell (j := 0) It.cells_len h a2 rfl
  have f1 : w.frozen? ⟨g, i, none⟩ = false := World.ownsRow.frozenAt h _
  have f2 : w.frozen? ⟨g, j, none⟩ = false := World.ownsRow.frozenAt h _
  by_cases hij : i = j
  · subst hij
    go_enter Try.func82, Try.ntmps82
    go_region
    all_goals
      go_end0
      exact ⟨⟨_, rfl⟩, hp_sw_own h hi hi, grown_drew (grown_set (grown_set (World.grownBy.refl w (some g)) _ _) _ _)⟩
  · have hji : j ≠ i := Ne.symm hij
    go_enter Try.func82, Try.ntmps82
    go_region
    all_goals
      go_end0
      first
      | exact ⟨⟨_, rfl⟩, hp_sw_own h hi hj, grown_drew (grown_set (grown_set (World.grownBy.refl w (some g)) _ _) _ _)⟩
      | exact ⟨⟨_, rfl⟩, hp_sw_own' h hi hj hij, grown_drew (grown_set (grown_set (World.grownBy.refl w (some g)) _ _) _ _)⟩

set_option maxRecDepth 100000 in
set_option maxHeartbeats 800000 in
theorem hpAdd_any (B b : Nat) (l : List Int) (x : Int) (h6 : l.length ≤ 6) (w : World) (h : HpSt B b l w) (hB : B ≤ w.heap.size) :
    Calls Try.prog 81 #[.pointer (some ⟨b, 0, none⟩), .iface 3 (.int .i64 x)] w fun e w' => (∃ r, e = .returned r) ∧ HpSt B b (l ++ [x]) w' ∧ HpB B w w' := by
  obtain ⟨v, hb, ho, hbB⟩ := h
  obtain ⟨i0, hi, hz0, hz1, hz2⟩ := info_parts int_info
  have hnb := fun (e : v.ownBlock = some b) => ow_not (E2 := 68) ho (by decide) hb e
  obtain ⟨A, c, rfl, hc1, hc2⟩ := OwnL.form ho
  have d0 : w.cell? ⟨b, 0, none⟩ = some (.slice A l.length c) := cell_at hb 0 _ rfl
  have f0 : w.frozen? ⟨b, 0, none⟩ = false := free_at hb 0
  have hbl := (Array.getElem?_eq_some_iff.1 hb).1
  have H0 : Hid ((w.alloc (.cells #[.int .i64 x] 3)).drew.ownsRow B 3 1 (.slice A l.length c) l.length (l.flatMap It.cells)) := Lib.hid (OwnL.alloc ho _)
  have HR : Hid (Reads (w.alloc (.cells #[.int .i64 x] 3)).drew (w.heap.size + 1) 1 (some ⟨w.heap.size, 0, none⟩) 1 (It.cells x)) := Lib.hid (by
    have := reads_of_at (c := 1) (by omega) It.cells_len (at_lit (us := [x]) (B := w.heap.size + 1) (f := It.cells) It.cells_len (heap_alloc_new w (.cells #[.int .i64 x] 3)) rfl (by omega))
    have h2 : Reads (w.alloc (.cells #[.int .i64 x] 3)) (w.heap.size + 1) 1 (some ⟨w.heap.size, 0, none⟩) 1 (It.cells x) := by simpa using this
    exact h2.drew)
  have hta : ∀ w, (Instr.typeAssert (.iface 3 (.int .i64 x)) 20 3 false).run Try.prog w = .ok (.int .i64 x) w := fun _ => by kernel_rfl
  have K1 := Lib.hid (It.one1 x)
  have K3 : Hid (l.length + 1 ≤ maxLen) := Lib.hid (by unfold maxLen; omega)
  have K4 : Hid ((l.length + 1) * 8 ≤ 140737488355328) := Lib.hid (by omega)
  have K5 : Hid (B ≤ (w.alloc (.cells #[.int .i64 x] 3)).drew.heap.size) := Lib.hid (Nat.le_trans hB (by simp [World.drew]))
  have HBB : Hid (HpB B w (w.alloc (.cells #[.int .i64 x] 3)).drew) := Lib.hid ⟨below_drewN ((Below.refl B w).alloc hB _) 1, fun q cs T h1 h2 hq => Below.heap_alloc w _ q (Array.getElem?_eq_some_iff.1 hq).1⟩
  have HX : Hid ((w.alloc (.cells #[.int .i64 x] 3)).drew.heap[b]? = some (.cells #[.slice A l.length c] 68 (0, 0))) := Lib.hid ((Below.heap_alloc w _ b hbl).trans hb)
  have e0 : (w.alloc (.cells #[.int .i64 x] 3)).cell? ⟨b, 0, none⟩ = some (.slice A l.length c) := cell_at HX.out 0 _ rfl
  have HB := Lib.hid (fun q => OwnL.blk (q := q) ho)
  clear hb ho hnb
  go_enter Try.func81, Try.ntmps81
  go_region_law ((first
      | (refine step_append_any _ rfl (.tmp 7) (.tmp 10) _ rfl B 3 i0 _ 1 8 Try.underlying68 hi hz0 hz1 hz2 rfl (by omega) _ l.length _ (by simp [Act.eval]) H0.out _ _ 1 1 _ (by simp [Act.eval]) HR.out K1.out K3.out K4.out K5.out ?_; intro v1 wa hown hgr hbk; obtain ⟨A1, c1, rfl⟩ := own_form hown; have hx1 := (ow_block (E := 3) (f := It.cells) (us := l) H0.out HX.out (by decide) hgr).trans HX.out; have g0 : wa.cell? ⟨b, 0, none⟩ = some (.slice A l.length c) := cell_at hx1 0 _ rfl; have g1 := free_at hx1 0)))
  all_goals
    have ho1 : It.Own wa B (.slice A1 (l.length + 1) c1) (l ++ [x]) := by unfold It.Own OwnL; simpa using hown
    go_end0
    exact ⟨⟨_, rfl⟩, ⟨_, ow_set1 hx1 _, ow_setTo ho1 hx1 (by decide) 0 _, hbB⟩, (HBB.out.grown (l := l) H0.out hgr K5.out).set hx1 hbB _⟩
set_option maxRecDepth 100000 in
set_option maxHeartbeats 800000 in
theorem hpTake_any (B b : Nat) (l : List Int) (h6 : l.length ≤ 6) (hl : 0 < l.length) (w : World) (h : HpSt B b l w) :
    Calls Try.prog 80 #[.pointer (some ⟨b, 0, none⟩)] w fun e w' => e = .returned (.iface 3 (.int .i64 (Hp.at_ l (l.length - 1)))) ∧ HpSt B b (l.take (l.length - 1)) w' ∧ HpB B w w' := by
  obtain ⟨v, hb, ho, hbB⟩ := h
  obtain ⟨g, c, rfl, hgB, hc⟩ := OwnL.form' ho hl
  obtain ⟨n, hn⟩ : ∃ n, n = l.length - 1 := ⟨_, rfl⟩
  have hln : l.length = n + 1 := by omega
  rw [← hn]
  have a1 : l[n]? = some (Hp.at_ l n) := by unfold Hp.at_; rw [List.getD_eq_getElem?_getD, List.getElem?_eq_getElem (by omega)]; rfl
  have d0 : w.cell? ⟨b, 0, none⟩ = some (.slice (some ⟨g, 0, none⟩) (n + 1) c) := by rw [← hln]; exact cell_at hb 0 _ rfl
  have f0 : w.frozen? ⟨b, 0, none⟩ = false := free_at hb 0
  have d1 : w.cell? ⟨g, n, none⟩ = some (.int .i64 (Hp.at_ l n)) := by simpa using own_cell (j := 0) It.cells_len ho a1 rfl
  have HT := Lib.hid (own_take (n' := n) It.cells_len ho (by omega) rfl)
  have HX := Lib.hid hb
  have hnc : n ≤ c := by omega
  have hni : ((n + 1 : Nat) : Int) - 1 = (n : Int) := by omega
  have hlt : (l.take n).length = n := by rw [List.length_take]; omega
  generalize Hp.at_ l n = x at d1 ⊢
  clear hb ho a1 hn
  go_enter Try.func80, Try.ntmps80
  go_wp2_with fail
  go_ret
  refine ⟨rfl, ⟨_, ow_set1 HX.out _, ow_setTo ?_ HX.out (by decide) 0 _, hbB⟩, (HpB.refl _ _).set HX.out hbB _⟩
  unfold OwnL
  rw [hlt]
  exact HT.out
set_option maxRecDepth 100000 in
set_option maxHeartbeats 1600000 in
theorem hpUp_any (B b : Nat) (l : List Int) (j : Nat) (h6 : l.length ≤ 6) (hj : j < l.length) (w : World) (h : HpSt B b l w) (hB : B ≤ w.heap.size) :
    Calls Try.prog 51 #[.iface 66 (.pointer (some ⟨b, 0, none⟩)), .int .i64 j] w fun e w' => (∃ r, e = .returned r) ∧ HpSt B b (Hp.up l j 6) w' ∧ HpB B w w' := by
  go_enter Try.func51, Try.ntmps51
  go_wp2_with fail
  go_loopg [1] 6 (fun gg jj wr => ∃ (k n : Nat) (l' : List Int), Hid (gg = n) ∧ jj = .int .i64 (k : Int) ∧ k + 1 ≤ n ∧ n ≤ 6 ∧ k < l'.length ∧ l'.length ≤ 6 ∧ Hid (Hp.up l j 6 = Hp.up l' k n) ∧ Hid (HpSt B b l' wr) ∧ HpB B w wr)
  case atStart => exact ⟨j, 6, l, Lib.hid rfl, rfl, by omega, by omega, hj, h6, Lib.hid rfl, Lib.hid h, HpB.refl _ _⟩
  case round =>
    obtain ⟨k, n, l', HG, rfl, hkn, hn6, hkl, hl6, HU, HS, hb⟩ := hrel
    obtain ⟨m, rfl⟩ : ∃ m, n = m + 1 := ⟨n - 1, by omega⟩
    by_cases hk0 : k = 0
    · subst hk0
      have HE : Hid (Hp.up l' 0 (m + 1) = l') := Lib.hid (by unfold Hp.up; rw [if_pos (.inl rfl)])
      go_wp2_with fail
      go_end0
      rw [HU.out, HE.out]
      exact ⟨⟨_, rfl⟩, HS.out, hb⟩
    · obtain ⟨p, hp⟩ : ∃ p, p = Hp.par k := ⟨_, rfl⟩
      have hpk : p < k := by rw [hp]; unfold Hp.par; omega
      have hq : ((k : Int) - 1).tdiv 2 = (p : Int) := by rw [hp]; unfold Hp.par; rw [Int.tdiv_eq_ediv_of_nonneg (by omega)]; omega
      have hpk2 : ((p : Int) == (k : Int)) = false := by simp; omega
      have HP := Lib.hid hp
      clear hp
      obtain ⟨v, hx, ho, hbB⟩ := HS.out
      have HX := Lib.hid hx
      have HO := Lib.hid ho
      clear hx ho
      have hml := hp_m_val "Less" 79 (by kernel_rfl) b v wr HX.out
      go_wp2_with fail
      refine Calls.mono (hpLess_any B b l' v (by omega) k p (by omega) (by omega) wr HO.out) ?_
      rintro e w1 ⟨rfl, hb1⟩
      have HXw1 := Lib.hid ((hb1.block b (Array.getElem?_eq_some_iff.1 HX.out).1).trans HX.out)
      have HOw1 : Hid (It.Own w1 B v l') := Lib.hid (OwnL.below HO.out hb1)
      have hbw1 := hb.tb hb1 (Nat.le_trans hB hb.size)
      clear hb1 hml
      by_cases hlt : Hp.at_ l' k < Hp.at_ l' p
      · rw [decide_eq_true hlt]
        have HE : Hid (Hp.up l' k (m + 1) = Hp.up (Hp.sw l' p k) p m) := Lib.hid (by rw [Hp.up, if_neg (by rw [← HP.out]; rintro (h | h); omega; exact h hlt), ← HP.out])
        clear hlt
        have hml := hp_m_val "Swap" 82 (by kernel_rfl) b v w1 HXw1.out
        go_wp2_with fail
        refine Calls.mono (hpSwap_any B b l' v (by omega) p k (by omega) (by omega) w1 HOw1.out) ?_
        rintro e w2 ⟨⟨r, rfl⟩, ho2, hg2⟩
        have HS2 : Hid (HpSt B b (Hp.sw l' p k) w2) := Lib.hid ⟨v, (ow_block HOw1.out HXw1.out (by decide) hg2).trans HXw1.out, ho2, hbB⟩
        have hbw2 := hbw1.grown HOw1.out hg2 (Nat.le_trans hB hbw1.size)
        have hsl := Hp.sw_len l' p k
        clear ho2 hg2 hml
        go_wp2_with fail
        go_roundg m
        case measure => have := HG.out; omega
        case rel => exact ⟨p, m, Hp.sw l' p k, Lib.hid rfl, rfl, by omega, by omega, by omega, by omega, Lib.hid (HU.out.trans HE.out), HS2, hbw2⟩
      · rw [decide_eq_false hlt]
        have HE : Hid (Hp.up l' k (m + 1) = l') := Lib.hid (by rw [Hp.up, if_pos (.inr (by rw [← HP.out]; exact hlt))])
        clear hlt
        go_wp2_with fail
        go_end0
        rw [HU.out, HE.out]
        exact ⟨⟨_, rfl⟩, ⟨v, HXw1.out, HOw1.out, hbB⟩, hbw1⟩
set_option maxRecDepth 100000 in
set_option maxHeartbeats 3200000 in
theorem hpDown_any (B b : Nat) (l : List Int) (n : Nat) (h6 : l.length ≤ 6) (hl : 0 < l.length) (hn : n ≤ l.length) (w : World) (h : HpSt B b l w) (hB : B ≤ w.heap.size) :
    Calls Try.prog 52 #[.iface 66 (.pointer (some ⟨b, 0, none⟩)), .int .i64 0, .int .i64 n] w fun e w' => (∃ r, e = .returned r) ∧ HpSt B b (Hp.down l 0 n 6) w' ∧ HpB B w w' := by
  go_enter Try.func52, Try.ntmps52
  go_wp2_with fail
  go_loopg [7] 6 (fun gg jj wr => ∃ (k f : Nat) (l' : List Int), Hid (gg = f) ∧ jj = .int .i64 (k : Int) ∧ 6 ≤ k + f ∧ k < l'.length ∧ l'.length = l.length ∧ Hid (Hp.down l 0 n 6 = Hp.down l' k n f) ∧ Hid (HpSt B b l' wr) ∧ HpB B w wr)
  case atStart => exact ⟨0, 6, l, Lib.hid rfl, rfl, by omega, hl, rfl, Lib.hid rfl, Lib.hid h, HpB.refl _ _⟩
  case round =>
    obtain ⟨k, f, l', HG, rfl, hkf, hkl, hll, HU, HS, hb⟩ := hrel
    obtain ⟨m, rfl⟩ : ∃ m, f = m + 1 := ⟨f - 1, by omega⟩
    by_cases h1 : 2 * k + 1 ≥ n
    · have h1i : (n : Int) ≤ 2 * (k : Int) + 1 := by omega
      have HE : Hid (Hp.down l' k n (m + 1) = l') := Lib.hid (by rw [Hp.down, if_pos (.inl h1)])
      go_wp2_with fail
      go_ret
      rw [HU.out, HE.out]
      exact ⟨⟨_, rfl⟩, HS.out, hb⟩
    · have h1i : ¬ (n : Int) ≤ 2 * (k : Int) + 1 := by omega
      have h1j : ¬ 2 * (k : Int) + 1 < 0 := by omega
      obtain ⟨v, hx, ho, hbB⟩ := HS.out
      have HX := Lib.hid hx
      have HO := Lib.hid ho
      clear hx ho HS
      have H2C : Hid ((2 * (k : Int) + 1) = ((2 * k + 1 : Nat) : Int)) := Lib.hid (by omega)
      by_cases h2 : 2 * k + 2 < n
      · have h2i : 2 * (k : Int) + 1 + 1 < (n : Int) := by omega
        have hml := hp_m_val "Less" 79 (by kernel_rfl) b v wr HX.out
        go_wp2_with fail
        rw [H2C.out, show ((2 * k + 1 : Nat) : Int) + 1 = ((2 * k + 2 : Nat) : Int) by omega]
        refine Calls.mono (hpLess_any B b l' v (by omega) (2 * k + 2) (2 * k + 1) (by omega) (by omega) wr HO.out) ?_
        rintro e w1 ⟨rfl, hb1⟩
        have HXw1 := Lib.hid ((hb1.block b (Array.getElem?_eq_some_iff.1 HX.out).1).trans HX.out)
        have HOw1 : Hid (It.Own w1 B v l') := Lib.hid (OwnL.below HO.out hb1)
        have hbw1 := hb.tb hb1 (Nat.le_trans hB hb.size)
        clear hb1 hml
        by_cases hc : Hp.at_ l' (2 * k + 2) < Hp.at_ l' (2 * k + 1)
        · rw [decide_eq_true hc]
          have HC : Hid (Hp.child l' k n = 2 * k + 2) := Lib.hid (by unfold Hp.child; rw [if_pos ⟨h2, hc⟩])
          have hml := hp_m_val "Less" 79 (by kernel_rfl) b v w1 HXw1.out
          go_wp2_with fail
          refine Calls.mono (hpLess_any B b l' v (by omega) (2 * k + 2) k (by omega) (by omega) w1 HOw1.out) ?_
          rintro e w2 ⟨rfl, hb1⟩
          have HXw2 := Lib.hid ((hb1.block b (Array.getElem?_eq_some_iff.1 HXw1.out).1).trans HXw1.out)
          have HOw2 : Hid (It.Own w2 B v l') := Lib.hid (OwnL.below HOw1.out hb1)
          have hbw2 := hbw1.tb hb1 (Nat.le_trans hB hbw1.size)
          clear hb1 hml
          by_cases hlt : Hp.at_ l' (2 * k + 2) < Hp.at_ l' k
          · rw [decide_eq_true hlt]
            have HE : Hid (Hp.down l' k n (m + 1) = Hp.down (Hp.sw l' k (2 * k + 2)) (2 * k + 2) n m) := Lib.hid (by rw [Hp.down, HC.out, if_neg (by rintro (h | h); exact h1 h; exact h hlt)])
            clear hlt
            have hml := hp_m_val "Swap" 82 (by kernel_rfl) b v w2 HXw2.out
            go_wp2_with fail
            refine Calls.mono (hpSwap_any B b l' v (by omega) k (2 * k + 2) (by omega) (by omega) w2 HOw2.out) ?_
            rintro e w3 ⟨⟨r, rfl⟩, ho2, hg2⟩
            have HS2 : Hid (HpSt B b (Hp.sw l' k (2 * k + 2)) w3) := Lib.hid ⟨v, (ow_block HOw2.out HXw2.out (by decide) hg2).trans HXw2.out, ho2, hbB⟩
            have hbw3 := hbw2.grown HOw2.out hg2 (Nat.le_trans hB hbw2.size)
            have hsl := Hp.sw_len l' k (2 * k + 2)
            clear ho2 hg2 hml
            go_wp2_with fail
            go_roundg m
            case measure => have := HG.out; omega
            case rel => exact ⟨2 * k + 2, m, Hp.sw l' k (2 * k + 2), Lib.hid rfl, by first | rfl | (simp only [Value.int.injEq, true_and]; omega), by omega, by omega, by omega, Lib.hid (HU.out.trans HE.out), HS2, hbw3⟩
          · rw [decide_eq_false hlt]
            have HE : Hid (Hp.down l' k n (m + 1) = l') := Lib.hid (by rw [Hp.down, HC.out, if_pos (.inr hlt)])
            clear hlt
            go_wp2_with fail
            go_ret
            rw [HU.out, HE.out]
            exact ⟨⟨_, rfl⟩, ⟨v, HXw2.out, HOw2.out, hbB⟩, hbw2⟩
        · rw [decide_eq_false hc]
          have HC : Hid (Hp.child l' k n = 2 * k + 1) := Lib.hid (by unfold Hp.child; rw [if_neg (fun h => hc h.2)])
          have hml := hp_m_val "Less" 79 (by kernel_rfl) b v w1 HXw1.out
          go_wp2_with fail
          refine Calls.mono (hpLess_any B b l' v (by omega) (2 * k + 1) k (by omega) (by omega) w1 HOw1.out) ?_
          rintro e w2 ⟨rfl, hb1⟩
          have HXw2 := Lib.hid ((hb1.block b (Array.getElem?_eq_some_iff.1 HXw1.out).1).trans HXw1.out)
          have HOw2 : Hid (It.Own w2 B v l') := Lib.hid (OwnL.below HOw1.out hb1)
          have hbw2 := hbw1.tb hb1 (Nat.le_trans hB hbw1.size)
          clear hb1 hml
          by_cases hlt : Hp.at_ l' (2 * k + 1) < Hp.at_ l' k
          · rw [decide_eq_true hlt]
            have HE : Hid (Hp.down l' k n (m + 1) = Hp.down (Hp.sw l' k (2 * k + 1)) (2 * k + 1) n m) := Lib.hid (by rw [Hp.down, HC.out, if_neg (by rintro (h | h); exact h1 h; exact h hlt)])
            clear hlt
            have hml := hp_m_val "Swap" 82 (by kernel_rfl) b v w2 HXw2.out
            go_wp2_with fail
            refine Calls.mono (hpSwap_any B b l' v (by omega) k (2 * k + 1) (by omega) (by omega) w2 HOw2.out) ?_
            rintro e w3 ⟨⟨r, rfl⟩, ho2, hg2⟩
            have HS2 : Hid (HpSt B b (Hp.sw l' k (2 * k + 1)) w3) := Lib.hid ⟨v, (ow_block HOw2.out HXw2.out (by decide) hg2).trans HXw2.out, ho2, hbB⟩
            have hbw3 := hbw2.grown HOw2.out hg2 (Nat.le_trans hB hbw2.size)
            have hsl := Hp.sw_len l' k (2 * k + 1)
            clear ho2 hg2 hml
            go_wp2_with fail
            go_roundg m
            case measure => have := HG.out; omega
            case rel => exact ⟨2 * k + 1, m, Hp.sw l' k (2 * k + 1), Lib.hid rfl, by first | rfl | (simp only [Value.int.injEq, true_and]; omega), by omega, by omega, by omega, Lib.hid (HU.out.trans HE.out), HS2, hbw3⟩
          · rw [decide_eq_false hlt]
            have HE : Hid (Hp.down l' k n (m + 1) = l') := Lib.hid (by rw [Hp.down, HC.out, if_pos (.inr hlt)])
            clear hlt
            go_wp2_with fail
            go_ret
            rw [HU.out, HE.out]
            exact ⟨⟨_, rfl⟩, ⟨v, HXw2.out, HOw2.out, hbB⟩, hbw2⟩
      · have h2i : ¬ 2 * (k : Int) + 1 + 1 < (n : Int) := by omega
        have HC : Hid (Hp.child l' k n = 2 * k + 1) := Lib.hid (by unfold Hp.child; rw [if_neg (fun h => h2 h.1)])
        have hml := hp_m_val "Less" 79 (by kernel_rfl) b v wr HX.out
        go_wp2_with fail
        rw [H2C.out]
        refine Calls.mono (hpLess_any B b l' v (by omega) (2 * k + 1) k (by omega) (by omega) wr HO.out) ?_
        rintro e w2 ⟨rfl, hb1⟩
        have HXw2 := Lib.hid ((hb1.block b (Array.getElem?_eq_some_iff.1 HX.out).1).trans HX.out)
        have HOw2 : Hid (It.Own w2 B v l') := Lib.hid (OwnL.below HO.out hb1)
        have hbw2 := hb.tb hb1 (Nat.le_trans hB hb.size)
        clear hb1 hml
        by_cases hlt : Hp.at_ l' (2 * k + 1) < Hp.at_ l' k
        · rw [decide_eq_true hlt]
          have HE : Hid (Hp.down l' k n (m + 1) = Hp.down (Hp.sw l' k (2 * k + 1)) (2 * k + 1) n m) := Lib.hid (by rw [Hp.down, HC.out, if_neg (by rintro (h | h); exact h1 h; exact h hlt)])
          clear hlt
          have hml := hp_m_val "Swap" 82 (by kernel_rfl) b v w2 HXw2.out
          go_wp2_with fail
          rw [H2C.out]
          refine Calls.mono (hpSwap_any B b l' v (by omega) k (2 * k + 1) (by omega) (by omega) w2 HOw2.out) ?_
          rintro e w3 ⟨⟨r, rfl⟩, ho2, hg2⟩
          have HS2 : Hid (HpSt B b (Hp.sw l' k (2 * k + 1)) w3) := Lib.hid ⟨v, (ow_block HOw2.out HXw2.out (by decide) hg2).trans HXw2.out, ho2, hbB⟩
          have hbw3 := hbw2.grown HOw2.out hg2 (Nat.le_trans hB hbw2.size)
          have hsl := Hp.sw_len l' k (2 * k + 1)
          clear ho2 hg2 hml
          go_wp2_with fail
          go_roundg m
          case measure => have := HG.out; omega
          case rel => exact ⟨2 * k + 1, m, Hp.sw l' k (2 * k + 1), Lib.hid rfl, by first | rfl | (simp only [Value.int.injEq, true_and]; omega), by omega, by omega, by omega, Lib.hid (HU.out.trans HE.out), HS2, hbw3⟩
        · rw [decide_eq_false hlt]
          have HE : Hid (Hp.down l' k n (m + 1) = l') := Lib.hid (by rw [Hp.down, HC.out, if_pos (.inr hlt)])
          clear hlt
          go_wp2_with fail
          go_ret
          rw [HU.out, HE.out]
          exact ⟨⟨_, rfl⟩, ⟨v, HXw2.out, HOw2.out, hbB⟩, hbw2⟩
set_option maxRecDepth 100000 in
set_option maxHeartbeats 1600000 in
theorem hpPush_any (B b : Nat) (l : List Int) (x : Int) (h6 : l.length ≤ 5) (w : World) (h : HpSt B b l w) (hB : B ≤ w.heap.size) :
    Calls Try.prog 36 #[.iface 66 (.pointer (some ⟨b, 0, none⟩)), .iface 3 (.int .i64 x)] w fun e w' => (∃ r, e = .returned r) ∧ HpSt B b (Hp.push l x) w' ∧ HpB B w w' := by
  have hm := fun w => call_method #[.iface 3 (.int .i64 x)] (hp_m_push b w)
  have hm2 := fun w => hp_m_push b w
  go_enter Try.func36, Try.ntmps36
  go_wp2_with fail
  refine Calls.mono (hpAdd_any B b l x (by omega) w h hB) ?_
  rintro e w1 ⟨⟨r, rfl⟩, hs1, hb1⟩
  obtain ⟨ll, hll⟩ : ∃ ll, ll = l ++ [x] := ⟨_, rfl⟩
  have hlz : ll.length = l.length + 1 := by rw [hll]; simp
  have HLL := Lib.hid hll
  rw [← hll] at hs1
  clear hll
  obtain ⟨v, hx, ho, hbB⟩ := hs1
  have hml := hp_m_len b v w1 hx
  have hmk := hp_m_val "Len" 78 (by kernel_rfl) b v w1 hx
  have HX := Lib.hid hx
  have HO := Lib.hid ho
  clear hx ho
  go_wp2_with fail
  refine Calls.mono (hpLen_any B b ll v (by omega) w1 HO.out) ?_
  rintro e w2 ⟨rfl, hb2⟩
  have HS2 : Hid (HpSt B b ll w2) := Lib.hid ⟨v, (hb2.block b (Array.getElem?_eq_some_iff.1 HX.out).1).trans HX.out, OwnL.below HO.out hb2, hbB⟩
  have hbw := hb1.tb hb2 (Nat.le_trans hB hb1.size)
  have hni : (ll.length : Int) - 1 = (l.length : Int) := by omega
  clear hml hmk hb1 hb2
  go_wp2_with fail
  refine Calls.mono (hpUp_any B b ll l.length (by omega) (by omega) w2 HS2.out (Nat.le_trans hB hbw.size)) ?_
  rintro e w3 ⟨⟨r, rfl⟩, hs3, hb3⟩
  go_wp2_with fail
  go_end0
  refine ⟨⟨_, rfl⟩, ?_, hbw.trans hb3⟩
  unfold Hp.push
  rw [← HLL.out]; exact hs3
end Go.Proofs.Ytpbaimofffcnaaa
