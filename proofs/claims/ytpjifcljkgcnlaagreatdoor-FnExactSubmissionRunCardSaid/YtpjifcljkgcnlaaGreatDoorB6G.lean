/- base64Groups of the program: an iterator over the groups of a text. -/
import Derived.RangeFuncNested
import Derived.RangeFuncBound
import Derived.RangeFuncCalls
import Derived.RangeFuncLeaves
import Derived.RangeFuncFrom
import Derived.Shelf.Abstract
import Derived.Shelf.RegionOpen
import Derived.WalkKit
import Derived.OwnWalkIn
import Derived.TacticsInMore
import Derived.LoopNIn
import Derived.LoopIn
import Derived.Test.YtpjifcljkgcnlaaGreatDoorBldX
import Derived.Test.YtpjifcljkgcnlaaGreatDoorPl
namespace Go.Proofs.YtpjifcljkgcnlaaGreatDoor
set_option linter.unusedVariables false
open Go.RowKit Go.Shelf
attribute [local go_sem] Oper.semAt_some

/-- how many groups there are -/
def Gs.n (s : ByteArray) (K : Nat) : Nat := (s.size + (K - 1)) / K
/-- two blocks lie as they lay -/
def Gs.Kp (Bt Bs : Nat) (W W' : World) : Prop := W'.heap[Bt]? = W.heap[Bt]? ∧ W'.heap[Bs]? = W.heap[Bs]?
theorem Gs.Kp.refl (Bt Bs : Nat) (W : World) : Gs.Kp Bt Bs W W := ⟨rfl, rfl⟩
theorem Gs.Kp.trans {Bt Bs : Nat} {W W' W'' : World} (h : Gs.Kp Bt Bs W W') (k : Gs.Kp Bt Bs W' W'') : Gs.Kp Bt Bs W W'' := ⟨k.1.trans h.1, k.2.trans h.2⟩
theorem Gs.Kp.cellT {Bt Bs o : Nat} {W W' : World} (h : Gs.Kp Bt Bs W W') : W'.cell? ⟨Bt, o, none⟩ = W.cell? ⟨Bt, o, none⟩ := World.cell?_of_block h.1
theorem Gs.Kp.cellS {Bt Bs o : Nat} {W W' : World} (h : Gs.Kp Bt Bs W W') : W'.cell? ⟨Bs, o, none⟩ = W.cell? ⟨Bs, o, none⟩ := World.cell?_of_block h.2
theorem Gs.Kp.below {B Bt Bs : Nat} {W W' : World} (h : Below B W W') (ht : Bt < B) (hs : Bs < B) : Gs.Kp Bt Bs W W' := ⟨h.block _ ht, h.block _ hs⟩
theorem Gs.Kp.putObj {Bt Bs : Nat} (W : World) {l : Nat} (o : Obj) (ht : Bt ≠ l) (hs : Bs ≠ l) : Gs.Kp Bt Bs W (W.putObj l o) := ⟨World.putObj_heap_other ht, World.putObj_heap_other hs⟩
/-- what the iterator has done -/
def Gs.Ran (s : ByteArray) (K : Nat) (hK : 1 ≤ K) (J Jx : List (Gs.G K) → World → Prop) (e : Ending) (W' : World) : Prop :=
  (∃ v, e = .returned v) ∧ ((∃ ys, ys = Gs.upto (Gs.at_ s K hK) (Gs.n s K) ∧ J ys W') ∨ (∃ pre, True ∧ Jx pre W'))

set_option maxRecDepth 100000 in
set_option maxHeartbeats 2000000 in
theorem groups3_in (F : Fence) (n : Nat) (hf : F.fn 117) (hro : F.round = none) (hn : 1 ≤ n) (l Bt Bs : Nat) (s : ByteArray) (hs : s.size ≤ 1000) (J Jx : List (Gs.G 3) → World → Prop)
    (hY : ∀ pre x W, J pre W → pre.length < Gs.n s 3 → YieldAt F (n - 1) Tryz.prog l #[.string x.1] W fun e W' =>
      (e = .returned (.bool true) ∧ J (pre ++ [x]) W' ∧ Gs.Kp Bt Bs W W') ∨ (e = .returned (.bool false) ∧ Jx (pre ++ [x]) W'))
    (W : World) (ht : W.cell? ⟨Bt, 0, none⟩ = some (.string s)) (hk : W.cell? ⟨Bs, 0, none⟩ = some (.int .i64 3)) (h0 : J [] W) :
    CallsIn F n Tryz.prog 117 #[.func (.yield l) #[] #[], .pointer (some ⟨Bt, 0, none⟩), .pointer (some ⟨Bs, 0, none⟩)] W (Gs.Ran s 3 (by decide) J Jx) := by
  refine callsIn_of_wp Tryz.func117 rfl hf ?_ hro
  simp only [Tryz.ntmps117, List.size_toArray, List.length_cons, List.length_nil, Nat.reduceAdd, Nat.reduceSub, Array.replicate_succ, Array.replicate_zero, List.push_toArray, List.append_toArray, List.nil_append, List.cons_append]
  have HY := Lib.hid hY
  clear hY
  gi_wp2
  gi_loopw [4] (fun i wr => ∃ k : Nat, k ≤ Gs.n s 3 ∧ i = .int .i64 ((k * 3 : Nat) : Int) ∧ Hid (J (Gs.upto (Gs.at_ s 3 (by decide)) k) wr) ∧ Gs.Kp Bt Bs W wr)
    (fun i _ => s.size + 3 - (intOf i).toNat)
  case atStart => exact ⟨0, Nat.zero_le _, rfl, Lib.hid h0, Gs.Kp.refl _ _ _⟩
  case round =>
    obtain ⟨k, hkn, rfl, HJ, hnx⟩ := hrel
    have ht' : wr.cell? ⟨Bt, 0, none⟩ = some (.string s) := hnx.cellT.trans ht
    have hk' : wr.cell? ⟨Bs, 0, none⟩ = some (.int .i64 3) := hnx.cellS.trans hk
    have hkn' : k * 3 ≤ s.size + 2 := by unfold Gs.n at hkn; omega
    by_cases hlt : k * 3 < s.size
    · have HV := Lib.hid (Gs.at_val (s := s) (K := 3) (by decide) hlt)
      obtain ⟨fn, tmps, assign, body, hy, hR⟩ := HY.out _ (Gs.at_ s 3 (by decide) k) wr HJ.out (by rw [Gs.upto_length]; unfold Gs.n; omega)
      rw [HV.out] at hy
      by_cases h3 : k * 3 + 3 ≤ s.size
      case' pos => rw [show min (k * 3 + 3) s.size = k * 3 + 3 by omega] at hy
      case' neg => rw [show min (k * 3 + 3) s.size = s.size by omega] at hy
      all_goals
        gi_wp2
        refine hR.mono ?_
        rintro e W3 (⟨rfl, hJ3, hk3⟩ | ⟨rfl, hJx3⟩)
        · have ht3 : W3.cell? ⟨Bt, 0, none⟩ = some (.string s) := hk3.cellT.trans ht'
          have hk3' : W3.cell? ⟨Bs, 0, none⟩ = some (.int .i64 3) := hk3.cellS.trans hk'
          have HJ3 := Lib.hid hJ3
          clear hJ3 hy hR
          gi_wp2
          go_roundw
          case rel => exact ⟨k + 1, by unfold Gs.n at hkn ⊢; omega, by simp; omega, Lib.hid (by rw [Gs.upto_succ]; exact HJ3.out), hnx.trans hk3⟩
          case measure => simp [intOf]; omega
        · gi_wp2
          refine bodyPost_ret (results_none rfl _ _ _) rfl ?_
          exact ⟨⟨_, rfl⟩, .inr ⟨_, trivial, hJx3⟩⟩
    · have HE : Hid (k = Gs.n s 3) := Lib.hid (by unfold Gs.n at hkn ⊢; omega)
      gi_wp2
      go_end0
      exact ⟨⟨_, rfl⟩, .inl ⟨_, by rw [HE.out], HJ.out⟩⟩
-- four
set_option maxRecDepth 100000 in
set_option maxHeartbeats 2000000 in
theorem groups4_in (F : Fence) (n : Nat) (hf : F.fn 117) (hro : F.round = none) (hn : 1 ≤ n) (l Bt Bs : Nat) (s : ByteArray) (hs : s.size ≤ 1000) (J Jx : List (Gs.G 4) → World → Prop)
    (hY : ∀ pre x W, J pre W → pre.length < Gs.n s 4 → YieldAt F (n - 1) Tryz.prog l #[.string x.1] W fun e W' =>
      (e = .returned (.bool true) ∧ J (pre ++ [x]) W' ∧ Gs.Kp Bt Bs W W') ∨ (e = .returned (.bool false) ∧ Jx (pre ++ [x]) W'))
    (W : World) (ht : W.cell? ⟨Bt, 0, none⟩ = some (.string s)) (hk : W.cell? ⟨Bs, 0, none⟩ = some (.int .i64 4)) (h0 : J [] W) :
    CallsIn F n Tryz.prog 117 #[.func (.yield l) #[] #[], .pointer (some ⟨Bt, 0, none⟩), .pointer (some ⟨Bs, 0, none⟩)] W (Gs.Ran s 4 (by decide) J Jx) := by
  refine callsIn_of_wp Tryz.func117 rfl hf ?_ hro
  simp only [Tryz.ntmps117, List.size_toArray, List.length_cons, List.length_nil, Nat.reduceAdd, Nat.reduceSub, Array.replicate_succ, Array.replicate_zero, List.push_toArray, List.append_toArray, List.nil_append, List.cons_append]
  have HY := Lib.hid hY
  clear hY
  gi_wp2
  gi_loopw [4] (fun i wr => ∃ k : Nat, k ≤ Gs.n s 4 ∧ i = .int .i64 ((k * 4 : Nat) : Int) ∧ Hid (J (Gs.upto (Gs.at_ s 4 (by decide)) k) wr) ∧ Gs.Kp Bt Bs W wr)
    (fun i _ => s.size + 4 - (intOf i).toNat)
  case atStart => exact ⟨0, Nat.zero_le _, rfl, Lib.hid h0, Gs.Kp.refl _ _ _⟩
  case round =>
    obtain ⟨k, hkn, rfl, HJ, hnx⟩ := hrel
    have ht' : wr.cell? ⟨Bt, 0, none⟩ = some (.string s) := hnx.cellT.trans ht
    have hk' : wr.cell? ⟨Bs, 0, none⟩ = some (.int .i64 4) := hnx.cellS.trans hk
    have hkn' : k * 4 ≤ s.size + 3 := by unfold Gs.n at hkn; omega
    by_cases hlt : k * 4 < s.size
    · have HV := Lib.hid (Gs.at_val (s := s) (K := 4) (by decide) hlt)
      obtain ⟨fn, tmps, assign, body, hy, hR⟩ := HY.out _ (Gs.at_ s 4 (by decide) k) wr HJ.out (by rw [Gs.upto_length]; unfold Gs.n; omega)
      rw [HV.out] at hy
      by_cases h3 : k * 4 + 4 ≤ s.size
      case' pos => rw [show min (k * 4 + 4) s.size = k * 4 + 4 by omega] at hy
      case' neg => rw [show min (k * 4 + 4) s.size = s.size by omega] at hy
      all_goals
        gi_wp2
        refine hR.mono ?_
        rintro e W3 (⟨rfl, hJ3, hk3⟩ | ⟨rfl, hJx3⟩)
        · have ht3 : W3.cell? ⟨Bt, 0, none⟩ = some (.string s) := hk3.cellT.trans ht'
          have hk3' : W3.cell? ⟨Bs, 0, none⟩ = some (.int .i64 4) := hk3.cellS.trans hk'
          have HJ3 := Lib.hid hJ3
          clear hJ3 hy hR
          gi_wp2
          go_roundw
          case rel => exact ⟨k + 1, by unfold Gs.n at hkn ⊢; omega, by simp; omega, Lib.hid (by rw [Gs.upto_succ]; exact HJ3.out), hnx.trans hk3⟩
          case measure => simp [intOf]; omega
        · gi_wp2
          refine bodyPost_ret (results_none rfl _ _ _) rfl ?_
          exact ⟨⟨_, rfl⟩, .inr ⟨_, trivial, hJx3⟩⟩
    · have HE : Hid (k = Gs.n s 4) := Lib.hid (by unfold Gs.n at hkn ⊢; omega)
      gi_wp2
      go_end0
      exact ⟨⟨_, rfl⟩, .inl ⟨_, by rw [HE.out], HJ.out⟩⟩

theorem groups3_stops (F : Fence) (n : Nat) (hf : F.fn 117) (hro : F.round = none) (hn : 1 ≤ n) (Bt Bs : Nat) (s : ByteArray) (hs : s.size ≤ 1000) (w : World) (hBt : Bt < w.heap.size) (hBs : Bs < w.heap.size)
    (ht : w.cell? ⟨Bt, 0, none⟩ = some (.string s)) (hk : w.cell? ⟨Bs, 0, none⟩ = some (.int .i64 3)) :
    SeqStopsK F n Tryz.prog 117 #[.pointer (some ⟨Bt, 0, none⟩), .pointer (some ⟨Bs, 0, none⟩)] (fun x : Gs.G 3 => #[Value.string x.1]) (Gs.Kp Bt Bs) (fun ys => ys = Gs.upto (Gs.at_ s 3 (by decide)) (Gs.n s 3)) (fun _ => True) (Gs.n s 3) w := fun l J Jx W hW _ _ hY h0 => by
  have ht' := (hW.cell (p := ⟨Bt, 0, none⟩) hBt).trans ht
  have hk' := (hW.cell (p := ⟨Bs, 0, none⟩) hBs).trans hk
  exact groups3_in F n hf hro hn l Bt Bs s hs J Jx hY W ht' hk' h0

theorem groups4_stops (F : Fence) (n : Nat) (hf : F.fn 117) (hro : F.round = none) (hn : 1 ≤ n) (Bt Bs : Nat) (s : ByteArray) (hs : s.size ≤ 1000) (w : World) (hBt : Bt < w.heap.size) (hBs : Bs < w.heap.size)
    (ht : w.cell? ⟨Bt, 0, none⟩ = some (.string s)) (hk : w.cell? ⟨Bs, 0, none⟩ = some (.int .i64 4)) :
    SeqStopsK F n Tryz.prog 117 #[.pointer (some ⟨Bt, 0, none⟩), .pointer (some ⟨Bs, 0, none⟩)] (fun x : Gs.G 4 => #[Value.string x.1]) (Gs.Kp Bt Bs) (fun ys => ys = Gs.upto (Gs.at_ s 4 (by decide)) (Gs.n s 4)) (fun _ => True) (Gs.n s 4) w := fun l J Jx W hW _ _ hY h0 => by
  have ht' := (hW.cell (p := ⟨Bt, 0, none⟩) hBt).trans ht
  have hk' := (hW.cell (p := ⟨Bs, 0, none⟩) hBs).trans hk
  exact groups4_in F n hf hro hn l Bt Bs s hs J Jx hY W ht' hk' h0

theorem groups_in (F : Fence) (n : Nat) (hf : F.fn 109) (hro : F.round = none) (s : ByteArray) (k : Int) (w : World) :
    CallsIn F n Tryz.prog 109 #[.string s, .int .i64 k] w fun e w' => e = .returned (.func (.func 117) #[] #[.pointer (some ⟨w.heap.size, 0, none⟩), .pointer (some ⟨w.heap.size + 1, 0, none⟩)]) ∧ w' = (w.alloc (.cells #[.string s] 9)).alloc (.cells #[.int .i64 k] 3) := by
  refine callsIn_of_wp Tryz.func109 rfl hf ?_ hro
  simp only [Tryz.ntmps109, List.size_toArray, List.length_cons, List.length_nil, Nat.reduceAdd, Nat.reduceSub, Array.replicate_succ, Array.replicate_zero, List.push_toArray, List.append_toArray, List.nil_append, List.cons_append]
  gi_wp2
  go_ret
  exact ⟨by simp, rfl⟩
end Go.Proofs.YtpjifcljkgcnlaaGreatDoor
