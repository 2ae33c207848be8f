/- keyFinds of the program: which messages a node finds. -/
import Derived.Test.YtmlmdpdboigojaaGreatDoorKyBr
import Derived.Test.YtmlmdpdboigojaaGreatDoorKyFp
import Derived.Test.YtmlmdpdboigojaaGreatDoorKyTo
import Derived.Deep.RegionHeld3
namespace Go.Proofs.YtmlmdpdboigojaaGreatDoor
set_option linter.unusedVariables false
open Go.RowKit

/-- what finding gives -/
def Ky.Fd (ms : List Ml) (n : Nd) (w : World) (e : Ending) (w' : World) : Prop :=
  ∃ (b c : Nat), e = .returned (.slice (some ⟨b, 0, none⟩) ms.length c) ∧ w.heap.size ≤ b ∧ Bl.At w' b ms.length (Nd.fn ms n) ∧ Below w.heap.size w w'
/-- a mailbox in memory, valid -/
structure Ky.Bx (w : World) (A : Option Addr) (ms : List Ml) (mx : Int) : Prop where
  at_ : AtMails w w.heap.size A ms
  max : w.cell? ⟨1, 0, none⟩ = some (.int .i64 mx)
theorem Ky.Bx.below {w w' : World} {A : Option Addr} {ms : List Ml} {mx : Int} (h : Ky.Bx w A ms mx) (hb : Below w.heap.size w w') : Ky.Bx w' A ms mx :=
  ⟨At.mono (At.below h.at_ hb) hb.size, (hb.cell (p := ⟨1, 0, none⟩) (World.block_lt_of_cell? w _ h.max)).trans h.max⟩
def Ky.MsOk (ms : List Ml) : Prop := ms.length ≤ 10 ∧ ∀ m ∈ ms, Ky.mailOk m = true ∧ 1 ≤ m.uid ∧ m.uid ≤ Ky.lastUid ms ∧ Ky.lastUid ms ≤ 99
theorem Ky.Bx.row {w : World} {A : Option Addr} {ms : List Ml} {mx : Int} (h : Ky.Bx w A ms mx) (hl : 0 < ms.length) : ∃ g off, A = some ⟨g, off, none⟩ ∧ g < w.heap.size ∧ ∀ (k : Nat) (x : Ml), ms[k]? = some x →
    w.cell? ⟨g, off + k * 3, none⟩ = some (.int .i64 x.uid) ∧ w.cell? ⟨g, off + k * 3 + 1, none⟩ = some (.int .i64 x.flags) ∧ w.cell? ⟨g, off + k * 3 + 2, none⟩ = some (.string x.text) := AtMails.row h.at_ hl
theorem Bl.At.next {w : World} {b n k : Nat} {f g : Nat → Bool} {v : Bool} (h : Bl.At w b n f) (hf : ∀ j, j < k → f j = g j) (hv : v = g k) : Bl.At (w.setCell ⟨b, k, none⟩ (.bool v)) b n (fun j => if j = k then v else f j) ∧ ∀ j, j < k + 1 → (if j = k then v else f j) = g j := by
  refine ⟨h.set k v, fun j hj => ?_⟩
  by_cases e : j = k
  · subst e; rw [if_pos rfl]; exact hv
  · rw [if_neg e]; exact hf j (by omega)
theorem Bl.At.made' (w : World) (n : Nat) : Bl.At (w.alloc (.cells (madeCells #[Value.bool false] n) 4)) w.heap.size n (fun _ => false) := by
  have := Bl.At.made w n
  rw [Nat.mul_one] at this
  exact this
theorem grown_self {b : Nat} {w w1 : World} (h : w.grownBy w1 (some b)) (k : Nat) (v : Value) : w.grownBy (w1.setCell ⟨b, k, none⟩ v) (some b) := grown_set h k v


set_option maxRecDepth 100000 in
set_option maxHeartbeats 6400000 in
theorem keyFinds_all (nx : Int) (A : Option Addr) (ms : List Ml) (c : Nat) (mx : Int) (hms : Ky.MsOk ms) (w : World) (hbx : Ky.Bx w A ms mx) :
    Calls Tryz.prog 28 #[.agg #[.int .i64 nx, .slice A ms.length c], .iface 87 (.agg #[])] w (Ky.Fd ms .all w) := by
  obtain ⟨hl, hmm⟩ := hms
  obtain ⟨i0, hi, hz0, hz1, hz2⟩ := info_parts bool_info
  have hmk := fun W => run_make_rowN (P := Tryz.prog) 62 4 i0 _ Tryz.underlying62 hi hz0 .i64 .i64 ms.length ms.length (Nat.le_refl _) (by rw [hz2]; omega) (by omega) W
  rw [hz1] at hmk
  have HMM := Lib.hid hmm
  have HBX := Lib.hid hbx
  clear hmm hbx
  have ta0 : ∀ W : World, (Instr.typeAssert (.iface 87 (.agg #[])) 59 87 true).run Tryz.prog W = .ok (.tuple #[.agg #[], .bool true]) W := fun _ => by kernel_rfl
  go_enter Tryz.func28, Tryz.ntmps28
  go_upto_region 5 with fail
  have hb3 : Below w.heap.size w (((w.alloc (.cells #[.int .i64 nx, .slice A ms.length c] 35)).alloc (.cells (madeCells #[Value.bool false] ms.length) 4)).alloc (.cells #[] 87)) := by go_grown
  have h2 : (((w.alloc (.cells #[.int .i64 nx, .slice A ms.length c] 35)).alloc (.cells (madeCells #[Value.bool false] ms.length) 4)).alloc (.cells #[] 87)).heap[w.heap.size]? = some (.cells #[.int .i64 nx, .slice A ms.length c] 35 (0, 0)) := (Below.heap_alloc _ _ _ (by simp; omega)).trans ((Below.heap_alloc _ _ _ (by simp)).trans (heap_alloc_new w _))
  have hf : Bl.At (((w.alloc (.cells #[.int .i64 nx, .slice A ms.length c] 35)).alloc (.cells (madeCells #[Value.bool false] ms.length) 4)).alloc (.cells #[] 87)) (w.heap.size + 1) ms.length (fun _ => false) := (by simpa using (Bl.At.made' (w.alloc (.cells #[.int .i64 nx, .slice A ms.length c] 35)) ms.length) : Bl.At ((w.alloc (.cells #[.int .i64 nx, .slice A ms.length c] 35)).alloc (.cells (madeCells #[Value.bool false] ms.length) 4)) (w.heap.size + 1) ms.length (fun _ => false)).below ((Below.refl _ _).alloc (Nat.le_refl _) _)
  have h8 : (((w.alloc (.cells #[.int .i64 nx, .slice A ms.length c] 35)).alloc (.cells (madeCells #[Value.bool false] ms.length) 4)).alloc (.cells #[] 87)).heap[w.heap.size + 1 + 1]? = some (.cells #[] 87 (0, 0)) := by simpa using heap_alloc_new ((w.alloc _).alloc _) (.cells #[] 87)
  generalize (((w.alloc (.cells #[.int .i64 nx, .slice A ms.length c] 35)).alloc (.cells (madeCells #[Value.bool false] ms.length) 4)).alloc (.cells #[] 87)) = w3 at hb3 h2 hf h8 ⊢
  obtain ⟨b2, hb2⟩ : ∃ b, b = w.heap.size := ⟨_, rfl⟩
  obtain ⟨fb, hfb⟩ : ∃ b, b = w.heap.size + 1 := ⟨_, rfl⟩
  obtain ⟨b8, hb8⟩ : ∃ b, b = w.heap.size + 1 + 1 := ⟨_, rfl⟩
  rw [← hb8, ← hfb, ← hb2]
  rw [← hb2] at h2
  rw [← hfb] at hf
  rw [← hb8] at h8
  have n2f : b2 ≠ fb := by omega
  have n8f : b8 ≠ fb := by omega
  have hwf : w.heap.size ≤ fb := by omega
  have l2 := (Array.getElem?_eq_some_iff.1 h2).1
  have l8 := (Array.getElem?_eq_some_iff.1 h8).1
  have lf := hf.lt
  have lw := hb3.size
  clear hb2 hfb hb8 hmk hi hz0 hz1 hz2
  have HG : Hid (∀ W, w3.grownBy W (some fb) → Below w.heap.size w W ∧ Ky.Bx W A ms mx ∧ W.heap[b2]? = some (.cells #[.int .i64 nx, .slice A ms.length c] 35 (0, 0)) ∧ W.heap[b8]? = some (.cells #[] 87 (0, 0))) := Lib.hid fun W hg => by
    have hb := hb3.trans (grown_to_below hg hwf (by omega))
    exact ⟨hb, HBX.out.below hb, (hg.block b2 l2 (by intro e; injection e with e; omega)).trans h2, (hg.block b8 l8 (by intro e; injection e with e; omega)).trans h8⟩
  have HF0 := Lib.hid hf
  have H0 : Hid (w3.grownBy w3 (some fb)) := Lib.hid (World.grownBy.refl w3 _)
  clear hb3 h2 hf h8
  have y0 := cell_at (HG.out _ H0.out).2.2.1 0 _ rfl
  have y1 := cell_at (HG.out _ H0.out).2.2.1 1 _ rfl
  have HGE : Hid (∀ W, w3.grownBy W (some fb) → Below w.heap.size w W) := Lib.hid fun W hg => (HG.out W hg).1
  go_wp2_with fail
  go_loopg [38] ms.length (fun g i wr => ∃ (k : Nat) (f : Nat → Bool), k ≤ ms.length ∧ Hid (g = ms.length - k) ∧ i = .int .i64 k ∧ Hid (Bl.At wr fb ms.length f) ∧ Hid (∀ j, j < k → f j = Nd.fn ms .all j) ∧ Hid (w3.grownBy wr (some fb)))
  case atStart => exact ⟨0, _, Nat.zero_le _, Lib.hid rfl, rfl, HF0, Lib.hid (fun j hj => absurd hj (by omega)), H0⟩
  case round =>
    obtain ⟨k, f, hk, HG2, rfl, HF, HQ, HR⟩ := hrel
    by_cases hlt : k < ms.length
    · have hki : (k : Int) < (ms.length : Int) := by omega
      obtain ⟨u, hu⟩ : ∃ u, ms[k]? = some u := ⟨_, List.getElem?_eq_getElem hlt⟩
      have HN := Lib.hid (HF.out.next HQ.out (v := true) (Nd.fn_some (n := .all) hu).symm)
      clear hu
      have e0 : wr.cell? ⟨fb, k, none⟩ = some (.bool (f k)) := HF.out.get hlt
      have f0 := HF.out.free k
      have hlf := HF.out.lt
      have HR2 := Lib.hid (grown_self HR.out k (.bool true))
      go_wp2_with fail
      go_roundg (ms.length - (k + 1))
      case measure => have := HG2.out; omega
      case rel => exact ⟨k + 1, _, by omega, Lib.hid rfl, by go_num, Lib.hid HN.out.1, Lib.hid HN.out.2, HR2⟩
    · obtain rfl : k = ms.length := by omega
      have hki : ¬ (ms.length : Int) < (ms.length : Int) := by omega
      have HEND := Lib.hid (HF.out.congr HQ.out)
      have HBE := Lib.hid (HGE.out wr HR.out)
      go_wp2_with fail
      go_ret
      exact ⟨fb, _, rfl, hwf, HEND.out, HBE.out⟩

set_option maxRecDepth 100000 in
set_option maxHeartbeats 6400000 in
theorem keyFinds_has (nx : Int) (A : Option Addr) (ms : List Ml) (c : Nat) (mx : Int) (hms : Ky.MsOk ms) (ff : Int) (w : World) (hbx : Ky.Bx w A ms mx) (hok : Ky.flagOne ff = true) :
    Calls Tryz.prog 28 #[.agg #[.int .i64 nx, .slice A ms.length c], .iface 89 (.agg #[.int .i64 ff])] w (Ky.Fd ms (.has ff) w) := by
  obtain ⟨hl, hmm⟩ := hms
  obtain ⟨i0, hi, hz0, hz1, hz2⟩ := info_parts bool_info
  have hmk := fun W => run_make_rowN (P := Tryz.prog) 62 4 i0 _ Tryz.underlying62 hi hz0 .i64 .i64 ms.length ms.length (Nat.le_refl _) (by rw [hz2]; omega) (by omega) W
  rw [hz1] at hmk
  have HMM := Lib.hid hmm
  have HBX := Lib.hid hbx
  clear hmm hbx
  have HOK := Lib.hid hok
  clear hok
  have ta0 : ∀ W : World, (Instr.typeAssert (.iface 89 (.agg #[.int .i64 ff])) 59 87 true).run Tryz.prog W = .ok (.tuple #[.agg #[], .bool false]) W := fun _ => by kernel_rfl
  have ta1 : ∀ W : World, (Instr.typeAssert (.iface 89 (.agg #[.int .i64 ff])) 59 89 true).run Tryz.prog W = .ok (.tuple #[.agg #[.int .i64 ff], .bool true]) W := fun _ => by kernel_rfl
  go_enter Tryz.func28, Tryz.ntmps28
  go_upto_region 12 with fail
  have hb3 : Below w.heap.size w (((w.alloc (.cells #[.int .i64 nx, .slice A ms.length c] 35)).alloc (.cells (madeCells #[Value.bool false] ms.length) 4)).alloc (.cells #[.int .i64 ff] 89)) := by go_grown
  have h2 : (((w.alloc (.cells #[.int .i64 nx, .slice A ms.length c] 35)).alloc (.cells (madeCells #[Value.bool false] ms.length) 4)).alloc (.cells #[.int .i64 ff] 89)).heap[w.heap.size]? = some (.cells #[.int .i64 nx, .slice A ms.length c] 35 (0, 0)) := (Below.heap_alloc _ _ _ (by simp; omega)).trans ((Below.heap_alloc _ _ _ (by simp)).trans (heap_alloc_new w _))
  have hf : Bl.At (((w.alloc (.cells #[.int .i64 nx, .slice A ms.length c] 35)).alloc (.cells (madeCells #[Value.bool false] ms.length) 4)).alloc (.cells #[.int .i64 ff] 89)) (w.heap.size + 1) ms.length (fun _ => false) := (by simpa using (Bl.At.made' (w.alloc (.cells #[.int .i64 nx, .slice A ms.length c] 35)) ms.length) : Bl.At ((w.alloc (.cells #[.int .i64 nx, .slice A ms.length c] 35)).alloc (.cells (madeCells #[Value.bool false] ms.length) 4)) (w.heap.size + 1) ms.length (fun _ => false)).below ((Below.refl _ _).alloc (Nat.le_refl _) _)
  have h8 : (((w.alloc (.cells #[.int .i64 nx, .slice A ms.length c] 35)).alloc (.cells (madeCells #[Value.bool false] ms.length) 4)).alloc (.cells #[.int .i64 ff] 89)).heap[w.heap.size + 1 + 1]? = some (.cells #[.int .i64 ff] 89 (0, 0)) := by simpa using heap_alloc_new ((w.alloc _).alloc _) (.cells #[.int .i64 ff] 89)
  generalize (((w.alloc (.cells #[.int .i64 nx, .slice A ms.length c] 35)).alloc (.cells (madeCells #[Value.bool false] ms.length) 4)).alloc (.cells #[.int .i64 ff] 89)) = w3 at hb3 h2 hf h8 ⊢
  obtain ⟨b2, hb2⟩ : ∃ b, b = w.heap.size := ⟨_, rfl⟩
  obtain ⟨fb, hfb⟩ : ∃ b, b = w.heap.size + 1 := ⟨_, rfl⟩
  obtain ⟨b8, hb8⟩ : ∃ b, b = w.heap.size + 1 + 1 := ⟨_, rfl⟩
  rw [← hb8, ← hfb, ← hb2]
  rw [← hb2] at h2
  rw [← hfb] at hf
  rw [← hb8] at h8
  have n2f : b2 ≠ fb := by omega
  have n8f : b8 ≠ fb := by omega
  have hwf : w.heap.size ≤ fb := by omega
  have l2 := (Array.getElem?_eq_some_iff.1 h2).1
  have l8 := (Array.getElem?_eq_some_iff.1 h8).1
  have lf := hf.lt
  have lw := hb3.size
  clear hb2 hfb hb8 hmk hi hz0 hz1 hz2
  have HG : Hid (∀ W, w3.grownBy W (some fb) → Below w.heap.size w W ∧ Ky.Bx W A ms mx ∧ W.heap[b2]? = some (.cells #[.int .i64 nx, .slice A ms.length c] 35 (0, 0)) ∧ W.heap[b8]? = some (.cells #[.int .i64 ff] 89 (0, 0))) := Lib.hid fun W hg => by
    have hb := hb3.trans (grown_to_below hg hwf (by omega))
    exact ⟨hb, HBX.out.below hb, (hg.block b2 l2 (by intro e; injection e with e; omega)).trans h2, (hg.block b8 l8 (by intro e; injection e with e; omega)).trans h8⟩
  have HF0 := Lib.hid hf
  have H0 : Hid (w3.grownBy w3 (some fb)) := Lib.hid (World.grownBy.refl w3 _)
  clear hb3 h2 hf h8
  have y0 := cell_at (HG.out _ H0.out).2.2.1 0 _ rfl
  have y1 := cell_at (HG.out _ H0.out).2.2.1 1 _ rfl
  have HGE : Hid (∀ W, w3.grownBy W (some fb) → Below w.heap.size w W) := Lib.hid fun W hg => (HG.out W hg).1
  go_wp2_with fail
  go_loopg [51] ms.length (fun g i wr => ∃ (k : Nat) (f : Nat → Bool), k ≤ ms.length ∧ Hid (g = ms.length - k) ∧ i = .int .i64 k ∧ Hid (Bl.At wr fb ms.length f) ∧ Hid (∀ j, j < k → f j = Nd.fn ms (.has ff) j) ∧ Hid (w3.grownBy wr (some fb)))
  case atStart => exact ⟨0, _, Nat.zero_le _, Lib.hid rfl, rfl, HF0, Lib.hid (fun j hj => absurd hj (by omega)), H0⟩
  case round =>
    obtain ⟨k, f, hk, HG2, rfl, HF, HQ, HR⟩ := hrel
    by_cases hlt : k < ms.length
    · have hki : (k : Int) < (ms.length : Int) := by omega
      obtain ⟨g, off, rfl, hg, hc⟩ := (HG.out wr HR.out).2.1.row (by omega)
      obtain ⟨u, hu⟩ : ∃ u, ms[k]? = some u := ⟨_, List.getElem?_eq_getElem hlt⟩
      obtain ⟨d0, d1, d2⟩ := hc k u hu
      have HFN := Lib.hid (Nd.fn_some (n := (.has ff)) hu)
      have HU := Lib.hid (HMM.out u (List.mem_of_getElem? hu))
      clear hc hu
      have e0 : wr.cell? ⟨fb, k, none⟩ = some (.bool (f k)) := HF.out.get hlt
      have f0 := HF.out.free k
      have hlf := HF.out.lt
      have z8 := cell_at (HG.out wr HR.out).2.2.2 0 _ rfl
      have hl8 := (Array.getElem?_eq_some_iff.1 (HG.out wr HR.out).2.2.2).1
      have hfo : Ky.flagsOk u.flags = true := by
        have := HU.out.1
        unfold Ky.mailOk at this
        simp only [Bool.and_eq_true] at this
        exact this.1.2
      have HC := Lib.hid (fun W => FlagsHave_any u.flags ff W hfo HOK.out)
      have HVV : Hid (decide (u.flags / ff % 2 = 1) = Nd.fn ms (.has ff) k) := Lib.hid HFN.out.symm
      generalize decide (u.flags / ff % 2 = 1) = bv at HC HVV
      have HN0 := HF.out.next HQ.out (v := bv) HVV.out
      have HN := Lib.hid (And.intro (HN0.1.below (w' := (wr.setCell ⟨fb, k, none⟩ (.bool bv)).alloc (.cells #[.int .i64 u.uid, .int .i64 u.flags, .string u.text] 74)) ((Below.refl _ _).alloc (Nat.le_refl _) _)) HN0.2)
      have HR2 := Lib.hid (grown_alloc (grown_self HR.out k (.bool bv)) (.cells #[.int .i64 u.uid, .int .i64 u.flags, .string u.text] 74))
      clear HN0
      go_wp2_with fail
      refine Calls.mono (HC.out _) ?_
      rintro e w5 ⟨rfl, rfl⟩
      go_wp2_with fail
      go_roundg (ms.length - (k + 1))
      case measure => have := HG2.out; omega
      case rel => exact ⟨k + 1, _, by omega, Lib.hid rfl, by go_num, Lib.hid HN.out.1, Lib.hid HN.out.2, HR2⟩
    · obtain rfl : k = ms.length := by omega
      have hki : ¬ (ms.length : Int) < (ms.length : Int) := by omega
      have HEND := Lib.hid (HF.out.congr HQ.out)
      have HBE := Lib.hid (HGE.out wr HR.out)
      go_wp2_with fail
      go_ret
      exact ⟨fb, _, rfl, hwf, HEND.out, HBE.out⟩

set_option maxRecDepth 100000 in
set_option maxHeartbeats 6400000 in
theorem keyFinds_text (nx : Int) (A : Option Addr) (ms : List Ml) (c : Nat) (mx : Int) (hms : Ky.MsOk ms) (t : ByteArray) (w : World) (hbx : Ky.Bx w A ms mx) :
    Calls Tryz.prog 28 #[.agg #[.int .i64 nx, .slice A ms.length c], .iface 92 (.agg #[.string t])] w (Ky.Fd ms (.text t) w) := by
  obtain ⟨hl, hmm⟩ := hms
  obtain ⟨i0, hi, hz0, hz1, hz2⟩ := info_parts bool_info
  have hmk := fun W => run_make_rowN (P := Tryz.prog) 62 4 i0 _ Tryz.underlying62 hi hz0 .i64 .i64 ms.length ms.length (Nat.le_refl _) (by rw [hz2]; omega) (by omega) W
  rw [hz1] at hmk
  have HMM := Lib.hid hmm
  have HBX := Lib.hid hbx
  clear hmm hbx
  have ta0 : ∀ W : World, (Instr.typeAssert (.iface 92 (.agg #[.string t])) 59 87 true).run Tryz.prog W = .ok (.tuple #[.agg #[], .bool false]) W := fun _ => by kernel_rfl
  have ta1 : ∀ W : World, (Instr.typeAssert (.iface 92 (.agg #[.string t])) 59 89 true).run Tryz.prog W = .ok (.tuple #[.agg #[.int .i64 0], .bool false]) W := fun _ => by kernel_rfl
  have ta2 : ∀ W : World, (Instr.typeAssert (.iface 92 (.agg #[.string t])) 59 92 true).run Tryz.prog W = .ok (.tuple #[.agg #[.string t], .bool true]) W := fun _ => by kernel_rfl
  go_enter Tryz.func28, Tryz.ntmps28
  go_upto_region 19 with fail
  have hb3 : Below w.heap.size w (((w.alloc (.cells #[.int .i64 nx, .slice A ms.length c] 35)).alloc (.cells (madeCells #[Value.bool false] ms.length) 4)).alloc (.cells #[.string t] 92)) := by go_grown
  have h2 : (((w.alloc (.cells #[.int .i64 nx, .slice A ms.length c] 35)).alloc (.cells (madeCells #[Value.bool false] ms.length) 4)).alloc (.cells #[.string t] 92)).heap[w.heap.size]? = some (.cells #[.int .i64 nx, .slice A ms.length c] 35 (0, 0)) := (Below.heap_alloc _ _ _ (by simp; omega)).trans ((Below.heap_alloc _ _ _ (by simp)).trans (heap_alloc_new w _))
  have hf : Bl.At (((w.alloc (.cells #[.int .i64 nx, .slice A ms.length c] 35)).alloc (.cells (madeCells #[Value.bool false] ms.length) 4)).alloc (.cells #[.string t] 92)) (w.heap.size + 1) ms.length (fun _ => false) := (by simpa using (Bl.At.made' (w.alloc (.cells #[.int .i64 nx, .slice A ms.length c] 35)) ms.length) : Bl.At ((w.alloc (.cells #[.int .i64 nx, .slice A ms.length c] 35)).alloc (.cells (madeCells #[Value.bool false] ms.length) 4)) (w.heap.size + 1) ms.length (fun _ => false)).below ((Below.refl _ _).alloc (Nat.le_refl _) _)
  have h8 : (((w.alloc (.cells #[.int .i64 nx, .slice A ms.length c] 35)).alloc (.cells (madeCells #[Value.bool false] ms.length) 4)).alloc (.cells #[.string t] 92)).heap[w.heap.size + 1 + 1]? = some (.cells #[.string t] 92 (0, 0)) := by simpa using heap_alloc_new ((w.alloc _).alloc _) (.cells #[.string t] 92)
  generalize (((w.alloc (.cells #[.int .i64 nx, .slice A ms.length c] 35)).alloc (.cells (madeCells #[Value.bool false] ms.length) 4)).alloc (.cells #[.string t] 92)) = w3 at hb3 h2 hf h8 ⊢
  obtain ⟨b2, hb2⟩ : ∃ b, b = w.heap.size := ⟨_, rfl⟩
  obtain ⟨fb, hfb⟩ : ∃ b, b = w.heap.size + 1 := ⟨_, rfl⟩
  obtain ⟨b8, hb8⟩ : ∃ b, b = w.heap.size + 1 + 1 := ⟨_, rfl⟩
  rw [← hb8, ← hfb, ← hb2]
  rw [← hb2] at h2
  rw [← hfb] at hf
  rw [← hb8] at h8
  have n2f : b2 ≠ fb := by omega
  have n8f : b8 ≠ fb := by omega
  have hwf : w.heap.size ≤ fb := by omega
  have l2 := (Array.getElem?_eq_some_iff.1 h2).1
  have l8 := (Array.getElem?_eq_some_iff.1 h8).1
  have lf := hf.lt
  have lw := hb3.size
  clear hb2 hfb hb8 hmk hi hz0 hz1 hz2
  have HG : Hid (∀ W, w3.grownBy W (some fb) → Below w.heap.size w W ∧ Ky.Bx W A ms mx ∧ W.heap[b2]? = some (.cells #[.int .i64 nx, .slice A ms.length c] 35 (0, 0)) ∧ W.heap[b8]? = some (.cells #[.string t] 92 (0, 0))) := Lib.hid fun W hg => by
    have hb := hb3.trans (grown_to_below hg hwf (by omega))
    exact ⟨hb, HBX.out.below hb, (hg.block b2 l2 (by intro e; injection e with e; omega)).trans h2, (hg.block b8 l8 (by intro e; injection e with e; omega)).trans h8⟩
  have HF0 := Lib.hid hf
  have H0 : Hid (w3.grownBy w3 (some fb)) := Lib.hid (World.grownBy.refl w3 _)
  clear hb3 h2 hf h8
  have y0 := cell_at (HG.out _ H0.out).2.2.1 0 _ rfl
  have y1 := cell_at (HG.out _ H0.out).2.2.1 1 _ rfl
  have HGE : Hid (∀ W, w3.grownBy W (some fb) → Below w.heap.size w W) := Lib.hid fun W hg => (HG.out W hg).1
  go_wp2_with fail
  go_loopg [71] ms.length (fun g i wr => ∃ (k : Nat) (f : Nat → Bool), k ≤ ms.length ∧ Hid (g = ms.length - k) ∧ i = .int .i64 k ∧ Hid (Bl.At wr fb ms.length f) ∧ Hid (∀ j, j < k → f j = Nd.fn ms (.text t) j) ∧ Hid (w3.grownBy wr (some fb)))
  case atStart => exact ⟨0, _, Nat.zero_le _, Lib.hid rfl, rfl, HF0, Lib.hid (fun j hj => absurd hj (by omega)), H0⟩
  case round =>
    obtain ⟨k, f, hk, HG2, rfl, HF, HQ, HR⟩ := hrel
    by_cases hlt : k < ms.length
    · have hki : (k : Int) < (ms.length : Int) := by omega
      obtain ⟨g, off, rfl, hg, hc⟩ := (HG.out wr HR.out).2.1.row (by omega)
      obtain ⟨u, hu⟩ : ∃ u, ms[k]? = some u := ⟨_, List.getElem?_eq_getElem hlt⟩
      obtain ⟨d0, d1, d2⟩ := hc k u hu
      have HFN := Lib.hid (Nd.fn_some (n := (.text t)) hu)
      have HU := Lib.hid (HMM.out u (List.mem_of_getElem? hu))
      clear hc hu
      have e0 : wr.cell? ⟨fb, k, none⟩ = some (.bool (f k)) := HF.out.get hlt
      have f0 := HF.out.free k
      have hlf := HF.out.lt
      have z8 := cell_at (HG.out wr HR.out).2.2.2 0 _ rfl
      have hl8 := (Array.getElem?_eq_some_iff.1 (HG.out wr HR.out).2.2.2).1
      have hts : u.text.size < 4294967281 := by
        have := HU.out.1
        unfold Ky.mailOk at this
        simp only [Bool.and_eq_true, decide_eq_true_eq] at this
        omega
      have hmx1 : (wr.alloc (.cells #[.int .i64 u.uid, .int .i64 u.flags, .string u.text] 74)).cell? ⟨1, 0, none⟩ = some (.int .i64 mx) := ((HG.out wr HR.out).2.1.below ((Below.refl _ _).alloc (Nat.le_refl _) _)).max
      have HC := Lib.hid (fun (W : World) (hW : W.cell? ⟨1, 0, none⟩ = some (.int .i64 mx)) => Tryz.strings_Contains u.text t mx W hts hW)
      have HMX := Lib.hid hmx1
      have HVV : Hid (Lib.contains u.text.data.toList t.data.toList = Nd.fn ms (.text t) k) := Lib.hid HFN.out.symm
      generalize Lib.contains u.text.data.toList t.data.toList = bv at HC HVV
      clear hmx1 hts
      have HN0 := HF.out.next HQ.out (v := bv) HVV.out
      have HN := Lib.hid (And.intro (HN0.1.below (w' := (wr.setCell ⟨fb, k, none⟩ (.bool bv)).alloc (.cells #[.int .i64 u.uid, .int .i64 u.flags, .string u.text] 74)) ((Below.refl _ _).alloc (Nat.le_refl _) _)) HN0.2)
      have HR2 := Lib.hid (grown_alloc (grown_self HR.out k (.bool bv)) (.cells #[.int .i64 u.uid, .int .i64 u.flags, .string u.text] 74))
      clear HN0
      go_wp2_with fail
      refine Calls.mono (HC.out _ HMX.out) ?_
      rintro e w5 ⟨rfl, rfl⟩
      go_wp2_with fail
      go_roundg (ms.length - (k + 1))
      case measure => have := HG2.out; omega
      case rel => exact ⟨k + 1, _, by omega, Lib.hid rfl, by go_num, Lib.hid HN.out.1, Lib.hid HN.out.2, HR2⟩
    · obtain rfl : k = ms.length := by omega
      have hki : ¬ (ms.length : Int) < (ms.length : Int) := by omega
      have HEND := Lib.hid (HF.out.congr HQ.out)
      have HBE := Lib.hid (HGE.out wr HR.out)
      go_wp2_with fail
      go_ret
      exact ⟨fb, _, rfl, hwf, HEND.out, HBE.out⟩

set_option maxRecDepth 100000 in
set_option maxHeartbeats 6400000 in
theorem keyFinds_place (nx : Int) (A : Option Addr) (ms : List Ml) (c : Nat) (mx : Int) (hms : Ky.MsOk ms) (PA : Option Addr) (ss : List Sn) (pc : Nat) (w : World) (hbx : Ky.Bx w A ms mx) (hok : Ky.setOk ss = true) (hat : AtSet w w.heap.size PA ss) :
    Calls Tryz.prog 28 #[.agg #[.int .i64 nx, .slice A ms.length c], .iface 94 (.agg #[.slice PA ss.length pc])] w (Ky.Fd ms (.place PA ss pc) w) := by
  obtain ⟨hl, hmm⟩ := hms
  obtain ⟨i0, hi, hz0, hz1, hz2⟩ := info_parts bool_info
  have hmk := fun W => run_make_rowN (P := Tryz.prog) 62 4 i0 _ Tryz.underlying62 hi hz0 .i64 .i64 ms.length ms.length (Nat.le_refl _) (by rw [hz2]; omega) (by omega) W
  rw [hz1] at hmk
  have HMM := Lib.hid hmm
  have HBX := Lib.hid hbx
  clear hmm hbx
  have HOK := Lib.hid hok
  have HAT := Lib.hid hat
  clear hok hat
  have ta0 : ∀ W : World, (Instr.typeAssert (.iface 94 (.agg #[.slice PA ss.length pc])) 59 87 true).run Tryz.prog W = .ok (.tuple #[.agg #[], .bool false]) W := fun _ => by kernel_rfl
  have ta1 : ∀ W : World, (Instr.typeAssert (.iface 94 (.agg #[.slice PA ss.length pc])) 59 89 true).run Tryz.prog W = .ok (.tuple #[.agg #[.int .i64 0], .bool false]) W := fun _ => by kernel_rfl
  have ta2 : ∀ W : World, (Instr.typeAssert (.iface 94 (.agg #[.slice PA ss.length pc])) 59 92 true).run Tryz.prog W = .ok (.tuple #[.agg #[.string ⟨#[]⟩], .bool false]) W := fun _ => by kernel_rfl
  have ta3 : ∀ W : World, (Instr.typeAssert (.iface 94 (.agg #[.slice PA ss.length pc])) 59 94 true).run Tryz.prog W = .ok (.tuple #[.agg #[.slice PA ss.length pc], .bool true]) W := fun _ => by kernel_rfl
  go_enter Tryz.func28, Tryz.ntmps28
  go_upto_region 26 with fail
  have hb3 : Below w.heap.size w (((w.alloc (.cells #[.int .i64 nx, .slice A ms.length c] 35)).alloc (.cells (madeCells #[Value.bool false] ms.length) 4)).alloc (.cells #[.slice PA ss.length pc] 94)) := by go_grown
  have h2 : (((w.alloc (.cells #[.int .i64 nx, .slice A ms.length c] 35)).alloc (.cells (madeCells #[Value.bool false] ms.length) 4)).alloc (.cells #[.slice PA ss.length pc] 94)).heap[w.heap.size]? = some (.cells #[.int .i64 nx, .slice A ms.length c] 35 (0, 0)) := (Below.heap_alloc _ _ _ (by simp; omega)).trans ((Below.heap_alloc _ _ _ (by simp)).trans (heap_alloc_new w _))
  have hf : Bl.At (((w.alloc (.cells #[.int .i64 nx, .slice A ms.length c] 35)).alloc (.cells (madeCells #[Value.bool false] ms.length) 4)).alloc (.cells #[.slice PA ss.length pc] 94)) (w.heap.size + 1) ms.length (fun _ => false) := (by simpa using (Bl.At.made' (w.alloc (.cells #[.int .i64 nx, .slice A ms.length c] 35)) ms.length) : Bl.At ((w.alloc (.cells #[.int .i64 nx, .slice A ms.length c] 35)).alloc (.cells (madeCells #[Value.bool false] ms.length) 4)) (w.heap.size + 1) ms.length (fun _ => false)).below ((Below.refl _ _).alloc (Nat.le_refl _) _)
  have h8 : (((w.alloc (.cells #[.int .i64 nx, .slice A ms.length c] 35)).alloc (.cells (madeCells #[Value.bool false] ms.length) 4)).alloc (.cells #[.slice PA ss.length pc] 94)).heap[w.heap.size + 1 + 1]? = some (.cells #[.slice PA ss.length pc] 94 (0, 0)) := by simpa using heap_alloc_new ((w.alloc _).alloc _) (.cells #[.slice PA ss.length pc] 94)
  generalize (((w.alloc (.cells #[.int .i64 nx, .slice A ms.length c] 35)).alloc (.cells (madeCells #[Value.bool false] ms.length) 4)).alloc (.cells #[.slice PA ss.length pc] 94)) = w3 at hb3 h2 hf h8 ⊢
  obtain ⟨b2, hb2⟩ : ∃ b, b = w.heap.size := ⟨_, rfl⟩
  obtain ⟨fb, hfb⟩ : ∃ b, b = w.heap.size + 1 := ⟨_, rfl⟩
  obtain ⟨b8, hb8⟩ : ∃ b, b = w.heap.size + 1 + 1 := ⟨_, rfl⟩
  rw [← hb8, ← hfb, ← hb2]
  rw [← hb2] at h2
  rw [← hfb] at hf
  rw [← hb8] at h8
  have n2f : b2 ≠ fb := by omega
  have n8f : b8 ≠ fb := by omega
  have hwf : w.heap.size ≤ fb := by omega
  have l2 := (Array.getElem?_eq_some_iff.1 h2).1
  have l8 := (Array.getElem?_eq_some_iff.1 h8).1
  have lf := hf.lt
  have lw := hb3.size
  clear hb2 hfb hb8 hmk hi hz0 hz1 hz2
  have HG : Hid (∀ W, w3.grownBy W (some fb) → Below w.heap.size w W ∧ Ky.Bx W A ms mx ∧ W.heap[b2]? = some (.cells #[.int .i64 nx, .slice A ms.length c] 35 (0, 0)) ∧ W.heap[b8]? = some (.cells #[.slice PA ss.length pc] 94 (0, 0))) := Lib.hid fun W hg => by
    have hb := hb3.trans (grown_to_below hg hwf (by omega))
    exact ⟨hb, HBX.out.below hb, (hg.block b2 l2 (by intro e; injection e with e; omega)).trans h2, (hg.block b8 l8 (by intro e; injection e with e; omega)).trans h8⟩
  have HF0 := Lib.hid hf
  have H0 : Hid (w3.grownBy w3 (some fb)) := Lib.hid (World.grownBy.refl w3 _)
  clear hb3 h2 hf h8
  have y0 := cell_at (HG.out _ H0.out).2.2.1 0 _ rfl
  have y1 := cell_at (HG.out _ H0.out).2.2.1 1 _ rfl
  have z8 := cell_at (HG.out _ H0.out).2.2.2 0 _ rfl
  have HSN := Lib.hid (SetNumbers_any PA ss pc (ms.length : Int) w3 (At.mono (At.below HAT.out (HG.out _ H0.out).1) (HG.out _ H0.out).1.size) HOK.out (by omega))
  obtain ⟨zs, hzs⟩ : ∃ zs, zs = Ky.nums ss (ms.length : Int) := ⟨_, rfl⟩
  rw [← hzs] at HSN
  have HZM : Hid (∀ x ∈ zs, 1 ≤ x ∧ x ≤ (ms.length : Int)) := Lib.hid fun x hx => Ky.nums_mem HOK.out (by omega) (by rw [← hzs]; exact hx)
  have HZC : Hid (∀ i, i < ms.length → zs.contains ((i : Int) + 1) = Nd.fn ms (.place PA ss pc) i) := Lib.hid fun i hi => by
    rw [hzs, Ky.nums_has (by omega) (by omega) (by omega), Nd.fn_some (List.getElem?_eq_getElem hi)]; rfl
  have HZL : Hid (zs.length ≤ 100) := Lib.hid (by
    rw [hzs]; unfold Ky.nums; split
    · exact Ky.upto_len _ _
    · exact Nat.zero_le _)
  clear hzs
  go_wp2_with fail
  refine Calls.mono HSN.out ?_
  rintro e w5 ⟨v, rfl, hown, hb5⟩
  obtain ⟨A5, c5, rfl, _, _⟩ := OwnL.form (show OwnL 3 1 It.cells w5 w3.heap.size v zs from hown)
  have hzl := HZL.out
  have G5 : Hid (w3.grownBy w5 (some fb)) := Lib.hid (grown_below hb5)
  have HF5 := Lib.hid (HF0.out.below hb5)
  have HZR : Hid (∀ W, w5.grownBy W (some fb) → ∀ (k : Nat) (x : Int), zs[k]? = some x → ∃ g, A5 = some ⟨g, 0, none⟩ ∧ W.cell? ⟨g, k, none⟩ = some (.int .i64 x)) := Lib.hid fun W hg k x hx => by
    have h0 : 0 < zs.length := by have := (List.getElem?_eq_some_iff.1 hx).1; omega
    obtain ⟨g, c9, e9, hgB, _⟩ := OwnL.form' (show OwnL 3 1 It.cells w5 w3.heap.size _ zs from hown) h0
    injection e9 with e9 _ _
    subst e9
    have hc := own_cell (c := 1) (i := k) (j := 0) It.cells_len hown hx rfl
    have hgl := (hown.lt _ rfl).2
    refine ⟨g, rfl, (World.cell?_of_block (hg.block g hgl (by intro e; injection e with e; omega))).trans (by simpa using hc)⟩
  clear hown hb5 y0 y1 z8
  have HGE : Hid (∀ W, w5.grownBy W (some fb) → Below w.heap.size w W) := Lib.hid fun W hg => (HG.out W (grown_trans G5.out hg)).1
  go_wp2_with fail
  go_loopg [95] zs.length (fun g i wr => ∃ (k : Nat), k ≤ zs.length ∧ Hid (g = zs.length - k) ∧ i = .int .i64 k ∧ Hid (Bl.At wr fb ms.length (fun j => (zs.take k).contains ((j : Int) + 1))) ∧ Hid (w5.grownBy wr (some fb)))
  case atStart => exact ⟨0, Nat.zero_le _, Lib.hid rfl, rfl, Lib.hid (HF5.out.congr (fun j _ => by simp)), Lib.hid (World.grownBy.refl w5 _)⟩
  case round =>
    obtain ⟨k, hk, HG2, rfl, HF, HR⟩ := hrel
    by_cases hlt : k < zs.length
    · have hki : (k : Int) < (zs.length : Int) := by omega
      obtain ⟨x, hx⟩ : ∃ x, zs[k]? = some x := ⟨_, List.getElem?_eq_getElem hlt⟩
      obtain ⟨g, eA, d0⟩ := HZR.out wr HR.out k x hx
      subst eA
      have hxm := HZM.out x (List.mem_of_getElem? hx)
      obtain ⟨j0, hj0⟩ : ∃ j0 : Nat, x = (j0 : Int) + 1 := ⟨(x - 1).toNat, by omega⟩
      subst hj0
      have hjl : j0 < ms.length := by omega
      have hji : (j0 : Int) < (ms.length : Int) := by omega
      have HTK := Lib.hid (Ky.take_snoc hx)
      have e0 : ∃ b : Bool, wr.cell? ⟨fb, j0, none⟩ = some (.bool b) := ⟨_, HF.out.get hjl⟩
      obtain ⟨bb, e0⟩ := e0
      have f0 := HF.out.free j0
      have HN : Hid (Bl.At (wr.setCell ⟨fb, j0, none⟩ (.bool true)) fb ms.length (fun j => (zs.take (k + 1)).contains ((j : Int) + 1))) := Lib.hid ((HF.out.set j0 true).congr (fun j _ => by
        rw [HTK.out, Bool.eq_iff_iff]
        by_cases e : j = j0
        · subst e; simp
        · simp [e]; omega))
      have HR2 := Lib.hid (grown_self HR.out j0 (.bool true))
      clear hx
      go_wp2_with fail
      go_roundg (zs.length - (k + 1))
      case measure => have := HG2.out; omega
      case rel => exact ⟨k + 1, by omega, Lib.hid rfl, by go_num, HN, HR2⟩
    · obtain rfl : k = zs.length := by omega
      have hki : ¬ (zs.length : Int) < (zs.length : Int) := by omega
      have HEND : Hid (Bl.At wr fb ms.length (Nd.fn ms (.place PA ss pc))) := Lib.hid (HF.out.congr (fun j hj => by rw [List.take_length]; exact HZC.out j hj))
      have HBE := Lib.hid (HGE.out wr HR.out)
      go_wp2_with fail
      go_ret
      exact ⟨fb, _, rfl, hwf, HEND.out, HBE.out⟩

set_option maxRecDepth 100000 in
set_option maxHeartbeats 6400000 in
theorem keyFinds_uid (nx : Int) (A : Option Addr) (ms : List Ml) (c : Nat) (mx : Int) (hms : Ky.MsOk ms) (PA : Option Addr) (ss : List Sn) (pc : Nat) (w : World) (hbx : Ky.Bx w A ms mx) (hok : Ky.setOk ss = true) (hat : AtSet w w.heap.size PA ss) :
    Calls Tryz.prog 28 #[.agg #[.int .i64 nx, .slice A ms.length c], .iface 96 (.agg #[.slice PA ss.length pc])] w (Ky.Fd ms (.uid PA ss pc) w) := by
  obtain ⟨hl, hmm⟩ := hms
  obtain ⟨i0, hi, hz0, hz1, hz2⟩ := info_parts bool_info
  have hmk := fun W => run_make_rowN (P := Tryz.prog) 62 4 i0 _ Tryz.underlying62 hi hz0 .i64 .i64 ms.length ms.length (Nat.le_refl _) (by rw [hz2]; omega) (by omega) W
  rw [hz1] at hmk
  have HMM := Lib.hid hmm
  have HBX := Lib.hid hbx
  clear hmm hbx
  have HOK := Lib.hid hok
  have HAT := Lib.hid hat
  clear hok hat
  have ta0 : ∀ W : World, (Instr.typeAssert (.iface 96 (.agg #[.slice PA ss.length pc])) 59 87 true).run Tryz.prog W = .ok (.tuple #[.agg #[], .bool false]) W := fun _ => by kernel_rfl
  have ta1 : ∀ W : World, (Instr.typeAssert (.iface 96 (.agg #[.slice PA ss.length pc])) 59 89 true).run Tryz.prog W = .ok (.tuple #[.agg #[.int .i64 0], .bool false]) W := fun _ => by kernel_rfl
  have ta2 : ∀ W : World, (Instr.typeAssert (.iface 96 (.agg #[.slice PA ss.length pc])) 59 92 true).run Tryz.prog W = .ok (.tuple #[.agg #[.string ⟨#[]⟩], .bool false]) W := fun _ => by kernel_rfl
  have ta3 : ∀ W : World, (Instr.typeAssert (.iface 96 (.agg #[.slice PA ss.length pc])) 59 94 true).run Tryz.prog W = .ok (.tuple #[.agg #[.slice none 0 0], .bool false]) W := fun _ => by kernel_rfl
  have ta4 : ∀ W : World, (Instr.typeAssert (.iface 96 (.agg #[.slice PA ss.length pc])) 59 96 true).run Tryz.prog W = .ok (.tuple #[.agg #[.slice PA ss.length pc], .bool true]) W := fun _ => by kernel_rfl
  go_enter Tryz.func28, Tryz.ntmps28
  go_upto_region 33 with fail
  have hb3 : Below w.heap.size w (((w.alloc (.cells #[.int .i64 nx, .slice A ms.length c] 35)).alloc (.cells (madeCells #[Value.bool false] ms.length) 4)).alloc (.cells #[.slice PA ss.length pc] 96)) := by go_grown
  have h2 : (((w.alloc (.cells #[.int .i64 nx, .slice A ms.length c] 35)).alloc (.cells (madeCells #[Value.bool false] ms.length) 4)).alloc (.cells #[.slice PA ss.length pc] 96)).heap[w.heap.size]? = some (.cells #[.int .i64 nx, .slice A ms.length c] 35 (0, 0)) := (Below.heap_alloc _ _ _ (by simp; omega)).trans ((Below.heap_alloc _ _ _ (by simp)).trans (heap_alloc_new w _))
  have hf : Bl.At (((w.alloc (.cells #[.int .i64 nx, .slice A ms.length c] 35)).alloc (.cells (madeCells #[Value.bool false] ms.length) 4)).alloc (.cells #[.slice PA ss.length pc] 96)) (w.heap.size + 1) ms.length (fun _ => false) := (by simpa using (Bl.At.made' (w.alloc (.cells #[.int .i64 nx, .slice A ms.length c] 35)) ms.length) : Bl.At ((w.alloc (.cells #[.int .i64 nx, .slice A ms.length c] 35)).alloc (.cells (madeCells #[Value.bool false] ms.length) 4)) (w.heap.size + 1) ms.length (fun _ => false)).below ((Below.refl _ _).alloc (Nat.le_refl _) _)
  have h8 : (((w.alloc (.cells #[.int .i64 nx, .slice A ms.length c] 35)).alloc (.cells (madeCells #[Value.bool false] ms.length) 4)).alloc (.cells #[.slice PA ss.length pc] 96)).heap[w.heap.size + 1 + 1]? = some (.cells #[.slice PA ss.length pc] 96 (0, 0)) := by simpa using heap_alloc_new ((w.alloc _).alloc _) (.cells #[.slice PA ss.length pc] 96)
  generalize (((w.alloc (.cells #[.int .i64 nx, .slice A ms.length c] 35)).alloc (.cells (madeCells #[Value.bool false] ms.length) 4)).alloc (.cells #[.slice PA ss.length pc] 96)) = w3 at hb3 h2 hf h8 ⊢
  obtain ⟨b2, hb2⟩ : ∃ b, b = w.heap.size := ⟨_, rfl⟩
  obtain ⟨fb, hfb⟩ : ∃ b, b = w.heap.size + 1 := ⟨_, rfl⟩
  obtain ⟨b8, hb8⟩ : ∃ b, b = w.heap.size + 1 + 1 := ⟨_, rfl⟩
  rw [← hb8, ← hfb, ← hb2]
  rw [← hb2] at h2
  rw [← hfb] at hf
  rw [← hb8] at h8
  have n2f : b2 ≠ fb := by omega
  have n8f : b8 ≠ fb := by omega
  have hwf : w.heap.size ≤ fb := by omega
  have l2 := (Array.getElem?_eq_some_iff.1 h2).1
  have l8 := (Array.getElem?_eq_some_iff.1 h8).1
  have lf := hf.lt
  have lw := hb3.size
  clear hb2 hfb hb8 hmk hi hz0 hz1 hz2
  have HG : Hid (∀ W, w3.grownBy W (some fb) → Below w.heap.size w W ∧ Ky.Bx W A ms mx ∧ W.heap[b2]? = some (.cells #[.int .i64 nx, .slice A ms.length c] 35 (0, 0)) ∧ W.heap[b8]? = some (.cells #[.slice PA ss.length pc] 96 (0, 0))) := Lib.hid fun W hg => by
    have hb := hb3.trans (grown_to_below hg hwf (by omega))
    exact ⟨hb, HBX.out.below hb, (hg.block b2 l2 (by intro e; injection e with e; omega)).trans h2, (hg.block b8 l8 (by intro e; injection e with e; omega)).trans h8⟩
  have HF0 := Lib.hid hf
  have H0 : Hid (w3.grownBy w3 (some fb)) := Lib.hid (World.grownBy.refl w3 _)
  clear hb3 h2 hf h8
  have y0 := cell_at (HG.out _ H0.out).2.2.1 0 _ rfl
  have y1 := cell_at (HG.out _ H0.out).2.2.1 1 _ rfl
  have z8 := cell_at (HG.out _ H0.out).2.2.2 0 _ rfl
  have hlu : Ky.lastUid ms ≤ 99 := by
    cases hms0 : ms with
    | nil => decide
    | cons m r => rw [← hms0]; exact (HMM.out m (by rw [hms0]; simp)).2.2.2
  have HSN : Hid (∀ W, w3.grownBy W (some fb) → Calls Tryz.prog 48 #[.slice PA ss.length pc, .int .i64 (Ky.lastUid ms)] W fun e w' => ∃ v, e = .returned v ∧ It.Own w' W.heap.size v (Ky.nums ss (Ky.lastUid ms)) ∧ Below W.heap.size W w') := Lib.hid fun W hg => SetNumbers_any PA ss pc (Ky.lastUid ms) W (At.mono (At.below HAT.out (HG.out W hg).1) (HG.out W hg).1.size) HOK.out hlu
  have HLU : Hid (∀ W, w3.grownBy W (some fb) → Calls Tryz.prog 49 #[.agg #[.int .i64 nx, .slice A ms.length c]] W fun e w' => e = .returned (.int .i64 (Ky.lastUid ms)) ∧ Below W.heap.size W w') := Lib.hid fun W hg => boxLastUid_any nx A ms c W (HG.out W hg).2.1.at_ hl
  have HSS : Hid (∀ w', w3.grownBy w' (some fb) → (w'.cell? ⟨b2, 0, none⟩ = some (.int .i64 nx) ∧ w'.cell? ⟨b2, 1, none⟩ = some (.slice A ms.length c)) ∧ w'.cell? ⟨b8, 0, none⟩ = some (.slice PA ss.length pc)) := Lib.hid fun w' hg => ⟨⟨cell_at (HG.out w' hg).2.2.1 0 _ rfl, cell_at (HG.out w' hg).2.2.1 1 _ rfl⟩, cell_at (HG.out w' hg).2.2.2 0 _ rfl⟩
  obtain ⟨zs, hzs⟩ : ∃ zs, zs = Ky.nums ss (Ky.lastUid ms) := ⟨_, rfl⟩
  rw [← hzs] at HSN
  have HZC : Hid (∀ m ∈ ms, zs.contains m.uid = Ky.has ss (Ky.lastUid ms) m.uid) := Lib.hid fun m hm => by
    obtain ⟨_, h1, h2, h3⟩ := HMM.out m hm
    rw [hzs, Ky.nums_has h3 h1 h2]
  have HZL : Hid (zs.length ≤ 100) := Lib.hid (by
    rw [hzs]; unfold Ky.nums; split
    · exact Ky.upto_len _ _
    · exact Nat.zero_le _)
  clear hzs
  generalize Ky.lastUid ms = lu at HSN HLU
  go_wp2_with fail
  go_region_held3 (fun w' => (w'.cell? ⟨b2, 0, none⟩ = some (.int .i64 nx) ∧ w'.cell? ⟨b2, 1, none⟩ = some (.slice A ms.length c)) ∧ w'.cell? ⟨b8, 0, none⟩ = some (.slice PA ss.length pc)) (first | exact HSS.out _ (grown_drewN (World.grownBy.refl w3 _) 1) | exact HSS.out _ hg4 | exact HSS.out _ hg6) (first | (have h4 := hg4; clear h4; go_at_call 48; refine Calls.mono (HSN.out _ hg4) ?_; rintro e w6 ⟨v, rfl, hown, hb6⟩; have hg6 : w3.grownBy w6 (some fb) := grown_trans hg4 (grown_below hb6); obtain ⟨A5, c5, rfl, _, _⟩ := OwnL.form (show OwnL 3 1 It.cells w6 _ v zs from hown)) | (go_at_call 49; refine Calls.mono (HLU.out _ (grown_drewN (World.grownBy.refl w3 _) 1)) ?_; rintro e w4 ⟨rfl, hb4⟩; have hf4 : Bl.At w4 fb ms.length (fun _ => false) := Bl.At.below (w := w3.drewN 1) HF0.out hb4; have hg4 : w3.grownBy w4 (some fb) := grown_trans (grown_drewN (World.grownBy.refl w3 _) 1) (grown_below hb4); clear hb4))
  all_goals
    have hzl := HZL.out
    have hs4 := hg4.size
    have G6 := Lib.hid hg6
    have HF6 : Hid (Bl.At w6 fb ms.length (fun _ => false)) := Lib.hid (hf4.below hb6)
    have HCT : Hid (∀ (W : World) (x : Int), w6.grownBy W (some fb) → Calls Tryz.prog 50 #[.slice A5 zs.length c5, .int .i64 x] W fun e w'' => e = .returned (.bool (zs.contains x)) ∧ w'' = W) := Lib.hid fun W x hg => by
      refine contains_any (w := W) (B := w4.heap.size) ?_ (Below.refl _ _) (by omega) x
      exact OwnL.keepH (show OwnL 3 1 It.cells w6 w4.heap.size _ zs from hown) (fun g o hgB ho => (hg.block g (Array.getElem?_eq_some_iff.1 ho).1 (by intro e; injection e with e; omega)).trans ho)
    have HGE : Hid (∀ W, w6.grownBy W (some fb) → Below w.heap.size w W ∧ Ky.Bx W A ms mx ∧ W.cell? ⟨b2, 1, none⟩ = some (.slice A ms.length c)) := Lib.hid fun W hg => ⟨(HG.out W (grown_trans G6.out hg)).1, (HG.out W (grown_trans G6.out hg)).2.1, cell_at (HG.out W (grown_trans G6.out hg)).2.2.1 1 _ rfl⟩
    clear hown hb6 hg6 hg4 hs4 y0 y1 z8
    have y1 := (HGE.out w6 (World.grownBy.refl w6 _)).2.2
    go_wp2_with fail
    go_loopg [115] ms.length (fun g i wr => ∃ (k : Nat) (f : Nat → Bool), k ≤ ms.length ∧ Hid (g = ms.length - k) ∧ i = .int .i64 k ∧ Hid (Bl.At wr fb ms.length f) ∧ Hid (∀ j, j < k → f j = Nd.fn ms (.uid PA ss pc) j) ∧ Hid (w6.grownBy wr (some fb)))
    case atStart => exact ⟨0, _, Nat.zero_le _, Lib.hid rfl, rfl, HF6, Lib.hid (fun j hj => absurd hj (by omega)), Lib.hid (World.grownBy.refl w6 _)⟩
    case round =>
      obtain ⟨k, f, hk, HG2, rfl, HF, HQ, HR⟩ := hrel
      by_cases hlt : k < ms.length
      · have hki : (k : Int) < (ms.length : Int) := by omega
        obtain ⟨g, off, rfl, hg, hc⟩ := (HGE.out wr HR.out).2.1.row (by omega)
        obtain ⟨u, hu⟩ : ∃ u, ms[k]? = some u := ⟨_, List.getElem?_eq_getElem hlt⟩
        obtain ⟨d0, d1, d2⟩ := hc k u hu
        have HVV : Hid (zs.contains u.uid = Nd.fn ms (.uid PA ss pc) k) := Lib.hid ((HZC.out u (List.mem_of_getElem? hu)).trans (Nd.fn_some (n := .uid PA ss pc) hu).symm)
        have e0 : wr.cell? ⟨fb, k, none⟩ = some (.bool (f k)) := HF.out.get hlt
        have f0 := HF.out.free k
        have hlf := HF.out.lt
        have HC := Lib.hid (HCT.out (wr.alloc (.cells #[.int .i64 u.uid, .int .i64 u.flags, .string u.text] 74)) u.uid (grown_alloc HR.out _))
        generalize zs.contains u.uid = bv at HC HVV
        have HN0 := HF.out.next HQ.out (v := bv) HVV.out
        have HN := Lib.hid (And.intro (HN0.1.below (w' := (wr.setCell ⟨fb, k, none⟩ (.bool bv)).alloc (.cells #[.int .i64 u.uid, .int .i64 u.flags, .string u.text] 74)) ((Below.refl _ _).alloc (Nat.le_refl _) _)) HN0.2)
        have HR2 := Lib.hid (grown_alloc (grown_self HR.out k (.bool bv)) (.cells #[.int .i64 u.uid, .int .i64 u.flags, .string u.text] 74))
        clear HN0 hc hu
        go_wp2_with fail
        refine Calls.mono HC.out ?_
        rintro e w5 ⟨rfl, rfl⟩
        go_wp2_with fail
        go_roundg (ms.length - (k + 1))
        case measure => have := HG2.out; omega
        case rel => exact ⟨k + 1, _, by omega, Lib.hid rfl, by go_num, Lib.hid HN.out.1, Lib.hid HN.out.2, HR2⟩
      · obtain rfl : k = ms.length := by omega
        have hki : ¬ (ms.length : Int) < (ms.length : Int) := by omega
        have HEND := Lib.hid (HF.out.congr HQ.out)
        have HBE := Lib.hid (HGE.out wr HR.out).1
        go_wp2_with fail
        go_ret
        exact ⟨fb, _, rfl, hwf, HEND.out, HBE.out⟩

set_option maxRecDepth 100000 in
set_option maxHeartbeats 6400000 in
theorem keyFinds_not (nx : Int) (A : Option Addr) (ms : List Ml) (c : Nat) (mx : Int) (hms : Ky.MsOk ms) (nn : Nd) (T1 : TypeId) (p1 : Value) (ih : ∀ W, Ky.Bx W A ms mx → Nd.Ok nn W W.heap.size → Calls Tryz.prog 28 #[.agg #[.int .i64 nx, .slice A ms.length c], .iface T1 p1] W (Ky.Fd ms nn W)) (w : World) (hbx : Ky.Bx w A ms mx) (hok : Nd.Ok nn w w.heap.size) :
    Calls Tryz.prog 28 #[.agg #[.int .i64 nx, .slice A ms.length c], .iface 100 (.agg #[.iface T1 p1])] w (Ky.Fd ms (.not nn) w) := by
  obtain ⟨hl, hmm⟩ := hms
  obtain ⟨i0, hi, hz0, hz1, hz2⟩ := info_parts bool_info
  have hmk := fun W => run_make_rowN (P := Tryz.prog) 62 4 i0 _ Tryz.underlying62 hi hz0 .i64 .i64 ms.length ms.length (Nat.le_refl _) (by rw [hz2]; omega) (by omega) W
  rw [hz1] at hmk
  have HMM := Lib.hid hmm
  have HBX := Lib.hid hbx
  clear hmm hbx
  have HOK := Lib.hid hok
  clear hok
  have ta0 : ∀ W : World, (Instr.typeAssert (.iface 100 (.agg #[.iface T1 p1])) 59 87 true).run Tryz.prog W = .ok (.tuple #[.agg #[], .bool false]) W := fun _ => by kernel_rfl
  have ta1 : ∀ W : World, (Instr.typeAssert (.iface 100 (.agg #[.iface T1 p1])) 59 89 true).run Tryz.prog W = .ok (.tuple #[.agg #[.int .i64 0], .bool false]) W := fun _ => by kernel_rfl
  have ta2 : ∀ W : World, (Instr.typeAssert (.iface 100 (.agg #[.iface T1 p1])) 59 92 true).run Tryz.prog W = .ok (.tuple #[.agg #[.string ⟨#[]⟩], .bool false]) W := fun _ => by kernel_rfl
  have ta3 : ∀ W : World, (Instr.typeAssert (.iface 100 (.agg #[.iface T1 p1])) 59 94 true).run Tryz.prog W = .ok (.tuple #[.agg #[.slice none 0 0], .bool false]) W := fun _ => by kernel_rfl
  have ta4 : ∀ W : World, (Instr.typeAssert (.iface 100 (.agg #[.iface T1 p1])) 59 96 true).run Tryz.prog W = .ok (.tuple #[.agg #[.slice none 0 0], .bool false]) W := fun _ => by kernel_rfl
  have ta5 : ∀ W : World, (Instr.typeAssert (.iface 100 (.agg #[.iface T1 p1])) 59 100 true).run Tryz.prog W = .ok (.tuple #[.agg #[.iface T1 p1], .bool true]) W := fun _ => by kernel_rfl
  go_enter Tryz.func28, Tryz.ntmps28
  go_upto_region 41 with fail
  have hb3 : Below w.heap.size w (((w.alloc (.cells #[.int .i64 nx, .slice A ms.length c] 35)).alloc (.cells (madeCells #[Value.bool false] ms.length) 4)).alloc (.cells #[.iface T1 p1] 100)) := by go_grown
  have h2 : (((w.alloc (.cells #[.int .i64 nx, .slice A ms.length c] 35)).alloc (.cells (madeCells #[Value.bool false] ms.length) 4)).alloc (.cells #[.iface T1 p1] 100)).heap[w.heap.size]? = some (.cells #[.int .i64 nx, .slice A ms.length c] 35 (0, 0)) := (Below.heap_alloc _ _ _ (by simp; omega)).trans ((Below.heap_alloc _ _ _ (by simp)).trans (heap_alloc_new w _))
  have hf : Bl.At (((w.alloc (.cells #[.int .i64 nx, .slice A ms.length c] 35)).alloc (.cells (madeCells #[Value.bool false] ms.length) 4)).alloc (.cells #[.iface T1 p1] 100)) (w.heap.size + 1) ms.length (fun _ => false) := (by simpa using (Bl.At.made' (w.alloc (.cells #[.int .i64 nx, .slice A ms.length c] 35)) ms.length) : Bl.At ((w.alloc (.cells #[.int .i64 nx, .slice A ms.length c] 35)).alloc (.cells (madeCells #[Value.bool false] ms.length) 4)) (w.heap.size + 1) ms.length (fun _ => false)).below ((Below.refl _ _).alloc (Nat.le_refl _) _)
  have h8 : (((w.alloc (.cells #[.int .i64 nx, .slice A ms.length c] 35)).alloc (.cells (madeCells #[Value.bool false] ms.length) 4)).alloc (.cells #[.iface T1 p1] 100)).heap[w.heap.size + 1 + 1]? = some (.cells #[.iface T1 p1] 100 (0, 0)) := by simpa using heap_alloc_new ((w.alloc _).alloc _) (.cells #[.iface T1 p1] 100)
  generalize (((w.alloc (.cells #[.int .i64 nx, .slice A ms.length c] 35)).alloc (.cells (madeCells #[Value.bool false] ms.length) 4)).alloc (.cells #[.iface T1 p1] 100)) = w3 at hb3 h2 hf h8 ⊢
  obtain ⟨b2, hb2⟩ : ∃ b, b = w.heap.size := ⟨_, rfl⟩
  obtain ⟨fb, hfb⟩ : ∃ b, b = w.heap.size + 1 := ⟨_, rfl⟩
  obtain ⟨b8, hb8⟩ : ∃ b, b = w.heap.size + 1 + 1 := ⟨_, rfl⟩
  rw [← hb8, ← hfb, ← hb2]
  rw [← hb2] at h2
  rw [← hfb] at hf
  rw [← hb8] at h8
  have n2f : b2 ≠ fb := by omega
  have n8f : b8 ≠ fb := by omega
  have hwf : w.heap.size ≤ fb := by omega
  have l2 := (Array.getElem?_eq_some_iff.1 h2).1
  have l8 := (Array.getElem?_eq_some_iff.1 h8).1
  have lf := hf.lt
  have lw := hb3.size
  clear hb2 hfb hb8 hmk hi hz0 hz1 hz2
  have HG : Hid (∀ W, w3.grownBy W (some fb) → Below w.heap.size w W ∧ Ky.Bx W A ms mx ∧ W.heap[b2]? = some (.cells #[.int .i64 nx, .slice A ms.length c] 35 (0, 0)) ∧ W.heap[b8]? = some (.cells #[.iface T1 p1] 100 (0, 0))) := Lib.hid fun W hg => by
    have hb := hb3.trans (grown_to_below hg hwf (by omega))
    exact ⟨hb, HBX.out.below hb, (hg.block b2 l2 (by intro e; injection e with e; omega)).trans h2, (hg.block b8 l8 (by intro e; injection e with e; omega)).trans h8⟩
  have HF0 := Lib.hid hf
  have H0 : Hid (w3.grownBy w3 (some fb)) := Lib.hid (World.grownBy.refl w3 _)
  clear hb3 h2 hf h8
  have y0 := cell_at (HG.out _ H0.out).2.2.1 0 _ rfl
  have y1 := cell_at (HG.out _ H0.out).2.2.1 1 _ rfl
  have z8 := cell_at (HG.out _ H0.out).2.2.2 0 _ rfl
  have HC := Lib.hid (ih w3 (HG.out _ H0.out).2.1 (Nd.Ok.below (HG.out _ H0.out).1 HOK.out))
  go_wp2_with fail
  refine Calls.mono HC.out ?_
  rintro e w5 ⟨g2, c2, rfl, hg2, hr2, hb5⟩
  have G5 : Hid (w3.grownBy w5 (some fb)) := Lib.hid (grown_below hb5)
  have HF5 := Lib.hid (HF0.out.below hb5)
  have hlg := hr2.lt
  have HRW : Hid (∀ W, w5.grownBy W (some fb) → Bl.At W g2 ms.length (Nd.fn ms nn)) := Lib.hid fun W hg => by
    obtain ⟨cs, h1, h2⟩ := hr2
    exact ⟨cs, (hg.block g2 hlg (by intro e; injection e with e; omega)).trans h1, h2⟩
  clear hr2 hb5 y0 y1 z8
  have HGE : Hid (∀ W, w5.grownBy W (some fb) → Below w.heap.size w W) := Lib.hid fun W hg => (HG.out W (grown_trans G5.out hg)).1
  go_wp2_with fail
  go_loopg [136] ms.length (fun g i wr => ∃ (k : Nat) (f : Nat → Bool), k ≤ ms.length ∧ Hid (g = ms.length - k) ∧ i = .int .i64 k ∧ Hid (Bl.At wr fb ms.length f) ∧ Hid (∀ j, j < k → f j = Nd.fn ms (.not nn) j) ∧ Hid (w5.grownBy wr (some fb)))
  case atStart => exact ⟨0, _, Nat.zero_le _, Lib.hid rfl, rfl, HF5, Lib.hid (fun j hj => absurd hj (by omega)), Lib.hid (World.grownBy.refl w5 _)⟩
  case round =>
    obtain ⟨k, f, hk, HG2, rfl, HF, HQ, HR⟩ := hrel
    by_cases hlt : k < ms.length
    · have hki : (k : Int) < (ms.length : Int) := by omega
      obtain ⟨u, hu⟩ : ∃ u, ms[k]? = some u := ⟨_, List.getElem?_eq_getElem hlt⟩
      have d0 : wr.cell? ⟨g2, k, none⟩ = some (.bool (Nd.fn ms nn k)) := (HRW.out wr HR.out).get hlt
      have HVV : Hid ((!Nd.fn ms nn k) = Nd.fn ms (.not nn) k) := Lib.hid (by rw [Nd.fn_some hu, Nd.fn_some hu]; rfl)
      generalize Nd.fn ms nn k = bv at d0 HVV
      have e0 : wr.cell? ⟨fb, k, none⟩ = some (.bool (f k)) := HF.out.get hlt
      have f0 := HF.out.free k
      have HN := Lib.hid (HF.out.next HQ.out (v := !bv) HVV.out)
      have HR2 := Lib.hid (grown_self HR.out k (.bool (!bv)))
      clear hu
      go_wp2_with fail
      go_roundg (ms.length - (k + 1))
      case measure => have := HG2.out; omega
      case rel => exact ⟨k + 1, _, by omega, Lib.hid rfl, by go_num, Lib.hid HN.out.1, Lib.hid HN.out.2, HR2⟩
    · obtain rfl : k = ms.length := by omega
      have hki : ¬ (ms.length : Int) < (ms.length : Int) := by omega
      have HEND := Lib.hid (HF.out.congr HQ.out)
      have HBE := Lib.hid (HGE.out wr HR.out)
      go_wp2_with fail
      go_ret
      exact ⟨fb, _, rfl, hwf, HEND.out, HBE.out⟩

set_option maxRecDepth 100000 in
set_option maxHeartbeats 6400000 in
theorem keyFinds_pair (nx : Int) (A : Option Addr) (ms : List Ml) (c : Nat) (mx : Int) (hms : Ky.MsOk ms) (both : Bool) (l r : Nd) (T1 : TypeId) (p1 : Value) (T2 : TypeId) (p2 : Value) (ih1 : ∀ W, Ky.Bx W A ms mx → Nd.Ok l W W.heap.size → Calls Tryz.prog 28 #[.agg #[.int .i64 nx, .slice A ms.length c], .iface T1 p1] W (Ky.Fd ms l W)) (ih2 : ∀ W, Ky.Bx W A ms mx → Nd.Ok r W W.heap.size → Calls Tryz.prog 28 #[.agg #[.int .i64 nx, .slice A ms.length c], .iface T2 p2] W (Ky.Fd ms r W)) (w : World) (hbx : Ky.Bx w A ms mx) (hok1 : Nd.Ok l w w.heap.size) (hok2 : Nd.Ok r w w.heap.size) :
    Calls Tryz.prog 28 #[.agg #[.int .i64 nx, .slice A ms.length c], .iface 102 (.agg #[.bool both, .iface T1 p1, .iface T2 p2])] w (Ky.Fd ms (.pair both l r) w) := by
  obtain ⟨hl, hmm⟩ := hms
  obtain ⟨i0, hi, hz0, hz1, hz2⟩ := info_parts bool_info
  have hmk := fun W => run_make_rowN (P := Tryz.prog) 62 4 i0 _ Tryz.underlying62 hi hz0 .i64 .i64 ms.length ms.length (Nat.le_refl _) (by rw [hz2]; omega) (by omega) W
  rw [hz1] at hmk
  have HMM := Lib.hid hmm
  have HBX := Lib.hid hbx
  clear hmm hbx
  have HOK := Lib.hid (And.intro hok1 hok2)
  clear hok1 hok2
  have ta0 : ∀ W : World, (Instr.typeAssert (.iface 102 (.agg #[.bool both, .iface T1 p1, .iface T2 p2])) 59 87 true).run Tryz.prog W = .ok (.tuple #[.agg #[], .bool false]) W := fun _ => by kernel_rfl
  have ta1 : ∀ W : World, (Instr.typeAssert (.iface 102 (.agg #[.bool both, .iface T1 p1, .iface T2 p2])) 59 89 true).run Tryz.prog W = .ok (.tuple #[.agg #[.int .i64 0], .bool false]) W := fun _ => by kernel_rfl
  have ta2 : ∀ W : World, (Instr.typeAssert (.iface 102 (.agg #[.bool both, .iface T1 p1, .iface T2 p2])) 59 92 true).run Tryz.prog W = .ok (.tuple #[.agg #[.string ⟨#[]⟩], .bool false]) W := fun _ => by kernel_rfl
  have ta3 : ∀ W : World, (Instr.typeAssert (.iface 102 (.agg #[.bool both, .iface T1 p1, .iface T2 p2])) 59 94 true).run Tryz.prog W = .ok (.tuple #[.agg #[.slice none 0 0], .bool false]) W := fun _ => by kernel_rfl
  have ta4 : ∀ W : World, (Instr.typeAssert (.iface 102 (.agg #[.bool both, .iface T1 p1, .iface T2 p2])) 59 96 true).run Tryz.prog W = .ok (.tuple #[.agg #[.slice none 0 0], .bool false]) W := fun _ => by kernel_rfl
  have ta5 : ∀ W : World, (Instr.typeAssert (.iface 102 (.agg #[.bool both, .iface T1 p1, .iface T2 p2])) 59 100 true).run Tryz.prog W = .ok (.tuple #[.agg #[.nilIface], .bool false]) W := fun _ => by kernel_rfl
  have ta6 : ∀ W : World, (Instr.typeAssert (.iface 102 (.agg #[.bool both, .iface T1 p1, .iface T2 p2])) 59 102 true).run Tryz.prog W = .ok (.tuple #[.agg #[.bool both, .iface T1 p1, .iface T2 p2], .bool true]) W := fun _ => by kernel_rfl
  go_enter Tryz.func28, Tryz.ntmps28
  go_upto_region 48 with fail
  have hb3 : Below w.heap.size w (((w.alloc (.cells #[.int .i64 nx, .slice A ms.length c] 35)).alloc (.cells (madeCells #[Value.bool false] ms.length) 4)).alloc (.cells #[.bool both, .iface T1 p1, .iface T2 p2] 102)) := by go_grown
  have h2 : (((w.alloc (.cells #[.int .i64 nx, .slice A ms.length c] 35)).alloc (.cells (madeCells #[Value.bool false] ms.length) 4)).alloc (.cells #[.bool both, .iface T1 p1, .iface T2 p2] 102)).heap[w.heap.size]? = some (.cells #[.int .i64 nx, .slice A ms.length c] 35 (0, 0)) := (Below.heap_alloc _ _ _ (by simp; omega)).trans ((Below.heap_alloc _ _ _ (by simp)).trans (heap_alloc_new w _))
  have hf : Bl.At (((w.alloc (.cells #[.int .i64 nx, .slice A ms.length c] 35)).alloc (.cells (madeCells #[Value.bool false] ms.length) 4)).alloc (.cells #[.bool both, .iface T1 p1, .iface T2 p2] 102)) (w.heap.size + 1) ms.length (fun _ => false) := (by simpa using (Bl.At.made' (w.alloc (.cells #[.int .i64 nx, .slice A ms.length c] 35)) ms.length) : Bl.At ((w.alloc (.cells #[.int .i64 nx, .slice A ms.length c] 35)).alloc (.cells (madeCells #[Value.bool false] ms.length) 4)) (w.heap.size + 1) ms.length (fun _ => false)).below ((Below.refl _ _).alloc (Nat.le_refl _) _)
  have h8 : (((w.alloc (.cells #[.int .i64 nx, .slice A ms.length c] 35)).alloc (.cells (madeCells #[Value.bool false] ms.length) 4)).alloc (.cells #[.bool both, .iface T1 p1, .iface T2 p2] 102)).heap[w.heap.size + 1 + 1]? = some (.cells #[.bool both, .iface T1 p1, .iface T2 p2] 102 (0, 0)) := by simpa using heap_alloc_new ((w.alloc _).alloc _) (.cells #[.bool both, .iface T1 p1, .iface T2 p2] 102)
  generalize (((w.alloc (.cells #[.int .i64 nx, .slice A ms.length c] 35)).alloc (.cells (madeCells #[Value.bool false] ms.length) 4)).alloc (.cells #[.bool both, .iface T1 p1, .iface T2 p2] 102)) = w3 at hb3 h2 hf h8 ⊢
  obtain ⟨b2, hb2⟩ : ∃ b, b = w.heap.size := ⟨_, rfl⟩
  obtain ⟨fb, hfb⟩ : ∃ b, b = w.heap.size + 1 := ⟨_, rfl⟩
  obtain ⟨b8, hb8⟩ : ∃ b, b = w.heap.size + 1 + 1 := ⟨_, rfl⟩
  rw [← hb8, ← hfb, ← hb2]
  rw [← hb2] at h2
  rw [← hfb] at hf
  rw [← hb8] at h8
  have n2f : b2 ≠ fb := by omega
  have n8f : b8 ≠ fb := by omega
  have hwf : w.heap.size ≤ fb := by omega
  have l2 := (Array.getElem?_eq_some_iff.1 h2).1
  have l8 := (Array.getElem?_eq_some_iff.1 h8).1
  have lf := hf.lt
  have lw := hb3.size
  clear hb2 hfb hb8 hmk hi hz0 hz1 hz2
  have HG : Hid (∀ W, w3.grownBy W (some fb) → Below w.heap.size w W ∧ Ky.Bx W A ms mx ∧ W.heap[b2]? = some (.cells #[.int .i64 nx, .slice A ms.length c] 35 (0, 0)) ∧ W.heap[b8]? = some (.cells #[.bool both, .iface T1 p1, .iface T2 p2] 102 (0, 0))) := Lib.hid fun W hg => by
    have hb := hb3.trans (grown_to_below hg hwf (by omega))
    exact ⟨hb, HBX.out.below hb, (hg.block b2 l2 (by intro e; injection e with e; omega)).trans h2, (hg.block b8 l8 (by intro e; injection e with e; omega)).trans h8⟩
  have HF0 := Lib.hid hf
  have H0 : Hid (w3.grownBy w3 (some fb)) := Lib.hid (World.grownBy.refl w3 _)
  clear hb3 h2 hf h8
  have y0 := cell_at (HG.out _ H0.out).2.2.1 0 _ rfl
  have y1 := cell_at (HG.out _ H0.out).2.2.1 1 _ rfl
  have HSS : Hid (∀ w', w3.grownBy w' (some fb) → (w'.cell? ⟨b2, 0, none⟩ = some (.int .i64 nx) ∧ w'.cell? ⟨b2, 1, none⟩ = some (.slice A ms.length c)) ∧ (w'.cell? ⟨b8, 1, none⟩ = some (.iface T1 p1) ∧ w'.cell? ⟨b8, 2, none⟩ = some (.iface T2 p2))) := Lib.hid fun w' hg => ⟨⟨cell_at (HG.out w' hg).2.2.1 0 _ rfl, cell_at (HG.out w' hg).2.2.1 1 _ rfl⟩, cell_at (HG.out w' hg).2.2.2 1 _ rfl, cell_at (HG.out w' hg).2.2.2 2 _ rfl⟩
  have HC1 : Hid (∀ W, w3.grownBy W (some fb) → Calls Tryz.prog 28 #[.agg #[.int .i64 nx, .slice A ms.length c], .iface T1 p1] W (Ky.Fd ms l W)) := Lib.hid fun W hg => ih1 W (HG.out W hg).2.1 (Nd.Ok.below (HG.out W hg).1 HOK.out.1)
  have HC2 : Hid (∀ W, w3.grownBy W (some fb) → Calls Tryz.prog 28 #[.agg #[.int .i64 nx, .slice A ms.length c], .iface T2 p2] W (Ky.Fd ms r W)) := Lib.hid fun W hg => ih2 W (HG.out W hg).2.1 (Nd.Ok.below (HG.out W hg).1 HOK.out.2)
  go_wp2_with fail
  go_region_held3 (fun w' => (w'.cell? ⟨b2, 0, none⟩ = some (.int .i64 nx) ∧ w'.cell? ⟨b2, 1, none⟩ = some (.slice A ms.length c)) ∧ (w'.cell? ⟨b8, 1, none⟩ = some (.iface T1 p1) ∧ w'.cell? ⟨b8, 2, none⟩ = some (.iface T2 p2))) (first | exact HSS.out _ (grown_drewN (World.grownBy.refl w3 _) 1) | exact HSS.out _ hg4 | exact HSS.out _ hg6) (first | (have h4 := hg4; clear h4; go_at_call 28; refine Calls.mono (HC2.out _ hg4) ?_; rintro e w6 ⟨g2, c2, rfl, hgg2, hr2, hb6⟩; have hg6 : w3.grownBy w6 (some fb) := grown_trans hg4 (grown_below hb6)) | (go_at_call 28; refine Calls.mono (HC1.out _ (grown_drewN (World.grownBy.refl w3 _) 1)) ?_; rintro e w4 ⟨g1, c1, rfl, hgg1, hr1, hb4⟩; have hf4 : Bl.At w4 fb ms.length (fun _ => false) := Bl.At.below (w := w3.drewN 1) HF0.out hb4; have hg4 : w3.grownBy w4 (some fb) := grown_trans (grown_drewN (World.grownBy.refl w3 _) 1) (grown_below hb4)))
  all_goals
    have hs4 := hg4.size
    have hgs : w3.heap.size ≤ g1 := hgg1
    have hlg1 := hr1.lt
    have hlg2 := hr2.lt
    have G6 := Lib.hid hg6
    have HF6 := Lib.hid (hf4.below hb6)
    have HRW : Hid (∀ W, w6.grownBy W (some fb) → Bl.At W g1 ms.length (Nd.fn ms l) ∧ Bl.At W g2 ms.length (Nd.fn ms r)) := Lib.hid fun W hg => by
      obtain ⟨cs, h1, h2⟩ := hr1.below hb6
      obtain ⟨cs2, k1, k2⟩ := hr2
      exact ⟨⟨cs, (hg.block g1 (Array.getElem?_eq_some_iff.1 h1).1 (by intro e; injection e with e; omega)).trans h1, h2⟩, ⟨cs2, (hg.block g2 hlg2 (by intro e; injection e with e; omega)).trans k1, k2⟩⟩
    have HGE : Hid (∀ W, w6.grownBy W (some fb) → Below w.heap.size w W) := Lib.hid fun W hg => (HG.out W (grown_trans G6.out hg)).1
    have HG8 : Hid (∀ W, w6.grownBy W (some fb) → W.cell? ⟨b8, 0, none⟩ = some (.bool both)) := Lib.hid fun W hg => cell_at (HG.out W (grown_trans G6.out hg)).2.2.2 0 _ rfl
    clear hr1 hr2 hb6 hb4 hg6 hg4 hs4 y0 y1 hf4
    go_wp2_with fail
    go_loopg [160] ms.length (fun g i wr => ∃ (k : Nat) (f : Nat → Bool), k ≤ ms.length ∧ Hid (g = ms.length - k) ∧ i = .int .i64 k ∧ Hid (Bl.At wr fb ms.length f) ∧ Hid (∀ j, j < k → f j = Nd.fn ms (.pair both l r) j) ∧ Hid (w6.grownBy wr (some fb)))
    case atStart => exact ⟨0, _, Nat.zero_le _, Lib.hid rfl, rfl, HF6, Lib.hid (fun j hj => absurd hj (by omega)), Lib.hid (World.grownBy.refl w6 _)⟩
    case round =>
      obtain ⟨k, f, hk, HG2, rfl, HF, HQ, HR⟩ := hrel
      have z8 := HG8.out wr HR.out
      by_cases hlt : k < ms.length
      · have hki : (k : Int) < (ms.length : Int) := by omega
        obtain ⟨u, hu⟩ : ∃ u, ms[k]? = some u := ⟨_, List.getElem?_eq_getElem hlt⟩
        have d1 : wr.cell? ⟨g1, k, none⟩ = some (.bool (Nd.fn ms l k)) := (HRW.out wr HR.out).1.get hlt
        have d2 : wr.cell? ⟨g2, k, none⟩ = some (.bool (Nd.fn ms r k)) := (HRW.out wr HR.out).2.get hlt
        have HVV : Hid ((if both = true then Nd.fn ms l k && Nd.fn ms r k else Nd.fn ms l k || Nd.fn ms r k) = Nd.fn ms (.pair both l r) k) := Lib.hid (by rw [Nd.fn_some hu, Nd.fn_some hu, Nd.fn_some hu]; rfl)
        generalize Nd.fn ms l k = bv1 at d1 HVV
        generalize Nd.fn ms r k = bv2 at d2 HVV
        have e0 : wr.cell? ⟨fb, k, none⟩ = some (.bool (f k)) := HF.out.get hlt
        have f0 := HF.out.free k
        clear hu
        cases both
        · cases bv1
          · have HN := Lib.hid (HF.out.next HQ.out (v := bv2) HVV.out)
            have HR2 := Lib.hid (grown_self HR.out k (.bool bv2))
            go_wp2_with fail
            go_roundg (ms.length - (k + 1))
            case measure => have := HG2.out; omega
            case rel => exact ⟨k + 1, _, by omega, Lib.hid rfl, by go_num, Lib.hid HN.out.1, Lib.hid HN.out.2, HR2⟩
          · have HN := Lib.hid (HF.out.next HQ.out (v := true) HVV.out)
            have HR2 := Lib.hid (grown_self HR.out k (.bool true))
            go_wp2_with fail
            go_roundg (ms.length - (k + 1))
            case measure => have := HG2.out; omega
            case rel => exact ⟨k + 1, _, by omega, Lib.hid rfl, by go_num, Lib.hid HN.out.1, Lib.hid HN.out.2, HR2⟩
        · cases bv1
          · have HN := Lib.hid (HF.out.next HQ.out (v := false) HVV.out)
            have HR2 := Lib.hid (grown_self HR.out k (.bool false))
            go_wp2_with fail
            go_roundg (ms.length - (k + 1))
            case measure => have := HG2.out; omega
            case rel => exact ⟨k + 1, _, by omega, Lib.hid rfl, by go_num, Lib.hid HN.out.1, Lib.hid HN.out.2, HR2⟩
          · have HN := Lib.hid (HF.out.next HQ.out (v := bv2) HVV.out)
            have HR2 := Lib.hid (grown_self HR.out k (.bool bv2))
            go_wp2_with fail
            go_roundg (ms.length - (k + 1))
            case measure => have := HG2.out; omega
            case rel => exact ⟨k + 1, _, by omega, Lib.hid rfl, by go_num, Lib.hid HN.out.1, Lib.hid HN.out.2, HR2⟩
      · obtain rfl : k = ms.length := by omega
        have hki : ¬ (ms.length : Int) < (ms.length : Int) := by omega
        have HEND := Lib.hid (HF.out.congr HQ.out)
        have HBE := Lib.hid (HGE.out wr HR.out)
        go_wp2_with fail
        go_ret
        exact ⟨fb, _, rfl, hwf, HEND.out, HBE.out⟩

/-- keyFinds at every node -/
theorem keyFinds_any (nx : Int) (A : Option Addr) (ms : List Ml) (c : Nat) (mx : Int) (hms : Ky.MsOk ms) : ∀ (n : Nd) (w : World), Ky.Bx w A ms mx → Nd.Ok n w w.heap.size →
    Calls Tryz.prog 28 #[.agg #[.int .i64 nx, .slice A ms.length c], n.val] w (Ky.Fd ms n w)
  | .all, w, hb, _ => keyFinds_all nx A ms c mx hms w hb
  | .has f, w, hb, h => keyFinds_has nx A ms c mx hms f w hb h
  | .text t, w, hb, _ => keyFinds_text nx A ms c mx hms t w hb
  | .place PA ss pc, w, hb, h => keyFinds_place nx A ms c mx hms PA ss pc w hb h.1 h.2
  | .uid PA ss pc, w, hb, h => keyFinds_uid nx A ms c mx hms PA ss pc w hb h.1 h.2
  | .not n, w, hb, h => by
    obtain ⟨T1, p1, h1⟩ := Nd.val_form n
    show Calls Tryz.prog 28 #[.agg #[.int .i64 nx, .slice A ms.length c], .iface 100 (.agg #[Nd.val n])] w (Ky.Fd ms (.not n) w)
    rw [h1]
    exact keyFinds_not nx A ms c mx hms n T1 p1 (fun W hW hO => by rw [← h1]; exact keyFinds_any nx A ms c mx hms n W hW hO) w hb h
  | .pair both l r, w, hb, h => by
    obtain ⟨T1, p1, h1⟩ := Nd.val_form l
    obtain ⟨T2, p2, h2⟩ := Nd.val_form r
    show Calls Tryz.prog 28 #[.agg #[.int .i64 nx, .slice A ms.length c], .iface 102 (.agg #[.bool both, Nd.val l, Nd.val r])] w (Ky.Fd ms (.pair both l r) w)
    rw [h1, h2]
    exact keyFinds_pair nx A ms c mx hms both l r T1 p1 T2 p2 (fun W hW hO => by rw [← h1]; exact keyFinds_any nx A ms c mx hms l W hW hO) (fun W hW hO => by rw [← h2]; exact keyFinds_any nx A ms c mx hms r W hW hO) w hb h.1 h.2
end Go.Proofs.YtmlmdpdboigojaaGreatDoor
