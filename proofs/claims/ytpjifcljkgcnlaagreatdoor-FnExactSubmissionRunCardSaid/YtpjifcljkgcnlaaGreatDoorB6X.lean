/- B6X: B6R B6C B6D PpI, in one text. -/
import Derived.Test.YtpjifcljkgcnlaaGreatDoorShelf
import Derived.Test.YtpjifcljkgcnlaaGreatDoorB6W
import Derived.Test.YtpjifcljkgcnlaaGreatDoorPl
import Derived.Test.YtpjifcljkgcnlaaGreatDoorRx
import Derived.Test.YtpjifcljkgcnlaaGreatDoorB6G
import Derived.Test.YtpjifcljkgcnlaaGreatDoorB6Y
import Derived.Test.YtpjifcljkgcnlaaGreatDoorDmX
import Derived.Test.YtpjifcljkgcnlaaGreatDoorUpS
namespace Go.Proofs.YtpjifcljkgcnlaaGreatDoor
set_option linter.unusedVariables false
open Go.RowKit

theorem B6.ib (l : List UInt8) (c : UInt8) : Lib.indexByte l c = match l.findIdx? (· == c) with | some v => (v : Int) | none => -1 := by
  induction l with
  | nil => rfl
  | cons b l ih =>
    rw [Lib.indexByte, List.findIdx?_cons]
    by_cases h : (b == c) = true
    · simp [h]
    · simp only [h, if_false, Bool.false_eq_true, ih]
      cases l.findIdx? (· == c) with
      | none => rfl
      | some v =>
        simp only [Option.map_some]
        have : ((v : Int) == -1) = false := by simp
        simp [this]
theorem B6.ib_some {c : UInt8} {v : Nat} (h : B6.val c = some v) : Lib.indexByte B6.tab c = (v : Int) := by
  unfold B6.val at h; rw [B6.ib, h]
theorem B6.ib_none {c : UInt8} (h : B6.val c = none) : Lib.indexByte B6.tab c = -1 := by
  unfold B6.val at h; rw [B6.ib, h]
/-- so far read: j signs, as the number n -/
def B6.Fd (L : List UInt8) (j n : Nat) : Prop := n = B6.fold ((B6.lead L).take j) ∧ j ≤ (B6.lead L).length ∧ B6.lead (L.drop j) = (B6.lead L).drop j
theorem B6.Fd.step {L : List UInt8} {j n v : Nat} {x : UInt8} (h : B6.Fd L j n) (hx : L[j]? = some x) (hv : B6.val x = some v) : B6.Fd L (j + 1) (64 * n + v) := by
  obtain ⟨h1, h2, h3⟩ := h
  have hj := (List.getElem?_eq_some_iff.1 hx).1
  have hd : L.drop j = x :: L.drop (j + 1) := by rw [List.drop_eq_getElem_cons hj, (List.getElem?_eq_some_iff.1 hx).2]
  rw [hd] at h3
  simp only [B6.lead, hv] at h3
  have hl : j < (B6.lead L).length := by
    have := congrArg List.length h3
    simp at this; omega
  have h4 : (B6.lead L).drop j = (B6.lead L)[j] :: (B6.lead L).drop (j + 1) := List.drop_eq_getElem_cons hl
  rw [h4] at h3
  injection h3 with h5 h6
  refine ⟨?_, hl, h6⟩
  rw [List.take_add_one, List.getElem?_eq_getElem hl, ← h5, h1]
  simp [B6.fold, List.foldl_append]
theorem B6.Fd.stop {L : List UInt8} {j n : Nat} {x : UInt8} (h : B6.Fd L j n) (hx : L[j]? = some x) (hv : B6.val x = none) : (B6.lead L).length = j ∧ n = B6.fold (B6.lead L) := by
  obtain ⟨h1, h2, h3⟩ := h
  have hj := (List.getElem?_eq_some_iff.1 hx).1
  have hd : L.drop j = x :: L.drop (j + 1) := by rw [List.drop_eq_getElem_cons hj, (List.getElem?_eq_some_iff.1 hx).2]
  rw [hd] at h3
  simp only [B6.lead, hv] at h3
  have hl : (B6.lead L).length = j := by
    have := congrArg List.length h3
    simp at this; omega
  exact ⟨hl, by rw [h1, List.take_of_length_le (by omega)]⟩
theorem B6.Fd.fin {L : List UInt8} {j n : Nat} (h : B6.Fd L j n) (hj : j = L.length) : (B6.lead L).length = j ∧ n = B6.fold (B6.lead L) := by
  obtain ⟨h1, h2, h3⟩ := h
  rw [List.drop_of_length_le (by omega)] at h3
  have hl : (B6.lead L).length = j := by
    have := congrArg List.length h3
    simp [B6.lead] at this; omega
  exact ⟨hl, by rw [h1, List.take_of_length_le (by omega)]⟩
theorem B6.or6 (n v : Nat) (hn : n < 262144) (hv : v < 64) : bits BinOp.or IntKind.i64 ((n : Int) * 64) (v : Int) = (n : Int) * 64 + (v : Int) :=
  bits_join .i64 40 (by decide) B6.wraps 6 _ _ (by omega) (by omega) (by omega) (by omega) (by omega) (by omega)
theorem B6.p64 {n j : Nat} (h : n < 64 ^ j) (hj : j ≤ 3) : n < 262144 := Nat.lt_of_lt_of_le h (Nat.le_trans (Nat.pow_le_pow_right (by omega) hj) (by decide))

set_option maxRecDepth 100000 in
set_option maxHeartbeats 3200000 in
theorem base64Read_any (s : ByteArray) (hs : s.size ≤ 4) (w : World) :
    Calls Tryz.prog 111 #[.string s] w fun e w' => e = .returned (.string (Ct.mk (B6.readG s.data.toList))) ∧ Below w.heap.size w w' := by
  have HIX : Hid (∀ W c, Calls Tryz.prog 119 #[.string ⟨#[65, 66, 67, 68, 69, 70, 71, 72, 73, 74, 75, 76, 77, 78, 79, 80, 81, 82, 83, 84, 85, 86, 87, 88, 89, 90, 97, 98, 99, 100, 101, 102, 103, 104, 105, 106, 107, 108, 109, 110, 111, 112, 113, 114, 115, 116, 117, 118, 119, 120, 121, 122, 48, 49, 50, 51, 52, 53, 54, 55, 56, 57, 43, 47]⟩, .int .u8 ((UInt8.toNat c : Nat) : Int)] W fun e w' => e = .returned (.int .i64 (Lib.indexByte B6.tab c)) ∧ w' = W) := Lib.hid fun W c => by
    have h := Tryz.strings_IndexByte ⟨#[65, 66, 67, 68, 69, 70, 71, 72, 73, 74, 75, 76, 77, 78, 79, 80, 81, 82, 83, 84, 85, 86, 87, 88, 89, 90, 97, 98, 99, 100, 101, 102, 103, 104, 105, 106, 107, 108, 109, 110, 111, 112, 113, 114, 115, 116, 117, 118, 119, 120, 121, 122, 48, 49, 50, 51, 52, 53, 54, 55, 56, 57, 43, 47]⟩ ((UInt8.toNat c : Nat) : Int) W
    have e : ((UInt8.toNat c : Nat) : Int).toNat.toUInt8 = c := by simp
    rw [e] at h
    exact h
  go_enter Tryz.func111, Tryz.ntmps111
  go_wp2_with fail
  go_loopg [3, 4] 5 (fun g bits i wr => ∃ j n : Nat, j ≤ s.size ∧ Hid (g = 5 - j) ∧ i = .int .i64 (j : Int) ∧ bits = .int .i64 (n : Int) ∧ Hid (n < 64 ^ j) ∧ Hid (B6.Fd s.data.toList j n) ∧ wr = w)
  case atStart => exact ⟨0, 0, by omega, Lib.hid rfl, rfl, rfl, Lib.hid (by decide), Lib.hid ⟨rfl, by omega, rfl⟩, rfl⟩
  case round =>
    obtain ⟨j, n, hj, HG, rfl, rfl, HN, HB, rfl⟩ := hrel
    by_cases hgo : ∃ (h : j < s.size) (v : Nat), B6.val (s[j]'h) = some v
    · obtain ⟨hlt, v, hv⟩ := hgo
      obtain ⟨x, hx⟩ : ∃ x, s[j]'hlt = x := ⟨_, rfl⟩
      rw [hx] at hv
      have HX : Hid (s.data.toList[j]? = some x) := Lib.hid (by rw [B6.at_size hlt, hx])
      have hn := B6.p64 HN.out (by omega)
      have HI := Lib.hid (B6.ib_some hv)
      have HS := Lib.hid (HB.out.step HX.out hv)
      have hv64 := B6.val_lt hv
      have hor := B6.or6 n v hn hv64
      clear hv
      go_wp2_with fail
      refine Calls.mono (HIX.out _ x) ?_
      rintro e w1 ⟨rfl, rfl⟩
      rw [HI.out]
      go_wp2_with fail
      go_roundg (5 - (j + 1))
      case measure => have := HG.out; omega
      case rel => exact ⟨j + 1, 64 * n + v, by omega, Lib.hid rfl, by go_num, by go_num, Lib.hid (by have := HN.out; rw [Nat.pow_succ]; omega), HS, rfl⟩
    · have HS : Hid ((B6.lead s.data.toList).length = j ∧ n = B6.fold (B6.lead s.data.toList)) := Lib.hid (by
        by_cases hlt : j < s.size
        · cases hv : B6.val (s[j]'hlt) with
          | some v => exact absurd ⟨hlt, v, hv⟩ hgo
          | none => exact HB.out.stop (B6.at_size hlt) hv
        · exact HB.out.fin (by simp; omega))
      have HGO := Lib.hid hgo
      clear hgo
      by_cases hlt : j < s.size
      case' pos =>
        obtain ⟨x, hx⟩ : ∃ x, s[j]'hlt = x := ⟨_, rfl⟩
        have HI : Hid (Lib.indexByte B6.tab x = -1) := Lib.hid (B6.ib_none (by
          cases hv : B6.val x with
          | some v => exact absurd ⟨hlt, v, by rw [hx]; exact hv⟩ HGO.out
          | none => rfl))
        go_wp2_with fail
        refine Calls.mono (HIX.out _ x) ?_
        rintro e w1 ⟨rfl, hw1⟩
        obtain rfl := hw1.symm
        rw [HI.out]
        go_wp2_with fail
      case' neg => go_wp2_with fail
      all_goals
        go_loopg [3, 25] (4 - j) (fun g bits i wq => ∃ k p : Nat, k ≤ 4 - j ∧ Hid (g = 4 - j - k) ∧ i = .int .i64 (k : Int) ∧ bits = .int .i64 (p : Int) ∧ Hid (p < 64 ^ (j + k) ∧ p = n * 64 ^ k) ∧ wq = wr)
        case atStart => exact ⟨0, n, by omega, Lib.hid rfl, rfl, rfl, Lib.hid ⟨HN.out, by simp⟩, rfl⟩
        case round =>
          obtain ⟨k, p, hk, HG2, rfl, rfl, HP, rfl⟩ := hrel
          by_cases hk4 : k < 4 - j
          · have hp := B6.p64 HP.out.1 (by omega)
            have hki : (k : Int) < 4 - (j : Int) := by omega
            go_wp2_with fail
            go_roundg (4 - j - (k + 1))
            case measure => have := HG2.out; omega
            case rel => exact ⟨k + 1, p * 64, by omega, Lib.hid rfl, by go_num, by go_num, Lib.hid ⟨by have := HP.out.1; rw [← Nat.add_assoc, Nat.pow_succ]; omega, by rw [HP.out.2, Nat.pow_succ, Nat.mul_assoc]⟩, rfl⟩
          · have hp : p < 16777216 := by have := HP.out.1; rw [show j + k = 4 by omega] at this; exact this
            have hki : ¬ (k : Int) < 4 - (j : Int) := by omega
            have hal : Tryz.prog.arrayLen 135 = 3 := by simp [Program.arrayLen, Tryz.underlying135]
            have HSL : Hid (∀ W : World, (Instr.sliceAt 135 (.pointer (some ⟨wr.heap.size, 0, none⟩)) none (some (.int .i64 ((j : Int) * 6 / 8))) none).run Tryz.prog W = .ok (.slice (some ⟨wr.heap.size, 0, none⟩) (j * 6 / 8) 3) W) := Lib.hid fun W => by
              rw [run_sliceAt_array_h W 135 ⟨wr.heap.size, 0, none⟩ (by simp [Program.arrayLen, Program.elem, Tryz.underlying135]) .i64 ((j : Int) * 6 / 8) (by omega) (by rw [hal]; omega), hal]
              have e : ((j : Int) * 6 / 8).toNat = j * 6 / 8 := by omega
              simp [slicedAt, e, go_sem, Program.elem, Tryz.underlying135]
            clear hal
            have HV : Hid (B6.readG s.data.toList = (B6.bytes p).take (j * 6 / 8)) := Lib.hid (by
              unfold B6.readG
              rw [HS.out.1, ← HS.out.2, HP.out.2, show k = 4 - j by omega])
            have HL : Hid (((B6.bytes p).take (j * 6 / 8)).length = j * 6 / 8) := Lib.hid (by
              rw [List.length_take]; show min (j * 6 / 8) 3 = _; omega)
            have HCV : Hid ((convert 77 9 (.slice (some ⟨wr.heap.size, 0, none⟩) (j * 6 / 8) 3)).run Tryz.prog (wr.alloc (.cells #[.int .u8 ((p : Int) / 65536), .int .u8 ((p : Int) / 256 % 256), .int .u8 ((p : Int) % 256)] 135)) = .ok (.string (Ct.mk (B6.readG s.data.toList))) (wr.alloc (.cells #[.int .u8 ((p : Int) / 65536), .int .u8 ((p : Int) / 256 % 256), .int .u8 ((p : Int) % 256)] 135))) := Lib.hid (by
              have h := run_convert_bytes_back (P := Tryz.prog) (wr.alloc (.cells #[.int .u8 ((p : Int) / 65536), .int .u8 ((p : Int) / 256 % 256), .int .u8 ((p : Int) % 256)] 135)) 77 9 5 ⟨wr.heap.size, 0, none⟩ 3 ((B6.bytes p).take (j * 6 / 8)) Tryz.underlying77 Tryz.underlying5 Tryz.underlying9 (fun jj hjj => by
                have hx := heap_alloc_new wr (.cells #[.int .u8 ((p : Int) / 65536), .int .u8 ((p : Int) / 256 % 256), .int .u8 ((p : Int) % 256)] 135)
                have h3 : jj < 3 := by rw [HL.out] at hjj; omega
                rw [List.getElem_take, add_none, Nat.zero_add]
                have hu : ∀ m : Nat, ((UInt8.ofNat m).toNat : Int) = (m : Int) % 256 := fun m => by rw [UInt8.toNat_ofNat']; omega
                rcases (by omega : jj = 0 ∨ jj = 1 ∨ jj = 2) with rfl | rfl | rfl
                · refine cell_at hx 0 _ ?_
                  show some (Value.int .u8 ((p : Int) / 65536)) = some (.int .u8 ((UInt8.ofNat (p / 65536)).toNat : Int))
                  rw [hu]; congr 2; omega
                · refine cell_at hx 1 _ ?_
                  show some (Value.int .u8 ((p : Int) / 256 % 256)) = some (.int .u8 ((UInt8.ofNat (p / 256)).toNat : Int))
                  rw [hu]; congr 2
                · refine cell_at hx 2 _ ?_
                  show some (Value.int .u8 ((p : Int) % 256)) = some (.int .u8 ((UInt8.ofNat p).toNat : Int))
                  rw [hu])
              rw [HL.out, ← HV.out] at h
              exact h)
            go_wp2_with fail
            rw [HSL.out]
            simp only [Result.andThen]
            rw [Oper.upon_value]
            have hcv := HCV.out
            go_wp2_with fail
            go_ret
            exact ⟨rfl, (Below.refl _ _).alloc (Nat.le_refl _) _⟩
end Go.Proofs.YtpjifcljkgcnlaaGreatDoor

namespace Go.Proofs.YtpjifcljkgcnlaaGreatDoor
set_option linter.unusedVariables false
open Go.RowKit Go.Shelf
attribute [local go_sem] Oper.semAt_some

theorem bld_kept {T e : TypeId} {B b : Nat} {bs : List Value} {W W' : World} {row : Option Nat} (h : Lib.IsBuilder T e B b bs W) (hg : W.grownBy W' row) (hr : ∀ r, row = some r → ∃ o : Obj, W.heap[r]? = some o ∧ o.isCells = false) : Lib.IsBuilder T e B b bs W' := by
  have hne : ∀ {q : Nat} {o : Obj}, W.heap[q]? = some o → o.isCells = true → some q ≠ row := by
    intro q o hq ho e
    obtain ⟨o', h1, h2⟩ := hr q e.symm
    rw [hq] at h1; injection h1 with h1; subst h1
    rw [ho] at h2; cases h2
  have key : ∀ p, Lib.BuilderAt T e B b p bs W → Lib.BuilderAt T e B b p bs W' := by
    rintro p ⟨hB, v, hb, hown, hv⟩
    refine ⟨hB, v, (hg.block b (Array.getElem?_eq_some_iff.1 hb).1 (hne hb rfl)).trans hb, hown.kept hg ?_, hv⟩
    cases hq : v.ownBlock with
    | none => exact .inl rfl
    | some q =>
      have hlt := (hown.lt q hq).2
      exact .inr (hne (Array.getElem?_eq_getElem hlt) (row_cells hown hq (Array.getElem?_eq_getElem hlt)))
  rcases h with h | h
  · exact .inl (key _ h)
  · exact .inr (key _ h)
theorem Gs.kp_bk {b Bt Bs : Nat} {s : ByteArray} {k : Int} {W W' : World} (h : Bk b W W') (ht : W.heap[Bt]? = some (.cells #[.string s] 9 (0, 0))) (hs : W.heap[Bs]? = some (.cells #[.int .i64 k] 3 (0, 0))) (hbt : Bt ≠ b) (hbs : Bs ≠ b) : Gs.Kp Bt Bs W W' :=
  ⟨(h.2 Bt _ ht (by simpa using hbt) (by intro c fz e; cases e)).trans ht.symm, (h.2 Bs _ hs (by simpa using hbs) (by intro c fz e; cases e)).trans hs.symm⟩

theorem obj_kept {W W' : World} {row : Option Nat} {q : Nat} {o : Obj} (h : W.heap[q]? = some o) (ho : o.isCells = true) (hg : W.grownBy W' row) (hr : ∀ r, row = some r → ∃ o : Obj, W.heap[r]? = some o ∧ o.isCells = false) : W'.heap[q]? = some o := by
  refine (hg.block q (Array.getElem?_eq_some_iff.1 h).1 ?_).trans h
  intro e
  obtain ⟨o', h1, h2⟩ := hr q e.symm
  rw [h] at h1; injection h1 with h1; subst h1
  rw [ho] at h2; cases h2
def Gs.encs (pre : List (Gs.G 3)) : List UInt8 := pre.flatMap fun g => B6.enc g.1.data.toList
theorem Gs.encs_snoc (pre : List (Gs.G 3)) (x : Gs.G 3) : Gs.encs (pre ++ [x]) = Gs.encs pre ++ B6.enc x.1.data.toList := by simp [Gs.encs]
theorem Gs.encs_len (pre : List (Gs.G 3)) : (Gs.encs pre).length ≤ 4 * pre.length := by
  induction pre with
  | nil => simp [Gs.encs]
  | cons x r ih =>
    have h1 : (B6.enc x.1.data.toList).length ≤ 4 := by
      have hl : x.1.data.toList.length = x.1.size := Array.length_toList
      rw [B6.enc_len]; have := x.2; omega
    simp only [Gs.encs, List.flatMap_cons, List.length_append, List.length_cons] at ih ⊢
    omega
theorem Gs.encs_all (s : ByteArray) : Gs.encs (Gs.upto (Gs.at_ s 3 (by decide)) (Gs.n s 3)) = B6.enc s.data.toList := by
  rw [← Gs.gs_enc, ← Gs.groups s 3 (by decide)]
  unfold Gs.encs Gs.n
  rw [List.flatMap_map]

set_option maxRecDepth 100000 in
set_option maxHeartbeats 2000000 in
theorem iB64Encode_no (s : ByteArray) (hs : 30 < s.size) (w : World) :
    Calls Tryz.prog 113 #[.string s] w fun e w' => e = .returned (.string (B6.encode s)) ∧ Below w.heap.size w w' := by
  have hi : (30 : Int) < (s.size : Int) := by omega
  have HV : Hid (B6.encode s = ⟨#[]⟩) := Lib.hid (by unfold B6.encode; rw [if_pos hs])
  go_enter Tryz.func113, Tryz.ntmps113
  go_wp2_with fail
  go_ret
  rw [HV.out]
  exact ⟨rfl, Below.refl _ _⟩

def Gs.IE (w : World) (s : ByteArray) (pre : List (Gs.G 3)) (W : World) : Prop :=
  (Lib.IsBuilder 119 5 w.heap.size w.heap.size (Lib.byteCells (Gs.encs pre)) W ∧ W.heap[w.heap.size + 1]? = some (.cells #[.string s] 9 (0, 0)) ∧ W.heap[w.heap.size + 1 + 1]? = some (.cells #[.int .i64 3] 3 (0, 0))) ∧ Below w.heap.size w W

set_option maxRecDepth 100000 in
set_option maxHeartbeats 2000000 in
theorem iB64Encode_yes (s : ByteArray) (hs : s.size ≤ 30) (w : World) :
    Calls Tryz.prog 113 #[.string s] w fun e w' => e = .returned (.string (B6.encode s)) ∧ Below w.heap.size w w' := by
  have hi : ¬ (30 : Int) < (s.size : Int) := by omega
  refine (callsIn_wide (n := 6)).1 ?_
  refine callsIn_of_wp_marks Tryz.func113 rfl trivial ?_ rfl
  simp only [Tryz.ntmps113, List.size_toArray, List.length_cons, List.length_nil, Nat.reduceAdd, Nat.reduceSub, Array.replicate_succ, Array.replicate_zero, List.push_toArray, List.append_toArray, List.nil_append, List.cons_append]
  gi_wp2_with (refine ⟨trivial, ?_⟩; gi_at_call 109; refine (groups_in Fence.wide _ trivial rfl s 3 _).mono ?_; rintro e w' ⟨rfl, rfl⟩)
  have hx0 : Lib.IsBuilder 119 5 w.heap.size w.heap.size [] (((w.alloc (.cells #[.pointer none, .slice none 0 0] 119)).alloc (.cells #[.string s] 9)).alloc (.cells #[.int .i64 3] 3)) :=
    bld_kept (bld_kept (Lib.fresh_isBuilder 119 5 w) (World.grownBy_alloc _ _ none) (fun r e => by cases e)) (World.grownBy_alloc _ _ none) (fun r e => by cases e)
  have hx1 : (((w.alloc (.cells #[.pointer none, .slice none 0 0] 119)).alloc (.cells #[.string s] 9)).alloc (.cells #[.int .i64 3] 3)).heap[w.heap.size + 1]? = some (.cells #[.string s] 9 (0, 0)) := by
    refine (Below.heap_alloc _ _ _ (by simp)).trans ?_
    simpa using heap_alloc_new (w.alloc (.cells #[.pointer none, .slice none 0 0] 119)) (.cells #[.string s] 9)
  have hx2 : (((w.alloc (.cells #[.pointer none, .slice none 0 0] 119)).alloc (.cells #[.string s] 9)).alloc (.cells #[.int .i64 3] 3)).heap[w.heap.size + 1 + 1]? = some (.cells #[.int .i64 3] 3 (0, 0)) := by
    simpa using heap_alloc_new ((w.alloc (.cells #[.pointer none, .slice none 0 0] 119)).alloc (.cells #[.string s] 9)) (.cells #[.int .i64 3] 3)
  have hB0 : Below w.heap.size w (((w.alloc (.cells #[.pointer none, .slice none 0 0] 119)).alloc (.cells #[.string s] 9)).alloc (.cells #[.int .i64 3] 3)) := (((Below.refl _ w).alloc (Nat.le_refl _) _).alloc (by simp) _).alloc (by simp; omega) _
  have hz : (((w.alloc (.cells #[.pointer none, .slice none 0 0] 119)).alloc (.cells #[.string s] 9)).alloc (.cells #[.int .i64 3] 3)).heap.size = w.heap.size + 3 := by simp
  generalize (((w.alloc (.cells #[.pointer none, .slice none 0 0] 119)).alloc (.cells #[.string s] 9)).alloc (.cells #[.int .i64 3] 3)) = W0 at hx0 hx1 hx2 hB0 hz ⊢
  refine wpIn_rangeFunc_ownF rfl (by omega) (gf := 117) (lb := #[.pointer (some ⟨w.heap.size + 1, 0, none⟩), .pointer (some ⟨w.heap.size + 1 + 1, 0, none⟩)]) rfl trivial (enters_of Tryz.func117 (by kernel_rfl) rfl)
    (groups3_stops Fence.wide _ trivial rfl (by omega) (w.heap.size + 1) (w.heap.size + 1 + 1) s (by omega) W0 (by omega) (by omega) (cell_at hx1 0 _ rfl) (cell_at hx2 0 _ rfl)) (fun h k => h.trans k) (fun W l o o' hl _ _ _ => Gs.Kp.putObj W o' (by omega) (by omega)) (Below.refl _ _) (fun _ => rfl)
    (Gs.IE w s) (fun _ _ _ => False)
    (OwnFrom.and (Own.from (fun s A B row hs hg hr => ⟨bld_kept hs.1 hg hr, obj_kept hs.2.1 rfl hg hr, obj_kept hs.2.2 rfl hg hr⟩) _) (ownFrom_below (Nat.le_refl _) (by omega)))
    (fun _ _ _ _ _ hs _ _ => hs)
    ⟨⟨hx0, hx1, hx2⟩, hB0⟩
    (fun x => { tmps := #[.string s, undef, .string ⟨#[]⟩, .pointer (some ⟨w.heap.size, 0, none⟩), .string x.1, .string s, .int .i64 s.size, .bool false, .string s, .func (.func 117) #[] #[.pointer (some ⟨w.heap.size + 1, 0, none⟩), .pointer (some ⟨w.heap.size + 1 + 1, 0, none⟩)], .string x.1, undef, undef, undef], defers := [] }) ?assign ?body ?done ?stop
  case assign =>
    intro l x W K hK
    gi_wp2
    exact hK
  case body =>
    rintro l pre x W ⟨⟨hb, h1, h2⟩, hB⟩ hlen
    have hl : (Gs.encs pre).length ≤ 1000 := by
      have := Gs.encs_len pre
      unfold Gs.n at hlen
      omega
    have hsz := hB.size
    have HH := Lib.hid (base64Write_any w.heap.size w.heap.size (Gs.encs pre) x.1 W x.2.1 x.2.2 hb hl hsz)
    clear hb
    gi_wp2_with (refine ⟨trivial, ?_⟩; gi_at_call 120; refine (CallsIn.inRound l (callsIn_wide.2 HH.out)).mono ?_; rintro e W2 ⟨rfl, hb2, hbl2, hk2⟩)
    exact ⟨hk2.1, Gs.kp_bk hk2 h1 h2 (by omega) (by omega), ⟨by rw [Gs.encs_snoc]; exact hb2, (Gs.kp_bk hk2 h1 h2 (by omega) (by omega)).1.trans h1, (Gs.kp_bk hk2 h1 h2 (by omega) (by omega)).2.trans h2⟩, hB.trans hbl2⟩
  case done =>
    rintro D ys W hD rfl ⟨⟨hb, h1, h2⟩, hB⟩ hK
    have hsz := hB.size
    rw [Gs.encs_all] at hb
    have HH := Lib.hid (Tryz.Builder_String_any_k w.heap.size w.heap.size (B6.enc s.data.toList) W (Lib.IsBuilderF.of hb) hsz)
    have hbD : w.heap.size ≠ D := by omega
    clear hb
    gi_wp2_with (refine ⟨trivial, ?_⟩; gi_at_call 112; refine (callsIn_wide.2 HH.out).mono ?_; rintro e W2 ⟨rfl, _, hbl2, hk2⟩)
    have hK2 := hk2 D _ hK (by simpa using hbD.symm) (by intro c fz e; cases e)
    refine ⟨by simp, .inl ⟨_, _, rfl, run_takeDeferred hK2, ?_⟩⟩
    refine ⟨_, results_tmp rfl _ _ _, ?_, (hB.trans hbl2).trans (belowK_b (w := w) (Nat.le_refl _) W2 D _ _ (by omega) hK2 rfl rfl)⟩
    unfold B6.encode
    rw [if_neg (by omega)]
    rfl
  case stop =>
    rintro D c pre W _ _ h _
    exact h.elim
theorem iB64Encode_any (s : ByteArray) (w : World) :
    Calls Tryz.prog 113 #[.string s] w fun e w' => e = .returned (.string (B6.encode s)) ∧ Below w.heap.size w w' := by
  rcases Nat.lt_or_ge 30 s.size with h | h
  · exact iB64Encode_no s h w
  · exact iB64Encode_yes s h w
end Go.Proofs.YtpjifcljkgcnlaaGreatDoor

namespace Go.Proofs.YtpjifcljkgcnlaaGreatDoor
set_option linter.unusedVariables false
open Go.RowKit Go.Shelf
attribute [local go_sem] Oper.semAt_some

def Gs.rds (pre : List (Gs.G 4)) : List UInt8 := pre.flatMap fun g => B6.readG g.1.data.toList
theorem Gs.rds_snoc (pre : List (Gs.G 4)) (x : Gs.G 4) : Gs.rds (pre ++ [x]) = Gs.rds pre ++ B6.readG x.1.data.toList := by simp [Gs.rds]
theorem Gs.rd_len (x : Gs.G 4) : (B6.readG x.1.data.toList).length ≤ 3 := by
  have hl : x.1.data.toList.length = x.1.size := Array.length_toList
  exact B6.readG_len _ (by have := x.2; omega)
theorem Gs.rds_len (pre : List (Gs.G 4)) : (Gs.rds pre).length ≤ 3 * pre.length := by
  induction pre with
  | nil => simp [Gs.rds]
  | cons x r ih =>
    have h1 := Gs.rd_len x
    simp only [Gs.rds, List.flatMap_cons, List.length_append, List.length_cons] at ih ⊢
    omega
theorem Gs.rds_all (s : ByteArray) : Gs.rds (Gs.upto (Gs.at_ s 4 (by decide)) (Gs.n s 4)) = B6.read s.data.toList := by
  rw [← Gs.gs_read, ← Gs.groups s 4 (by decide)]
  unfold Gs.rds Gs.n
  rw [List.flatMap_map]
theorem Gs.cells (x : Gs.G 4) : Lib.strCells (Ct.mk (B6.readG x.1.data.toList)) = Lib.byteCells (B6.readG x.1.data.toList) := by
  simp [Lib.strCells, Lib.byteCells, Ct.mk]

set_option maxRecDepth 100000 in
set_option maxHeartbeats 2000000 in
theorem iB64Decode_no (s : ByteArray) (hs : 40 < s.size) (w : World) :
    Calls Tryz.prog 98 #[.string s] w fun e w' => e = .returned (B6.out (B6.decode s.data.toList)) ∧ Below w.heap.size w w' := by
  have hi : (40 : Int) < (s.size : Int) := by omega
  have HN : Hid (B6.decode s.data.toList = none) := Lib.hid (by
    have : s.data.toList.length = s.size := Array.length_toList
    unfold B6.decode; rw [if_neg]; intro h; omega)
  go_enter Tryz.func98, Tryz.ntmps98
  go_wp2_with fail
  go_ret2
  rw [HN.out]
  exact ⟨rfl, Below.refl _ _⟩

def Gs.ID (w : World) (s : ByteArray) (pre : List (Gs.G 4)) (W : World) : Prop :=
  (Lib.IsBuilder 119 5 w.heap.size w.heap.size (Lib.byteCells (Gs.rds pre)) W ∧ W.heap[w.heap.size + 1]? = some (.cells #[.string s] 9 (0, 0)) ∧ W.heap[w.heap.size + 1 + 1]? = some (.cells #[.int .i64 4] 3 (0, 0))) ∧ Below w.heap.size w W

set_option maxRecDepth 100000 in
set_option maxHeartbeats 2000000 in
theorem iB64Decode_yes (s : ByteArray) (hs : s.size ≤ 40) (w : World) :
    Calls Tryz.prog 98 #[.string s] w fun e w' => e = .returned (B6.out (B6.decode s.data.toList)) ∧ Below w.heap.size w w' := by
  have hi : ¬ (40 : Int) < (s.size : Int) := by omega
  have HSL : Hid (s.data.toList.length = s.size) := Lib.hid Array.length_toList
  refine (callsIn_wide (n := 6)).1 ?_
  refine callsIn_of_wp_marks Tryz.func98 rfl trivial ?_ rfl
  simp only [Tryz.ntmps98, List.size_toArray, List.length_cons, List.length_nil, Nat.reduceAdd, Nat.reduceSub, Array.replicate_succ, Array.replicate_zero, List.push_toArray, List.append_toArray, List.nil_append, List.cons_append]
  gi_wp2_with (refine ⟨trivial, ?_⟩; gi_at_call 109; refine (groups_in Fence.wide _ trivial rfl s 4 _).mono ?_; rintro e w' ⟨rfl, rfl⟩)
  have hx0 : Lib.IsBuilder 119 5 w.heap.size w.heap.size [] (((w.alloc (.cells #[.pointer none, .slice none 0 0] 119)).alloc (.cells #[.string s] 9)).alloc (.cells #[.int .i64 4] 3)) :=
    bld_kept (bld_kept (Lib.fresh_isBuilder 119 5 w) (World.grownBy_alloc _ _ none) (fun r e => by cases e)) (World.grownBy_alloc _ _ none) (fun r e => by cases e)
  have hx1 : (((w.alloc (.cells #[.pointer none, .slice none 0 0] 119)).alloc (.cells #[.string s] 9)).alloc (.cells #[.int .i64 4] 3)).heap[w.heap.size + 1]? = some (.cells #[.string s] 9 (0, 0)) := by
    refine (Below.heap_alloc _ _ _ (by simp)).trans ?_
    simpa using heap_alloc_new (w.alloc (.cells #[.pointer none, .slice none 0 0] 119)) (.cells #[.string s] 9)
  have hx2 : (((w.alloc (.cells #[.pointer none, .slice none 0 0] 119)).alloc (.cells #[.string s] 9)).alloc (.cells #[.int .i64 4] 3)).heap[w.heap.size + 1 + 1]? = some (.cells #[.int .i64 4] 3 (0, 0)) := by
    simpa using heap_alloc_new ((w.alloc (.cells #[.pointer none, .slice none 0 0] 119)).alloc (.cells #[.string s] 9)) (.cells #[.int .i64 4] 3)
  have hB0 : Below w.heap.size w (((w.alloc (.cells #[.pointer none, .slice none 0 0] 119)).alloc (.cells #[.string s] 9)).alloc (.cells #[.int .i64 4] 3)) := (((Below.refl _ w).alloc (Nat.le_refl _) _).alloc (by simp) _).alloc (by simp; omega) _
  have hz : (((w.alloc (.cells #[.pointer none, .slice none 0 0] 119)).alloc (.cells #[.string s] 9)).alloc (.cells #[.int .i64 4] 3)).heap.size = w.heap.size + 3 := by simp
  generalize (((w.alloc (.cells #[.pointer none, .slice none 0 0] 119)).alloc (.cells #[.string s] 9)).alloc (.cells #[.int .i64 4] 3)) = W0 at hx0 hx1 hx2 hB0 hz ⊢
  refine wpIn_rangeFunc_ownF rfl (by omega) (gf := 117) (lb := #[.pointer (some ⟨w.heap.size + 1, 0, none⟩), .pointer (some ⟨w.heap.size + 1 + 1, 0, none⟩)]) rfl trivial (enters_of Tryz.func117 (by kernel_rfl) rfl)
    (groups4_stops Fence.wide _ trivial rfl (by omega) (w.heap.size + 1) (w.heap.size + 1 + 1) s (by omega) W0 (by omega) (by omega) (cell_at hx1 0 _ rfl) (cell_at hx2 0 _ rfl)) (fun h k => h.trans k) (fun W l o o' hl _ _ _ => Gs.Kp.putObj W o' (by omega) (by omega)) (Below.refl _ _) (fun _ => rfl)
    (Gs.ID w s) (fun _ _ _ => False)
    (OwnFrom.and (Own.from (fun s A B row hs hg hr => ⟨bld_kept hs.1 hg hr, obj_kept hs.2.1 rfl hg hr, obj_kept hs.2.2 rfl hg hr⟩) _) (ownFrom_below (Nat.le_refl _) (by omega)))
    (fun _ _ _ _ _ hs _ _ => hs)
    ⟨⟨hx0, hx1, hx2⟩, hB0⟩
    (fun x => { tmps := #[.string s, undef, .string ⟨#[]⟩, .bool false, .pointer (some ⟨w.heap.size, 0, none⟩), .string x.1, undef, .string s, .int .i64 s.size, .bool false, .string s, .func (.func 117) #[] #[.pointer (some ⟨w.heap.size + 1, 0, none⟩), .pointer (some ⟨w.heap.size + 1 + 1, 0, none⟩)], .string x.1, undef, undef, undef, undef, undef, undef, undef, undef, undef], defers := [] }) ?assign ?body ?done ?stop
  case assign =>
    intro l x W K hK
    gi_wp2
    exact hK
  case body =>
    rintro l pre x W ⟨⟨hb, h1, h2⟩, hB⟩ hlen
    have hsz := hB.size
    have hl : (Gs.rds pre).length ≤ 1000 := by
      have := Gs.rds_len pre
      unfold Gs.n at hlen
      omega
    have HR := Lib.hid (base64Read_any x.1 x.2.2 W)
    have HBD := Lib.hid hb
    clear hb
    gi_wp2_with (refine ⟨trivial, ?_⟩; gi_at_call 111; refine (CallsIn.inRound l (callsIn_wide.2 HR.out)).mono ?_; rintro e W1 ⟨rfl, hbl1⟩)
    have hk1 := Bk.of_below (b := w.heap.size) hbl1
    have hb1 : Lib.IsBuilder 119 5 w.heap.size w.heap.size (Lib.byteCells (Gs.rds pre)) W1 := bld_kept (row := none) HBD.out ⟨hbl1.os, hbl1.tape, hbl1.output, hbl1.size, fun i hi _ => hbl1.block i hi⟩ (fun r e => by cases e)
    have hs1 := hbl1.size
    have HW := Lib.hid (writeString_k w.heap.size w.heap.size (Lib.byteCells (Gs.rds pre)) (Ct.mk (B6.readG x.1.data.toList)) W1 hb1 (by
      have h3 := Gs.rd_len x
      have h4 : (Ct.mk (B6.readG x.1.data.toList)).size = (B6.readG x.1.data.toList).length := by show (B6.readG x.1.data.toList).toArray.size = _; simp
      rw [h4]
      simp only [Lib.byteCells, List.length_map]; omega) (by omega))
    clear hb1
    gi_wp2_with (refine ⟨trivial, ?_⟩; gi_at_call 110; refine (CallsIn.inRound l (callsIn_wide.2 HW.out)).mono ?_; rintro e W2 ⟨rfl, hb2, hbl2, hk2⟩)
    have hk := hk1.trans hk2
    have hkp := Gs.kp_bk hk h1 h2 (by omega) (by omega)
    refine ⟨hk.1, hkp, ⟨?_, hkp.1.trans h1, hkp.2.trans h2⟩, hB.trans ((hbl1.mono hsz).trans hbl2)⟩
    rw [Gs.rds_snoc]
    rw [Gs.cells] at hb2
    refine Or.inr ?_
    simpa [Lib.byteCells] using hb2
  case done =>
    rintro D ys W hD rfl ⟨⟨hb, h1, h2⟩, hB⟩ hK
    have hsz := hB.size
    rw [Gs.rds_all] at hb
    have HH := Lib.hid (Tryz.Builder_String_any_k w.heap.size w.heap.size (B6.read s.data.toList) W (Lib.IsBuilderF.of hb) hsz)
    have hbD : w.heap.size ≠ D := by omega
    clear hb
    gi_wp2_with (refine ⟨trivial, ?_⟩; gi_at_call 112; refine (callsIn_wide.2 HH.out).mono ?_; rintro e W2 ⟨rfl, _, hbl2, hk2⟩)
    have hK2 := hk2 D _ hK (by simpa using hbD.symm) (by intro c fz e; cases e)
    have hB2 := hB.trans hbl2
    clear hk2 hK h1 h2
    have hr30 : (B6.read s.data.toList).length ≤ 30 := by have := B6.read_len s.data.toList; have := HSL.out; omega
    obtain ⟨x, HX⟩ : ∃ x : ByteArray, Hid (x = ⟨(B6.read s.data.toList).toArray⟩) := ⟨_, Lib.hid rfl⟩
    have hxs : x.size ≤ 30 := by rw [HX.out]; show (B6.read s.data.toList).toArray.size ≤ 30; simpa using hr30
    rw [← HX.out]
    have HXL : Hid (x.data.toList = B6.read s.data.toList) := Lib.hid (by rw [HX.out])
    obtain ⟨y, HY⟩ : ∃ y : ByteArray, Hid (y = B6.encode x) := ⟨_, Lib.hid rfl⟩
    have HYL : Hid (y.toList = B6.enc (B6.read s.data.toList)) := Lib.hid (by
      rw [HY.out, Go.ByteArray.toList_eq]; unfold B6.encode; rw [if_neg (by omega)]; rw [HXL.out])
    have HE : Hid (Calls Tryz.prog 113 #[.string x] W2 fun e w' => e = .returned (.string y) ∧ Below W2.heap.size W2 w') := Lib.hid (by rw [HY.out]; exact iB64Encode_any x W2)
    by_cases heq : y.toList = s.toList
    · have hbq : (y.toList == s.toList) = true := by simpa using heq
      have HD : Hid (B6.decode s.data.toList = some (B6.read s.data.toList)) := Lib.hid (by
        unfold B6.decode
        rw [if_pos]
        refine ⟨by have := HSL.out; omega, ?_⟩
        rw [← HYL.out, heq, Go.ByteArray.toList_eq])
      clear heq
      gi_wp2_with (refine ⟨trivial, ?_⟩; gi_at_call 113; refine (callsIn_wide.2 HE.out).mono ?_; rintro e W3 ⟨rfl, hbl3⟩)
      have hK3 := (hbl3.block D (Array.getElem?_eq_some_iff.1 hK2).1).trans hK2
      have hB3 := hB2.trans (hbl3.mono hB2.size)
      refine ⟨by simp, .inl ⟨_, _, rfl, run_takeDeferred hK3, ?_⟩⟩
      refine ⟨.tuple #[.string x, .bool true], by simp [results, Tryz.f98, go_sem], ?_, hB3.trans (belowK_b (w := w) (Nat.le_refl _) W3 D _ _ (by omega) hK3 rfl rfl)⟩
      rw [HD.out]
      unfold B6.out
      dsimp only
      rw [← HX.out]
    · have hbq : (y.toList == s.toList) = false := by simpa using heq
      have HD : Hid (B6.decode s.data.toList = none) := Lib.hid (by
        unfold B6.decode
        rw [if_neg]
        rintro ⟨_, e⟩
        apply heq
        rw [HYL.out, e, Go.ByteArray.toList_eq])
      clear heq
      gi_wp2_with (refine ⟨trivial, ?_⟩; gi_at_call 113; refine (callsIn_wide.2 HE.out).mono ?_; rintro e W3 ⟨rfl, hbl3⟩)
      have hK3 := (hbl3.block D (Array.getElem?_eq_some_iff.1 hK2).1).trans hK2
      have hB3 := hB2.trans (hbl3.mono hB2.size)
      refine ⟨by simp, .inl ⟨_, _, rfl, run_takeDeferred hK3, ?_⟩⟩
      refine ⟨.tuple #[.string ⟨#[]⟩, .bool false], by simp [results, Tryz.f98, go_sem], ?_, hB3.trans (belowK_b (w := w) (Nat.le_refl _) W3 D _ _ (by omega) hK3 rfl rfl)⟩
      rw [HD.out]
      rfl
  case stop =>
    rintro D c pre W _ _ h _
    exact h.elim
theorem iB64Decode_any (s : ByteArray) (w : World) :
    Calls Tryz.prog 98 #[.string s] w fun e w' => e = .returned (B6.out (B6.decode s.data.toList)) ∧ Below w.heap.size w w' := by
  rcases Nat.lt_or_ge 40 s.size with h | h
  · exact iB64Decode_no s h w
  · exact iB64Decode_yes s h w
end Go.Proofs.YtpjifcljkgcnlaaGreatDoor

namespace Go.Proofs.YtpjifcljkgcnlaaGreatDoor
set_option linter.unusedVariables false
open Go.RowKit
open Us (U)


theorem Pp.pre0 {x : ByteArray} (h : (ByteArray.mk #[0]).data.toList <+: x.data.toList) : x.data.toList = 0 :: (x.extract 1 x.size).data.toList := by
  obtain ⟨r, hr⟩ := h
  have e : (x.extract 1 x.size).data.toList = x.data.toList.drop 1 := by
    have hl : x.data.toList.length = x.size := Array.length_toList
    rw [show (x.extract 1 x.size) = Ct.mk ((x.data.toList.drop 1).take (x.size - 1)) from Ct.extract_mk x 1 x.size]
    show (x.data.toList.drop 1).take (x.size - 1) = _
    rw [List.take_of_length_le (by rw [List.length_drop]; omega)]
  rw [e, ← hr]
  rfl
theorem Pp.ext_take (r : ByteArray) (o : Nat) : (r.extract 0 o) = Ct.mk (r.data.toList.take o) := by rw [Ct.extract_mk]; simp
theorem Pp.ext_drop (r : ByteArray) (o : Nat) : (r.extract (o + 1) r.size) = Ct.mk (r.data.toList.drop (o + 1)) := by
  have hl : r.data.toList.length = r.size := Array.length_toList
  rw [Ct.extract_mk, List.take_of_length_le (by rw [List.length_drop]; omega)]

set_option maxRecDepth 100000 in
set_option maxHeartbeats 3200000 in
theorem iPlainParse_any (t : ByteArray) (w : World) :
    Calls Tryz.prog 84 #[.string t] w fun e w' => e = .returned (Pp.val (Pp.parse t.data.toList)) ∧ Below w.heap.size w w' := by
  go_enter Tryz.func84, Tryz.ntmps84
  go_wp2_with fail
  refine (iB64Decode_any t _).mono ?_
  rintro e w1 ⟨rfl, hb1⟩
  cases hd : B6.decode t.data.toList with
  | none =>
    have HP : Hid (Pp.parse t.data.toList = none) := Lib.hid (by unfold Pp.parse; rw [hd])
    clear hd
    unfold B6.out
    go_wp2_with fail
    go_ret3
    rw [HP.out]
    exact ⟨rfl, hb1⟩
  | some s =>
    have HP : Hid (Pp.parse t.data.toList = Pp.parts s) := Lib.hid (by unfold Pp.parse; rw [hd])
    have hsz : s.length ≤ 30 := by
      obtain ⟨he, h40⟩ := B6.decode_some hd
      have e := congrArg List.length he
      rw [B6.enc_len] at e
      omega
    clear hd
    unfold B6.out
    have hsb : (ByteArray.mk s.toArray).size ≤ 30 := by show s.toArray.size ≤ 30; simpa using hsz
    obtain ⟨x, HX⟩ : ∃ x : ByteArray, Hid (x = ⟨s.toArray⟩) := ⟨_, Lib.hid rfl⟩
    have HXS : Hid (x.data.toList = s) := Lib.hid (by rw [HX.out])
    dsimp only
    rw [← HX.out] at hsb ⊢
    have hone : (ByteArray.mk #[0]).size ≤ maxLen := by decide
    by_cases hpre : (ByteArray.mk #[0]).data.toList <+: x.data.toList
    · have HV := Lib.hid (Pf.cut_yes hpre)
      have HX0 : Hid (s = 0 :: (x.extract 1 x.size).data.toList) := Lib.hid (by rw [← HXS.out]; exact Pp.pre0 hpre)
      have hrs : (x.extract 1 x.size).size ≤ 30 := by rw [ByteArray.size_extract]; omega
      have H1 : Hid ((ByteArray.mk #[0]).size = 1) := Lib.hid rfl
      clear hpre
      go_wp2_with fail
      refine (cutPrefix_any x ⟨#[0]⟩ (by unfold maxLen; omega) hone _).mono ?_
      rintro e w2 ⟨rfl, rfl⟩
      rw [HV.out, H1.out]
      obtain ⟨r, HR⟩ : ∃ r : ByteArray, Hid (r = x.extract 1 x.size) := ⟨_, Lib.hid rfl⟩
      rw [← HR.out] at hrs ⊢
      have HX1 : Hid (s = 0 :: r.data.toList) := Lib.hid (by rw [HR.out]; exact HX0.out)
      by_cases hix : 0 ≤ Lib.indexByte r.data.toList 0
      · obtain ⟨o, ho⟩ : ∃ o : Nat, Lib.indexByte r.data.toList 0 = (o : Int) := ⟨(Lib.indexByte r.data.toList 0).toNat, by omega⟩
        have HC : Hid (Pf.cut1 0 r = .tuple #[.string (Ct.mk (r.data.toList.take o)), .string (Ct.mk (r.data.toList.drop (o + 1))), .bool true]) := Lib.hid (by
          unfold Pf.cut1
          rw [if_pos hix, ho, Int.toNat_natCast, Pp.ext_take, Pp.ext_drop])
        have HO := Lib.hid ho
        clear ho hix
        obtain ⟨u, HU⟩ : ∃ u : ByteArray, Hid (u = Ct.mk (r.data.toList.take o)) := ⟨_, Lib.hid rfl⟩
        obtain ⟨p, HQ⟩ : ∃ p : ByteArray, Hid (p = Ct.mk (r.data.toList.drop (o + 1))) := ⟨_, Lib.hid rfl⟩
        have HUL : Hid (u.data.toList = r.data.toList.take o) := Lib.hid (by rw [HU.out]; rfl)
        have HQL : Hid (p.data.toList = r.data.toList.drop (o + 1)) := Lib.hid (by rw [HQ.out]; rfl)
        have HRL : Hid (r.data.toList.length = r.size) := Lib.hid Array.length_toList
        have hul : u.size ≤ maxLen := by
          have h1 : u.data.toList.length = u.size := Array.length_toList
          have h2 := HRL.out
          rw [HUL.out, List.length_take] at h1
          unfold maxLen; omega
        have hpl : p.size ≤ maxLen := by
          have h1 : p.data.toList.length = p.size := Array.length_toList
          have h2 := HRL.out
          rw [HQL.out, List.length_drop] at h1
          unfold maxLen; omega
        cases n1 : Nm.nameOk u.data.toList
        · have HNO : Hid (Pp.parts s = none) := Lib.hid (by rw [HX1.out]; refine Pp.no3 HO.out ?_; rw [← HUL.out, n1]; simp)
          have HN1 := Lib.hid n1
          clear n1
          go_wp2_with fail
          refine (cut1_any r 0 (by unfold maxLen; omega) _).mono ?_
          rintro e w3 ⟨rfl, hb3⟩
          rw [HC.out, ← HU.out, ← HQ.out]
          go_wp2_with fail
          refine (iNameValid_any u _ hul).mono ?_
          rintro e w4 ⟨rfl, hb4⟩
          rw [HN1.out]
          go_wp2_with fail
          go_ret3
          rw [HP.out, HNO.out]
          have hB3 := hb1.trans (hb3.mono hb1.size)
          exact ⟨rfl, hB3.trans (hb4.mono hB3.size)⟩
        · cases n2 : Nm.nameOk p.data.toList
          · have HNO : Hid (Pp.parts s = none) := Lib.hid (by rw [HX1.out]; refine Pp.no3 HO.out ?_; rw [← HQL.out, n2]; simp)
            have HN1 := Lib.hid n1
            have HN2 := Lib.hid n2
            clear n1 n2
            go_wp2_with fail
            refine (cut1_any r 0 (by unfold maxLen; omega) _).mono ?_
            rintro e w3 ⟨rfl, hb3⟩
            rw [HC.out, ← HU.out, ← HQ.out]
            go_wp2_with fail
            refine (iNameValid_any u _ hul).mono ?_
            rintro e w4 ⟨rfl, hb4⟩
            rw [HN1.out]
            go_wp2_with fail
            refine (iNameValid_any p _ hpl).mono ?_
            rintro e w5 ⟨rfl, hb5⟩
            rw [HN2.out]
            go_wp2_with fail
            go_ret3
            rw [HP.out, HNO.out]
            have hB3 := hb1.trans (hb3.mono hb1.size)
            have hB4 := hB3.trans (hb4.mono hB3.size)
            exact ⟨rfl, hB4.trans (hb5.mono hB4.size)⟩
          · have HYES : Hid (Pp.parts s = some (r.data.toList.take o, r.data.toList.drop (o + 1))) := Lib.hid (by
              rw [HX1.out]; exact Pp.yes HO.out (by rw [← HUL.out]; exact n1) (by rw [← HQL.out]; exact n2))
            have HN1 := Lib.hid n1
            have HN2 := Lib.hid n2
            clear n1 n2
            go_wp2_with fail
            refine (cut1_any r 0 (by unfold maxLen; omega) _).mono ?_
            rintro e w3 ⟨rfl, hb3⟩
            rw [HC.out, ← HU.out, ← HQ.out]
            go_wp2_with fail
            refine (iNameValid_any u _ hul).mono ?_
            rintro e w4 ⟨rfl, hb4⟩
            rw [HN1.out]
            go_wp2_with fail
            refine (iNameValid_any p _ hpl).mono ?_
            rintro e w5 ⟨rfl, hb5⟩
            rw [HN2.out]
            go_wp2_with fail
            go_ret3
            rw [HP.out, HYES.out]
            have hB3 := hb1.trans (hb3.mono hb1.size)
            have hB4 := hB3.trans (hb4.mono hB3.size)
            refine ⟨?_, hB4.trans (hb5.mono hB4.size)⟩
            unfold Pp.val
            dsimp only
            rw [← HU.out, ← HQ.out]
            rfl
      · have HC : Hid (Pf.cut1 0 r = .tuple #[.string r, .string ⟨#[]⟩, .bool false]) := Lib.hid (if_neg hix)
        have HNO : Hid (Pp.parts s = none) := Lib.hid (by rw [HX1.out]; exact Pp.no2 hix)
        clear hix
        go_wp2_with fail
        refine (cut1_any r 0 (by unfold maxLen; omega) _).mono ?_
        rintro e w3 ⟨rfl, hb3⟩
        rw [HC.out]
        go_wp2_with fail
        go_ret3
        rw [HP.out, HNO.out]
        exact ⟨rfl, hb1.trans (hb3.mono hb1.size)⟩
    · have HV := Lib.hid (Pf.cut_no hpre)
      have HNO : Hid (Pp.parts s = none) := Lib.hid (Pp.no1 (by rw [← HXS.out]; exact hpre))
      clear hpre
      go_wp2_with fail
      refine (cutPrefix_any x ⟨#[0]⟩ (by unfold maxLen; omega) hone _).mono ?_
      rintro e w2 ⟨rfl, rfl⟩
      rw [HV.out]
      go_wp2_with fail
      go_ret3
      rw [HP.out, HNO.out]
      exact ⟨rfl, hb1⟩

set_option maxRecDepth 100000 in
set_option maxHeartbeats 1600000 in
theorem iUsersPlain_any (A : Option Addr) (us : List U) (c : Nat) (t : ByteArray) (w : World) (h : AtUsers w w.heap.size A us) (hn : us.length ≤ maxLen) :
    Calls Tryz.prog 73 #[.slice A us.length c, .string t] w fun e w' => e = .returned (Up.val (Up.ans us t.data.toList)) ∧ Below w.heap.size w w' := by
  go_enter Tryz.func73, Tryz.ntmps73
  go_wp2_with fail
  refine (iPlainParse_any t _).mono ?_
  rintro e w1 ⟨rfl, hb1⟩
  cases hp : Pp.parse t.data.toList with
  | none =>
    have HN := Lib.hid (Up.ans_none (us := us) hp)
    clear hp
    unfold Pp.val
    go_wp2_with fail
    go_ret2
    rw [HN.out]
    exact ⟨rfl, hb1⟩
  | some np =>
    obtain ⟨n, p⟩ := np
    have HP := Lib.hid hp
    clear hp
    unfold Pp.val
    dsimp only
    obtain ⟨x, HX⟩ : ∃ x : ByteArray, Hid (x = Ct.mk n) := ⟨_, Lib.hid rfl⟩
    obtain ⟨y, HY⟩ : ∃ y : ByteArray, Hid (y = Ct.mk p) := ⟨_, Lib.hid rfl⟩
    rw [← HX.out, ← HY.out]
    cases hv : Us.proves us x y
    · have HN := Lib.hid (Up.ans_no (us := us) HP.out (by rw [← HX.out, ← HY.out]; exact hv))
      have HV := Lib.hid hv
      clear hv
      go_wp2_with fail
      refine (iUsersProve_any A us c x y _ ((h.below hb1).mono hb1.size) hn).mono ?_
      rintro e w2 ⟨rfl, hb2⟩
      rw [HV.out]
      go_wp2_with fail
      go_ret2
      rw [HN.out]
      exact ⟨rfl, hb1.trans (hb2.mono hb1.size)⟩
    · have HN := Lib.hid (Up.ans_yes (us := us) HP.out (by rw [← HX.out, ← HY.out]; exact hv))
      have HV := Lib.hid hv
      clear hv
      go_wp2_with fail
      refine (iUsersProve_any A us c x y _ ((h.below hb1).mono hb1.size) hn).mono ?_
      rintro e w2 ⟨rfl, hb2⟩
      rw [HV.out]
      go_wp2_with fail
      go_ret2
      rw [HN.out]
      unfold Up.val
      dsimp only
      rw [← HX.out]
      exact ⟨rfl, hb1.trans (hb2.mono hb1.size)⟩
end Go.Proofs.YtpjifcljkgcnlaaGreatDoor
