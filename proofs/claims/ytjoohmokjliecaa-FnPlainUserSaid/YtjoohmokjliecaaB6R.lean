/- base64Read of the program. -/
import Derived.Test.YtjoohmokjliecaaShelf
import Derived.Test.YtjoohmokjliecaaB6W
import Derived.Test.YtjoohmokjliecaaCtPlain
import Derived.Test.YtjoohmokjliecaaRdr
namespace Go.Proofs.Ytjoohmokjliecaa
set_option linter.unusedVariables false
open Go.RowKit

theorem B6.ib (l : List UInt8) (c : UInt8) : Lib.indexByte l c = match l.findIdx? (· == c) with | some v => (v : Int) | none => -1 := by
  induction l with
  | nil => rfl
  | cons b l ih =>
    rw [Lib.indexByte, List.findIdx?_cons]
    by_cases h : (b == c) = true
    · simp [h]
    · simp only [h, if_false, Bool.false_eq_true, ih]
      cases l.findIdx? (· == c) with
      | none => rfl
      | some v =>
        simp only [Option.map_some]
        have : ((v : Int) == -1) = false := by simp
        simp [this]
theorem B6.ib_some {c : UInt8} {v : Nat} (h : B6.val c = some v) : Lib.indexByte B6.tab c = (v : Int) := by
  unfold B6.val at h; rw [B6.ib, h]
theorem B6.ib_none {c : UInt8} (h : B6.val c = none) : Lib.indexByte B6.tab c = -1 := by
  unfold B6.val at h; rw [B6.ib, h]
/-- so far read: j signs, as the number n -/
def B6.Fd (L : List UInt8) (j n : Nat) : Prop := n = B6.fold ((B6.lead L).take j) ∧ j ≤ (B6.lead L).length ∧ B6.lead (L.drop j) = (B6.lead L).drop j
theorem B6.Fd.step {L : List UInt8} {j n v : Nat} {x : UInt8} (h : B6.Fd L j n) (hx : L[j]? = some x) (hv : B6.val x = some v) : B6.Fd L (j + 1) (64 * n + v) := by
  obtain ⟨h1, h2, h3⟩ := h
  have hj := (List.getElem?_eq_some_iff.1 hx).1
  have hd : L.drop j = x :: L.drop (j + 1) := by rw [List.drop_eq_getElem_cons hj, (List.getElem?_eq_some_iff.1 hx).2]
  rw [hd] at h3
  simp only [B6.lead, hv] at h3
  have hl : j < (B6.lead L).length := by
    have := congrArg List.length h3
    simp at this; omega
  have h4 : (B6.lead L).drop j = (B6.lead L)[j] :: (B6.lead L).drop (j + 1) := List.drop_eq_getElem_cons hl
  rw [h4] at h3
  injection h3 with h5 h6
  refine ⟨?_, hl, h6⟩
  rw [List.take_add_one, List.getElem?_eq_getElem hl, ← h5, h1]
  simp [B6.fold, List.foldl_append]
theorem B6.Fd.stop {L : List UInt8} {j n : Nat} {x : UInt8} (h : B6.Fd L j n) (hx : L[j]? = some x) (hv : B6.val x = none) : (B6.lead L).length = j ∧ n = B6.fold (B6.lead L) := by
  obtain ⟨h1, h2, h3⟩ := h
  have hj := (List.getElem?_eq_some_iff.1 hx).1
  have hd : L.drop j = x :: L.drop (j + 1) := by rw [List.drop_eq_getElem_cons hj, (List.getElem?_eq_some_iff.1 hx).2]
  rw [hd] at h3
  simp only [B6.lead, hv] at h3
  have hl : (B6.lead L).length = j := by
    have := congrArg List.length h3
    simp at this; omega
  exact ⟨hl, by rw [h1, List.take_of_length_le (by omega)]⟩
theorem B6.Fd.fin {L : List UInt8} {j n : Nat} (h : B6.Fd L j n) (hj : j = L.length) : (B6.lead L).length = j ∧ n = B6.fold (B6.lead L) := by
  obtain ⟨h1, h2, h3⟩ := h
  rw [List.drop_of_length_le (by omega)] at h3
  have hl : (B6.lead L).length = j := by
    have := congrArg List.length h3
    simp [B6.lead] at this; omega
  exact ⟨hl, by rw [h1, List.take_of_length_le (by omega)]⟩
theorem B6.or6 (n v : Nat) (hn : n < 262144) (hv : v < 64) : bits BinOp.or IntKind.i64 ((n : Int) * 64) (v : Int) = (n : Int) * 64 + (v : Int) :=
  bits_join .i64 40 (by decide) B6.wraps 6 _ _ (by omega) (by omega) (by omega) (by omega) (by omega) (by omega)
theorem B6.p64 {n j : Nat} (h : n < 64 ^ j) (hj : j ≤ 3) : n < 262144 := Nat.lt_of_lt_of_le h (Nat.le_trans (Nat.pow_le_pow_right (by omega) hj) (by decide))

set_option maxRecDepth 100000 in
set_option maxHeartbeats 3200000 in
theorem base64Read_any (s : ByteArray) (hs : s.size ≤ 4) (w : World) :
    Calls Try.prog 117 #[.string s] w fun e w' => e = .returned (.string (Ct.mk (B6.readG s.data.toList))) ∧ Below w.heap.size w w' := by
  have HIX : Hid (∀ W c, Calls Try.prog 129 #[.string ⟨#[65, 66, 67, 68, 69, 70, 71, 72, 73, 74, 75, 76, 77, 78, 79, 80, 81, 82, 83, 84, 85, 86, 87, 88, 89, 90, 97, 98, 99, 100, 101, 102, 103, 104, 105, 106, 107, 108, 109, 110, 111, 112, 113, 114, 115, 116, 117, 118, 119, 120, 121, 122, 48, 49, 50, 51, 52, 53, 54, 55, 56, 57, 43, 47]⟩, .int .u8 ((UInt8.toNat c : Nat) : Int)] W fun e w' => e = .returned (.int .i64 (Lib.indexByte B6.tab c)) ∧ w' = W) := Lib.hid fun W c => by
    have h := Try.strings_IndexByte ⟨#[65, 66, 67, 68, 69, 70, 71, 72, 73, 74, 75, 76, 77, 78, 79, 80, 81, 82, 83, 84, 85, 86, 87, 88, 89, 90, 97, 98, 99, 100, 101, 102, 103, 104, 105, 106, 107, 108, 109, 110, 111, 112, 113, 114, 115, 116, 117, 118, 119, 120, 121, 122, 48, 49, 50, 51, 52, 53, 54, 55, 56, 57, 43, 47]⟩ ((UInt8.toNat c : Nat) : Int) W
    have e : ((UInt8.toNat c : Nat) : Int).toNat.toUInt8 = c := by simp
    rw [e] at h
    exact h
  go_enter Try.func117, Try.ntmps117
  go_wp2_with fail
  go_loopg [3, 4] 5 (fun g bits i wr => ∃ j n : Nat, j ≤ s.size ∧ Hid (g = 5 - j) ∧ i = .int .i64 (j : Int) ∧ bits = .int .i64 (n : Int) ∧ Hid (n < 64 ^ j) ∧ Hid (B6.Fd s.data.toList j n) ∧ wr = w)
  case atStart => exact ⟨0, 0, by omega, Lib.hid rfl, rfl, rfl, Lib.hid (by decide), Lib.hid ⟨rfl, by omega, rfl⟩, rfl⟩
  case round =>
    obtain ⟨j, n, hj, HG, rfl, rfl, HN, HB, rfl⟩ := hrel
    by_cases hgo : ∃ (h : j < s.size) (v : Nat), B6.val (s[j]'h) = some v
    · obtain ⟨hlt, v, hv⟩ := hgo
      obtain ⟨x, hx⟩ : ∃ x, s[j]'hlt = x := ⟨_, rfl⟩
      rw [hx] at hv
      have HX : Hid (s.data.toList[j]? = some x) := Lib.hid (by rw [B6.at_size hlt, hx])
      have hn := B6.p64 HN.out (by omega)
      have HI := Lib.hid (B6.ib_some hv)
      have HS := Lib.hid (HB.out.step HX.out hv)
      have hv64 := B6.val_lt hv
      have hor := B6.or6 n v hn hv64
      clear hv
      go_wp2_with fail
      refine Calls.mono (HIX.out _ x) ?_
      rintro e w1 ⟨rfl, rfl⟩
      rw [HI.out]
      go_wp2_with fail
      go_roundg (5 - (j + 1))
      case measure => have := HG.out; omega
      case rel => exact ⟨j + 1, 64 * n + v, by omega, Lib.hid rfl, by go_num, by go_num, Lib.hid (by have := HN.out; rw [Nat.pow_succ]; omega), HS, rfl⟩
    · have HS : Hid ((B6.lead s.data.toList).length = j ∧ n = B6.fold (B6.lead s.data.toList)) := Lib.hid (by
        by_cases hlt : j < s.size
        · cases hv : B6.val (s[j]'hlt) with
          | some v => exact absurd ⟨hlt, v, hv⟩ hgo
          | none => exact HB.out.stop (B6.at_size hlt) hv
        · exact HB.out.fin (by simp; omega))
      have HGO := Lib.hid hgo
      clear hgo
      by_cases hlt : j < s.size
      case' pos =>
        obtain ⟨x, hx⟩ : ∃ x, s[j]'hlt = x := ⟨_, rfl⟩
        have HI : Hid (Lib.indexByte B6.tab x = -1) := Lib.hid (B6.ib_none (by
          cases hv : B6.val x with
          | some v => exact absurd ⟨hlt, v, by rw [hx]; exact hv⟩ HGO.out
          | none => rfl))
        go_wp2_with fail
        refine Calls.mono (HIX.out _ x) ?_
        rintro e w1 ⟨rfl, hw1⟩
        obtain rfl := hw1.symm
        rw [HI.out]
        go_wp2_with fail
      case' neg => go_wp2_with fail
      all_goals
        go_loopg [3, 25] (4 - j) (fun g bits i wq => ∃ k p : Nat, k ≤ 4 - j ∧ Hid (g = 4 - j - k) ∧ i = .int .i64 (k : Int) ∧ bits = .int .i64 (p : Int) ∧ Hid (p < 64 ^ (j + k) ∧ p = n * 64 ^ k) ∧ wq = wr)
        case atStart => exact ⟨0, n, by omega, Lib.hid rfl, rfl, rfl, Lib.hid ⟨HN.out, by simp⟩, rfl⟩
        case round =>
          obtain ⟨k, p, hk, HG2, rfl, rfl, HP, rfl⟩ := hrel
          by_cases hk4 : k < 4 - j
          · have hp := B6.p64 HP.out.1 (by omega)
            have hki : (k : Int) < 4 - (j : Int) := by omega
            go_wp2_with fail
            go_roundg (4 - j - (k + 1))
            case measure => have := HG2.out; omega
            case rel => exact ⟨k + 1, p * 64, by omega, Lib.hid rfl, by go_num, by go_num, Lib.hid ⟨by have := HP.out.1; rw [← Nat.add_assoc, Nat.pow_succ]; omega, by rw [HP.out.2, Nat.pow_succ, Nat.mul_assoc]⟩, rfl⟩
          · have hp : p < 16777216 := by have := HP.out.1; rw [show j + k = 4 by omega] at this; exact this
            have hki : ¬ (k : Int) < 4 - (j : Int) := by omega
            have hal : Try.prog.arrayLen 176 = 3 := by simp [Program.arrayLen, Try.underlying176]
            have HSL : Hid (∀ W : World, (Instr.sliceAt 176 (.pointer (some ⟨wr.heap.size, 0, none⟩)) none (some (.int .i64 ((j : Int) * 6 / 8))) none).run Try.prog W = .ok (.slice (some ⟨wr.heap.size, 0, none⟩) (j * 6 / 8) 3) W) := Lib.hid fun W => by
              rw [run_sliceAt_array_h W 176 ⟨wr.heap.size, 0, none⟩ (by simp [Program.arrayLen, Program.elem, Try.underlying176]) .i64 ((j : Int) * 6 / 8) (by omega) (by rw [hal]; omega), hal]
              have e : ((j : Int) * 6 / 8).toNat = j * 6 / 8 := by omega
              simp [slicedAt, e, go_sem, Program.elem, Try.underlying176]
            clear hal
            have HV : Hid (B6.readG s.data.toList = (B6.bytes p).take (j * 6 / 8)) := Lib.hid (by
              unfold B6.readG
              rw [HS.out.1, ← HS.out.2, HP.out.2, show k = 4 - j by omega])
            have HL : Hid (((B6.bytes p).take (j * 6 / 8)).length = j * 6 / 8) := Lib.hid (by
              rw [List.length_take]; show min (j * 6 / 8) 3 = _; omega)
            have HCV : Hid ((convert 48 9 (.slice (some ⟨wr.heap.size, 0, none⟩) (j * 6 / 8) 3)).run Try.prog (wr.alloc (.cells #[.int .u8 ((p : Int) / 65536), .int .u8 ((p : Int) / 256 % 256), .int .u8 ((p : Int) % 256)] 176)) = .ok (.string (Ct.mk (B6.readG s.data.toList))) (wr.alloc (.cells #[.int .u8 ((p : Int) / 65536), .int .u8 ((p : Int) / 256 % 256), .int .u8 ((p : Int) % 256)] 176))) := Lib.hid (by
              have h := run_convert_bytes_back (P := Try.prog) (wr.alloc (.cells #[.int .u8 ((p : Int) / 65536), .int .u8 ((p : Int) / 256 % 256), .int .u8 ((p : Int) % 256)] 176)) 48 9 5 ⟨wr.heap.size, 0, none⟩ 3 ((B6.bytes p).take (j * 6 / 8)) Try.underlying48 Try.underlying5 Try.underlying9 (fun jj hjj => by
                have hx := heap_alloc_new wr (.cells #[.int .u8 ((p : Int) / 65536), .int .u8 ((p : Int) / 256 % 256), .int .u8 ((p : Int) % 256)] 176)
                have h3 : jj < 3 := by rw [HL.out] at hjj; omega
                rw [List.getElem_take, add_none, Nat.zero_add]
                have hu : ∀ m : Nat, ((UInt8.ofNat m).toNat : Int) = (m : Int) % 256 := fun m => by rw [UInt8.toNat_ofNat']; omega
                rcases (by omega : jj = 0 ∨ jj = 1 ∨ jj = 2) with rfl | rfl | rfl
                · refine cell_at hx 0 _ ?_
                  show some (Value.int .u8 ((p : Int) / 65536)) = some (.int .u8 ((UInt8.ofNat (p / 65536)).toNat : Int))
                  rw [hu]; congr 2; omega
                · refine cell_at hx 1 _ ?_
                  show some (Value.int .u8 ((p : Int) / 256 % 256)) = some (.int .u8 ((UInt8.ofNat (p / 256)).toNat : Int))
                  rw [hu]; congr 2
                · refine cell_at hx 2 _ ?_
                  show some (Value.int .u8 ((p : Int) % 256)) = some (.int .u8 ((UInt8.ofNat p).toNat : Int))
                  rw [hu])
              rw [HL.out, ← HV.out] at h
              exact h)
            go_wp2_with fail
            rw [HSL.out]
            simp only [Result.andThen]
            rw [Oper.upon_value]
            have hcv := HCV.out
            go_wp2_with fail
            go_ret
            exact ⟨rfl, (Below.refl _ _).alloc (Nat.le_refl _) _⟩
end Go.Proofs.Ytjoohmokjliecaa
