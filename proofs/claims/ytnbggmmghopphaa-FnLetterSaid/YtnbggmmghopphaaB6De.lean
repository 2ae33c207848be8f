/- l2Decode of the specification. -/
import Derived.Test.YtnbggmmghopphaaB6En
namespace Go.Proofs.Ytnbggmmghopphaa
set_option linter.unusedVariables false
open Go.RowKit

def B6.nm (L : List UInt8) (k : Nat) : Nat → Nat
  | 0 => 0
  | j + 1 => 64 * B6.nm L k j + B6.val0 (L.getD (k + j) 0)
theorem B6.nm_lt (L : List UInt8) (k : Nat) : ∀ j, j ≤ 4 → B6.nm L k j < 64 ^ j
  | 0, _ => by simp [B6.nm]
  | j + 1, h => by
    have := B6.nm_lt L k j (by omega)
    have h2 := B6.val0_lt (L.getD (k + j) 0)
    simp only [B6.nm, Nat.pow_succ]
    omega
theorem B6.nm_four (L : List UInt8) (k : Nat) (h : k + 4 ≤ L.length) : L.drop k = L.getD k 0 :: L.getD (k + 1) 0 :: L.getD (k + 2) 0 :: L.getD (k + 3) 0 :: L.drop (k + 4) := by
  have hg : ∀ j (hj : j < L.length), L.getD j 0 = L[j] := fun j hj => by rw [List.getD_eq_getElem?_getD, List.getElem?_eq_getElem hj]; rfl
  rw [List.drop_eq_getElem_cons (by omega), List.drop_eq_getElem_cons (by omega), List.drop_eq_getElem_cons (by omega), List.drop_eq_getElem_cons (by omega), hg k (by omega), hg (k + 1) (by omega), hg (k + 2) (by omega), hg (k + 3) (by omega)]
theorem B6.nm_dec (L : List UInt8) (k : Nat) (h : k + 4 ≤ L.length) : B6.dec (L.drop k) = B6.bytes (B6.nm L k 4) ++ B6.dec (L.drop (k + 4)) := by
  rw [B6.nm_four L k h]
  simp only [B6.dec, B6.decG, B6.nm, Nat.mul_zero, Nat.zero_add, Nat.add_zero]
theorem B6.dec_short (L : List UInt8) (h : L.length < 4) : B6.dec L = [] := by
  match L, h with
  | [], _ => rfl
  | [_], _ => rfl
  | [_, _], _ => rfl
  | [_, _, _], _ => rfl
  | _ :: _ :: _ :: _ :: _, h => simp at h; omega
theorem B6.dec_len (L : List UInt8) : (B6.dec L).length ≤ L.length := by
  induction L using B6.dec.induct with
  | case1 a b c d r ih => simp only [B6.dec, B6.decG, B6.bytes, List.length_append, List.length_cons, List.length_nil]; omega
  | case2 L h =>
    have : B6.dec L = [] := by
      match L, h with
      | [], _ => rfl
      | [_], _ => rfl
      | [_, _], _ => rfl
      | [_, _, _], _ => rfl
      | a :: b :: c :: d :: r, h => exact absurd rfl (h a b c d r)
    rw [this]; simp
theorem B6.sval_max (b : UInt8) : max (B6.sval b) 0 = (B6.val0 b : Int) := by
  unfold B6.sval B6.val0
  cases B6.val b with
  | none => rfl
  | some v => simp
theorem B6.sval_cases (b : UInt8) : (B6.sval b = -1 ∧ B6.val0 b = 0) ∨ (B6.sval b = (B6.val0 b : Int)) := by
  unfold B6.sval B6.val0
  cases B6.val b with
  | none => exact .inl ⟨rfl, rfl⟩
  | some v => exact .inr rfl

set_option maxRecDepth 100000 in
set_option maxHeartbeats 3200000 in
theorem l2Decode_any (s : ByteArray) (hs : s.size ≤ 100) (w : World) :
    Calls Try.prog 58 #[.string s] w fun e w' => e = .returned (.string ⟨(B6.dec s.data.toList).toArray⟩) ∧ Below w.heap.size w w' := by
  obtain ⟨i0, hi, hz0, hz1, hz2⟩ := info_parts byte_info
  have HEL : Hid ((B6.dec s.data.toList).length ≤ 100) := Lib.hid (by
    have : s.data.toList.length = s.size := Array.length_toList
    have := B6.dec_len s.data.toList
    omega)
  have HSL : Hid (s.data.toList.length = s.size) := Lib.hid Array.length_toList
  have H0 : Hid (B6.Own (w.alloc (.cells #[] 5)) w.heap.size (.slice (some ⟨w.heap.size, 0, none⟩) 0 0) []) := Lib.hid (ownL_nil w (Nat.le_refl _))
  have hB0 : Below w.heap.size w (w.alloc (.cells #[] 5)) := (Below.refl _ _).alloc (Nat.le_refl _) _
  go_enter Try.func58, Try.ntmps58
  go_wp2_with fail
  go_loopg [3, 4] (s.size + 4) (fun g o i wr => ∃ (k : Nat) (A : Option Addr) (c : Nat) (l : List UInt8), k ≤ s.size + 3 ∧ Hid (g = s.size + 4 - k) ∧ i = .int .i64 (k : Int) ∧ o = .slice A l.length c ∧ Hid (B6.Own wr w.heap.size (.slice A l.length c) l) ∧ Hid (l ++ B6.dec (s.data.toList.drop k) = B6.dec s.data.toList) ∧ Below w.heap.size w wr)
  case atStart => exact ⟨0, _, _, [], by omega, Lib.hid rfl, rfl, rfl, H0, Lib.hid (by simp), hB0⟩
  case round =>
    obtain ⟨k, A, c, l, hk, HG, rfl, rfl, HO, HE, hb⟩ := hrel
    by_cases hlt : k + 4 ≤ s.size
    · have hlti : (k : Int) + 4 ≤ (s.size : Int) := by omega
      go_wp2_with fail
      go_loopg [5, 6] 4 (fun g n i wq => ∃ j : Nat, j ≤ 4 ∧ Hid (g = 4 - j) ∧ i = .int .i64 ((k : Int) + (j : Int)) ∧ n = .int .i64 ((B6.nm s.data.toList k j : Nat) : Int) ∧ wq = wr)
      case atStart => exact ⟨0, by omega, Lib.hid rfl, by simp, rfl, rfl⟩
      case round =>
        obtain ⟨j, hj, HG2, rfl, rfl, rfl⟩ := hrel
        by_cases hj4 : j < 4
        · have hkj : k + j < s.size := by omega
          have hkji : (k : Int) + (j : Int) < (k : Int) + 4 := by omega
          have hkjs : (k : Int) + (j : Int) < (s.size : Int) := by omega
          have hb64 := B6.nm_lt s.data.toList k j hj
          have hnb : B6.nm s.data.toList k j < 16777216 := Nat.lt_of_lt_of_le hb64 (Nat.le_trans (Nat.pow_le_pow_right (by omega) hj) (by decide))
          have hv64 := B6.val0_lt (s[k + j]'hkj)
          have HNM : Hid (B6.nm s.data.toList k (j + 1) = 64 * B6.nm s.data.toList k j + B6.val0 (s[k + j]'hkj)) := Lib.hid (by
            have : s.data.toList.getD (k + j) 0 = s[k + j]'hkj := by rw [List.getD_eq_getElem?_getD, B6.at_size hkj]; rfl
            rw [← this]; rfl)
          obtain ⟨b, hbb⟩ : ∃ b, s[k + j]'hkj = b := ⟨_, rfl⟩
          rw [hbb] at hv64 HNM
          clear hb64
          obtain ⟨m', HM'⟩ : ∃ m', Hid (B6.nm s.data.toList k (j + 1) = m') := ⟨_, Lib.hid rfl⟩
          rw [HM'.out] at HNM
          generalize B6.nm s.data.toList k j = m at hnb HNM ⊢
          go_wp2_with fail
          refine (l2Value_any b _).mono ?_
          rintro e w2 ⟨rfl, rfl⟩
          rcases B6.sval_cases b with ⟨e1, e2⟩ | e1
          · rw [e2] at HNM
            clear e2
            rw [e1]
            clear e1
            go_wp2_with fail
            go_roundg (4 - (j + 1))
            case measure => have := HG2.out; omega
            case rel => exact ⟨j + 1, by omega, Lib.hid rfl, by go_num, by rw [HM'.out, HNM.out]; go_num, rfl⟩
          · rw [e1]
            clear e1
            generalize B6.val0 b = v at hv64 HNM ⊢
            go_wp2_with fail
            go_roundg (4 - (j + 1))
            case measure => have := HG2.out; omega
            case rel => exact ⟨j + 1, by omega, Lib.hid rfl, by go_num, by rw [HM'.out, HNM.out]; go_num, rfl⟩
        · obtain rfl : j = 4 := by omega
          have hnb := B6.nm_lt s.data.toList k 4 (by omega)
          have HND : Hid (B6.dec (s.data.toList.drop k) = B6.bytes (B6.nm s.data.toList k 4) ++ B6.dec (s.data.toList.drop (k + 4))) := Lib.hid (B6.nm_dec _ _ (by have := HSL.out; omega))
          generalize B6.nm s.data.toList k 4 = n at hnb HND ⊢
          have hnb' : n < 16777216 := by simpa using hnb
          clear hnb
          have hll : l.length + 3 ≤ 100 := by
            have e := congrArg List.length HE.out
            rw [HND.out] at e
            simp only [List.length_append, B6.bytes, List.length_cons, List.length_nil] at e
            have := HEL.out
            omega
          have HM1 : Hid (l.length + 3 ≤ maxLen) := Lib.hid (by unfold maxLen; omega)
          have HM2 : Hid ((l.length + 3) * 1 ≤ 140737488355328) := Lib.hid (by omega)
          have hbs := hb.size
          have HCS : Hid ((#[.int .u8 ((n : Int) / 65536), .int .u8 ((n : Int) / 256 % 256), .int .u8 ((n : Int) % 256)] : Array Value).toList = (B6.bytes n).flatMap B6.cell) := Lib.hid (by
            unfold B6.bytes B6.cell
            have e1 : ((UInt8.ofNat (n / 65536)).toNat : Int) = (n : Int) / 65536 := by rw [UInt8.toNat_ofNat']; omega
            have e2 : ((UInt8.ofNat (n / 256)).toNat : Int) = (n : Int) / 256 % 256 := by rw [UInt8.toNat_ofNat']; omega
            have e3 : ((UInt8.ofNat n).toNat : Int) = (n : Int) % 256 := by rw [UInt8.toNat_ofNat']; omega
            simp only [List.flatMap_cons, List.flatMap_nil, List.append_nil, e1, e2, e3]
            rfl)
          have HAT : Hid (At (wr.alloc (.cells #[.int .u8 ((n : Int) / 65536), .int .u8 ((n : Int) / 256 % 256), .int .u8 ((n : Int) % 256)] 5)) (wr.heap.size + 1) 1 B6.cell (some ⟨wr.heap.size, 0, none⟩) (B6.bytes n)) := Lib.hid (at_lit B6.cell_len (heap_alloc_new wr _) HCS.out (by omega))
          have HOA : Hid (B6.Own (wr.alloc (.cells #[.int .u8 ((n : Int) / 65536), .int .u8 ((n : Int) / 256 % 256), .int .u8 ((n : Int) % 256)] 5)) w.heap.size (.slice A l.length c) l) := Lib.hid (OwnL.alloc HO.out _)
          have HBO : Hid (w.heap.size ≤ (wr.alloc (.cells #[.int .u8 ((n : Int) / 65536), .int .u8 ((n : Int) / 256 % 256), .int .u8 ((n : Int) % 256)] 5)).heap.size) := Lib.hid (by simp; omega)
          obtain ⟨l2, HL2⟩ : ∃ l2, Hid (l ++ B6.bytes n = l2) := ⟨_, Lib.hid rfl⟩
          have hm1 : 3 ≤ l2.length := by rw [← HL2.out, List.length_append]; exact Nat.le_add_left _ _
          have hm2 : l2.length ≤ 100 := by rw [← HL2.out, List.length_append]; exact hll
          go_wp2_with (at_builtin; refine wpList_join _ rfl (.tmp 30) (.tmp 41) _ rfl 5 i0 _ 1 1 Try.underlying22 hi hz0 hz1 hz2 rfl (by omega) B6.cell B6.cell_len B6.cell_one w.heap.size _ l rfl HOA.out _ _ _ 3 3 rfl rfl HAT.out HM1.out HM2.out HBO.out ?_; intro v5 w5 hown5 hb5 hg5; rw [HL2.out] at hown5; obtain ⟨g, cc, rfl, hgb, hgc⟩ := OwnL.form' hown5 (by omega); have HO5 := Lib.hid hown5; have HB5 := Lib.hid hb5; clear hown5 hg5 hb5)
          go_roundg (s.size + 4 - (k + 4))
          case measure => have := HG.out; omega
          case rel => exact ⟨k + 4, _, _, l2, by omega, Lib.hid rfl, by go_num, rfl, HO5, Lib.hid (by rw [← HL2.out, ← HE.out, HND.out, List.append_assoc]), (hb.alloc hbs _).trans HB5.out⟩
    · have HC : Hid (l = B6.dec s.data.toList) := Lib.hid (by
        have := HE.out
        rw [B6.dec_short _ (by have := HSL.out; rw [List.length_drop]; omega)] at this
        simpa using this)
      have HCV : Hid ((convert 22 9 (.slice A l.length c)).run Try.prog wr = .ok (.string ⟨l.toArray⟩) wr) := Lib.hid (B6.conv HO.out)
      have hcv := HCV.out
      go_wp2_with fail
      go_ret
      exact ⟨congrArg (fun x : List UInt8 => Ending.returned (.string ⟨x.toArray⟩)) HC.out, hb⟩
end Go.Proofs.Ytnbggmmghopphaa
