/- B6Y: B6De B6Sd PpS, in one text. -/
import Derived.Test.YtpjifcljkgcnlaaGreatDoorB6En
import Derived.Test.YtpjifcljkgcnlaaGreatDoorPl
import Derived.Test.YtpjifcljkgcnlaaGreatDoorCtS
import Derived.Test.YtpjifcljkgcnlaaGreatDoorRx
import Derived.BigQuiet
namespace Go.Proofs.YtpjifcljkgcnlaaGreatDoor
set_option linter.unusedVariables false
open Go.RowKit

def B6.nm (L : List UInt8) (k : Nat) : Nat → Nat
  | 0 => 0
  | j + 1 => 64 * B6.nm L k j + B6.val0 (L.getD (k + j) 0)
theorem B6.nm_lt (L : List UInt8) (k : Nat) : ∀ j, j ≤ 4 → B6.nm L k j < 64 ^ j
  | 0, _ => by simp [B6.nm]
  | j + 1, h => by
    have := B6.nm_lt L k j (by omega)
    have h2 := B6.val0_lt (L.getD (k + j) 0)
    simp only [B6.nm, Nat.pow_succ]
    omega
theorem B6.nm_four (L : List UInt8) (k : Nat) (h : k + 4 ≤ L.length) : L.drop k = L.getD k 0 :: L.getD (k + 1) 0 :: L.getD (k + 2) 0 :: L.getD (k + 3) 0 :: L.drop (k + 4) := by
  have hg : ∀ j (hj : j < L.length), L.getD j 0 = L[j] := fun j hj => by rw [List.getD_eq_getElem?_getD, List.getElem?_eq_getElem hj]; rfl
  rw [List.drop_eq_getElem_cons (by omega), List.drop_eq_getElem_cons (by omega), List.drop_eq_getElem_cons (by omega), List.drop_eq_getElem_cons (by omega), hg k (by omega), hg (k + 1) (by omega), hg (k + 2) (by omega), hg (k + 3) (by omega)]
theorem B6.nm_dec (L : List UInt8) (k : Nat) (h : k + 4 ≤ L.length) : B6.dec (L.drop k) = B6.bytes (B6.nm L k 4) ++ B6.dec (L.drop (k + 4)) := by
  rw [B6.nm_four L k h]
  simp only [B6.dec, B6.decG, B6.nm, Nat.mul_zero, Nat.zero_add, Nat.add_zero]
theorem B6.dec_short (L : List UInt8) (h : L.length < 4) : B6.dec L = [] := by
  match L, h with
  | [], _ => rfl
  | [_], _ => rfl
  | [_, _], _ => rfl
  | [_, _, _], _ => rfl
  | _ :: _ :: _ :: _ :: _, h => simp at h; omega
theorem B6.dec_len (L : List UInt8) : (B6.dec L).length ≤ L.length := by
  induction L using B6.dec.induct with
  | case1 a b c d r ih => simp only [B6.dec, B6.decG, B6.bytes, List.length_append, List.length_cons, List.length_nil]; omega
  | case2 L h =>
    have : B6.dec L = [] := by
      match L, h with
      | [], _ => rfl
      | [_], _ => rfl
      | [_, _], _ => rfl
      | [_, _, _], _ => rfl
      | a :: b :: c :: d :: r, h => exact absurd rfl (h a b c d r)
    rw [this]; simp
theorem B6.sval_max (b : UInt8) : max (B6.sval b) 0 = (B6.val0 b : Int) := by
  unfold B6.sval B6.val0
  cases B6.val b with
  | none => rfl
  | some v => simp
theorem B6.sval_cases (b : UInt8) : (B6.sval b = -1 ∧ B6.val0 b = 0) ∨ (B6.sval b = (B6.val0 b : Int)) := by
  unfold B6.sval B6.val0
  cases B6.val b with
  | none => exact .inl ⟨rfl, rfl⟩
  | some v => exact .inr rfl

set_option maxRecDepth 100000 in
set_option maxHeartbeats 3200000 in
theorem l2Decode_any (s : ByteArray) (hs : s.size ≤ 100) (w : World) :
    Calls Tryz.prog 90 #[.string s] w fun e w' => e = .returned (.string ⟨(B6.dec s.data.toList).toArray⟩) ∧ Below w.heap.size w w' := by
  obtain ⟨i0, hi, hz0, hz1, hz2⟩ := info_parts byte_info
  have HEL : Hid ((B6.dec s.data.toList).length ≤ 100) := Lib.hid (by
    have : s.data.toList.length = s.size := Array.length_toList
    have := B6.dec_len s.data.toList
    omega)
  have HSL : Hid (s.data.toList.length = s.size) := Lib.hid Array.length_toList
  have H0 : Hid (B6.Own (w.alloc (.cells #[] 5)) w.heap.size (.slice (some ⟨w.heap.size, 0, none⟩) 0 0) []) := Lib.hid (ownL_nil w (Nat.le_refl _))
  have hB0 : Below w.heap.size w (w.alloc (.cells #[] 5)) := (Below.refl _ _).alloc (Nat.le_refl _) _
  go_enter Tryz.func90, Tryz.ntmps90
  go_wp2_with fail
  go_loopg [3, 4] (s.size + 4) (fun g o i wr => ∃ (k : Nat) (A : Option Addr) (c : Nat) (l : List UInt8), k ≤ s.size + 3 ∧ Hid (g = s.size + 4 - k) ∧ i = .int .i64 (k : Int) ∧ o = .slice A l.length c ∧ Hid (B6.Own wr w.heap.size (.slice A l.length c) l) ∧ Hid (l ++ B6.dec (s.data.toList.drop k) = B6.dec s.data.toList) ∧ Below w.heap.size w wr)
  case atStart => exact ⟨0, _, _, [], by omega, Lib.hid rfl, rfl, rfl, H0, Lib.hid (by simp), hB0⟩
  case round =>
    obtain ⟨k, A, c, l, hk, HG, rfl, rfl, HO, HE, hb⟩ := hrel
    by_cases hlt : k + 4 ≤ s.size
    · have hlti : (k : Int) + 4 ≤ (s.size : Int) := by omega
      go_wp2_with fail
      go_loopg [5, 6] 4 (fun g n i wq => ∃ j : Nat, j ≤ 4 ∧ Hid (g = 4 - j) ∧ i = .int .i64 ((k : Int) + (j : Int)) ∧ n = .int .i64 ((B6.nm s.data.toList k j : Nat) : Int) ∧ wq = wr)
      case atStart => exact ⟨0, by omega, Lib.hid rfl, by simp, rfl, rfl⟩
      case round =>
        obtain ⟨j, hj, HG2, rfl, rfl, rfl⟩ := hrel
        by_cases hj4 : j < 4
        · have hkj : k + j < s.size := by omega
          have hkji : (k : Int) + (j : Int) < (k : Int) + 4 := by omega
          have hkjs : (k : Int) + (j : Int) < (s.size : Int) := by omega
          have hb64 := B6.nm_lt s.data.toList k j hj
          have hnb : B6.nm s.data.toList k j < 16777216 := Nat.lt_of_lt_of_le hb64 (Nat.le_trans (Nat.pow_le_pow_right (by omega) hj) (by decide))
          have hv64 := B6.val0_lt (s[k + j]'hkj)
          have HNM : Hid (B6.nm s.data.toList k (j + 1) = 64 * B6.nm s.data.toList k j + B6.val0 (s[k + j]'hkj)) := Lib.hid (by
            have : s.data.toList.getD (k + j) 0 = s[k + j]'hkj := by rw [List.getD_eq_getElem?_getD, B6.at_size hkj]; rfl
            rw [← this]; rfl)
          obtain ⟨b, hbb⟩ : ∃ b, s[k + j]'hkj = b := ⟨_, rfl⟩
          rw [hbb] at hv64 HNM
          clear hb64
          obtain ⟨m', HM'⟩ : ∃ m', Hid (B6.nm s.data.toList k (j + 1) = m') := ⟨_, Lib.hid rfl⟩
          rw [HM'.out] at HNM
          generalize B6.nm s.data.toList k j = m at hnb HNM ⊢
          go_wp2_with fail
          refine (l2Value_any b _).mono ?_
          rintro e w2 ⟨rfl, rfl⟩
          rcases B6.sval_cases b with ⟨e1, e2⟩ | e1
          · rw [e2] at HNM
            clear e2
            rw [e1]
            clear e1
            go_wp2_with fail
            go_roundg (4 - (j + 1))
            case measure => have := HG2.out; omega
            case rel => exact ⟨j + 1, by omega, Lib.hid rfl, by go_num, by rw [HM'.out, HNM.out]; go_num, rfl⟩
          · rw [e1]
            clear e1
            generalize B6.val0 b = v at hv64 HNM ⊢
            go_wp2_with fail
            go_roundg (4 - (j + 1))
            case measure => have := HG2.out; omega
            case rel => exact ⟨j + 1, by omega, Lib.hid rfl, by go_num, by rw [HM'.out, HNM.out]; go_num, rfl⟩
        · obtain rfl : j = 4 := by omega
          have hnb := B6.nm_lt s.data.toList k 4 (by omega)
          have HND : Hid (B6.dec (s.data.toList.drop k) = B6.bytes (B6.nm s.data.toList k 4) ++ B6.dec (s.data.toList.drop (k + 4))) := Lib.hid (B6.nm_dec _ _ (by have := HSL.out; omega))
          generalize B6.nm s.data.toList k 4 = n at hnb HND ⊢
          have hnb' : n < 16777216 := by simpa using hnb
          clear hnb
          have hll : l.length + 3 ≤ 100 := by
            have e := congrArg List.length HE.out
            rw [HND.out] at e
            simp only [List.length_append, B6.bytes, List.length_cons, List.length_nil] at e
            have := HEL.out
            omega
          have HM1 : Hid (l.length + 3 ≤ maxLen) := Lib.hid (by unfold maxLen; omega)
          have HM2 : Hid ((l.length + 3) * 1 ≤ 140737488355328) := Lib.hid (by omega)
          have hbs := hb.size
          have HCS : Hid ((#[.int .u8 ((n : Int) / 65536), .int .u8 ((n : Int) / 256 % 256), .int .u8 ((n : Int) % 256)] : Array Value).toList = (B6.bytes n).flatMap B6.cell) := Lib.hid (by
            unfold B6.bytes B6.cell
            have e1 : ((UInt8.ofNat (n / 65536)).toNat : Int) = (n : Int) / 65536 := by rw [UInt8.toNat_ofNat']; omega
            have e2 : ((UInt8.ofNat (n / 256)).toNat : Int) = (n : Int) / 256 % 256 := by rw [UInt8.toNat_ofNat']; omega
            have e3 : ((UInt8.ofNat n).toNat : Int) = (n : Int) % 256 := by rw [UInt8.toNat_ofNat']; omega
            simp only [List.flatMap_cons, List.flatMap_nil, List.append_nil, e1, e2, e3]
            rfl)
          have HAT : Hid (At (wr.alloc (.cells #[.int .u8 ((n : Int) / 65536), .int .u8 ((n : Int) / 256 % 256), .int .u8 ((n : Int) % 256)] 5)) (wr.heap.size + 1) 1 B6.cell (some ⟨wr.heap.size, 0, none⟩) (B6.bytes n)) := Lib.hid (at_lit B6.cell_len (heap_alloc_new wr _) HCS.out (by omega))
          have HOA : Hid (B6.Own (wr.alloc (.cells #[.int .u8 ((n : Int) / 65536), .int .u8 ((n : Int) / 256 % 256), .int .u8 ((n : Int) % 256)] 5)) w.heap.size (.slice A l.length c) l) := Lib.hid (OwnL.alloc HO.out _)
          have HBO : Hid (w.heap.size ≤ (wr.alloc (.cells #[.int .u8 ((n : Int) / 65536), .int .u8 ((n : Int) / 256 % 256), .int .u8 ((n : Int) % 256)] 5)).heap.size) := Lib.hid (by simp; omega)
          obtain ⟨l2, HL2⟩ : ∃ l2, Hid (l ++ B6.bytes n = l2) := ⟨_, Lib.hid rfl⟩
          have hm1 : 3 ≤ l2.length := by rw [← HL2.out, List.length_append]; exact Nat.le_add_left _ _
          have hm2 : l2.length ≤ 100 := by rw [← HL2.out, List.length_append]; exact hll
          go_wp2_with (at_builtin; refine wpList_join _ rfl (.tmp 30) (.tmp 41) _ rfl 5 i0 _ 1 1 Tryz.underlying77 hi hz0 hz1 hz2 rfl (by omega) B6.cell B6.cell_len B6.cell_one w.heap.size _ l rfl HOA.out _ _ _ 3 3 rfl rfl HAT.out HM1.out HM2.out HBO.out ?_; intro v5 w5 hown5 hb5 hg5; rw [HL2.out] at hown5; obtain ⟨g, cc, rfl, hgb, hgc⟩ := OwnL.form' hown5 (by omega); have HO5 := Lib.hid hown5; have HB5 := Lib.hid hb5; clear hown5 hg5 hb5)
          go_roundg (s.size + 4 - (k + 4))
          case measure => have := HG.out; omega
          case rel => exact ⟨k + 4, _, _, l2, by omega, Lib.hid rfl, by go_num, rfl, HO5, Lib.hid (by rw [← HL2.out, ← HE.out, HND.out, List.append_assoc]), (hb.alloc hbs _).trans HB5.out⟩
    · have HC : Hid (l = B6.dec s.data.toList) := Lib.hid (by
        have := HE.out
        rw [B6.dec_short _ (by have := HSL.out; rw [List.length_drop]; omega)] at this
        simpa using this)
      have HCV : Hid ((convert 77 9 (.slice A l.length c)).run Tryz.prog wr = .ok (.string ⟨l.toArray⟩) wr) := Lib.hid (B6.conv HO.out)
      have hcv := HCV.out
      go_wp2_with fail
      go_ret
      exact ⟨congrArg (fun x : List UInt8 => Ending.returned (.string ⟨x.toArray⟩)) HC.out, hb⟩
end Go.Proofs.YtpjifcljkgcnlaaGreatDoor

namespace Go.Proofs.YtpjifcljkgcnlaaGreatDoor
set_option linter.unusedVariables false
open Go.RowKit

def B6.encode (s : ByteArray) : ByteArray := if 30 < s.size then ⟨#[]⟩ else ⟨(B6.enc s.data.toList).toArray⟩
def B6.out : Option (List UInt8) → Value
  | some l => .tuple #[.string ⟨l.toArray⟩, .bool true]
  | none => .tuple #[.string ⟨#[]⟩, .bool false]


theorem B6.cut_hit {L : List UInt8} {j : Nat} (h40 : L.length ≤ 40) (h : B6.enc ((B6.dec L).take ((B6.dec L).length - j)) = L) : B6.decode L = some ((B6.dec L).take ((B6.dec L).length - j)) := by
  unfold B6.decode
  have : B6.read L = (B6.dec L).take ((B6.dec L).length - j) := by
    conv => lhs; rw [← h]
    rw [B6.read_enc]
  rw [if_pos ⟨h40, by rw [this]; exact h⟩, this]
theorem B6.cut_miss {L : List UInt8} (h : ∀ j, j ≤ 2 → j ≤ (B6.dec L).length → B6.enc ((B6.dec L).take ((B6.dec L).length - j)) ≠ L) : B6.decode L = none := by
  cases hd : B6.decode L with
  | none => rfl
  | some s =>
    exfalso
    obtain ⟨he, _⟩ := B6.decode_some hd
    obtain ⟨k, hk, hdk⟩ := B6.dec_enc s
    rw [he] at hdk
    refine h k hk (by rw [hdk]; simp) ?_
    have : (B6.dec L).take ((B6.dec L).length - k) = s := by rw [hdk]; simp
    rw [this, he]

theorem B6.extract_take (s : ByteArray) (n : Nat) : (s.extract 0 n).data.toList = s.data.toList.take n := by simp [ByteArray.data_extract]

set_option maxRecDepth 100000 in
set_option maxHeartbeats 1600000 in
theorem sB64Decode_any (t : ByteArray) (w : World) :
    Calls Tryz.prog 76 #[.string t] w fun e w' => e = .returned (B6.out (B6.decode t.data.toList)) ∧ Below w.heap.size w w' := by
  have HSL : Hid (t.data.toList.length = t.size) := Lib.hid Array.length_toList
  go_enter Tryz.func76, Tryz.ntmps76
  by_cases h40 : 40 < t.size
  · have hi : (40 : Int) < (t.size : Int) := by omega
    have HN : Hid (B6.decode t.data.toList = none) := Lib.hid (by unfold B6.decode; rw [if_neg]; intro h; have := HSL.out; omega)
    go_wp2_with fail
    go_ret2
    rw [HN.out]
    exact ⟨rfl, Below.refl _ _⟩
  have hi : ¬ (40 : Int) < (t.size : Int) := by omega
  by_cases h4 : t.size % 4 = 0
  · have hi4 : (t.size : Int) % 4 = 0 := by omega
    go_wp2_with fail
    refine (l2Decode_any t (by omega) _).mono ?_
    rintro e w1 ⟨rfl, hb1⟩
    obtain ⟨al, hal⟩ : ∃ al : ByteArray, al = ⟨(B6.dec t.data.toList).toArray⟩ := ⟨_, rfl⟩
    have HAL : Hid (al.data.toList = B6.dec t.data.toList) := Lib.hid (by rw [hal])
    have HAZ : Hid ((B6.dec t.data.toList).length = al.size) := Lib.hid (by rw [← HAL.out]; exact Array.length_toList)
    have hz100 : al.size ≤ 100 := by have := B6.dec_len t.data.toList; have := HAZ.out; have := HSL.out; omega
    rw [← hal]
    clear hal
    go_wp2_with fail
    go_loopg [5] 3 (fun g i wr => ∃ k : Nat, k ≤ 3 ∧ Hid (g = 3 - k) ∧ i = .int .i64 (k : Int) ∧ Hid (∀ j, j < k → j ≤ (B6.dec t.data.toList).length → B6.enc ((B6.dec t.data.toList).take ((B6.dec t.data.toList).length - j)) ≠ t.data.toList) ∧ Below w.heap.size w wr)
    case atStart => exact ⟨0, by omega, Lib.hid rfl, rfl, Lib.hid (fun j hj => absurd hj (by omega)), hb1⟩
    case round =>
      obtain ⟨k, hk, HG, rfl, HN, hb⟩ := hrel
      by_cases hk2 : k ≤ 2
      · have hk2i : (k : Int) ≤ 2 := by omega
        by_cases hka : k ≤ al.size
        · have hkai : (k : Int) ≤ (al.size : Int) := by omega
          go_wp2_with fail
          refine (l2Encode_any (al.extract 0 (al.size - k)) (by rw [ByteArray.size_extract]; omega) _).mono ?_
          rintro e w2 ⟨rfl, hb2⟩
          have HEX : Hid ((al.extract 0 (al.size - k)).data.toList = (B6.dec t.data.toList).take ((B6.dec t.data.toList).length - k)) := Lib.hid (by rw [B6.extract_take, HAL.out, HAZ.out])
          have HZK : Hid (k ≤ (B6.dec t.data.toList).length) := Lib.hid (by rw [HAZ.out]; exact hka)
          obtain ⟨X, hX⟩ : ∃ X : ByteArray, X = ⟨(B6.enc (al.extract 0 (al.size - k)).data.toList).toArray⟩ := ⟨_, rfl⟩
          have HX : Hid (X.toList = B6.enc (al.extract 0 (al.size - k)).data.toList) := Lib.hid (by rw [hX, Go.ByteArray.toList_eq])
          rw [← hX]
          clear hX
          by_cases heq : X.toList = t.toList
          · have HQ : Hid (B6.decode t.data.toList = some (al.extract 0 (al.size - k)).data.toList) := Lib.hid (by
              rw [HEX.out]
              refine B6.cut_hit (by have := HSL.out; omega) ?_
              rw [← HEX.out, ← HX.out, heq, Go.ByteArray.toList_eq])
            have hbq : (X.toList == t.toList) = true := by simpa using heq
            clear heq
            go_wp2_with fail
            go_ret2
            rw [HQ.out]
            exact ⟨rfl, hb.trans (hb2.mono hb.size)⟩
          · have hbq : (X.toList == t.toList) = false := by simpa using heq
            have HNE : Hid (B6.enc ((B6.dec t.data.toList).take ((B6.dec t.data.toList).length - k)) ≠ t.data.toList) := Lib.hid (by
              intro e
              apply heq
              rw [HX.out, HEX.out, e, Go.ByteArray.toList_eq])
            clear heq
            go_wp2_with fail
            go_roundg (3 - (k + 1))
            case measure => have := HG.out; omega
            case rel =>
              refine ⟨k + 1, by omega, Lib.hid rfl, by go_num, Lib.hid (fun j hj hl => ?_), hb.trans (hb2.mono hb.size)⟩
              rcases Nat.lt_or_ge j k with h | h
              · exact HN.out j h hl
              · obtain rfl : j = k := by omega
                exact HNE.out
        · have hkai : ¬ (k : Int) ≤ (al.size : Int) := by omega
          have HD : Hid (B6.decode t.data.toList = none) := Lib.hid (B6.cut_miss fun j hj hl => HN.out j (by have := HAZ.out; omega) hl)
          go_wp2_with fail
          go_ret2
          rw [HD.out]
          exact ⟨rfl, hb⟩
      · have hk2i : ¬ (k : Int) ≤ 2 := by omega
        have HD : Hid (B6.decode t.data.toList = none) := Lib.hid (B6.cut_miss fun j hj hl => HN.out j (by omega) hl)
        go_wp2_with fail
        go_ret2
        rw [HD.out]
        exact ⟨rfl, hb⟩
  · have hi4 : ¬ (t.size : Int) % 4 = 0 := by omega
    have HN : Hid (B6.decode t.data.toList = none) := Lib.hid (by
      unfold B6.decode
      rw [if_neg]
      intro h
      have e := congrArg List.length h.2
      rw [B6.enc_len] at e
      have := HSL.out
      omega)
    go_wp2_with fail
    go_ret2
    rw [HN.out]
    exact ⟨rfl, Below.refl _ _⟩
end Go.Proofs.YtpjifcljkgcnlaaGreatDoor

namespace Go.Proofs.YtpjifcljkgcnlaaGreatDoor
set_option linter.unusedVariables false
open Go.RowKit

def Pp.val : Option (List UInt8 × List UInt8) → Value
  | some (p, q) => .tuple #[.string (Ct.mk p), .string (Ct.mk q), .bool true]
  | none => .tuple #[.string ⟨#[]⟩, .string ⟨#[]⟩, .bool false]
theorem Pp.strs {w : World} {B : Nat} {A : Option Addr} {us : List ByteArray} {c n : Nat} (ho : St.Own w B (.slice A n c) us) (hn : us.length = n) (hs : ∀ u ∈ us, u.size ≤ maxLen) : AtStrs w w.heap.size A us :=
  at_strs (OwnL.at_ ho St.cells_len hn) hs

set_option maxRecDepth 100000 in
set_option maxHeartbeats 3200000 in
theorem sPlainParse_any (t : ByteArray) (w : World) :
    Calls Tryz.prog 65 #[.string t] w fun e w' => e = .returned (Pp.val (Pp.parse t.data.toList)) ∧ Below w.heap.size w w' := by
  go_enter Tryz.func65, Tryz.ntmps65
  go_wp2_with fail
  refine (sB64Decode_any t _).mono ?_
  rintro e w1 ⟨rfl, hb1⟩
  cases hd : B6.decode t.data.toList with
  | none =>
    have HP : Hid (Pp.parse t.data.toList = none) := Lib.hid (by unfold Pp.parse; rw [hd])
    clear hd
    unfold B6.out
    go_wp2_with fail
    refine (l1Cut_any ⟨#[]⟩ 0 (by decide) _).mono ?_
    rintro e w2 ⟨A, c, rfl, _, hb2⟩
    go_wp2_with fail
    go_ret3
    rw [HP.out]
    exact ⟨rfl, hb1.trans (hb2.mono hb1.size)⟩
  | some s =>
    have HP : Hid (Pp.parse t.data.toList = Pp.parts s) := Lib.hid (by unfold Pp.parse; rw [hd])
    have hsz : s.length ≤ 30 := by
      obtain ⟨he, h40⟩ := B6.decode_some hd
      have e := congrArg List.length he
      rw [B6.enc_len] at e
      omega
    clear hd
    unfold B6.out
    have hsb : (ByteArray.mk s.toArray).size ≤ 30 := by show s.toArray.size ≤ 30; simpa using hsz
    obtain ⟨x, HX⟩ : ∃ x : ByteArray, Hid (x = ⟨s.toArray⟩) := ⟨_, Lib.hid rfl⟩
    have HXS : Hid (x.data.toList = s) := Lib.hid (by rw [HX.out])
    dsimp only
    rw [← HX.out] at hsb ⊢
    go_wp2_with fail
    refine (l1Cut_any x 0 (by omega) _).mono ?_
    rintro e w2 ⟨A, c, rfl, ho2, hb2⟩
    have hB2 := hb1.trans (hb2.mono hb1.size)
    have HPC : Hid (∀ u ∈ Ct.cutB 0 x, u.size ≤ 30) := Lib.hid fun u hu => by
      unfold Ct.cutB at hu
      obtain ⟨p, hp, rfl⟩ := List.mem_map.1 hu
      have := Ct.cut_size 0 x.data.toList p hp
      rw [HXS.out] at this
      show p.toArray.size ≤ 30
      simp; omega
    have HAT := Lib.hid (Pp.strs ho2 rfl (fun u hu => by have := HPC.out u hu; unfold maxLen; omega))
    clear ho2 hb1 hb2
    by_cases h3 : (Ct.cutB 0 x).length = 3
    · obtain ⟨u0, u1, u2, hus⟩ : ∃ u0 u1 u2, Ct.cutB 0 x = [u0, u1, u2] := by
        match hc : Ct.cutB 0 x, h3 with
        | [a, b, c], _ => exact ⟨a, b, c, rfl⟩
      clear h3
      have HV : Hid (Pp.parts s = if u0.data.toList = [] ∧ Nm.nameOk u1.data.toList = true ∧ Nm.nameOk u2.data.toList = true then some (u1.data.toList, u2.data.toList) else none) := Lib.hid (by
        unfold Ct.cutB at hus
        rw [HXS.out] at hus
        match hc : Ct.cut 0 s, hus with
        | [a, b, c], hus =>
          simp only [List.map_cons, List.map_nil, List.cons.injEq, and_true] at hus
          obtain ⟨rfl, rfl, rfl⟩ := hus
          exact Pp.parts_three hc)
      rw [hus] at HAT HPC ⊢
      clear hus
      obtain ⟨g, off, rfl, hg, hc⟩ := HAT.out.1 (by simp)
      have d0 : w2.cell? ⟨g, off, none⟩ = some (.string u0) := hc 0 u0 rfl
      have d1 : w2.cell? ⟨g, off + 1, none⟩ = some (.string u1) := hc 1 u1 rfl
      have d2 : w2.cell? ⟨g, off + 2, none⟩ = some (.string u2) := hc 2 u2 rfl
      have hz1 : u1.size ≤ maxLen := by have := HPC.out u1 (by simp); unfold maxLen; omega
      have hz2 : u2.size ≤ maxLen := by have := HPC.out u2 (by simp); unfold maxLen; omega
      clear hc
      cases n0 : (u0.toList == [])
      · have HNO : Hid (Pp.parts s = none) := Lib.hid (by
          rw [HV.out, if_neg]
          rintro ⟨e, _⟩
          rw [← Go.ByteArray.toList_eq] at e
          rw [e] at n0
          cases n0)
        go_wp2_with fail
        go_ret3
        rw [HP.out, HNO.out]
        exact ⟨rfl, hB2⟩
      · have h0 : u0.data.toList = [] := by rw [← Go.ByteArray.toList_eq]; simpa using n0
        cases n1 : Nm.nameOk u1.data.toList
        · have HNO : Hid (Pp.parts s = none) := Lib.hid (by
            rw [HV.out, if_neg]
            rintro ⟨_, e, _⟩
            rw [n1] at e; cases e)
          have HN1 := Lib.hid n1
          clear n1 h0
          go_wp2_with fail
          refine (sNameValid_any u1 _ hz1).mono ?_
          rintro e w3 ⟨rfl, rfl⟩
          rw [HN1.out]
          go_wp2_with fail
          go_ret3
          rw [HP.out, HNO.out]
          exact ⟨rfl, hB2⟩
        · cases n2 : Nm.nameOk u2.data.toList
          · have HNO : Hid (Pp.parts s = none) := Lib.hid (by
              rw [HV.out, if_neg]
              rintro ⟨_, _, e⟩
              rw [n2] at e; cases e)
            have HN1 := Lib.hid n1
            have HN2 := Lib.hid n2
            clear n1 n2 h0
            go_wp2_with fail
            refine (sNameValid_any u1 _ hz1).mono ?_
            rintro e w3 ⟨rfl, rfl⟩
            rw [HN1.out]
            go_wp2_with fail
            refine (sNameValid_any u2 _ hz2).mono ?_
            rintro e w3 ⟨rfl, rfl⟩
            rw [HN2.out]
            go_wp2_with fail
            go_ret3
            rw [HP.out, HNO.out]
            exact ⟨rfl, hB2⟩
          · have HYES : Hid (Pp.parts s = some (u1.data.toList, u2.data.toList)) := Lib.hid (by rw [HV.out, if_pos ⟨h0, n1, n2⟩])
            have HN1 := Lib.hid n1
            have HN2 := Lib.hid n2
            clear n1 n2 h0
            go_wp2_with fail
            refine (sNameValid_any u1 _ hz1).mono ?_
            rintro e w3 ⟨rfl, rfl⟩
            rw [HN1.out]
            go_wp2_with fail
            refine (sNameValid_any u2 _ hz2).mono ?_
            rintro e w3 ⟨rfl, rfl⟩
            rw [HN2.out]
            go_upto_region 5 with fail
            go_quiet (fail)
            go_wp2_with fail
            go_ret3
            rw [HP.out, HYES.out]
            have e1 := Ct.ext (s := u1) rfl
            have e2 := Ct.ext (s := u2) rfl
            refine ⟨?_, ?_⟩
            · show Ending.returned (.tuple #[.string u1, .string u2, .bool true]) = .returned (.tuple #[.string (Ct.mk u1.data.toList), .string (Ct.mk u2.data.toList), .bool true])
              rw [← e1, ← e2]
            · exact below_drewN hB2 _
    · have HNO : Hid (Pp.parts s = none) := Lib.hid (Pp.parts_len (by
        unfold Ct.cutB at h3
        rw [List.length_map, HXS.out] at h3
        exact h3))
      have h3i : ¬ (((Ct.cutB 0 x).length : Nat) : Int) = 3 := by omega
      generalize (Ct.cutB 0 x).length = n at h3i HAT ⊢
      go_wp2_with fail
      go_ret3
      rw [HP.out, HNO.out]
      exact ⟨rfl, hB2⟩
/-- the text of a user and a password -/
def Pp.make (u p : ByteArray) : ByteArray := if Nm.nameOk u.data.toList = true ∧ Nm.nameOk p.data.toList = true then ⟨(B6.enc (0 :: (u.data.toList ++ 0 :: p.data.toList))).toArray⟩ else ⟨#[]⟩

theorem Pp.cat (u p : ByteArray) : ((ByteArray.mk #[0] ++ u ++ ByteArray.mk #[0]) ++ p).data.toList = 0 :: (u.data.toList ++ 0 :: p.data.toList) := by simp
end Go.Proofs.YtpjifcljkgcnlaaGreatDoor
