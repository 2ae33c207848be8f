/- base64Write of the program. -/
import Derived.Test.YtpjifcljkgcnlaaGreatDoorB6En
import Derived.Test.YtpjifcljkgcnlaaGreatDoorBldX
import Derived.Laws.BitsLemmas
namespace Go.Proofs.YtpjifcljkgcnlaaGreatDoor
set_option linter.unusedVariables false
open Go.RowKit

def B6.bt (L : List UInt8) : Nat → Nat
  | 0 => 0
  | j + 1 => 256 * B6.bt L j + (L.getD j 0).toNat
theorem B6.bt_lt (L : List UInt8) : ∀ j, B6.bt L j < 256 ^ j
  | 0 => by simp [B6.bt]
  | j + 1 => by
    have := B6.bt_lt L j
    have := B6.u8 (L.getD j 0)
    simp only [B6.bt, Nat.pow_succ]
    omega

theorem B6.wraps (n : Int) (h0 : 0 ≤ n) (h1 : n < 2 ^ 40) : IntKind.i64.wrap n = n := by simp [IntKind.wrap, IntKind.bits, IntKind.signed]; omega
theorem B6.or8 (m : Nat) (x : UInt8) (hm : m < 65536) : bits BinOp.or IntKind.i64 ((m : Int) * 256) (x.toNat : Int) = (m : Int) * 256 + (x.toNat : Int) := by
  have := B6.u8 x
  exact bits_join .i64 40 (by decide) B6.wraps 8 _ _ (by omega) (by omega) (by omega) (by omega) (by omega) (by omega)
theorem B6.and6 (x : Int) (h0 : 0 ≤ x) (h1 : x < 1099511627776) : bits BinOp.and IntKind.i64 x 63 = x % 64 := bits_mask .i64 40 (by decide) B6.wraps 6 (by decide) x h0 (by omega)

theorem B6.snoc (bs L : List UInt8) (j : Nat) (e : UInt8) (h : L[j]? = some e) : Lib.byteCells (bs ++ L.take j) ++ [.int .u8 (e.toNat : Int)] = Lib.byteCells (bs ++ L.take (j + 1)) := by
  rw [List.take_add_one, h]
  simp [Lib.byteCells]
theorem B6.enc_bt (s : ByteArray) (h1 : 1 ≤ s.size) (h3 : s.size ≤ 3) : B6.enc s.data.toList = [B6.sign (B6.bt s.data.toList 3 / 262144), B6.sign (B6.bt s.data.toList 3 / 4096 % 64), if 2 ≤ s.size then B6.sign (B6.bt s.data.toList 3 / 64 % 64) else 61, if 3 ≤ s.size then B6.sign (B6.bt s.data.toList 3 % 64) else 61] := by
  have hz : s.size = s.data.toList.length := Array.length_toList.symm
  rw [hz] at h1 h3 ⊢
  generalize s.data.toList = L at h1 h3 ⊢
  have z : (0 : UInt8).toNat = 0 := rfl
  match L, h1, h3 with
  | [a], _, _ =>
    have e : B6.bt [a] 3 = B6.num a 0 0 := by simp [B6.bt, B6.num]; omega
    rw [e]; simp [B6.enc]
  | [a, b], _, _ =>
    have e : B6.bt [a, b] 3 = B6.num a b 0 := by simp [B6.bt, B6.num]; omega
    rw [e]; simp [B6.enc]
  | [a, b, c], _, _ =>
    have e : B6.bt [a, b, c] 3 = B6.num a b c := by simp [B6.bt, B6.num]; omega
    rw [e]; simp [B6.enc]

set_option maxRecDepth 100000 in
set_option maxHeartbeats 3200000 in
theorem base64Write_any (B b : Nat) (bs : List UInt8) (s : ByteArray) (w : World) (hs1 : 1 ≤ s.size) (hs3 : s.size ≤ 3) (h : Lib.IsBuilder 119 5 B b (Lib.byteCells bs) w) (hlen : bs.length ≤ 1000) (hBw : B ≤ w.heap.size) :
    Calls Tryz.prog 120 #[.pointer (some ⟨b, 0, none⟩), .string s] w fun e w' => e = .returned (.tuple #[]) ∧ Lib.IsBuilder 119 5 B b (Lib.byteCells (bs ++ B6.enc s.data.toList)) w' ∧ Below B w w' ∧ Bk b w w' := by
  go_enter Tryz.func120, Tryz.ntmps120
  go_wp2_with fail
  go_loopg [4, 7] 3 (fun g bits i wr => ∃ j : Nat, j ≤ 3 ∧ Hid (g = 3 - j) ∧ i = .int .i64 (j : Int) ∧ bits = .int .i64 ((B6.bt s.data.toList j : Nat) : Int) ∧ wr = w)
  case atStart => exact ⟨0, by omega, Lib.hid rfl, rfl, rfl, rfl⟩
  case round =>
    obtain ⟨j, hj, HG, rfl, rfl, rfl⟩ := hrel
    by_cases hj3 : j < 3
    · have hbb : B6.bt s.data.toList j < 65536 := Nat.lt_of_lt_of_le (B6.bt_lt s.data.toList j) (Nat.le_trans (Nat.pow_le_pow_right (by omega) (show j ≤ 2 by omega)) (by decide))
      have HBT : Hid (B6.bt s.data.toList (j + 1) = 256 * B6.bt s.data.toList j + (s.data.toList.getD j 0).toNat) := Lib.hid rfl
      generalize B6.bt s.data.toList j = m at hbb HBT ⊢
      by_cases hjs : j < s.size
      · obtain ⟨x, hx⟩ : ∃ x, s[j]'hjs = x := ⟨_, rfl⟩
        have hxb := B6.u8 x
        have HX : Hid (s.data.toList.getD j 0 = x) := Lib.hid (by rw [List.getD_eq_getElem?_getD, B6.at_size hjs, hx]; rfl)
        have hor := B6.or8 m x hbb
        go_wp2_with fail
        go_roundg (3 - (j + 1))
        case measure => have := HG.out; omega
        case rel => exact ⟨j + 1, by omega, Lib.hid rfl, by go_num, by rw [HBT.out, HX.out]; go_num, rfl⟩
      · have HX : Hid (s.data.toList.getD j 0 = 0) := Lib.hid (by rw [List.getD_eq_getElem?_getD, List.getElem?_eq_none (by simpa using hjs)]; rfl)
        go_wp2_with fail
        go_roundg (3 - (j + 1))
        case measure => have := HG.out; omega
        case rel => exact ⟨j + 1, by omega, Lib.hid rfl, by go_num, by rw [HBT.out, HX.out]; have : (0 : UInt8).toNat = 0 := rfl; rw [this]; go_num, rfl⟩
    · obtain rfl : j = 3 := by omega
      have hN : B6.bt s.data.toList 3 < 16777216 := Nat.lt_of_lt_of_le (B6.bt_lt s.data.toList 3) (by decide)
      have HEN : Hid (B6.enc s.data.toList = [B6.sign (B6.bt s.data.toList 3 / 262144), B6.sign (B6.bt s.data.toList 3 / 4096 % 64), if 2 ≤ s.size then B6.sign (B6.bt s.data.toList 3 / 64 % 64) else 61, if 3 ≤ s.size then B6.sign (B6.bt s.data.toList 3 % 64) else 61]) := Lib.hid (B6.enc_bt s hs1 hs3)
      generalize B6.bt s.data.toList 3 = n at hN HEN ⊢
      have HLE : Hid (∀ j, (Lib.byteCells (bs ++ (B6.enc s.data.toList).take j)).length ≤ 2000) := Lib.hid fun j => by
        have : (B6.enc s.data.toList).length ≤ 100 := by rw [HEN.out]; simp
        simp only [Lib.byteCells, List.length_map, List.length_append, List.length_take]; omega
      go_wp2_with fail
      go_loopg [23] 4 (fun g i wq => ∃ j : Nat, j ≤ 4 ∧ Hid (g = 4 - j) ∧ i = .int .i64 (j : Int) ∧ Hid (Lib.IsBuilder 119 5 B b (Lib.byteCells (bs ++ (B6.enc s.data.toList).take j)) wq) ∧ Below B wr wq ∧ Bk b wr wq)
      case atStart => exact ⟨0, by omega, Lib.hid rfl, rfl, Lib.hid (by simpa using h), Below.refl _ _, Bk.refl _ _⟩
      case round =>
        obtain ⟨j, hj, HG2, rfl, HBU, hbw, hkw⟩ := hrel
        by_cases hj4 : j < 4
        · obtain rfl | rfl | rfl | rfl : j = 0 ∨ j = 1 ∨ j = 2 ∨ j = 3 := by omega
          · obtain ⟨v, HV⟩ : ∃ v, Hid (v = n / 262144) := ⟨_, Lib.hid rfl⟩
            have hv64 : v < 64 := by have := HV.out; omega
            have hand : bits BinOp.and IntKind.i64 ((n : Int) / 262144) 63 = (v : Int) := by rw [B6.and6 _ (by omega) (by omega), HV.out]; omega
            have HTV : Hid (∀ h : v < 64, B6.text[v]'h = B6.sign v) := Lib.hid (B6.text_at v)
            have HGE : Hid ((B6.enc s.data.toList)[0]? = some (B6.sign v)) := Lib.hid (by rw [HEN.out]; rw [HV.out]; rfl)
            go_wp2_with fail
            refine Calls.mono (writeByte_k B b (Lib.byteCells (bs ++ (B6.enc s.data.toList).take 0)) _ _ HBU.out (by have := HLE.out 0; omega) (Nat.le_trans hBw hbw.size)) ?_
            rintro e w3 ⟨rfl, hB3, hb3, hk3⟩
            have HB3 := Lib.hid hB3
            clear hB3
            go_wp2_with fail
            go_roundg (4 - (0 + 1))
            case measure => have := HG2.out; omega
            case rel => exact ⟨0 + 1, by omega, Lib.hid rfl, by simp, Lib.hid (Or.inr (by have h : Lib.BuilderAt 119 5 B b (.pointer (some ⟨b, 0, none⟩)) (Lib.byteCells (bs ++ (B6.enc s.data.toList).take 0) ++ [.int .u8 ((B6.text[v].toNat : Nat) : Int)]) w3 := HB3.out; rw [HTV.out] at h; rw [← B6.snoc bs _ 0 _ HGE.out]; exact h)), hbw.trans hb3, hkw.trans hk3⟩
          · obtain ⟨v, HV⟩ : ∃ v, Hid (v = n / 4096 % 64) := ⟨_, Lib.hid rfl⟩
            have hv64 : v < 64 := by have := HV.out; omega
            have hand : bits BinOp.and IntKind.i64 ((n : Int) / 4096) 63 = (v : Int) := by rw [B6.and6 _ (by omega) (by omega), HV.out]; omega
            have HTV : Hid (∀ h : v < 64, B6.text[v]'h = B6.sign v) := Lib.hid (B6.text_at v)
            have HGE : Hid ((B6.enc s.data.toList)[1]? = some (B6.sign v)) := Lib.hid (by rw [HEN.out]; rw [HV.out]; rfl)
            go_wp2_with fail
            refine Calls.mono (writeByte_k B b (Lib.byteCells (bs ++ (B6.enc s.data.toList).take 1)) _ _ HBU.out (by have := HLE.out 1; omega) (Nat.le_trans hBw hbw.size)) ?_
            rintro e w3 ⟨rfl, hB3, hb3, hk3⟩
            have HB3 := Lib.hid hB3
            clear hB3
            go_wp2_with fail
            go_roundg (4 - (1 + 1))
            case measure => have := HG2.out; omega
            case rel => exact ⟨1 + 1, by omega, Lib.hid rfl, by simp, Lib.hid (Or.inr (by have h : Lib.BuilderAt 119 5 B b (.pointer (some ⟨b, 0, none⟩)) (Lib.byteCells (bs ++ (B6.enc s.data.toList).take 1) ++ [.int .u8 ((B6.text[v].toNat : Nat) : Int)]) w3 := HB3.out; rw [HTV.out] at h; rw [← B6.snoc bs _ 1 _ HGE.out]; exact h)), hbw.trans hb3, hkw.trans hk3⟩
          · by_cases hq : 2 ≤ s.size
            · have hqi : ¬ ((s.size : Int) < 2) := by omega
              obtain ⟨v, HV⟩ : ∃ v, Hid (v = n / 64 % 64) := ⟨_, Lib.hid rfl⟩
              have hv64 : v < 64 := by have := HV.out; omega
              have hand : bits BinOp.and IntKind.i64 ((n : Int) / 64) 63 = (v : Int) := by rw [B6.and6 _ (by omega) (by omega), HV.out]; omega
              have HTV : Hid (∀ h : v < 64, B6.text[v]'h = B6.sign v) := Lib.hid (B6.text_at v)
              have HGE : Hid ((B6.enc s.data.toList)[2]? = some (B6.sign v)) := Lib.hid (by rw [HEN.out]; rw [HV.out]; simp [hq])
              go_wp2_with fail
              refine Calls.mono (writeByte_k B b (Lib.byteCells (bs ++ (B6.enc s.data.toList).take 2)) _ _ HBU.out (by have := HLE.out 2; omega) (Nat.le_trans hBw hbw.size)) ?_
              rintro e w3 ⟨rfl, hB3, hb3, hk3⟩
              have HB3 := Lib.hid hB3
              clear hB3
              go_wp2_with fail
              go_roundg (4 - (2 + 1))
              case measure => have := HG2.out; omega
              case rel => exact ⟨2 + 1, by omega, Lib.hid rfl, by simp, Lib.hid (Or.inr (by have h : Lib.BuilderAt 119 5 B b (.pointer (some ⟨b, 0, none⟩)) (Lib.byteCells (bs ++ (B6.enc s.data.toList).take 2) ++ [.int .u8 ((B6.text[v].toNat : Nat) : Int)]) w3 := HB3.out; rw [HTV.out] at h; rw [← B6.snoc bs _ 2 _ HGE.out]; exact h)), hbw.trans hb3, hkw.trans hk3⟩
            · have hqi : (s.size : Int) < 2 := by omega
              have HGE : Hid ((B6.enc s.data.toList)[2]? = some (61)) := Lib.hid (by rw [HEN.out]; simp [hq])
              go_wp2_with fail
              refine Calls.mono (writeByte_k B b (Lib.byteCells (bs ++ (B6.enc s.data.toList).take 2)) _ _ HBU.out (by have := HLE.out 2; omega) (Nat.le_trans hBw hbw.size)) ?_
              rintro e w3 ⟨rfl, hB3, hb3, hk3⟩
              have HB3 := Lib.hid hB3
              clear hB3
              go_wp2_with fail
              go_roundg (4 - (2 + 1))
              case measure => have := HG2.out; omega
              case rel => exact ⟨2 + 1, by omega, Lib.hid rfl, by simp, Lib.hid (Or.inr (by have h := HB3.out; rw [← B6.snoc bs _ 2 _ HGE.out]; exact h)), hbw.trans hb3, hkw.trans hk3⟩
          · by_cases hq : 3 ≤ s.size
            · have hqi : ¬ ((s.size : Int) < 3) := by omega
              obtain ⟨v, HV⟩ : ∃ v, Hid (v = n % 64) := ⟨_, Lib.hid rfl⟩
              have hv64 : v < 64 := by have := HV.out; omega
              have hand : bits BinOp.and IntKind.i64 ((n : Int)) 63 = (v : Int) := by rw [B6.and6 _ (by omega) (by omega), HV.out]; omega
              have HTV : Hid (∀ h : v < 64, B6.text[v]'h = B6.sign v) := Lib.hid (B6.text_at v)
              have HGE : Hid ((B6.enc s.data.toList)[3]? = some (B6.sign v)) := Lib.hid (by rw [HEN.out]; rw [HV.out]; simp [hq])
              go_wp2_with fail
              refine Calls.mono (writeByte_k B b (Lib.byteCells (bs ++ (B6.enc s.data.toList).take 3)) _ _ HBU.out (by have := HLE.out 3; omega) (Nat.le_trans hBw hbw.size)) ?_
              rintro e w3 ⟨rfl, hB3, hb3, hk3⟩
              have HB3 := Lib.hid hB3
              clear hB3
              go_wp2_with fail
              go_roundg (4 - (3 + 1))
              case measure => have := HG2.out; omega
              case rel => exact ⟨3 + 1, by omega, Lib.hid rfl, by simp, Lib.hid (Or.inr (by have h : Lib.BuilderAt 119 5 B b (.pointer (some ⟨b, 0, none⟩)) (Lib.byteCells (bs ++ (B6.enc s.data.toList).take 3) ++ [.int .u8 ((B6.text[v].toNat : Nat) : Int)]) w3 := HB3.out; rw [HTV.out] at h; rw [← B6.snoc bs _ 3 _ HGE.out]; exact h)), hbw.trans hb3, hkw.trans hk3⟩
            · have hqi : (s.size : Int) < 3 := by omega
              have HGE : Hid ((B6.enc s.data.toList)[3]? = some (61)) := Lib.hid (by rw [HEN.out]; simp [hq])
              go_wp2_with fail
              refine Calls.mono (writeByte_k B b (Lib.byteCells (bs ++ (B6.enc s.data.toList).take 3)) _ _ HBU.out (by have := HLE.out 3; omega) (Nat.le_trans hBw hbw.size)) ?_
              rintro e w3 ⟨rfl, hB3, hb3, hk3⟩
              have HB3 := Lib.hid hB3
              clear hB3
              go_wp2_with fail
              go_roundg (4 - (3 + 1))
              case measure => have := HG2.out; omega
              case rel => exact ⟨3 + 1, by omega, Lib.hid rfl, by simp, Lib.hid (Or.inr (by have h := HB3.out; rw [← B6.snoc bs _ 3 _ HGE.out]; exact h)), hbw.trans hb3, hkw.trans hk3⟩
        · obtain rfl : j = 4 := by omega
          go_wp2_with fail
          go_end0
          refine ⟨rfl, ?_, hbw, hkw⟩
          have h := HBU.out
          rw [List.take_of_length_le (by rw [HEN.out]; simp)] at h
          exact h
end Go.Proofs.YtpjifcljkgcnlaaGreatDoor
