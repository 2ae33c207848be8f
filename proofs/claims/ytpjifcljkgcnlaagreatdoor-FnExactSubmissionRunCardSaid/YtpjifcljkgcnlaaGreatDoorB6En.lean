/- l2Encode of the specification. -/
import Derived.Test.YtpjifcljkgcnlaaGreatDoorB6S
import Derived.Test.YtpjifcljkgcnlaaGreatDoorRx
import Derived.Test.YtpjifcljkgcnlaaGreatDoorKt
import Derived.Lib.AppendStr
import Derived.Lib.Slices
import Derived.Lib.Strings
namespace Go.Proofs.YtpjifcljkgcnlaaGreatDoor
set_option linter.unusedVariables false
open Go.RowKit

theorem l2Letter_int (z : Int) (v : Nat) (hz : z = (v : Int)) (h : v < 64) (w : World) :
    Calls Tryz.prog 103 #[.int .i64 z] w fun e w' => e = .returned (.int .u8 ((B6.sign v).toNat : Int)) ∧ w' = w := by
  subst hz
  exact l2Letter_any v h w

def B6.cell (b : UInt8) : List Value := [.int .u8 (b.toNat : Int)]
theorem B6.cell_len (b : UInt8) : (B6.cell b).length = 1 := rfl
theorem B6.cell_one (b : UInt8) : ∀ v ∈ B6.cell b, v.oneCell' = true := by intro v hv; simp [B6.cell] at hv; subst hv; rfl
abbrev B6.Own (w : World) (B : Nat) (v : Value) (l : List UInt8) : Prop := OwnL 5 1 B6.cell w B v l

theorem B6.at_size {s : ByteArray} {k : Nat} (h : k < s.size) : s.data.toList[k]? = some (s[k]'h) := by
  rw [Array.getElem?_toList, Array.getElem?_eq_getElem h]; rfl
theorem B6.drop_cons {s : ByteArray} {k : Nat} (h : k < s.size) : s.data.toList.drop k = (s[k]'h) :: s.data.toList.drop (k + 1) := by
  have hl : k < s.data.toList.length := by simpa using h
  rw [List.drop_eq_getElem_cons hl]; rfl
theorem B6.drop_nil {s : ByteArray} {k : Nat} (h : s.size ≤ k) : s.data.toList.drop k = [] := List.drop_eq_nil_of_le (by simpa using h)

theorem B6.set1 (l : List UInt8) (a b c d e : UInt8) : (l ++ [a, b, c, d]).set ((l ++ [a, b, c, d]).length - 1) e = l ++ [a, b, c, e] := by
  have : (l ++ [a, b, c, d]).length - 1 = l.length + 3 := by simp
  rw [this, List.set_append_right _ _ (by omega)]
  simp
theorem B6.set2 (l : List UInt8) (a b c d e : UInt8) : (l ++ [a, b, c, d]).set ((l ++ [a, b, c, d]).length - 2) e = l ++ [a, b, e, d] := by
  have : (l ++ [a, b, c, d]).length - 2 = l.length + 2 := by simp
  rw [this, List.set_append_right _ _ (by omega)]
  simp
theorem B6.set12 (l : List UInt8) (a b c d e f : UInt8) : ((l ++ [a, b, c, d]).set ((l ++ [a, b, c, d]).length - 2) e).set ((l ++ [a, b, c, d]).length - 1) f = l ++ [a, b, e, f] := by
  rw [B6.set2]
  have : (l ++ [a, b, c, d]).length = (l ++ [a, b, e, d]).length := by simp
  rw [this, B6.set1]
set_option maxRecDepth 100000 in
/-- string(out) -/
theorem B6.conv {w : World} {B : Nat} {A : Option Addr} {c : Nat} {l : List UInt8} (h : B6.Own w B (.slice A l.length c) l) :
    (convert 77 9 (.slice A l.length c)).run Tryz.prog w = .ok (.string ⟨l.toArray⟩) w := by
  by_cases hl : 0 < l.length
  · obtain ⟨g, cc, e, _, _⟩ := OwnL.form' h hl
    injection e with e1 _ e2
    subst e1; subst e2
    refine run_convert_bytes_back _ 77 9 5 ⟨g, 0, none⟩ c l Tryz.underlying77 Tryz.underlying5 Tryz.underlying9 fun j hj => ?_
    have := own_cell (i := j) (j := 0) B6.cell_len h (List.getElem?_eq_getElem hj) rfl
    rw [add_none]
    simpa using this
  · obtain rfl : l = [] := List.eq_nil_of_length_eq_zero (by omega)
    rcases h.2 with ⟨hv, _⟩ | ⟨g, cap, cur, hv, _⟩
    · rw [hv]
      exact Lib.run_convert_nil_bytes w 77 9 5 0 Tryz.underlying77 Tryz.underlying5 Tryz.underlying9
    · rw [hv]
      exact run_convert_bytes_back _ 77 9 5 ⟨g, 0, none⟩ cap [] Tryz.underlying77 Tryz.underlying5 Tryz.underlying9 fun j hj => absurd hj (by simp)

set_option maxRecDepth 100000 in
set_option maxHeartbeats 3200000 in
theorem l2Encode_any (s : ByteArray) (hs : s.size ≤ 100) (w : World) :
    Calls Tryz.prog 91 #[.string s] w fun e w' => e = .returned (.string ⟨(B6.enc s.data.toList).toArray⟩) ∧ Below w.heap.size w w' := by
  obtain ⟨i0, hi, hz0, hz1, hz2⟩ := info_parts byte_info
  have HEL : Hid ((B6.enc s.data.toList).length ≤ 200) := Lib.hid (by
    have : s.data.toList.length = s.size := Array.length_toList
    rw [B6.enc_len, this]; omega)
  have H0 : Hid (B6.Own (w.alloc (.cells #[] 5)) w.heap.size (.slice (some ⟨w.heap.size, 0, none⟩) 0 0) []) := Lib.hid (ownL_nil w (Nat.le_refl _))
  have hB0 : Below w.heap.size w (w.alloc (.cells #[] 5)) := (Below.refl _ _).alloc (Nat.le_refl _) _
  go_enter Tryz.func91, Tryz.ntmps91
  go_wp2_with fail
  go_loopg [3, 4] (s.size + 3) (fun g o i wr => ∃ (k : Nat) (A : Option Addr) (c : Nat) (l : List UInt8), k ≤ s.size + 2 ∧ Hid (g = s.size + 3 - k) ∧ i = .int .i64 (k : Int) ∧ o = .slice A l.length c ∧ Hid (B6.Own wr w.heap.size (.slice A l.length c) l) ∧ Hid (l ++ B6.enc (s.data.toList.drop k) = B6.enc s.data.toList) ∧ Below w.heap.size w wr)
  case atStart => exact ⟨0, _, _, [], by omega, Lib.hid rfl, rfl, rfl, H0, Lib.hid (by simp), hB0⟩
  case round =>
    obtain ⟨k, A, c, l, hk, HG, rfl, rfl, HO, HE, hb⟩ := hrel
    by_cases hlt : k < s.size
    · by_cases h3 : k + 2 < s.size
      · have h2 : k + 1 < s.size := by omega
        have h2i : (k : Int) + 1 < (s.size : Int) := by omega
        have h3i : (k : Int) + 2 < (s.size : Int) := by omega
        obtain ⟨a, ha⟩ : ∃ a, s[k]'hlt = a := ⟨_, rfl⟩
        obtain ⟨b, hbb⟩ : ∃ b, s[k + 1]'h2 = b := ⟨_, rfl⟩
        obtain ⟨d, hd⟩ : ∃ d, s[k + 2]'h3 = d := ⟨_, rfl⟩
        have ba := B6.u8 a
        have bb := B6.u8 b
        have bd := B6.u8 d
        have HN2 : Hid (l ++ [B6.sign (B6.num a b d / 262144), B6.sign (B6.num a b d / 4096 % 64), B6.sign (B6.num a b d / 64 % 64), B6.sign (B6.num a b d % 64)] ++ B6.enc (s.data.toList.drop (k + 3)) = B6.enc s.data.toList) := Lib.hid (by
          rw [← HE.out, B6.drop_cons hlt, B6.drop_cons h2, B6.drop_cons h3, ha, hbb, hd]
          simp only [B6.enc, List.append_assoc])
        have hbn : B6.num a b d < 16777216 := B6.num_lt _ _ _
        have hnn : 65536 * (a.toNat : Int) + 256 * (b.toNat : Int) + (d.toNat : Int) = ((B6.num a b d : Nat) : Int) := by unfold B6.num; omega
        have HNN := Lib.hid hnn
        clear hnn
        have hll : l.length + 4 ≤ 200 := by
          have e := congrArg List.length HN2.out
          simp only [List.length_append, List.length_cons, List.length_nil] at e
          have := HEL.out
          omega
        generalize B6.num a b d = n at HN2 hbn HNN
        have HM1 : Hid (l.length + 4 ≤ maxLen) := Lib.hid (by unfold maxLen; omega)
        have HM2 : Hid ((l.length + 4) * 1 ≤ 140737488355328) := Lib.hid (by omega)
        have hbs := hb.size
        have HOA : Hid (∀ cs, B6.Own (wr.alloc (.cells cs 5)) w.heap.size (.slice A l.length c) l) := Lib.hid fun cs => OwnL.alloc HO.out _
        have HAT : Hid (At (wr.alloc (.cells #[.int .u8 ((B6.sign (n / 262144)).toNat : Int), .int .u8 ((B6.sign (n / 4096 % 64)).toNat : Int), .int .u8 ((B6.sign (n / 64 % 64)).toNat : Int), .int .u8 ((B6.sign (n % 64)).toNat : Int)] 5)) (wr.heap.size + 1) 1 B6.cell (some ⟨wr.heap.size, 0, none⟩) [B6.sign (n / 262144), B6.sign (n / 4096 % 64), B6.sign (n / 64 % 64), B6.sign (n % 64)]) := Lib.hid (at_lit B6.cell_len (heap_alloc_new wr _) rfl (by omega))
        have HBO : Hid (w.heap.size ≤ (wr.alloc (.cells #[.int .u8 ((B6.sign (n / 262144)).toNat : Int), .int .u8 ((B6.sign (n / 4096 % 64)).toNat : Int), .int .u8 ((B6.sign (n / 64 % 64)).toNat : Int), .int .u8 ((B6.sign (n % 64)).toNat : Int)] 5)).heap.size) := Lib.hid (by simp; omega)
        obtain ⟨l2, HL2⟩ : ∃ l2, Hid (l ++ [B6.sign (n / 262144), B6.sign (n / 4096 % 64), B6.sign (n / 64 % 64), B6.sign (n % 64)] = l2) := ⟨_, Lib.hid rfl⟩
        have hm1 : 4 ≤ l2.length := by rw [← HL2.out]; simp
        have hm2 : l2.length ≤ 200 := by rw [← HL2.out]; simpa using hll
        go_wp2_with fail
        refine (l2Letter_int _ (n / 262144) (by have := HNN.out; omega) (by omega) _).mono ?_
        rintro e w1 ⟨rfl, rfl⟩
        go_wp2_with fail
        refine (l2Letter_int _ (n / 4096 % 64) (by have := HNN.out; omega) (by omega) _).mono ?_
        rintro e w2 ⟨rfl, rfl⟩
        go_wp2_with fail
        refine (l2Letter_int _ (n / 64 % 64) (by have := HNN.out; omega) (by omega) _).mono ?_
        rintro e w3 ⟨rfl, rfl⟩
        go_wp2_with fail
        refine (l2Letter_int _ (n % 64) (by have := HNN.out; omega) (by omega) _).mono ?_
        rintro e w4 ⟨rfl, rfl⟩
        go_wp2_with (at_builtin; refine wpList_join _ rfl (.tmp 43) (.tmp 58) _ rfl 5 i0 _ 1 1 Tryz.underlying77 hi hz0 hz1 hz2 rfl (by omega) B6.cell B6.cell_len B6.cell_one w.heap.size _ l rfl (HOA.out _) _ _ _ 4 4 rfl rfl HAT.out HM1.out HM2.out HBO.out ?_; (intro v5 w5 hown5 hb5 hg5; rw [HL2.out] at hown5; obtain ⟨g, cc, rfl, hgb, hgc⟩ := OwnL.form' hown5 (by omega); have HO5 := Lib.hid hown5; have HB5 := Lib.hid hb5; clear hown5 hg5 hb5))
        have hbb5 : Below w.heap.size w w5 := (hb.alloc hbs _).trans HB5.out
        go_roundg (s.size + 3 - (k + 3))
        case measure => have := HG.out; omega
        case rel => exact ⟨k + 3, _, _, l2, by omega, Lib.hid rfl, by go_num, rfl, HO5, Lib.hid (by rw [← HL2.out]; exact HN2.out), hbb5⟩
      · by_cases h2 : k + 1 < s.size
        · have h2i : (k : Int) + 1 < (s.size : Int) := by omega
          have h3i : ¬ (k : Int) + 2 < (s.size : Int) := by omega
          obtain ⟨a, ha⟩ : ∃ a, s[k]'hlt = a := ⟨_, rfl⟩
          obtain ⟨b, hbb⟩ : ∃ b, s[k + 1]'h2 = b := ⟨_, rfl⟩
          have ba := B6.u8 a
          have bb := B6.u8 b
          have HN2 : Hid (l ++ [B6.sign (B6.num a b 0 / 262144), B6.sign (B6.num a b 0 / 4096 % 64), B6.sign (B6.num a b 0 / 64 % 64), 61] ++ B6.enc (s.data.toList.drop (k + 3)) = B6.enc s.data.toList) := Lib.hid (by
            rw [← HE.out, B6.drop_cons hlt, B6.drop_cons h2, B6.drop_nil (k := k + 1 + 1) (by omega), ha, hbb]
            rw [B6.drop_nil (k := k + 3) (by omega)]
            simp only [B6.enc, List.append_nil])
          have hbn : B6.num a b 0 < 16777216 := B6.num_lt _ _ _
          have hnn : 65536 * (a.toNat : Int) + 256 * (b.toNat : Int) = ((B6.num a b 0 : Nat) : Int) := by unfold B6.num; have : (0 : UInt8).toNat = 0 := rfl; omega
          have HNN := Lib.hid hnn
          clear hnn
          have hll : l.length + 4 ≤ 200 := by
            have e := congrArg List.length HN2.out
            simp only [List.length_append, List.length_cons, List.length_nil] at e
            have := HEL.out
            omega
          generalize B6.num a b 0 = n at HN2 hbn HNN
          have HM1 : Hid (l.length + 4 ≤ maxLen) := Lib.hid (by unfold maxLen; omega)
          have HM2 : Hid ((l.length + 4) * 1 ≤ 140737488355328) := Lib.hid (by omega)
          have hbs := hb.size
          have HOA : Hid (∀ cs, B6.Own (wr.alloc (.cells cs 5)) w.heap.size (.slice A l.length c) l) := Lib.hid fun cs => OwnL.alloc HO.out _
          have HAT : Hid (At (wr.alloc (.cells #[.int .u8 ((B6.sign (n / 262144)).toNat : Int), .int .u8 ((B6.sign (n / 4096 % 64)).toNat : Int), .int .u8 ((B6.sign (n / 64 % 64)).toNat : Int), .int .u8 ((B6.sign (n % 64)).toNat : Int)] 5)) (wr.heap.size + 1) 1 B6.cell (some ⟨wr.heap.size, 0, none⟩) [B6.sign (n / 262144), B6.sign (n / 4096 % 64), B6.sign (n / 64 % 64), B6.sign (n % 64)]) := Lib.hid (at_lit B6.cell_len (heap_alloc_new wr _) rfl (by omega))
          have HBO : Hid (w.heap.size ≤ (wr.alloc (.cells #[.int .u8 ((B6.sign (n / 262144)).toNat : Int), .int .u8 ((B6.sign (n / 4096 % 64)).toNat : Int), .int .u8 ((B6.sign (n / 64 % 64)).toNat : Int), .int .u8 ((B6.sign (n % 64)).toNat : Int)] 5)).heap.size) := Lib.hid (by simp; omega)
          obtain ⟨l2, HL2⟩ : ∃ l2, Hid (l ++ [B6.sign (n / 262144), B6.sign (n / 4096 % 64), B6.sign (n / 64 % 64), B6.sign (n % 64)] = l2) := ⟨_, Lib.hid rfl⟩
          have hm1 : 4 ≤ l2.length := by rw [← HL2.out]; simp
          have hm2 : l2.length ≤ 200 := by rw [← HL2.out]; simpa using hll
          go_wp2_with fail
          refine (l2Letter_int _ (n / 262144) (by have := HNN.out; omega) (by omega) _).mono ?_
          rintro e w1 ⟨rfl, rfl⟩
          go_wp2_with fail
          refine (l2Letter_int _ (n / 4096 % 64) (by have := HNN.out; omega) (by omega) _).mono ?_
          rintro e w2 ⟨rfl, rfl⟩
          go_wp2_with fail
          refine (l2Letter_int _ (n / 64 % 64) (by have := HNN.out; omega) (by omega) _).mono ?_
          rintro e w3 ⟨rfl, rfl⟩
          go_wp2_with fail
          refine (l2Letter_int _ (n % 64) (by have := HNN.out; omega) (by omega) _).mono ?_
          rintro e w4 ⟨rfl, rfl⟩
          go_wp2_with (at_builtin; refine wpList_join _ rfl (.tmp 43) (.tmp 58) _ rfl 5 i0 _ 1 1 Tryz.underlying77 hi hz0 hz1 hz2 rfl (by omega) B6.cell B6.cell_len B6.cell_one w.heap.size _ l rfl (HOA.out _) _ _ _ 4 4 rfl rfl HAT.out HM1.out HM2.out HBO.out ?_; (intro v5 w5 hown5 hb5 hg5; rw [HL2.out] at hown5; obtain ⟨g, cc, rfl, hgb, hgc⟩ := OwnL.form' hown5 (by omega); obtain ⟨x1, hx1⟩ : ∃ x, (l2)[l2.length - 1]? = some x := ⟨_, List.getElem?_eq_getElem (by omega)⟩; have e1 : World.cell? w5 ⟨g, l2.length - 1, none⟩ = some (.int .u8 (x1.toNat : Int)) := (by simpa using own_cell (i := l2.length - 1) (j := 0) B6.cell_len hown5 hx1 rfl); have f1 : World.frozen? w5 ⟨g, l2.length - 1, none⟩ = false := World.ownsRow.frozenAt hown5 _; have HO6 := Lib.hid (own_set (i := l2.length - 1) (j := 0) (u' := 61) (v := .int .u8 61) B6.cell_len hown5 hx1 (by omega) rfl); clear hx1; have HO5 := Lib.hid hown5; have HB5 := Lib.hid hb5; clear hown5 hg5 hb5))
          have hbb5 : Below w.heap.size w w5 := (hb.alloc hbs _).trans HB5.out
          have HO7 : Hid (B6.Own (w5.setCell ⟨g, l2.length - 1, none⟩ (.int .u8 61)) w.heap.size (.slice (some ⟨g, 0, none⟩) l2.length cc) (l2.set (l2.length - 1) 61)) := Lib.hid (by
            have h6 := HO6.out
            rw [Nat.mul_one, Nat.add_zero] at h6
            unfold B6.Own OwnL
            rw [List.length_set]
            exact h6)
          have HN3 : Hid (l2.set (l2.length - 1) 61 ++ B6.enc (s.data.toList.drop (k + 3)) = B6.enc s.data.toList) := Lib.hid (by rw [← HL2.out, B6.set1]; exact HN2.out)
          have hl3 : (l2.set (l2.length - 1) 61).length = l2.length := by simp
          have HL3 := Lib.hid hl3
          clear hl3
          go_roundg (s.size + 3 - (k + 3))
          case measure => have := HG.out; omega
          case rel => exact ⟨k + 3, _, _, l2.set (l2.length - 1) 61, by omega, Lib.hid rfl, by go_num, by rw [HL3.out], Lib.hid (by rw [HL3.out]; exact HO7.out), HN3, hbb5.setCell (p := ⟨g, _, none⟩) hgb _⟩
        · have h3i : ¬ (k : Int) + 2 < (s.size : Int) := by omega
          have h2i : ¬ (k : Int) + 1 < (s.size : Int) := by omega
          obtain ⟨a, ha⟩ : ∃ a, s[k]'hlt = a := ⟨_, rfl⟩
          have ba := B6.u8 a
          have HN2 : Hid (l ++ [B6.sign (B6.num a 0 0 / 262144), B6.sign (B6.num a 0 0 / 4096 % 64), 61, 61] ++ B6.enc (s.data.toList.drop (k + 3)) = B6.enc s.data.toList) := Lib.hid (by
            rw [← HE.out, B6.drop_cons hlt, B6.drop_nil (k := k + 1) (by omega), ha]
            rw [B6.drop_nil (k := k + 3) (by omega)]
            simp only [B6.enc, List.append_nil])
          have hbn : B6.num a 0 0 < 16777216 := B6.num_lt _ _ _
          have hnn : 65536 * (a.toNat : Int) = ((B6.num a 0 0 : Nat) : Int) := by unfold B6.num; have : (0 : UInt8).toNat = 0 := rfl; omega
          have HNN := Lib.hid hnn
          clear hnn
          have hll : l.length + 4 ≤ 200 := by
            have e := congrArg List.length HN2.out
            simp only [List.length_append, List.length_cons, List.length_nil] at e
            have := HEL.out
            omega
          generalize B6.num a 0 0 = n at HN2 hbn HNN
          have HM1 : Hid (l.length + 4 ≤ maxLen) := Lib.hid (by unfold maxLen; omega)
          have HM2 : Hid ((l.length + 4) * 1 ≤ 140737488355328) := Lib.hid (by omega)
          have hbs := hb.size
          have HOA : Hid (∀ cs, B6.Own (wr.alloc (.cells cs 5)) w.heap.size (.slice A l.length c) l) := Lib.hid fun cs => OwnL.alloc HO.out _
          have HAT : Hid (At (wr.alloc (.cells #[.int .u8 ((B6.sign (n / 262144)).toNat : Int), .int .u8 ((B6.sign (n / 4096 % 64)).toNat : Int), .int .u8 ((B6.sign (n / 64 % 64)).toNat : Int), .int .u8 ((B6.sign (n % 64)).toNat : Int)] 5)) (wr.heap.size + 1) 1 B6.cell (some ⟨wr.heap.size, 0, none⟩) [B6.sign (n / 262144), B6.sign (n / 4096 % 64), B6.sign (n / 64 % 64), B6.sign (n % 64)]) := Lib.hid (at_lit B6.cell_len (heap_alloc_new wr _) rfl (by omega))
          have HBO : Hid (w.heap.size ≤ (wr.alloc (.cells #[.int .u8 ((B6.sign (n / 262144)).toNat : Int), .int .u8 ((B6.sign (n / 4096 % 64)).toNat : Int), .int .u8 ((B6.sign (n / 64 % 64)).toNat : Int), .int .u8 ((B6.sign (n % 64)).toNat : Int)] 5)).heap.size) := Lib.hid (by simp; omega)
          obtain ⟨l2, HL2⟩ : ∃ l2, Hid (l ++ [B6.sign (n / 262144), B6.sign (n / 4096 % 64), B6.sign (n / 64 % 64), B6.sign (n % 64)] = l2) := ⟨_, Lib.hid rfl⟩
          have hm1 : 4 ≤ l2.length := by rw [← HL2.out]; simp
          have hm2 : l2.length ≤ 200 := by rw [← HL2.out]; simpa using hll
          go_wp2_with fail
          refine (l2Letter_int _ (n / 262144) (by have := HNN.out; omega) (by omega) _).mono ?_
          rintro e w1 ⟨rfl, rfl⟩
          go_wp2_with fail
          refine (l2Letter_int _ (n / 4096 % 64) (by have := HNN.out; omega) (by omega) _).mono ?_
          rintro e w2 ⟨rfl, rfl⟩
          go_wp2_with fail
          refine (l2Letter_int _ (n / 64 % 64) (by have := HNN.out; omega) (by omega) _).mono ?_
          rintro e w3 ⟨rfl, rfl⟩
          go_wp2_with fail
          refine (l2Letter_int _ (n % 64) (by have := HNN.out; omega) (by omega) _).mono ?_
          rintro e w4 ⟨rfl, rfl⟩
          go_wp2_with (at_builtin; refine wpList_join _ rfl (.tmp 43) (.tmp 58) _ rfl 5 i0 _ 1 1 Tryz.underlying77 hi hz0 hz1 hz2 rfl (by omega) B6.cell B6.cell_len B6.cell_one w.heap.size _ l rfl (HOA.out _) _ _ _ 4 4 rfl rfl HAT.out HM1.out HM2.out HBO.out ?_; (intro v5 w5 hown5 hb5 hg5; rw [HL2.out] at hown5; obtain ⟨g, cc, rfl, hgb, hgc⟩ := OwnL.form' hown5 (by omega); obtain ⟨x2, hx2⟩ : ∃ x, l2[l2.length - 2]? = some x := ⟨_, List.getElem?_eq_getElem (by omega)⟩; have e2 : w5.cell? ⟨g, l2.length - 2, none⟩ = some (.int .u8 (x2.toNat : Int)) := (by simpa using own_cell (i := l2.length - 2) (j := 0) B6.cell_len hown5 hx2 rfl); have f2 : w5.frozen? ⟨g, l2.length - 2, none⟩ = false := World.ownsRow.frozenAt hown5 _; have ho6 := own_set (i := l2.length - 2) (j := 0) (u' := 61) (v := .int .u8 61) B6.cell_len hown5 hx2 (by omega) rfl; clear hx2; rw [Nat.mul_one, Nat.add_zero] at ho6; obtain ⟨x1, hx1⟩ : ∃ x, (l2.set (l2.length - 2) 61)[l2.length - 1]? = some x := ⟨_, List.getElem?_eq_getElem (by rw [List.length_set]; omega)⟩; have e1 : World.cell? (w5.setCell ⟨g, l2.length - 2, none⟩ (.int .u8 61)) ⟨g, l2.length - 1, none⟩ = some (.int .u8 (x1.toNat : Int)) := (by simpa using own_cell (i := l2.length - 1) (j := 0) B6.cell_len ho6 hx1 rfl); have f1 : World.frozen? (w5.setCell ⟨g, l2.length - 2, none⟩ (.int .u8 61)) ⟨g, l2.length - 1, none⟩ = false := World.ownsRow.frozenAt ho6 _; have HO6 := Lib.hid (own_set (i := l2.length - 1) (j := 0) (u' := 61) (v := .int .u8 61) B6.cell_len ho6 hx1 (by omega) rfl); clear hx1; have HO5 := Lib.hid hown5; have HB5 := Lib.hid hb5; clear hown5 hg5 hb5))
          have hbb5 : Below w.heap.size w w5 := (hb.alloc hbs _).trans HB5.out
          have HO7 : Hid (B6.Own ((w5.setCell ⟨g, l2.length - 2, none⟩ (.int .u8 61)).setCell ⟨g, l2.length - 1, none⟩ (.int .u8 61)) w.heap.size (.slice (some ⟨g, 0, none⟩) l2.length cc) ((l2.set (l2.length - 2) 61).set (l2.length - 1) 61)) := Lib.hid (by
            have h6 := HO6.out
            rw [Nat.mul_one, Nat.add_zero] at h6
            unfold B6.Own OwnL
            rw [List.length_set, List.length_set]
            exact h6)
          have HN3 : Hid ((l2.set (l2.length - 2) 61).set (l2.length - 1) 61 ++ B6.enc (s.data.toList.drop (k + 3)) = B6.enc s.data.toList) := Lib.hid (by rw [← HL2.out, B6.set12]; exact HN2.out)
          have hl3 : ((l2.set (l2.length - 2) 61).set (l2.length - 1) 61).length = l2.length := by simp
          have HL3 := Lib.hid hl3
          clear hl3
          go_roundg (s.size + 3 - (k + 3))
          case measure => have := HG.out; omega
          case rel => exact ⟨k + 3, _, _, (l2.set (l2.length - 2) 61).set (l2.length - 1) 61, by omega, Lib.hid rfl, by go_num, by rw [HL3.out], Lib.hid (by rw [HL3.out]; exact HO7.out), HN3, (hbb5.setCell (p := ⟨g, _, none⟩) hgb _).setCell (p := ⟨g, _, none⟩) hgb _⟩
    · have HC : Hid (l = B6.enc s.data.toList) := Lib.hid (by have := HE.out; rw [B6.drop_nil (by omega)] at this; simpa [B6.enc] using this)
      have HCV : Hid ((convert 77 9 (.slice A l.length c)).run Tryz.prog wr = .ok (.string ⟨l.toArray⟩) wr) := Lib.hid (B6.conv HO.out)
      have hcv := HCV.out
      go_wp2_with fail
      go_ret
      exact ⟨congrArg (fun x : List UInt8 => Ending.returned (.string ⟨x.toArray⟩)) HC.out, hb⟩
end Go.Proofs.YtpjifcljkgcnlaaGreatDoor
