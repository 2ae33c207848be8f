/- The draws of bytes, of base64 texts, and of users with such a text. -/
import Derived.Test.YtjoohmokjliecaaUpPlain
import Derived.Test.YtjoohmokjliecaaUsDraw2
import Derived.Test.YtjoohmokjliecaaStDraw
import Derived.Deep.RegionHeld3
namespace Go.Proofs.Ytjoohmokjliecaa
set_option linter.unusedVariables false
open Go.RowKit
open Us (U)

set_option maxRecDepth 100000 in
set_option maxHeartbeats 3200000 in
theorem l91Bytes_any (w : World) (B b m : Nat) (hm : m ≤ 999990000) (h : Rd w B b m) :
    Calls Try.prog 124 #[.pointer (some ⟨b, 0, none⟩)] w (Dr.Str 40 80 w B b m) := by
  obtain ⟨i0, hi, hz0, hz1, hz2⟩ := info_parts byte_info
  have hbl := h.lt
  have H0 : Hid (B6.Own (w.alloc (.cells #[] 5)) w.heap.size (.slice (some ⟨w.heap.size, 0, none⟩) 0 0) []) := Lib.hid (ownL_nil w (Nat.le_refl _))
  have h0 := h.laid (.cells #[] 5)
  have HG0 := Lib.hid (grown_laid (grown_refl b w) (.cells #[] 5))
  have hs0 : w.heap.size ≤ (w.alloc (.cells #[] 5)).heap.size := by simp
  go_enter Try.func124, Try.ntmps124
  go_upto_region 2 with fail
  generalize w.alloc (.cells #[] 5) = w0 at H0 h0 HG0 hs0 ⊢
  go_wp2_with fail
  refine (pick_any _ (by omega) _ B b m (by omega) h0).mono ?_
  rintro e w1 ⟨r1, hr1, rfl, h1, hg1⟩
  have HO1 := Lib.hid (own_grown H0.out hg1 hbl)
  have HG1 := Lib.hid (grown_trans HG0.out hg1)
  go_wp2_with fail
  refine (pick_any _ (by omega) _ B b _ (by omega) h1).mono ?_
  rintro e w2 ⟨r2, hr2, rfl, h2, hg2⟩
  have HO2 := Lib.hid (own_grown HO1.out hg2 hbl)
  have HG2 := Lib.hid (grown_trans HG1.out hg2)
  by_cases hz : r2 = 0
  case' pos =>
    subst hz
    go_wp2_with fail
    refine (pick_any _ (by omega) _ B b _ (by omega) h2).mono ?_
    rintro e w3 ⟨r3, hr3, rfl, h3, hg3⟩
    obtain ⟨n, hn, hn33, h3'⟩ : ∃ n : Nat, (28 : Int) + (r3 : Int) = (n : Int) ∧ n ≤ 33 ∧ Rd w3 B b (m + 3) := ⟨28 + r3, by omega, by omega, h3.mono (by omega)⟩
    have HO3 := Lib.hid (own_grown HO2.out hg3 hbl)
    have HG3 := Lib.hid (grown_trans HG2.out hg3)
    have HN := Lib.hid hn
    clear hn
    go_upto_region 5 with fail
    rw [HN.out]
  case' neg =>
    have hz' : ((r2 : Int) == 0) = false := by simp; omega
    have hn33 : r1 ≤ 33 := by omega
    have h3' : Rd w2 B b (m + 3) := h2.mono (by omega)
    have HO3 := HO2
    have HG3 := HG2
    clear hr1
    generalize r1 = n at hn33 ⊢
    go_upto_region 5 with fail
  all_goals
    clear h1 h2 hg1 hg2 HO1 HO2 HG1 HG2 h0 H0 HG0
    go_wp2_with fail
    go_loopg [3, 5] n (fun g o i wr => ∃ (k : Nat) (A : Option Addr) (c : Nat) (l : List UInt8), k ≤ n ∧ Hid (g = n - k) ∧ i = .int .i64 (k : Int) ∧ o = .slice A l.length c ∧ Hid (l.length = k) ∧ Hid (B6.Own wr w.heap.size (.slice A l.length c) l) ∧ Rd wr B b (m + 3 + 2 * k) ∧ Hid (w.grownBy wr (some b)))
    case atStart => exact ⟨0, _, _, [], by omega, Lib.hid rfl, rfl, rfl, Lib.hid rfl, HO3, h3', HG3⟩
    case round =>
      obtain ⟨k, A, c, l, hk, HGG, rfl, rfl, HL, HO, hrd, HW⟩ := hrel
      by_cases hlt : k < n
      · go_wp2_with fail
        refine (pick_any _ (by omega) _ B b _ (by omega) hrd).mono ?_
        rintro e w5 ⟨x1, hx1, rfl, h5, hg5⟩
        go_wp2_with fail
        refine (pick_any _ (by omega) _ B b _ (by omega) h5).mono ?_
        rintro e w6 ⟨x2, hx2, rfl, h6, hg6⟩
        have HO6 := Lib.hid (own_grown (own_grown HO.out hg5 hbl) hg6 hbl)
        have HW6 := Lib.hid (grown_trans (grown_trans HW.out hg5) hg6)
        have h6l := h6.lt
        clear hrd h5 hg5 hg6
        obtain ⟨u, he⟩ : ∃ u : UInt8, IntKind.i64.wrap ((x1 : Int) * (x2 : Int)) = (u.toNat : Int) := by
          have h1 : x1 * x2 ≤ 15 * 17 := Nat.mul_le_mul (by omega) (by omega)
          refine ⟨UInt8.ofNat (x1 * x2), ?_⟩
          rw [← Int.natCast_mul, IntKind.wrap_i64, UInt8.toNat_ofNat']; omega
        have hu := B6.u8 u
        obtain ⟨l2, HL2⟩ : ∃ l2, Hid (l ++ [u] = l2) := ⟨_, Lib.hid rfl⟩
        have HM1 : Hid (l.length + 1 ≤ maxLen) := Lib.hid (by have := HL.out; unfold maxLen; omega)
        have HM2 : Hid ((l.length + 1) * 1 ≤ 140737488355328) := Lib.hid (by have := HL.out; omega)
        have HM3 : Hid (w.heap.size ≤ w6.heap.size) := Lib.hid HW6.out.size
        have HM4 : Hid (l2.length = k + 1) := Lib.hid (by rw [← HL2.out, List.length_append, HL.out]; rfl)
        go_wp2_with (at_builtin; refine wpList_snoc _ rfl (.tmp 20) (.tmp 27) _ rfl 5 i0 _ 1 1 Try.underlying48 hi hz0 hz1 hz2 rfl (by omega) B6.cell B6.cell_len B6.cell_one w.heap.size _ l u rfl HO6.out _ rfl rfl HM1.out HM2.out HM3.out ?_; intro v7 w7 hown7 hb7 hg7; rw [HL2.out] at hown7; obtain ⟨A7, c7, rfl, _, _⟩ := OwnL.form hown7; have HO7 := Lib.hid hown7; have HB7 := Lib.hid hb7; clear hown7 hg7 hb7)
        go_roundg (n - (k + 1))
        case measure => have := HGG.out; omega
        case rel => exact ⟨k + 1, _, _, l2, by omega, Lib.hid rfl, by go_num, rfl, HM4, HO7, (h6.base HB7.out hbl).mono (by omega), Lib.hid (grown_base HW6.out HB7.out)⟩
      · have HCV : Hid ((convert 48 9 (.slice A l.length c)).run Try.prog wr = .ok (.string ⟨l.toArray⟩) wr) := Lib.hid (B6.conv HO.out)
        have hcv := HCV.out
        have hl40 : (ByteArray.mk l.toArray).size ≤ 40 := by show l.toArray.size ≤ 40; have := HL.out; simp; omega
        go_wp2_with fail
        go_ret
        exact ⟨_, hl40, rfl, hrd.mono (by omega), HW.out⟩
end Go.Proofs.Ytjoohmokjliecaa
