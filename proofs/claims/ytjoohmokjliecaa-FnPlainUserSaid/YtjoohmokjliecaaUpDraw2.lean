/- The draws of base64 texts, and of users with such a text. -/
import Derived.Test.YtjoohmokjliecaaUpDraw
namespace Go.Proofs.Ytjoohmokjliecaa
set_option linter.unusedVariables false
open Go.RowKit
open Us (U)

theorem bytes_below {w w' : World} {a : Option Addr} {len cap : Nat} (h : Bytes w a len cap) (hb : Below w.heap.size w w') : Bytes w' a len cap := by
  obtain ⟨h1, h2, h3⟩ := h
  refine ⟨h1, h2, fun hl => ?_⟩
  obtain ⟨ab, off, ha, hlt, hc⟩ := h3 hl
  refine ⟨ab, off, ha, Nat.lt_of_lt_of_le hlt hb.size, fun j hj => ?_⟩
  obtain ⟨v, hv, hcell⟩ := hc j hj
  exact ⟨v, hv, by rw [hb.cell (p := ⟨ab, off + j, none⟩) hlt]; exact hcell⟩
theorem B6.encode_size (s : ByteArray) : (B6.encode s).size ≤ 40 := by
  unfold B6.encode
  split
  · show (0 : Nat) ≤ 40; omega
  · show (B6.enc s.data.toList).toArray.size ≤ 40
    have : s.data.toList.length = s.size := Array.length_toList
    rw [List.size_toArray, B6.enc_len]; omega

theorem below_drew' {B : Nat} {a w : World} (h : Below B a w) : Below B a w.drew := ⟨h.os, h.tape, h.output, h.size, h.block⟩
/-- a text that was drawn -/
def Up.Text (w : World) (e : Ending) (w' : World) : Prop := ∃ t : ByteArray, t.size ≤ 200 ∧ e = .returned (.string t) ∧ Below w.heap.size w w'

set_option maxRecDepth 100000 in
set_option maxHeartbeats 3200000 in
theorem drawBase64Decode_any (a : Option Addr) (len cap : Nat) (w : World) (h : Bytes w a len cap) :
    Calls Try.prog 106 #[.slice a len cap] w (Up.Text w) := by
  go_enter Try.func106, Try.ntmps106
  go_wp2_with fail
  refine (l6Open_any a len cap _ h).mono ?_
  rintro e w1 ⟨rfl, h1, hb1⟩
  go_wp2_with fail
  refine (l91Bytes_any _ _ _ _ (by omega) h1).mono ?_
  rintro e w2 ⟨s, hs, rfl, h2, hg2⟩
  have hB2 := hb1.trans (grown_to_below hg2 (Nat.le_refl _) hb1.size)
  go_wp2_with fail
  refine (sB64Encode_any s _).mono ?_
  rintro e w3 ⟨rfl, hb3⟩
  have hB3 := hB2.trans (hb3.mono hB2.size)
  have h3 := h2.below hb3
  have hsz := B6.encode_size s
  generalize B6.encode s = t at hsz ⊢
  clear h1 h2 hg2 hb1 hb3
  by_cases ht : t.size = 0
  · have hte : t.toList.isEmpty = true := by
      have hl : t.data.toList.length = t.size := Array.length_toList
      rw [Go.ByteArray.toList_eq, List.isEmpty_iff]
      exact List.eq_nil_of_length_eq_zero (by omega)
    have hq0 : t.toList = [] := List.isEmpty_iff.1 hte
    have hte2 : (!t.toList.isEmpty) = false := by rw [hte]; rfl
    clear hq0
    go_wp2_with fail
    refine Calls.mono (of_any (fun s => decide (s.size ≤ 9) = true) 9 _ (by omega) _ _ _ _ (by omega) (by have := h3.lt; omega) (h3.laid _) (laid_of (fun s => decide (s.size ≤ 9)) _ _ _ 9 rfl (by decide))) ?_
    rintro e w4 ⟨x, hx, rfl, h4, hg4⟩
    go_wp2_with fail
    go_ret
    refine ⟨x, by have : x.size ≤ 9 := by simpa using hx
                  omega, rfl, ?_⟩
    exact hB3.trans (grown_to_below (grown_trans (grown_laid (grown_refl _ _) _) hg4) (Nat.le_refl _) hB3.size)
  · have hte : t.toList.isEmpty = false := by
      have hl : t.data.toList.length = t.size := Array.length_toList
      rw [Go.ByteArray.toList_eq]
      cases hq : t.data.toList with
      | nil => rw [hq] at hl; simp at hl; omega
      | cons a l => rfl
    have hte2 : (!t.toList.isEmpty) = true := by rw [hte]; rfl
    go_wp2_with fail
    refine (pick_any _ (by omega) _ _ _ _ (by omega) h3).mono ?_
    rintro e w4 ⟨k, hk, rfl, h4, hg4⟩
    have hB4 := hB3.trans (grown_to_below hg4 (Nat.le_refl _) hB3.size)
    go_wp2_with fail
    refine (pick_any _ (by omega) _ _ _ _ (by omega) h4).mono ?_
    rintro e w5 ⟨r, hr, rfl, h5, hg5⟩
    have hB5 := hB4.trans (grown_to_below hg5 (Nat.le_refl _) hB4.size)
    clear h3 h4 hg4 hg5
    by_cases r0 : r = 0
    · subst r0
      go_wp2_with fail
      go_ret
      refine ⟨_, ?_, rfl, hB5⟩
      rw [ByteArray.size_extract]; omega
    · have r0' : ((r : Int) == 0) = false := by simp; omega
      by_cases r1 : r = 1
      · subst r1
        have hw1 : IntKind.i64.wrap ((k : Int) + 1) = (k : Int) + 1 := IntWalk.i64_in _ (by omega)
        have hw2 : (0 : Int) ≤ (k : Int) + 1 := by omega
        have hw5 : (0 : Int) ≤ (k : Int) := by omega
        have hw6 : (k : Int) ≤ (t.size : Int) := by omega
        have hw3 : ((k : Int) + 1).toNat = k + 1 := by omega
        have hw4 : (k : Int) + 1 ≤ (t.size : Int) := by omega
        go_upto_region 10 with fail
        have h5d : Rd w5.drew w.heap.size w.heap.size (0 + 80 + 1 + 1) := h5
        have hx5 := h5.lt
        have hB5d : Below w.heap.size w w5.drew := below_drew' hB5
        go_region_held3 (fun w' => True) (first | trivial | exact True.intro) ((go_at_call 89; refine Calls.mono (of_any (fun s => decide (s.size ≤ 9) = true) 4 _ (by omega) _ _ _ _ (by omega) (by simp; omega) (h5d.laid _) (laid_of (fun s => decide (s.size ≤ 9)) _ _ _ 4 rfl (by decide))) ?_; rintro e w6 ⟨x, hx, rfl, h6, hg6⟩; have hx9 : x.size ≤ 9 := (by simpa using hx); clear hx; have hc1 : ∀ W, (Op.stringOp .add (t.extract 0 k) x).run Try.prog W = .ok (.string (t.extract 0 k ++ x)) W := (fun W => run_string_add_sum W _ _ (by rw [ByteArray.size_extract]; omega)); have hc2 : ∀ W, (Op.stringOp .add (t.extract 0 k ++ x) (t.extract (k + 1) t.size)).run Try.prog W = .ok (.string (t.extract 0 k ++ x ++ t.extract (k + 1) t.size)) W := (fun W => run_string_add_sum W _ _ (by rw [ByteArray.size_append, ByteArray.size_extract, ByteArray.size_extract]; omega))))
        go_wp2_with fail
        go_ret
        refine ⟨_, ?_, rfl, (below_drew' (hB5.alloc hB5.size _)).trans (grown_to_below hg6 (Nat.le_refl _) (by have := hB5.size; simp; omega))⟩
        rw [ByteArray.size_append, ByteArray.size_append, ByteArray.size_extract, ByteArray.size_extract]; omega
      · have r1' : ((r : Int) == 1) = false := by simp; omega
        by_cases r2 : r = 2
        · subst r2
          go_wp2_with fail
          go_ret
          refine ⟨_, ?_, rfl, hB5⟩
          rw [ByteArray.size_append]
          show t.size + 4 ≤ 200
          omega
        · have r2' : ((r : Int) == 2) = false := by simp; omega
          go_wp2_with fail
          go_ret
          exact ⟨t, by omega, rfl, hB5⟩

theorem Pp.make_size (u p : ByteArray) : (Pp.make u p).size ≤ 40 := by
  unfold Pp.make
  split
  · rename_i h
    have h1 := (Nm.nameOk_len h.1).2
    have h2 := (Nm.nameOk_len h.2).2
    show (B6.enc (0 :: (u.data.toList ++ 0 :: p.data.toList))).toArray.size ≤ 40
    rw [List.size_toArray, B6.enc_len]
    simp only [List.length_cons, List.length_append]
    omega
  · show (0 : Nat) ≤ 40; omega
theorem small_max {n : Nat} (h : n ≤ 1000) : n ≤ maxLen := by unfold maxLen; omega

set_option maxRecDepth 100000 in
set_option maxHeartbeats 3200000 in
theorem drawPlainParse_any (a : Option Addr) (len cap : Nat) (w : World) (h : Bytes w a len cap) :
    Calls Try.prog 72 #[.slice a len cap] w (Up.Text w) := by
  go_enter Try.func72, Try.ntmps72
  go_wp2_with fail
  refine (l6Open_any a len cap _ h).mono ?_
  rintro e w1 ⟨rfl, h1, hb1⟩
  go_wp2_with fail
  refine (Dr.l91Name_any _ _ _ _ (by omega) h1).mono ?_
  rintro e w2 ⟨n, hn, rfl, h2, hg2⟩
  have hB2 := hb1.trans (grown_to_below hg2 (Nat.le_refl _) hb1.size)
  go_wp2_with fail
  refine (pick_any _ (by omega) _ _ _ _ (by omega) h2).mono ?_
  rintro e w3 ⟨r, hr, rfl, h3, hg3⟩
  have hB3 := hB2.trans (grown_to_below hg3 (Nat.le_refl _) hB2.size)
  clear h1 h2 hg2 hb1 hg3 hB2
  by_cases r0 : r = 0
  · subst r0
    have hz2 : (ByteArray.mk #[120, 0]).size = 2 := rfl
    have hz1 : (ByteArray.mk #[0]).size = 1 := rfl
    go_wp2_with fail
    refine (Dr.l91Name_any _ _ _ _ (by omega) h3).mono ?_
    rintro e w4 ⟨n2, hn2, rfl, h4, hg4⟩
    have hB4 := hB3.trans (grown_to_below hg4 (Nat.le_refl _) hB3.size)
    go_wp2_with fail
    refine (sB64Encode_any _ _).mono ?_
    rintro e w5 ⟨rfl, hb5⟩
    go_wp2_with fail
    go_ret
    exact ⟨_, Nat.le_trans (B6.encode_size _) (by omega), rfl, hB4.trans (hb5.mono hB4.size)⟩
  · have r0' : ((r : Int) == 0) = false := by simp; omega
    by_cases r1 : r = 1
    · subst r1
      have hz1 : (ByteArray.mk #[0]).size = 1 := rfl
      go_wp2_with fail
      refine (sB64Encode_any _ _).mono ?_
      rintro e w5 ⟨rfl, hb5⟩
      go_wp2_with fail
      go_ret
      exact ⟨_, Nat.le_trans (B6.encode_size _) (by omega), rfl, hB3.trans (hb5.mono hB3.size)⟩
    · have r1' : ((r : Int) == 1) = false := by simp; omega
      by_cases r2 : r = 2
      · subst r2
        have HBY : Hid (Bytes w3 a len cap) := Lib.hid (bytes_below h hB3)
        go_wp2_with fail
        refine (drawBase64Decode_any a len cap _ HBY.out).mono ?_
        rintro e w5 ⟨t, ht, rfl, hb5⟩
        go_wp2_with fail
        go_ret
        exact ⟨t, ht, rfl, hB3.trans (hb5.mono hB3.size)⟩
      · have r2' : ((r : Int) == 2) = false := by simp; omega
        go_wp2_with fail
        refine (Dr.l91Name_any _ _ _ _ (by omega) h3).mono ?_
        rintro e w4 ⟨n2, hn2, rfl, h4, hg4⟩
        have hB4 := hB3.trans (grown_to_below hg4 (Nat.le_refl _) hB3.size)
        go_wp2_with fail
        refine (sPlainMake_any n n2 (small_max (by omega)) (small_max (by omega)) _).mono ?_
        rintro e w5 ⟨rfl, hb5⟩
        go_wp2_with fail
        go_ret
        exact ⟨_, Nat.le_trans (Pp.make_size _ _) (by omega), rfl, hB4.trans (hb5.mono hB4.size)⟩

/-- users and a name and a password were drawn -/
def Up.Prove (w : World) (e : Ending) (w' : World) : Prop :=
  ∃ us A c nm ps, SmallUsers us ∧ us.length ≤ c ∧ c ≤ maxLen ∧ nm.size ≤ 9 ∧ ps.size ≤ 9 ∧ e = .returned (.tuple #[.slice A us.length c, .string nm, .string ps]) ∧ At w' w'.heap.size 3 Us.cells A us ∧ Below w.heap.size w w'
set_option maxHeartbeats 800000 in
theorem drawUsersProve2_any (a : Option Addr) (len cap : Nat) (w : World) (h : Bytes w a len cap) :
    Calls Try.prog 30 #[.slice a len cap] w (Up.Prove w) := by
  go_enter Try.func30, Try.ntmps30
  go_wp2_with fail
  refine (l6Open_any a len cap _ h).mono ?_
  rintro e w1 ⟨rfl, h1, hb1⟩
  go_wp2_with fail
  refine (l92Users_any _ _ _ _ (by omega) h1).mono ?_
  rintro e w2 ⟨us, A, c, hsm, hc1, hc2, rfl, hat, h2, hg2⟩
  go_wp2_with fail
  refine (l91Name_any _ _ _ _ (by omega) h2).mono ?_
  rintro e w3 ⟨nm, hnm, rfl, h3, hg3⟩
  have hat3 := users_grown hat h2 hg3
  go_wp2_with fail
  refine (l92Pass_any _ _ _ _ (by omega) h3 A us c nm hsm hat3).mono ?_
  rintro e w4 ⟨ps, hps, rfl, h4, hg4⟩
  go_wp2_with fail
  refine bodyPost_ret (v := .tuple #[.slice A us.length c, .string nm, .string ps]) (by simp [results, Try.results30, go_sem]) rfl ⟨us, A, c, nm, ps, hsm, hc1, hc2, hnm, hps, rfl, users_grown hat3 h3 hg4, hb1.trans (grown_to_below (grown_trans (grown_trans hg2 hg3) hg4) (Nat.le_refl _) hb1.size)⟩

/-- users and a text were drawn -/
def Up.Drawn (w : World) (e : Ending) (w' : World) : Prop :=
  ∃ us A c t, SmallUsers us ∧ us.length ≤ c ∧ c ≤ maxLen ∧ t.size ≤ 200 ∧ e = .returned (.tuple #[.slice A us.length c, .string t]) ∧ At w' w'.heap.size 3 Us.cells A us ∧ Below w.heap.size w w'
set_option maxRecDepth 100000 in
set_option maxHeartbeats 1600000 in
theorem drawUsersPlain_any (a : Option Addr) (len cap : Nat) (w : World) (h : Bytes w a len cap) :
    Calls Try.prog 39 #[.slice a len cap] w (Up.Drawn w) := by
  go_enter Try.func39, Try.ntmps39
  go_wp2_with fail
  refine (l6Open_any a len cap _ h).mono ?_
  rintro e w1 ⟨rfl, h1, hb1⟩
  go_wp2_with fail
  refine (l92Users_any _ _ _ _ (by omega) h1).mono ?_
  rintro e w2 ⟨us, A, c, hsm, hc1, hc2, rfl, hat, h2, hg2⟩
  have hB2 := hb1.trans (grown_to_below hg2 (Nat.le_refl _) hb1.size)
  go_wp2_with fail
  refine (l91Name_any _ _ _ _ (by omega) h2).mono ?_
  rintro e w3 ⟨nm, hnm, rfl, h3, hg3⟩
  have hB3 := hB2.trans (grown_to_below hg3 (Nat.le_refl _) hB2.size)
  have hat3 := users_grown hat h2 hg3
  go_wp2_with fail
  refine (pick_any _ (by omega) _ _ _ _ (by omega) h3).mono ?_
  rintro e w4 ⟨r, hr, rfl, h4, hg4⟩
  have hB4 := hB3.trans (grown_to_below hg4 (Nat.le_refl _) hB3.size)
  have hat4 := users_grown hat3 h3 hg4
  clear hat hat3 h1 h2 h3 hg2 hg3 hg4 hb1 hB2 hB3
  by_cases r0 : r = 0
  · subst r0
    have HBY : Hid (Bytes w4 a len cap) := Lib.hid (bytes_below h hB4)
    go_wp2_with fail
    refine (drawPlainParse_any a len cap _ HBY.out).mono ?_
    rintro e w5 ⟨t, ht, rfl, hb5⟩
    go_wp2_with fail
    refine bodyPost_ret (v := .tuple #[.slice A us.length c, .string t]) (by simp [results, Try.results39, go_sem]) rfl ⟨us, A, c, t, hsm, hc1, hc2, ht, rfl, (hat4.below hb5).mono hb5.size, hB4.trans (hb5.mono hB4.size)⟩
  · have r0' : ((r : Int) == 0) = false := by simp; omega
    go_wp2_with fail
    refine (l92Pass_any _ _ _ _ (by omega) h4 A us c nm hsm hat4).mono ?_
    rintro e w5 ⟨ps, hps, rfl, h5, hg5⟩
    have hB5 := hB4.trans (grown_to_below hg5 (Nat.le_refl _) hB4.size)
    have hat5 := users_grown hat4 h4 hg5
    go_wp2_with fail
    refine (sPlainMake_any nm ps (small_max (by omega)) (small_max (by omega)) _).mono ?_
    rintro e w6 ⟨rfl, hb6⟩
    go_wp2_with fail
    refine bodyPost_ret (v := .tuple #[.slice A us.length c, .string (Pp.make nm ps)]) (by simp [results, Try.results39, go_sem]) rfl ⟨us, A, c, _, hsm, hc1, hc2, Nat.le_trans (Pp.make_size _ _) (by omega), rfl, (hat5.below hb6).mono hb6.size, hB5.trans (hb6.mono hB5.size)⟩
end Go.Proofs.Ytjoohmokjliecaa
