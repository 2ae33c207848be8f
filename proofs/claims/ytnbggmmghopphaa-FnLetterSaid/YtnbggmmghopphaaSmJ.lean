/- Draws: a domain; a line of a session. (Printed by mksmj.py.) -/
import Derived.Test.YtnbggmmghopphaaSmI
import Derived.Test.YtnbggmmghopphaaStDraw2
import Derived.Test.YtnbggmmghopphaaUsA
namespace Go.Proofs.Ytnbggmmghopphaa
set_option linter.unusedVariables false
open Go.RowKit
open Us (U)

theorem small_of {s : ByteArray} {n k : Nat} (h : decide (s.size ≤ n) = true) (hk : n ≤ k) : s.size ≤ k := Nat.le_trans (by simpa using h) hk
theorem Sm.make_size (u p : ByteArray) : (Pp.make u p).size ≤ 40 := by
  unfold Pp.make
  split
  · rename_i h
    have h1 := (Nm.nameOk_len h.1).2
    have h2 := (Nm.nameOk_len h.2).2
    show (B6.enc (0 :: (u.data.toList ++ 0 :: p.data.toList))).toArray.size ≤ 40
    rw [List.size_toArray, B6.enc_len]
    simp only [List.length_cons, List.length_append]
    omega
  · show (0 : Nat) ≤ 40; omega
set_option maxHeartbeats 800000 in
theorem l91Domain_any (w : World) (B b m : Nat) (hm : m ≤ 999999000) (h : Rd w B b m) :
    Calls Try.prog 34 #[.pointer (some ⟨b, 0, none⟩)] w (Dr.Str 30 2 w B b m) := by
  go_enter Try.func34, Try.ntmps34
  go_wp2_with fail
  refine (pick_any _ (by omega) _ B b m (by omega) h).mono ?_
  rintro e w1 ⟨r, hr, rfl, h1, hg1⟩
  by_cases h0 : r = 0
  · subst h0
    go_wp2_with fail
    refine Calls.mono (of_any (fun s => decide (s.size ≤ 30) = true) 9 _ (by omega) _ _ _ _ (by omega) (by have := h1.lt; omega) (h1.laid _) (laid_of (fun s => decide (s.size ≤ 30)) _ _ _ 9 rfl (by decide))) ?_
    rintro e w3 ⟨s, hs, rfl, h3, hg3⟩
    go_wp2_with fail
    go_ret
    exact ⟨s, by simpa using hs, rfl, h3, grown_trans (grown_laid hg1 _) hg3⟩
  · have h0' : ((r : Int) == 0) = false := by simp; omega
    go_wp2_with fail
    refine Calls.mono (of_any (fun s => decide (s.size ≤ 30) = true) 4 _ (by omega) _ _ _ _ (by omega) (by have := h1.lt; omega) (h1.laid _) (laid_of (fun s => decide (s.size ≤ 30)) _ _ _ 4 rfl (by decide))) ?_
    rintro e w3 ⟨s, hs, rfl, h3, hg3⟩
    go_wp2_with fail
    go_ret
    exact ⟨s, by simpa using hs, rfl, h3, grown_trans (grown_laid hg1 _) hg3⟩

set_option maxRecDepth 100000 in
set_option maxHeartbeats 6400000 in
theorem l92Command_any (w : World) (B b m : Nat) (hm : m ≤ 999998000) (h : Rd w B b m) (st : Int) (f t : ByteArray) (A : Option Addr) (us : List ByteArray) (c : Nat) (hf : f.size ≤ 30) (Au : Option Addr) (vs : List U) (cu : Nat) (hsm : SmallUsers vs) (hat : At w w.heap.size 3 Us.cells Au vs) :
    Calls Try.prog 21 #[.pointer (some ⟨b, 0, none⟩), .agg #[.int .i64 st, .string f, .slice A us.length c, .string t], .slice Au vs.length cu] w (Dr.Str 200 8 w B b m) := by
  have hbl := h.lt
  have hx0 := heap_alloc_new w (.cells #[.int .i64 st, .string f, .slice A us.length c, .string t] 25)
  have h0 := h.laid (.cells #[.int .i64 st, .string f, .slice A us.length c, .string t] 25)
  have G0 := grown_laid (grown_refl b w) (.cells #[.int .i64 st, .string f, .slice A us.length c, .string t] 25)
  have hat0 : At (w.alloc (.cells #[.int .i64 st, .string f, .slice A us.length c, .string t] 25)) (w.alloc (.cells #[.int .i64 st, .string f, .slice A us.length c, .string t] 25)).heap.size 3 Us.cells Au vs := (hat.below ((Below.refl _ _).alloc (Nat.le_refl _) _)).mono (by simp)
  have hs0 : w.heap.size < (w.alloc (.cells #[.int .i64 st, .string f, .slice A us.length c, .string t] 25)).heap.size := by simp
  go_enter Try.func21, Try.ntmps21
  go_upto_region 1 with fail
  generalize w.alloc (.cells #[.int .i64 st, .string f, .slice A us.length c, .string t] 25) = w0 at hx0 h0 G0 hat0 hs0 ⊢
  have HX0 := Lib.hid hx0
  clear hx0
  have d0 : w0.cell? ⟨w.heap.size, 0, none⟩ = some (.int .i64 st) := cell_at HX0.out 0 _ rfl
  have d1 : w0.cell? ⟨w.heap.size, 1, none⟩ = some (.string f) := cell_at HX0.out 1 _ rfl
  by_cases h5 : st = 5
  · have h5i : (st == 5) = true := by simpa using h5
    have n0 : (st == 0) = false := by simp; omega
    have n1 : (st == 1) = false := by simp; omega
    have n2 : (st == 2) = false := by simp; omega
    have n3 : (st == 3) = false := by simp; omega
    have n4 : (st == 4) = false := by simp; omega
    clear h5
    go_wp2_with fail
    refine Calls.mono (pick_any 3 (by omega) _ _ _ _ (by omega) h0) ?_
    rintro e w1 ⟨r1, hr1, rfl, h1, hg1⟩
    have G1 := grown_trans G0 hg1
    have hat1 := users_grown hat0 h0 hg1
    have hs1 : w.heap.size < w1.heap.size := by have := hg1.size; omega
    have HX1 := Lib.hid ((hg1.block w.heap.size hs0 (by intro e; injection e with e; omega)).trans HX0.out)
    clear d0 d1
    have d0 : w1.cell? ⟨w.heap.size, 0, none⟩ = some (.int .i64 st) := cell_at HX1.out 0 _ rfl
    have d1 : w1.cell? ⟨w.heap.size, 1, none⟩ = some (.string f) := cell_at HX1.out 1 _ rfl
    by_cases q1 : r1 = 0
    · subst q1
      go_wp2_with fail
      refine Calls.mono (pick_any 4 (by omega) _ _ _ _ (by omega) h1) ?_
      rintro e w2 ⟨r2, hr2, rfl, h2, hg2⟩
      have G2 := grown_trans G1 hg2
      have hat2 := users_grown hat1 h1 hg2
      have hs2 : w.heap.size < w2.heap.size := by have := hg2.size; omega
      have HX2 := Lib.hid ((hg2.block w.heap.size hs1 (by intro e; injection e with e; omega)).trans HX1.out)
      clear d0 d1
      have d0 : w2.cell? ⟨w.heap.size, 0, none⟩ = some (.int .i64 st) := cell_at HX2.out 0 _ rfl
      have d1 : w2.cell? ⟨w.heap.size, 1, none⟩ = some (.string f) := cell_at HX2.out 1 _ rfl
      by_cases q2 : r2 = 0
      · subst q2
        go_wp2_with fail
        refine Calls.mono (of_any (fun s => decide (s.size ≤ 30) = true) 16 _ (by omega) _ _ _ _ (by omega) (by have := h2.lt; omega) (h2.laid _) (laid_of (fun s => decide (s.size ≤ 30)) _ _ _ 16 rfl (by decide))) ?_
        rintro e w3 ⟨s, hs, rfl, h3, hg3⟩
        go_wp2_with fail
        go_ret
        exact ⟨s, small_of hs (by omega), rfl, h3.mono (by omega), grown_trans (grown_laid G2 _) hg3⟩
      · have q2' : ((r2 : Int) == 0) = false := by simp; omega
        go_wp2_with fail
        go_ret
        exact ⟨_, (show (ByteArray.mk #[78, 79, 79, 80]).size ≤ 200 by decide), rfl, h2.mono (by omega), G2⟩
    · have q1' : decide ((0 : Int) < (r1 : Int)) = true := by simp; omega
      go_wp2_with fail
      refine Calls.mono (of_any (fun s => decide (s.size ≤ 30) = true) 7 _ (by omega) _ _ _ _ (by omega) (by have := h1.lt; omega) (h1.laid _) (laid_of (fun s => decide (s.size ≤ 30)) _ _ _ 7 rfl (by decide))) ?_
      rintro e w2 ⟨s, hs, rfl, h2, hg2⟩
      go_wp2_with fail
      go_ret
      exact ⟨s, small_of hs (by omega), rfl, h2.mono (by omega), grown_trans (grown_laid G1 _) hg2⟩
  · have h5i : (st == 5) = false := by simpa using h5
    go_wp2_with fail
    refine Calls.mono (pick_any 4 (by omega) _ _ _ _ (by omega) h0) ?_
    rintro e w1 ⟨r1, hr1, rfl, h1, hg1⟩
    have G1 := grown_trans G0 hg1
    have hat1 := users_grown hat0 h0 hg1
    have hs1 : w.heap.size < w1.heap.size := by have := hg1.size; omega
    have HX1 := Lib.hid ((hg1.block w.heap.size hs0 (by intro e; injection e with e; omega)).trans HX0.out)
    clear d0 d1
    have d0 : w1.cell? ⟨w.heap.size, 0, none⟩ = some (.int .i64 st) := cell_at HX1.out 0 _ rfl
    have d1 : w1.cell? ⟨w.heap.size, 1, none⟩ = some (.string f) := cell_at HX1.out 1 _ rfl
    by_cases q1 : r1 = 0
    · subst q1
      go_wp2_with fail
      refine Calls.mono (of_any (fun s => decide (s.size ≤ 30) = true) 16 _ (by omega) _ _ _ _ (by omega) (by have := h1.lt; omega) (h1.laid _) (laid_of (fun s => decide (s.size ≤ 30)) _ _ _ 16 rfl (by decide))) ?_
      rintro e w2 ⟨s, hs, rfl, h2, hg2⟩
      go_wp2_with fail
      go_ret
      exact ⟨s, small_of hs (by omega), rfl, h2.mono (by omega), grown_trans (grown_laid G1 _) hg2⟩
    · have q1' : ((r1 : Int) == 0) = false := by simp; omega
      by_cases s0 : st = 0
      · subst s0
        have hz : (ByteArray.mk #[69, 72, 76, 79, 32]).size = 5 := rfl
        go_wp2_with fail
        refine Calls.mono (l91Domain_any _ _ _ _ (by omega) h1) ?_
        rintro e w7 ⟨s, hs, rfl, h7, hg7⟩
        go_wp2_with fail
        go_ret
        exact ⟨_, by rw [ByteArray.size_append, hz]; omega, rfl, h7.mono (by omega), grown_trans G1 hg7⟩
      · by_cases s1 : st = 1
        · subst s1
          have hz : (ByteArray.mk #[65, 85, 84, 72, 32, 80, 76, 65, 73, 78, 32]).size = 11 := rfl
          go_wp2_with fail
          refine Calls.mono (of_any (fun s => decide (s.size ≤ 9) = true) 3 _ (by omega) _ _ _ _ (by omega) (by have := h1.lt; omega) (h1.laid _) (laid_of (fun s => decide (s.size ≤ 9)) _ _ _ 3 rfl (by decide))) ?_
          rintro e w7 ⟨nm, hnm, rfl, h7, hg7⟩
          have hnm9 : nm.size ≤ 9 := by simpa using hnm
          have hat7 := users_grown ((hat1.below ((Below.refl _ _).alloc (Nat.le_refl _) _)).mono (by simp)) (h1.laid _) hg7
          clear hnm
          go_wp2_with fail
          refine Calls.mono (l92Pass_any _ _ _ _ (by omega) h7 Au vs cu nm hsm hat7) ?_
          rintro e w8 ⟨ps, hps, rfl, h8, hg8⟩
          go_wp2_with fail
          refine Calls.mono (sPlainMake_any nm ps (by unfold maxLen; omega) (by unfold maxLen; omega) _) ?_
          rintro e w9 ⟨rfl, hb9⟩
          have HS := Sm.make_size nm ps
          have G8 := grown_trans (grown_trans (grown_laid G1 _) hg7) hg8
          generalize Pp.make nm ps = pm at HS ⊢
          go_wp2_with fail
          go_ret
          exact ⟨_, by rw [ByteArray.size_append, hz]; omega, rfl, (h8.below hb9).mono (by omega), grown_base G8 (hb9.mono G8.size)⟩
        · by_cases s2 : st = 2
          · subst s2
            have hz : (ByteArray.mk #[77, 65, 73, 76, 32, 70, 82, 79, 77, 58, 60]).size = 11 := rfl
            have hz1 : (ByteArray.mk #[64]).size = 1 := rfl
            have hz2 : (ByteArray.mk #[62]).size = 1 := rfl
            have hc1 : ∀ W, (Op.stringOp .add (ByteArray.mk #[77, 65, 73, 76, 32, 70, 82, 79, 77, 58, 60]) f).run Try.prog W = .ok (.string (ByteArray.mk #[77, 65, 73, 76, 32, 70, 82, 79, 77, 58, 60] ++ f)) W := fun W => run_string_add_sum W _ _ (by omega)
            have hc2 : ∀ W, (Op.stringOp .add (ByteArray.mk #[77, 65, 73, 76, 32, 70, 82, 79, 77, 58, 60] ++ f) (ByteArray.mk #[64])).run Try.prog W = .ok (.string (ByteArray.mk #[77, 65, 73, 76, 32, 70, 82, 79, 77, 58, 60] ++ f ++ ByteArray.mk #[64])) W := fun W => run_string_add_sum W _ _ (by rw [ByteArray.size_append]; omega)
            go_upto_region 12 with fail
            have hd : Rd w1.drew B b _ := h1
            go_region_held3 (fun w' => w'.cell? ⟨w.heap.size, 1, none⟩ = some (.string f)) (first | exact d1 | go_keep) ((go_at_call 33; refine Calls.mono (of_any (fun s => decide (s.size ≤ 9) = true) 4 _ (by omega) _ _ _ _ (by omega) (by have := h1.lt; first | omega | (simp; omega)) (hd.laid _) (laid_of (fun s => decide (s.size ≤ 9)) _ _ _ 4 rfl (by decide))) ?_; rintro e w7 ⟨x, hx, rfl, h7, hg7⟩; have hx9 : x.size ≤ 9 := (by simpa using hx); clear hx; have d1 : w7.cell? ⟨w.heap.size, 1, none⟩ = some (.string f) := cell_at ((hg7.block w.heap.size (by first | omega | (simp; omega)) (by intro e; injection e with e; omega)).trans ((Below.heap_alloc _ _ w.heap.size (by first | omega | (simp; omega))).trans HX1.out)) 1 _ rfl; have hc3 : ∀ W, (Op.stringOp .add (ByteArray.mk #[77, 65, 73, 76, 32, 70, 82, 79, 77, 58, 60] ++ f ++ ByteArray.mk #[64]) x).run Try.prog W = .ok (.string (ByteArray.mk #[77, 65, 73, 76, 32, 70, 82, 79, 77, 58, 60] ++ f ++ ByteArray.mk #[64] ++ x)) W := (fun W => run_string_add_sum W _ _ (by simp only [ByteArray.size_append]; omega)); have hc4 : ∀ W, (Op.stringOp .add (ByteArray.mk #[77, 65, 73, 76, 32, 70, 82, 79, 77, 58, 60] ++ f ++ ByteArray.mk #[64] ++ x) (ByteArray.mk #[62])).run Try.prog W = .ok (.string (ByteArray.mk #[77, 65, 73, 76, 32, 70, 82, 79, 77, 58, 60] ++ f ++ ByteArray.mk #[64] ++ x ++ ByteArray.mk #[62])) W := (fun W => run_string_add_sum W _ _ (by simp only [ByteArray.size_append]; omega))))
            go_wp2_with fail
            go_ret
            exact ⟨_, by simp only [ByteArray.size_append]; omega, rfl, h7.mono (by omega), grown_trans (grown_laid (grown_drewN G1 1) _) hg7⟩
          · by_cases s34 : st = 3 ∨ st = 4
            · by_cases s4 : st = 4
              · have n4 : (st == 4) = true := by simpa using s4
                have n0 : (st == 0) = false := by simp; omega
                have n1 : (st == 1) = false := by simp; omega
                have n2 : (st == 2) = false := by simp; omega
                have n3 : (st == 3) = false := by simp; omega
                clear s4 s34 s0 s1 s2
                go_wp2_with fail
                refine Calls.mono (pick_any 2 (by omega) _ _ _ _ (by omega) h1) ?_
                rintro e w4 ⟨r4, hr4, rfl, h4, hg4⟩
                have G4 := grown_trans G1 hg4
                have hat4 := users_grown hat1 h1 hg4
                have hs4 : w.heap.size < w4.heap.size := by have := hg4.size; omega
                have HX4 := Lib.hid ((hg4.block w.heap.size hs1 (by intro e; injection e with e; omega)).trans HX1.out)
                clear d0 d1
                have d0 : w4.cell? ⟨w.heap.size, 0, none⟩ = some (.int .i64 st) := cell_at HX4.out 0 _ rfl
                have d1 : w4.cell? ⟨w.heap.size, 1, none⟩ = some (.string f) := cell_at HX4.out 1 _ rfl
                by_cases qq : r4 = 0
                · subst qq
                  go_wp2_with fail
                  go_ret
                  exact ⟨_, (show (ByteArray.mk #[68, 65, 84, 65]).size ≤ 200 by decide), rfl, h4.mono (by omega), G4⟩
                · have qq' : ((r4 : Int) == 0) = false := by simp; omega
                  have hz : (ByteArray.mk #[82, 67, 80, 84, 32, 84, 79, 58, 60]).size = 9 := rfl
                  have hz1 : (ByteArray.mk #[64]).size = 1 := rfl
                  have hz2 : (ByteArray.mk #[62]).size = 1 := rfl
                  go_wp2_with fail
                  refine Calls.mono (of_any (fun s => decide (s.size ≤ 9) = true) 4 _ (by omega) _ _ _ _ (by omega) (by have := h4.lt; omega) (h4.laid _) (laid_of (fun s => decide (s.size ≤ 9)) _ _ _ 4 rfl (by decide))) ?_
                  rintro e w8 ⟨x, hx, rfl, h8, hg8⟩
                  have hx9 : x.size ≤ 9 := by simpa using hx
                  clear hx
                  have G8 := grown_trans (grown_laid G4 _) hg8
                  go_wp2_with fail
                  refine Calls.mono (of_any (fun s => decide (s.size ≤ 9) = true) 4 _ (by omega) _ _ _ _ (by omega) (by have := h8.lt; omega) (h8.laid _) (laid_of (fun s => decide (s.size ≤ 9)) _ _ _ 4 rfl (by decide))) ?_
                  rintro e w9 ⟨y, hy, rfl, h9, hg9⟩
                  have hy9 : y.size ≤ 9 := by simpa using hy
                  clear hy
                  go_wp2_with fail
                  go_ret
                  exact ⟨_, by simp only [ByteArray.size_append]; omega, rfl, h9.mono (by omega), grown_trans (grown_laid G8 _) hg9⟩
              · have s3 : st = 3 := by omega
                subst s3
                clear s34 s4
                have hz : (ByteArray.mk #[82, 67, 80, 84, 32, 84, 79, 58, 60]).size = 9 := rfl
                have hz1 : (ByteArray.mk #[64]).size = 1 := rfl
                have hz2 : (ByteArray.mk #[62]).size = 1 := rfl
                go_wp2_with fail
                refine Calls.mono (of_any (fun s => decide (s.size ≤ 9) = true) 4 _ (by omega) _ _ _ _ (by omega) (by have := h1.lt; omega) (h1.laid _) (laid_of (fun s => decide (s.size ≤ 9)) _ _ _ 4 rfl (by decide))) ?_
                rintro e w8 ⟨x, hx, rfl, h8, hg8⟩
                have hx9 : x.size ≤ 9 := by simpa using hx
                clear hx
                have G8 := grown_trans (grown_laid G1 _) hg8
                go_wp2_with fail
                refine Calls.mono (of_any (fun s => decide (s.size ≤ 9) = true) 4 _ (by omega) _ _ _ _ (by omega) (by have := h8.lt; omega) (h8.laid _) (laid_of (fun s => decide (s.size ≤ 9)) _ _ _ 4 rfl (by decide))) ?_
                rintro e w9 ⟨y, hy, rfl, h9, hg9⟩
                have hy9 : y.size ≤ 9 := by simpa using hy
                clear hy
                go_wp2_with fail
                go_ret
                exact ⟨_, by simp only [ByteArray.size_append]; omega, rfl, h9.mono (by omega), grown_trans (grown_laid G8 _) hg9⟩
            · have s3 : ¬ st = 3 := by omega
              have s4 : ¬ st = 4 := by omega
              have n0 : (st == 0) = false := by simpa using s0
              have n1 : (st == 1) = false := by simpa using s1
              have n2 : (st == 2) = false := by simpa using s2
              have n3 : (st == 3) = false := by simpa using s3
              have n4 : (st == 4) = false := by simpa using s4
              go_wp2_with fail
              go_ret
              exact ⟨_, (show (ByteArray.mk #[78, 79, 79, 80]).size ≤ 200 by decide), rfl, h1.mono (by omega), G1⟩
end Go.Proofs.Ytnbggmmghopphaa
