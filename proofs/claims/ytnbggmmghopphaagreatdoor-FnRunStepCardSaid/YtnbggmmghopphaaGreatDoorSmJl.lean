/- SmJl: SmJ SmK SmL, in one text. -/
import Derived.Test.YtnbggmmghopphaaGreatDoorSmGi
import Derived.Test.YtnbggmmghopphaaGreatDoorStDraw2
import Derived.Test.YtnbggmmghopphaaGreatDoorUsA
import Derived.Deep.RegionHeld3
import Derived.Outline
import Derived.Deep.DeepCutAuto
import Derived.Deep.CutBlock
namespace Go.Proofs.YtnbggmmghopphaaGreatDoor
set_option linter.unusedVariables false
open Go.RowKit
open Us (U)

theorem small_of {s : ByteArray} {n k : Nat} (h : decide (s.size ≤ n) = true) (hk : n ≤ k) : s.size ≤ k := Nat.le_trans (by simpa using h) hk
theorem Sm.make_size (u p : ByteArray) : (Pp.make u p).size ≤ 40 := by
  unfold Pp.make
  split
  · rename_i h
    have h1 := (Nm.nameOk_len h.1).2
    have h2 := (Nm.nameOk_len h.2).2
    show (B6.enc (0 :: (u.data.toList ++ 0 :: p.data.toList))).toArray.size ≤ 40
    rw [List.size_toArray, B6.enc_len]
    simp only [List.length_cons, List.length_append]
    omega
  · show (0 : Nat) ≤ 40; omega
set_option maxHeartbeats 800000 in
theorem l91Domain_any (w : World) (B b m : Nat) (hm : m ≤ 999999000) (h : Rd w B b m) :
    Calls Tryz.prog 63 #[.pointer (some ⟨b, 0, none⟩)] w (Dr.Str 30 2 w B b m) := by
  go_enter Tryz.func63, Tryz.ntmps63
  go_wp2_with fail
  refine (pick_any _ (by omega) _ B b m (by omega) h).mono ?_
  rintro e w1 ⟨r, hr, rfl, h1, hg1⟩
  by_cases h0 : r = 0
  · subst h0
    go_wp2_with fail
    refine Calls.mono (of_any (fun s => decide (s.size ≤ 30) = true) 9 _ (by omega) _ _ _ _ (by omega) (by have := h1.lt; omega) (h1.laid _) (laid_of (fun s => decide (s.size ≤ 30)) _ _ _ 9 rfl (by decide))) ?_
    rintro e w3 ⟨s, hs, rfl, h3, hg3⟩
    go_wp2_with fail
    go_ret
    exact ⟨s, by simpa using hs, rfl, h3, grown_trans (grown_laid hg1 _) hg3⟩
  · have h0' : ((r : Int) == 0) = false := by simp; omega
    go_wp2_with fail
    refine Calls.mono (of_any (fun s => decide (s.size ≤ 30) = true) 4 _ (by omega) _ _ _ _ (by omega) (by have := h1.lt; omega) (h1.laid _) (laid_of (fun s => decide (s.size ≤ 30)) _ _ _ 4 rfl (by decide))) ?_
    rintro e w3 ⟨s, hs, rfl, h3, hg3⟩
    go_wp2_with fail
    go_ret
    exact ⟨s, by simpa using hs, rfl, h3, grown_trans (grown_laid hg1 _) hg3⟩

set_option maxRecDepth 100000 in
set_option maxHeartbeats 6400000 in
theorem l92Command_any (w : World) (B b m : Nat) (hm : m ≤ 999998000) (h : Rd w B b m) (st : Int) (f t : ByteArray) (A : Option Addr) (us : List ByteArray) (c : Nat) (hf : f.size ≤ 30) (Au : Option Addr) (vs : List U) (cu : Nat) (hsm : SmallUsers vs) (hat : At w w.heap.size 3 Us.cells Au vs) :
    Calls Tryz.prog 61 #[.pointer (some ⟨b, 0, none⟩), .agg #[.int .i64 st, .string f, .slice A us.length c, .string t], .slice Au vs.length cu] w (Dr.Str 200 8 w B b m) := by
  have hbl := h.lt
  have hx0 := heap_alloc_new w (.cells #[.int .i64 st, .string f, .slice A us.length c, .string t] 36)
  have h0 := h.laid (.cells #[.int .i64 st, .string f, .slice A us.length c, .string t] 36)
  have G0 := grown_laid (grown_refl b w) (.cells #[.int .i64 st, .string f, .slice A us.length c, .string t] 36)
  have hat0 : At (w.alloc (.cells #[.int .i64 st, .string f, .slice A us.length c, .string t] 36)) (w.alloc (.cells #[.int .i64 st, .string f, .slice A us.length c, .string t] 36)).heap.size 3 Us.cells Au vs := (hat.below ((Below.refl _ _).alloc (Nat.le_refl _) _)).mono (by simp)
  have hs0 : w.heap.size < (w.alloc (.cells #[.int .i64 st, .string f, .slice A us.length c, .string t] 36)).heap.size := by simp
  go_enter Tryz.func61, Tryz.ntmps61
  go_upto_region 1 with fail
  generalize w.alloc (.cells #[.int .i64 st, .string f, .slice A us.length c, .string t] 36) = w0 at hx0 h0 G0 hat0 hs0 ⊢
  have HX0 := Lib.hid hx0
  clear hx0
  have d0 : w0.cell? ⟨w.heap.size, 0, none⟩ = some (.int .i64 st) := cell_at HX0.out 0 _ rfl
  have d1 : w0.cell? ⟨w.heap.size, 1, none⟩ = some (.string f) := cell_at HX0.out 1 _ rfl
  by_cases h5 : st = 5
  · have h5i : (st == 5) = true := by simpa using h5
    have n0 : (st == 0) = false := by simp; omega
    have n1 : (st == 1) = false := by simp; omega
    have n2 : (st == 2) = false := by simp; omega
    have n3 : (st == 3) = false := by simp; omega
    have n4 : (st == 4) = false := by simp; omega
    clear h5
    go_wp2_with fail
    refine Calls.mono (pick_any 3 (by omega) _ _ _ _ (by omega) h0) ?_
    rintro e w1 ⟨r1, hr1, rfl, h1, hg1⟩
    have G1 := grown_trans G0 hg1
    have hat1 := users_grown hat0 h0 hg1
    have hs1 : w.heap.size < w1.heap.size := by have := hg1.size; omega
    have HX1 := Lib.hid ((hg1.block w.heap.size hs0 (by intro e; injection e with e; omega)).trans HX0.out)
    clear d0 d1
    have d0 : w1.cell? ⟨w.heap.size, 0, none⟩ = some (.int .i64 st) := cell_at HX1.out 0 _ rfl
    have d1 : w1.cell? ⟨w.heap.size, 1, none⟩ = some (.string f) := cell_at HX1.out 1 _ rfl
    by_cases q1 : r1 = 0
    · subst q1
      go_wp2_with fail
      refine Calls.mono (pick_any 4 (by omega) _ _ _ _ (by omega) h1) ?_
      rintro e w2 ⟨r2, hr2, rfl, h2, hg2⟩
      have G2 := grown_trans G1 hg2
      have hat2 := users_grown hat1 h1 hg2
      have hs2 : w.heap.size < w2.heap.size := by have := hg2.size; omega
      have HX2 := Lib.hid ((hg2.block w.heap.size hs1 (by intro e; injection e with e; omega)).trans HX1.out)
      clear d0 d1
      have d0 : w2.cell? ⟨w.heap.size, 0, none⟩ = some (.int .i64 st) := cell_at HX2.out 0 _ rfl
      have d1 : w2.cell? ⟨w.heap.size, 1, none⟩ = some (.string f) := cell_at HX2.out 1 _ rfl
      by_cases q2 : r2 = 0
      · subst q2
        go_wp2_with fail
        refine Calls.mono (of_any (fun s => decide (s.size ≤ 30) = true) 16 _ (by omega) _ _ _ _ (by omega) (by have := h2.lt; omega) (h2.laid _) (laid_of (fun s => decide (s.size ≤ 30)) _ _ _ 16 rfl (by decide))) ?_
        rintro e w3 ⟨s, hs, rfl, h3, hg3⟩
        go_wp2_with fail
        go_ret
        exact ⟨s, small_of hs (by omega), rfl, h3.mono (by omega), grown_trans (grown_laid G2 _) hg3⟩
      · have q2' : ((r2 : Int) == 0) = false := by simp; omega
        go_wp2_with fail
        go_ret
        exact ⟨_, (show (ByteArray.mk #[78, 79, 79, 80]).size ≤ 200 by decide), rfl, h2.mono (by omega), G2⟩
    · have q1' : decide ((0 : Int) < (r1 : Int)) = true := by simp; omega
      go_wp2_with fail
      refine Calls.mono (of_any (fun s => decide (s.size ≤ 30) = true) 7 _ (by omega) _ _ _ _ (by omega) (by have := h1.lt; omega) (h1.laid _) (laid_of (fun s => decide (s.size ≤ 30)) _ _ _ 7 rfl (by decide))) ?_
      rintro e w2 ⟨s, hs, rfl, h2, hg2⟩
      go_wp2_with fail
      go_ret
      exact ⟨s, small_of hs (by omega), rfl, h2.mono (by omega), grown_trans (grown_laid G1 _) hg2⟩
  · have h5i : (st == 5) = false := by simpa using h5
    go_wp2_with fail
    refine Calls.mono (pick_any 4 (by omega) _ _ _ _ (by omega) h0) ?_
    rintro e w1 ⟨r1, hr1, rfl, h1, hg1⟩
    have G1 := grown_trans G0 hg1
    have hat1 := users_grown hat0 h0 hg1
    have hs1 : w.heap.size < w1.heap.size := by have := hg1.size; omega
    have HX1 := Lib.hid ((hg1.block w.heap.size hs0 (by intro e; injection e with e; omega)).trans HX0.out)
    clear d0 d1
    have d0 : w1.cell? ⟨w.heap.size, 0, none⟩ = some (.int .i64 st) := cell_at HX1.out 0 _ rfl
    have d1 : w1.cell? ⟨w.heap.size, 1, none⟩ = some (.string f) := cell_at HX1.out 1 _ rfl
    by_cases q1 : r1 = 0
    · subst q1
      go_wp2_with fail
      refine Calls.mono (of_any (fun s => decide (s.size ≤ 30) = true) 16 _ (by omega) _ _ _ _ (by omega) (by have := h1.lt; omega) (h1.laid _) (laid_of (fun s => decide (s.size ≤ 30)) _ _ _ 16 rfl (by decide))) ?_
      rintro e w2 ⟨s, hs, rfl, h2, hg2⟩
      go_wp2_with fail
      go_ret
      exact ⟨s, small_of hs (by omega), rfl, h2.mono (by omega), grown_trans (grown_laid G1 _) hg2⟩
    · have q1' : ((r1 : Int) == 0) = false := by simp; omega
      by_cases s0 : st = 0
      · subst s0
        have hz : (ByteArray.mk #[69, 72, 76, 79, 32]).size = 5 := rfl
        go_wp2_with fail
        refine Calls.mono (l91Domain_any _ _ _ _ (by omega) h1) ?_
        rintro e w7 ⟨s, hs, rfl, h7, hg7⟩
        go_wp2_with fail
        go_ret
        exact ⟨_, by rw [ByteArray.size_append, hz]; omega, rfl, h7.mono (by omega), grown_trans G1 hg7⟩
      · by_cases s1 : st = 1
        · subst s1
          have hz : (ByteArray.mk #[65, 85, 84, 72, 32, 80, 76, 65, 73, 78, 32]).size = 11 := rfl
          go_wp2_with fail
          refine Calls.mono (of_any (fun s => decide (s.size ≤ 9) = true) 3 _ (by omega) _ _ _ _ (by omega) (by have := h1.lt; omega) (h1.laid _) (laid_of (fun s => decide (s.size ≤ 9)) _ _ _ 3 rfl (by decide))) ?_
          rintro e w7 ⟨nm, hnm, rfl, h7, hg7⟩
          have hnm9 : nm.size ≤ 9 := by simpa using hnm
          have hat7 := users_grown ((hat1.below ((Below.refl _ _).alloc (Nat.le_refl _) _)).mono (by simp)) (h1.laid _) hg7
          clear hnm
          go_wp2_with fail
          refine Calls.mono (l92Pass_any _ _ _ _ (by omega) h7 Au vs cu nm hsm hat7) ?_
          rintro e w8 ⟨ps, hps, rfl, h8, hg8⟩
          go_wp2_with fail
          refine Calls.mono (sPlainMake_any nm ps (by unfold maxLen; omega) (by unfold maxLen; omega) _) ?_
          rintro e w9 ⟨rfl, hb9⟩
          have HS := Sm.make_size nm ps
          have G8 := grown_trans (grown_trans (grown_laid G1 _) hg7) hg8
          generalize Pp.make nm ps = pm at HS ⊢
          go_wp2_with fail
          go_ret
          exact ⟨_, by rw [ByteArray.size_append, hz]; omega, rfl, (h8.below hb9).mono (by omega), grown_base G8 (hb9.mono G8.size)⟩
        · by_cases s2 : st = 2
          · subst s2
            have hz : (ByteArray.mk #[77, 65, 73, 76, 32, 70, 82, 79, 77, 58, 60]).size = 11 := rfl
            have hz1 : (ByteArray.mk #[64]).size = 1 := rfl
            have hz2 : (ByteArray.mk #[62]).size = 1 := rfl
            have hc1 : ∀ W, (Op.stringOp .add (ByteArray.mk #[77, 65, 73, 76, 32, 70, 82, 79, 77, 58, 60]) f).run Tryz.prog W = .ok (.string (ByteArray.mk #[77, 65, 73, 76, 32, 70, 82, 79, 77, 58, 60] ++ f)) W := fun W => run_string_add_sum W _ _ (by omega)
            have hc2 : ∀ W, (Op.stringOp .add (ByteArray.mk #[77, 65, 73, 76, 32, 70, 82, 79, 77, 58, 60] ++ f) (ByteArray.mk #[64])).run Tryz.prog W = .ok (.string (ByteArray.mk #[77, 65, 73, 76, 32, 70, 82, 79, 77, 58, 60] ++ f ++ ByteArray.mk #[64])) W := fun W => run_string_add_sum W _ _ (by rw [ByteArray.size_append]; omega)
            go_upto_region 12 with fail
            have hd : Rd w1.drew B b _ := h1
            go_region_held3 (fun w' => w'.cell? ⟨w.heap.size, 1, none⟩ = some (.string f)) (first | exact d1 | go_keep) ((go_at_call 85; refine Calls.mono (of_any (fun s => decide (s.size ≤ 9) = true) 4 _ (by omega) _ _ _ _ (by omega) (by have := h1.lt; first | omega | (simp; omega)) (hd.laid _) (laid_of (fun s => decide (s.size ≤ 9)) _ _ _ 4 rfl (by decide))) ?_; rintro e w7 ⟨x, hx, rfl, h7, hg7⟩; have hx9 : x.size ≤ 9 := (by simpa using hx); clear hx; have d1 : w7.cell? ⟨w.heap.size, 1, none⟩ = some (.string f) := cell_at ((hg7.block w.heap.size (by first | omega | (simp; omega)) (by intro e; injection e with e; omega)).trans ((Below.heap_alloc _ _ w.heap.size (by first | omega | (simp; omega))).trans HX1.out)) 1 _ rfl; have hc3 : ∀ W, (Op.stringOp .add (ByteArray.mk #[77, 65, 73, 76, 32, 70, 82, 79, 77, 58, 60] ++ f ++ ByteArray.mk #[64]) x).run Tryz.prog W = .ok (.string (ByteArray.mk #[77, 65, 73, 76, 32, 70, 82, 79, 77, 58, 60] ++ f ++ ByteArray.mk #[64] ++ x)) W := (fun W => run_string_add_sum W _ _ (by simp only [ByteArray.size_append]; omega)); have hc4 : ∀ W, (Op.stringOp .add (ByteArray.mk #[77, 65, 73, 76, 32, 70, 82, 79, 77, 58, 60] ++ f ++ ByteArray.mk #[64] ++ x) (ByteArray.mk #[62])).run Tryz.prog W = .ok (.string (ByteArray.mk #[77, 65, 73, 76, 32, 70, 82, 79, 77, 58, 60] ++ f ++ ByteArray.mk #[64] ++ x ++ ByteArray.mk #[62])) W := (fun W => run_string_add_sum W _ _ (by simp only [ByteArray.size_append]; omega))))
            go_wp2_with fail
            go_ret
            exact ⟨_, by simp only [ByteArray.size_append]; omega, rfl, h7.mono (by omega), grown_trans (grown_laid (grown_drewN G1 1) _) hg7⟩
          · by_cases s34 : st = 3 ∨ st = 4
            · by_cases s4 : st = 4
              · have n4 : (st == 4) = true := by simpa using s4
                have n0 : (st == 0) = false := by simp; omega
                have n1 : (st == 1) = false := by simp; omega
                have n2 : (st == 2) = false := by simp; omega
                have n3 : (st == 3) = false := by simp; omega
                clear s4 s34 s0 s1 s2
                go_wp2_with fail
                refine Calls.mono (pick_any 2 (by omega) _ _ _ _ (by omega) h1) ?_
                rintro e w4 ⟨r4, hr4, rfl, h4, hg4⟩
                have G4 := grown_trans G1 hg4
                have hat4 := users_grown hat1 h1 hg4
                have hs4 : w.heap.size < w4.heap.size := by have := hg4.size; omega
                have HX4 := Lib.hid ((hg4.block w.heap.size hs1 (by intro e; injection e with e; omega)).trans HX1.out)
                clear d0 d1
                have d0 : w4.cell? ⟨w.heap.size, 0, none⟩ = some (.int .i64 st) := cell_at HX4.out 0 _ rfl
                have d1 : w4.cell? ⟨w.heap.size, 1, none⟩ = some (.string f) := cell_at HX4.out 1 _ rfl
                by_cases qq : r4 = 0
                · subst qq
                  go_wp2_with fail
                  go_ret
                  exact ⟨_, (show (ByteArray.mk #[68, 65, 84, 65]).size ≤ 200 by decide), rfl, h4.mono (by omega), G4⟩
                · have qq' : ((r4 : Int) == 0) = false := by simp; omega
                  have hz : (ByteArray.mk #[82, 67, 80, 84, 32, 84, 79, 58, 60]).size = 9 := rfl
                  have hz1 : (ByteArray.mk #[64]).size = 1 := rfl
                  have hz2 : (ByteArray.mk #[62]).size = 1 := rfl
                  go_wp2_with fail
                  refine Calls.mono (of_any (fun s => decide (s.size ≤ 9) = true) 4 _ (by omega) _ _ _ _ (by omega) (by have := h4.lt; omega) (h4.laid _) (laid_of (fun s => decide (s.size ≤ 9)) _ _ _ 4 rfl (by decide))) ?_
                  rintro e w8 ⟨x, hx, rfl, h8, hg8⟩
                  have hx9 : x.size ≤ 9 := by simpa using hx
                  clear hx
                  have G8 := grown_trans (grown_laid G4 _) hg8
                  go_wp2_with fail
                  refine Calls.mono (of_any (fun s => decide (s.size ≤ 9) = true) 4 _ (by omega) _ _ _ _ (by omega) (by have := h8.lt; omega) (h8.laid _) (laid_of (fun s => decide (s.size ≤ 9)) _ _ _ 4 rfl (by decide))) ?_
                  rintro e w9 ⟨y, hy, rfl, h9, hg9⟩
                  have hy9 : y.size ≤ 9 := by simpa using hy
                  clear hy
                  go_wp2_with fail
                  go_ret
                  exact ⟨_, by simp only [ByteArray.size_append]; omega, rfl, h9.mono (by omega), grown_trans (grown_laid G8 _) hg9⟩
              · have s3 : st = 3 := by omega
                subst s3
                clear s34 s4
                have hz : (ByteArray.mk #[82, 67, 80, 84, 32, 84, 79, 58, 60]).size = 9 := rfl
                have hz1 : (ByteArray.mk #[64]).size = 1 := rfl
                have hz2 : (ByteArray.mk #[62]).size = 1 := rfl
                go_wp2_with fail
                refine Calls.mono (of_any (fun s => decide (s.size ≤ 9) = true) 4 _ (by omega) _ _ _ _ (by omega) (by have := h1.lt; omega) (h1.laid _) (laid_of (fun s => decide (s.size ≤ 9)) _ _ _ 4 rfl (by decide))) ?_
                rintro e w8 ⟨x, hx, rfl, h8, hg8⟩
                have hx9 : x.size ≤ 9 := by simpa using hx
                clear hx
                have G8 := grown_trans (grown_laid G1 _) hg8
                go_wp2_with fail
                refine Calls.mono (of_any (fun s => decide (s.size ≤ 9) = true) 4 _ (by omega) _ _ _ _ (by omega) (by have := h8.lt; omega) (h8.laid _) (laid_of (fun s => decide (s.size ≤ 9)) _ _ _ 4 rfl (by decide))) ?_
                rintro e w9 ⟨y, hy, rfl, h9, hg9⟩
                have hy9 : y.size ≤ 9 := by simpa using hy
                clear hy
                go_wp2_with fail
                go_ret
                exact ⟨_, by simp only [ByteArray.size_append]; omega, rfl, h9.mono (by omega), grown_trans (grown_laid G8 _) hg9⟩
            · have s3 : ¬ st = 3 := by omega
              have s4 : ¬ st = 4 := by omega
              have n0 : (st == 0) = false := by simpa using s0
              have n1 : (st == 1) = false := by simpa using s1
              have n2 : (st == 2) = false := by simpa using s2
              have n3 : (st == 3) = false := by simpa using s3
              have n4 : (st == 4) = false := by simpa using s4
              go_wp2_with fail
              go_ret
              exact ⟨_, (show (ByteArray.mk #[78, 79, 79, 80]).size ≤ 200 by decide), rfl, h1.mono (by omega), G1⟩
end Go.Proofs.YtnbggmmghopphaaGreatDoor

namespace Go.Proofs.YtnbggmmghopphaaGreatDoor
set_option linter.unusedVariables false
open Go.RowKit
open Us (U)

/-- a list of strings that lies in a block from B on -/
def Sm.From (w : World) (B : Nat) (A : Option Addr) (us : List ByteArray) : Prop :=
  (0 < us.length → ∃ g off, A = some ⟨g, off, none⟩ ∧ B ≤ g ∧ g < w.heap.size ∧ ∀ i u, us[i]? = some u → w.cell? ⟨g, off + i, none⟩ = some (.string u)) ∧ ∀ u ∈ us, u.size ≤ maxLen
theorem Sm.From.at_ {w : World} {B : Nat} {A : Option Addr} {us : List ByteArray} (h : Sm.From w B A us) : AtStrs w w.heap.size A us :=
  ⟨fun hl => by obtain ⟨g, off, ha, _, hlt, hc⟩ := h.1 hl; exact ⟨g, off, ha, hlt, hc⟩, h.2⟩
theorem Sm.From.keep {w w' : World} {B : Nat} {A : Option Addr} {us : List ByteArray} (h : Sm.From w B A us) (hs : w.heap.size ≤ w'.heap.size) (hk : ∀ g, B ≤ g → g < w.heap.size → w'.heap[g]? = w.heap[g]?) : Sm.From w' B A us :=
  ⟨fun hl => by
    obtain ⟨g, off, ha, hB, hlt, hc⟩ := h.1 hl
    exact ⟨g, off, ha, hB, Nat.lt_of_lt_of_le hlt hs, fun i u hu => by rw [World.cell?_of_block (hk g hB hlt)]; exact hc i u hu⟩, h.2⟩
theorem Sm.From.below {w w' : World} {B : Nat} {A : Option Addr} {us : List ByteArray} (h : Sm.From w B A us) (hb : Below w.heap.size w w') : Sm.From w' B A us := h.keep hb.size fun g _ hlt => hb.block g hlt
theorem Sm.From.grown {w w' : World} {B b : Nat} {A : Option Addr} {us : List ByteArray} (h : Sm.From w B A us) (hg : w.grownBy w' (some b)) (hb : b < B) : Sm.From w' B A us := h.keep hg.size fun g hB hlt => hg.block g hlt (by intro e; injection e with e; omega)
theorem Sm.From.base {w : World} {B B' : Nat} {A : Option Addr} {us : List ByteArray} (h : Sm.From w B A us) (hb : B' ≤ B) : Sm.From w B' A us :=
  ⟨fun hl => by obtain ⟨g, off, ha, hB, hlt, hc⟩ := h.1 hl; exact ⟨g, off, ha, Nat.le_trans hb hB, hlt, hc⟩, h.2⟩
theorem Sm.From.set {w : World} {B : Nat} {A : Option Addr} {us : List ByteArray} (h : Sm.From w B A us) {p : Addr} (hp : p.block < B) (v : Value) : Sm.From (w.setCell p v) B A us :=
  h.keep (by simp) fun g hB _ => Below.heap_setCell w p v g (by omega)
theorem Sm.From.nil {w : World} {B : Nat} {A : Option Addr} : Sm.From w B A [] := ⟨fun h => absurd h (by simp), fun u hu => absurd hu (by simp)⟩
theorem Sm.From.of_own {w : World} {B c n : Nat} {A : Option Addr} {us : List ByteArray} (ho : St.Own w B (.slice A n c) us) (hn : us.length = n) (hs : ∀ u ∈ us, u.size ≤ maxLen) : Sm.From w B A us := by
  subst hn
  refine ⟨fun hl => ?_, hs⟩
  obtain ⟨g, off, ha, hlt, hc⟩ := (at_strs (OwnL.at_ ho St.cells_len rfl) hs).1 hl
  obtain ⟨g', c', hv, hB, _⟩ := OwnL.form' ho hl
  injection hv with hA
  rw [ha] at hA; injection hA with hA; injection hA with hg
  subst hg
  exact ⟨g, off, ha, hB, hlt, hc⟩
/-- block b5 is a session's variable; its list lies behind it -/
def Sm.Var (w : World) (b5 : Nat) (P : Sm.S → Prop) : Prop :=
  ∃ st f A us c t, w.heap[b5]? = some (.cells #[.int .i64 st, .string f, .slice A us.length c, .string t] 36 (0, 0)) ∧ P ⟨st, f, us, t⟩ ∧ Sm.From w (b5 + 1) A us ∧ us.length ≤ c ∧ c ≤ maxLen
/-- the sizes of a session that was drawn -/
def Sm.small (s : Sm.S) : Prop := s.user.size ≤ 30 ∧ s.tos.length ≤ 6 ∧ (∀ u ∈ s.tos, u.size ≤ 9) ∧ s.text.size ≤ 30
theorem Sm.small_ok {s : Sm.S} (h : Sm.ok s = true) : Sm.small s := by
  obtain ⟨h1, h2, h3, h4, _⟩ := Sm.ok_sizes h
  exact ⟨by omega, by omega, fun u hu => by have := h3 u hu; omega, by omega⟩
theorem Sm.Var.keep {w w' : World} {b5 : Nat} {P : Sm.S → Prop} (h : Sm.Var w b5 P) (hb : w'.heap[b5]? = w.heap[b5]?) (hs : w.heap.size ≤ w'.heap.size) (hk : ∀ g, b5 + 1 ≤ g → g < w.heap.size → w'.heap[g]? = w.heap[g]?) : Sm.Var w' b5 P := by
  obtain ⟨st, f, A, us, c, t, h1, h2, h3, h4, h5⟩ := h
  exact ⟨st, f, A, us, c, t, hb.trans h1, h2, h3.keep hs hk, h4, h5⟩
theorem Sm.Var.lt {w : World} {b5 : Nat} {P : Sm.S → Prop} (h : Sm.Var w b5 P) : b5 < w.heap.size := by
  obtain ⟨st, f, A, us, c, t, h1, _⟩ := h
  exact (Array.getElem?_eq_some_iff.1 h1).1
theorem Sm.Var.grown {w w' : World} {b5 b : Nat} {P : Sm.S → Prop} (h : Sm.Var w b5 P) (hg : w.grownBy w' (some b)) (hb : b < b5) : Sm.Var w' b5 P :=
  h.keep (hg.block b5 h.lt (by intro e; injection e with e; omega)) hg.size fun g h1 h2 => hg.block g h2 (by intro e; injection e with e; omega)
theorem Sm.Var.below {w w' : World} {b5 : Nat} {P : Sm.S → Prop} (h : Sm.Var w b5 P) (hb : Below w.heap.size w w') : Sm.Var w' b5 P :=
  h.keep (hb.block b5 h.lt) hb.size fun g _ h2 => hb.block g h2
theorem Sm.Var.mono {w : World} {b5 : Nat} {P Q : Sm.S → Prop} (h : Sm.Var w b5 P) (hq : ∀ s, P s → Q s) : Sm.Var w b5 Q := by
  obtain ⟨st, f, A, us, c, t, h1, h2, h3⟩ := h
  exact ⟨st, f, A, us, c, t, h1, hq _ h2, h3⟩

/-- what drawing a session gives -/
def Sm.Picked (n : Nat) (w : World) (B b m : Nat) (e : Ending) (w' : World) : Prop :=
  ∃ st f A us c t, Sm.small ⟨st, f, us, t⟩ ∧ e = .returned (.agg #[.int .i64 st, .string f, .slice A us.length c, .string t]) ∧ Sm.From w' w.heap.size A us ∧ us.length ≤ c ∧ c ≤ maxLen ∧ Rd w' B b (m + n) ∧ w.grownBy w' (some b)

/-- a session of the call's own, valid -/
def Sm.OkOwn (w : World) (e : Ending) (w' : World) : Prop :=
  ∃ st f A us c t n, Sm.ok ⟨st, f, us, t⟩ = true ∧ us.length ≤ c ∧ c ≤ maxLen ∧ e = .returned (.tuple #[.agg #[.int .i64 st, .string f, .slice A us.length c, .string t], .int .i64 n]) ∧ Sm.From w' w.heap.size A us ∧ Below w.heap.size w w'
theorem sSubmissionLine_ok (st : Int) (f t : ByteArray) (A : Option Addr) (us : List ByteArray) (c : Nat) (w : World) (h : AtStrs w w.heap.size A us) (hcap : us.length ≤ c) (hcm : c ≤ maxLen) (hok : Sm.ok ⟨st, f, us, t⟩ = true) (Au : Option Addr) (vs : List U) (cu : Nat) (hu : AtUsers w w.heap.size Au vs) (hvl : vs.length ≤ maxLen) (hv : Us.usersOk vs = true) (d l : ByteArray) (hd : d.size ≤ 16777216) (hdo : Dm.ok d.data.toList = true) (hl : l.size ≤ 16777216) :
    Calls Tryz.prog 46 #[.agg #[.int .i64 st, .string f, .slice A us.length c, .string t], .slice Au vs.length cu, .string d, .string l] w (Sm.OkOwn w) := by
  have hs := Sm.ok_sizes hok
  refine (sSubmissionLine_any st f t A us c w h hcap hcm (by unfold maxLen; have := hs.1; dsimp only at this; omega) (by unfold maxLen; have := hs.2.2.2.1; dsimp only at this; omega) Au vs cu hu hvl d l hd hl).mono ?_
  rintro e w' ⟨A', c', he, ho, hb⟩
  have hr : Sm.ans vs d ⟨st, f, us, t⟩ l = Sm.line vs d ⟨st, f, us, t⟩ l := by unfold Sm.ans; rw [if_pos ⟨hok, hv, hdo⟩]
  have hk := Sm.line_ok hok (us := vs) (d := d) l
  rw [hr] at he ho
  obtain ⟨R, hR⟩ : ∃ R, R = Sm.line vs d ⟨st, f, us, t⟩ l := ⟨_, rfl⟩
  rw [← hR] at he ho hk
  obtain ⟨⟨st', f', us', t'⟩, n'⟩ := R
  have hsz := Sm.ok_sizes hk
  exact ⟨st', f', A', us', c', t', n', hk, (own_cap ho).1, (own_cap ho).2, he, Sm.From.of_own ho rfl (fun u hu => by have := hsz.2.2.1 u hu; unfold maxLen; omega), hb⟩
theorem Sm.three (w : World) {B b m : Nat} (h : Rd w B b m) {Au : Option Addr} {vs : List U} (hat : At w w.heap.size 3 Us.cells Au vs) {W : World} (hW : W = (((w.alloc (.cells #[.int .i64 0, .string ⟨#[]⟩, .slice none 0 0, .string ⟨#[]⟩] 36)).alloc (.cells #[] 9)).alloc (.cells #[.int .i64 0, .string ⟨#[]⟩, .slice (some ⟨w.heap.size + 1, 0, none⟩) 0 0, .string ⟨#[]⟩] 36))) :
    W.heap[w.heap.size]? = some (.cells #[.int .i64 0, .string ⟨#[]⟩, .slice none 0 0, .string ⟨#[]⟩] 36 (0, 0)) ∧ Sm.Var W (w.heap.size + 2) (fun s => Sm.ok s = true) ∧ Rd W B b m ∧ w.grownBy W (some b) ∧ At W W.heap.size 3 Us.cells Au vs ∧ W.heap.size = w.heap.size + 3 := by
  have h1 : (((w.alloc (.cells #[.int .i64 0, .string ⟨#[]⟩, .slice none 0 0, .string ⟨#[]⟩] 36)).alloc (.cells #[] 9)).alloc (.cells #[.int .i64 0, .string ⟨#[]⟩, .slice (some ⟨w.heap.size + 1, 0, none⟩) 0 0, .string ⟨#[]⟩] 36)).heap[w.heap.size]? = some (.cells #[.int .i64 0, .string ⟨#[]⟩, .slice none 0 0, .string ⟨#[]⟩] 36 (0, 0)) :=
    (Below.heap_alloc _ _ w.heap.size (by simp; omega)).trans ((Below.heap_alloc _ _ w.heap.size (by simp)).trans (heap_alloc_new w _))
  have h2 := heap_alloc_new ((w.alloc (.cells #[.int .i64 0, .string ⟨#[]⟩, .slice none 0 0, .string ⟨#[]⟩] 36)).alloc (.cells #[] 9)) (.cells #[.int .i64 0, .string ⟨#[]⟩, .slice (some ⟨w.heap.size + 1, 0, none⟩) 0 0, .string ⟨#[]⟩] 36)
  rw [show ((w.alloc (.cells #[.int .i64 0, .string ⟨#[]⟩, .slice none 0 0, .string ⟨#[]⟩] 36)).alloc (.cells #[] 9)).heap.size = w.heap.size + 2 by simp] at h2
  have hb : Below w.heap.size w (((w.alloc (.cells #[.int .i64 0, .string ⟨#[]⟩, .slice none 0 0, .string ⟨#[]⟩] 36)).alloc (.cells #[] 9)).alloc (.cells #[.int .i64 0, .string ⟨#[]⟩, .slice (some ⟨w.heap.size + 1, 0, none⟩) 0 0, .string ⟨#[]⟩] 36)) := (((Below.refl _ _).alloc (Nat.le_refl _) _).alloc (by simp) _).alloc (by simp; omega) _
  subst hW
  exact ⟨h1, ⟨0, ⟨#[]⟩, some ⟨w.heap.size + 1, 0, none⟩, [], 0, ⟨#[]⟩, h2, Sm.ok_idle (.inl rfl), Sm.From.nil, Nat.le_refl _, Nat.zero_le _⟩, h.below hb, grown_below hb, (hat.below hb).mono hb.size, by simp⟩
theorem Sm.Var.stored {w : World} {b5 : Nat} {P : Sm.S → Prop} {a0 a1 a2 a3 : Value} {st : Int} {f t : ByteArray} {A : Option Addr} {us : List ByteArray} {c : Nat} (hb : w.heap[b5]? = some (.cells #[a0, a1, a2, a3] 36 (0, 0))) (hp : P ⟨st, f, us, t⟩) (hf : Sm.From w (b5 + 1) A us) (hc : us.length ≤ c) (hm : c ≤ maxLen) :
    Sm.Var ((((w.setCell ⟨b5, 0, none⟩ (.int .i64 st)).setCell ⟨b5, 1, none⟩ (.string f)).setCell ⟨b5, 2, none⟩ (.slice A us.length c)).setCell ⟨b5, 3, none⟩ (.string t)) b5 P := by
  refine ⟨st, f, A, us, c, t, ?_, hp, (((hf.set (p := ⟨b5, 0, none⟩) (Nat.lt_succ_self _) _).set (p := ⟨b5, 1, none⟩) (Nat.lt_succ_self _) _).set (p := ⟨b5, 2, none⟩) (Nat.lt_succ_self _) _).set (p := ⟨b5, 3, none⟩) (Nat.lt_succ_self _) _, hc, hm⟩
  rw [set_heap (set_heap (set_heap (set_heap hb)))]
  rfl
theorem Rd.set5 {w : World} {B b m : Nat} (h : Rd w B b m) {p : Addr} (hp : b < p.block) (v : Value) : Rd (w.setCell p v) B b m :=
  h.keep (Below.heap_setCell _ _ _ _ (by omega)) (fun i hi => Below.heap_setCell _ _ _ _ (by have := h.1; omega))
theorem At.keepAt {α : Type} {f : α → List Value} {us : List α} {W W' : World} {B n : Nat} {A : Option Addr} (h : At W B n f A us) (hk : ∀ g off, A = some ⟨g, off, none⟩ → g < B → W'.heap[g]? = W.heap[g]?) : At W' B n f A us := fun hl => by
  obtain ⟨g, off, ha, hlt, hc⟩ := h hl
  exact ⟨g, off, ha, hlt, fun i u hu j v hv => by rw [World.cell?_of_block (hk g off ha hlt)]; exact hc i u hu j v hv⟩
theorem res_set4 {W : World} {b0 b5 : Nat} (hb : b0 ≠ b5) (v0 v1 v2 v3 : Value) : ((((W.setCell ⟨b5, 0, none⟩ v0).setCell ⟨b5, 1, none⟩ v1).setCell ⟨b5, 2, none⟩ v2).setCell ⟨b5, 3, none⟩ v3).heap[b0]? = W.heap[b0]? :=
  (set_heap_ne (Ne.symm hb)).trans ((set_heap_ne (Ne.symm hb)).trans ((set_heap_ne (Ne.symm hb)).trans (set_heap_ne (Ne.symm hb))))
theorem users_ne {w : World} {B b5 : Nat} {Au : Option Addr} {vs : List U} (hat : At w B 3 Us.cells Au vs) {st : Int} {f t : ByteArray} {v : Value} (hv : ∀ s, v ≠ .string s) (hx : w.heap[b5]? = some (.cells #[.int .i64 st, .string f, v, .string t] 36 (0, 0))) (hl : 0 < vs.length) : ∃ g off, Au = some ⟨g, off, none⟩ ∧ g < B ∧ g ≠ b5 := by
  obtain ⟨g, off, ha, hlt, hc⟩ := hat hl
  refine ⟨g, off, ha, hlt, ?_⟩
  rintro rfl
  have c0 := hc 0 vs[0] (List.getElem?_eq_getElem hl) 0 (.string vs[0].name) rfl
  have c1 := hc 0 vs[0] (List.getElem?_eq_getElem hl) 1 (.string vs[0].pass) rfl
  simp only [World.cell?, hx] at c0 c1
  match off, c0, c1 with
  | 0, c0, _ => simp at c0
  | 1, _, c1 => simp at c1; exact hv _ c1
  | 2, c0, _ => simp at c0; exact hv _ c0
  | 3, _, c1 => simp at c1
  | n + 4, c0, _ => simp at c0
theorem users_set4 {w : World} {B b5 : Nat} {Au : Option Addr} {vs : List U} (hat : At w B 3 Us.cells Au vs) {st : Int} {f t : ByteArray} {A : Option Addr} {n c : Nat} (hx : w.heap[b5]? = some (.cells #[.int .i64 st, .string f, .slice A n c, .string t] 36 (0, 0))) (v0 v1 v2 v3 : Value) :
    At ((((w.setCell ⟨b5, 0, none⟩ v0).setCell ⟨b5, 1, none⟩ v1).setCell ⟨b5, 2, none⟩ v2).setCell ⟨b5, 3, none⟩ v3) B 3 Us.cells Au vs := fun hl => by
  obtain ⟨g, off, ha, hlt, hne⟩ := users_ne hat (fun s e => by cases e) hx hl
  exact At.keepAt hat (fun g' off' ha' _ => res_set4 (by rw [ha] at ha'; injection ha' with ha'; injection ha' with h1 h2; omega) v0 v1 v2 v3) hl
theorem grown_set4 {b b5 : Nat} {w W : World} (h : w.grownBy W (some b)) (hb : w.heap.size ≤ b5) (v0 v1 v2 v3 : Value) : w.grownBy ((((W.setCell ⟨b5, 0, none⟩ v0).setCell ⟨b5, 1, none⟩ v1).setCell ⟨b5, 2, none⟩ v2).setCell ⟨b5, 3, none⟩ v3) (some b) :=
  grown_setNew (grown_setNew (grown_setNew (grown_setNew h (p := ⟨b5, 0, none⟩) hb _) (p := ⟨b5, 1, none⟩) hb _) (p := ⟨b5, 2, none⟩) hb _) (p := ⟨b5, 3, none⟩) hb _
theorem Rd.set4 {W : World} {B b m b5 : Nat} (h : Rd W B b m) (hb : b < b5) (v0 v1 v2 v3 : Value) : Rd ((((W.setCell ⟨b5, 0, none⟩ v0).setCell ⟨b5, 1, none⟩ v1).setCell ⟨b5, 2, none⟩ v2).setCell ⟨b5, 3, none⟩ v3) B b m :=
  (((h.set5 (p := ⟨b5, 0, none⟩) hb _).set5 (p := ⟨b5, 1, none⟩) hb _).set5 (p := ⟨b5, 2, none⟩) hb _).set5 (p := ⟨b5, 3, none⟩) hb _
theorem At.set4 {α : Type} {f : α → List Value} {us : List α} {W : World} {B n : Nat} {A : Option Addr} {b5 : Nat} (h : At W B n f A us) (hb : B ≤ b5) (v0 v1 v2 v3 : Value) : At ((((W.setCell ⟨b5, 0, none⟩ v0).setCell ⟨b5, 1, none⟩ v1).setCell ⟨b5, 2, none⟩ v2).setCell ⟨b5, 3, none⟩ v3) B n f A us :=
  h.keep fun i hi => (Below.heap_setCell _ _ _ _ (by simp; omega)).trans ((Below.heap_setCell _ _ _ _ (by simp; omega)).trans ((Below.heap_setCell _ _ _ _ (by simp; omega)).trans (Below.heap_setCell _ _ _ _ (by simp; omega))))

theorem Sm.picked_fin {n m m' B B' b : Nat} {w W : World} {st : Int} {f t : ByteArray} {A : Option Addr} {us : List ByteArray} {c : Nat} (hs : Sm.small ⟨st, f, us, t⟩) (hf : Sm.From W B' A us) (hB : w.heap.size < B') (hc : us.length ≤ c) (hm : c ≤ maxLen) (hR : Rd W B b m') (hm' : m' ≤ m + n) (hG : w.grownBy W (some b)) (hb : b < w.heap.size) (v0 v1 v2 v3 : Value) :
    Sm.Picked n w B b m (.returned (.agg #[.int .i64 st, .string f, .slice A us.length c, .string t])) ((((W.setCell ⟨w.heap.size, 0, none⟩ v0).setCell ⟨w.heap.size, 1, none⟩ v1).setCell ⟨w.heap.size, 2, none⟩ v2).setCell ⟨w.heap.size, 3, none⟩ v3) :=
  ⟨st, f, A, us, c, t, hs, rfl, ((((hf.set (p := ⟨w.heap.size, 0, none⟩) hB _).set (p := ⟨w.heap.size, 1, none⟩) hB _).set (p := ⟨w.heap.size, 2, none⟩) hB _).set (p := ⟨w.heap.size, 3, none⟩) hB _).base (Nat.le_of_lt hB), hc, hm, (hR.set4 hb _ _ _ _).mono hm', grown_set4 hG (Nat.le_refl _) _ _ _ _⟩

set_option maxRecDepth 100000 in
set_option maxHeartbeats 6400000 in
theorem l92Sub_any (w : World) (B b m : Nat) (hm : m ≤ 999980000) (h : Rd w B b m) (Au : Option Addr) (vs : List U) (cu : Nat) (hsm : SmallUsers vs) (hat : At w w.heap.size 3 Us.cells Au vs) :
    Calls Tryz.prog 78 #[.pointer (some ⟨b, 0, none⟩), .slice Au vs.length cu] w (Sm.Picked 150 w B b m) := by
  have hbl := h.lt
  go_enter Tryz.func78, Tryz.ntmps78
  go_upto_region 2 with fail
  generalize hW : (((w.alloc (.cells #[.int .i64 0, .string ⟨#[]⟩, .slice none 0 0, .string ⟨#[]⟩] 36)).alloc (.cells #[] 9)).alloc (.cells #[.int .i64 0, .string ⟨#[]⟩, .slice (some ⟨w.heap.size + 1, 0, none⟩) 0 0, .string ⟨#[]⟩] 36)) = w0
  obtain ⟨hz0, hv0, h0, G0, hat0, hsz0⟩ := Sm.three w h hat hW.symm
  have HZ0 := Lib.hid hz0
  have HV0 := Lib.hid hv0
  obtain ⟨b5, hb5⟩ : ∃ b5, b5 = w.heap.size + 1 + 1 := ⟨_, rfl⟩
  rw [← hb5] at HV0 ⊢
  have hlt0 : b5 < w0.heap.size := by omega
  have hwb : w.heap.size < b5 := by omega
  have hwb2 : w.heap.size ≤ b5 := by omega
  have hbb : b < b5 := by omega
  clear hW hz0 hv0 hsz0 hb5
  go_wp2_with fail
  refine Calls.mono (pick_any 14 (by omega) _ _ _ _ (by omega) h0) ?_
  rintro e w1 ⟨n, hn, rfl, h1, hg1⟩
  have HV1 := Lib.hid (HV0.out.grown hg1 (by omega))
  have HR1 := Lib.hid h1
  have HG1 := Lib.hid (grown_trans G0 hg1)
  have HZ1 := Lib.hid ((hg1.block w.heap.size (by omega) (by intro e; injection e with e; omega)).trans HZ0.out)
  have HAT1 := Lib.hid (users_grown hat0 h0 hg1)
  clear HV0 h1 G0 hat0 HZ0 h0 hg1 hlt0
  go_upto_block 0 with fail
  go_cut [7] (fun i wx => Hid (Sm.Var wx (b5) (fun s => Sm.ok s = true)) ∧ Hid (Rd wx B b (m + 113)) ∧ Hid (w.grownBy wx (some b)) ∧ Hid (wx.heap[w.heap.size]? = some (.cells #[.int .i64 0, .string ⟨#[]⟩, .slice none 0 0, .string ⟨#[]⟩] 36 (0, 0))))
  case first =>
    go_wp2_with fail
    go_loopg [7] n (fun g i wr => ∃ k : Nat, k ≤ n ∧ Hid (g = n - k) ∧ i = .int .i64 k ∧ Hid (Sm.Var wr (b5) (fun s => Sm.ok s = true)) ∧ Hid (Rd wr B b (m + 1 + 8 * k)) ∧ Hid (w.grownBy wr (some b)) ∧ Hid (wr.heap[w.heap.size]? = some (.cells #[.int .i64 0, .string ⟨#[]⟩, .slice none 0 0, .string ⟨#[]⟩] 36 (0, 0))) ∧ Hid (At wr wr.heap.size 3 Us.cells Au vs))
    case atStart => exact ⟨0, Nat.zero_le _, Lib.hid rfl, rfl, HV1, HR1, HG1, HZ1, HAT1⟩
    case round =>
      obtain ⟨k, hk, HG, rfl, HV, HR, HW, HZ, HAT⟩ := hrel
      by_cases hlt : k < n
      · have hlti : (k : Int) < (n : Int) := by omega
        cases hv : Us.usersOk vs
        · have HUV := Lib.hid hv
          clear hv
          go_wp2_with fail
          refine Calls.mono (sUsersValid_any Au vs cu _ (at_users HAT.out (small_sizes hsm)) (small_len hsm)) ?_
          rintro e w2 ⟨rfl, hb2⟩
          rw [HUV.out]
          go_wp2_with fail
          go_meet
          exact ⟨Lib.hid (HV.out.below hb2), Lib.hid ((HR.out.below hb2).mono (by omega)), Lib.hid (grown_base HW.out (hb2.mono HW.out.size)), Lib.hid ((hb2.block _ (by have := HV.out.lt; omega)).trans HZ.out)⟩
        · have HUV := Lib.hid hv
          clear hv
          go_wp2_with fail
          refine Calls.mono (sUsersValid_any Au vs cu _ (at_users HAT.out (small_sizes hsm)) (small_len hsm)) ?_
          rintro e w2 ⟨rfl, hb2⟩
          rw [HUV.out]
          obtain ⟨st, f, A, us, c, t, hx2, hok, hfr, hcap, hcm⟩ := HV.out.below hb2
          have hb5lt := (Array.getElem?_eq_some_iff.1 hx2).1
          have d0 : w2.cell? ⟨b5, 0, none⟩ = some (.int .i64 st) := cell_at hx2 0 _ rfl
          have d1 : w2.cell? ⟨b5, 1, none⟩ = some (.string f) := cell_at hx2 1 _ rfl
          have d2 : w2.cell? ⟨b5, 2, none⟩ = some (.slice A us.length c) := cell_at hx2 2 _ rfl
          have d3 : w2.cell? ⟨b5, 3, none⟩ = some (.string t) := cell_at hx2 3 _ rfl
          have y0 := free_at hx2 0
          have y1 := free_at hx2 1
          have y2 := free_at hx2 2
          have y3 := free_at hx2 3
          have HX2 := Lib.hid hx2
          have HOKS := Lib.hid hok
          have HFR : Hid (Sm.From w2.drew _ A us) := Lib.hid hfr
          have HFS : Hid (f.size ≤ 30) := Lib.hid (Sm.small_ok hok).1
          have HMK : Hid (m + 1 + 8 * k ≤ 999998000) := Lib.hid (by omega)
          have HRD : Hid (Rd w2.drew B b (m + 1 + 8 * k)) := Lib.hid (show Rd w2 B b _ from HR.out.below hb2)
          have HATD : Hid (At w2.drew w2.drew.heap.size 3 Us.cells Au vs) := Lib.hid (show At w2 w2.heap.size 3 Us.cells Au vs from (HAT.out.below hb2).mono hb2.size)
          have HG2 : Hid (w.grownBy w2.drew (some b)) := Lib.hid (grown_drewN (grown_base HW.out (hb2.mono HW.out.size)) 1)
          have HZ2 : Hid (w2.drew.heap[w.heap.size]? = some (.cells #[.int .i64 0, .string ⟨#[]⟩, .slice none 0 0, .string ⟨#[]⟩] 36 (0, 0))) := Lib.hid ((hb2.block _ (by have := HV.out.lt; omega)).trans HZ.out)
          have HZL : Hid (w.heap.size < w2.drew.heap.size) := Lib.hid (Nat.lt_of_lt_of_le (by omega) (Nat.le_of_lt hb5lt))
          clear hx2 hok hfr hb2
          go_upto_region 6 with fail
          go_region_law ((first | (go_simp; (go_at_call 61; refine Calls.mono (l92Command_any _ B b _ HMK.out HRD.out st f t A us c HFS.out Au vs cu hsm HATD.out) ?_; rintro e w3 ⟨l, hl, rfl, h3, hg3⟩; have hx3 := (hg3.block _ hb5lt (by intro e; injection e with e; omega)).trans HX2.out; have HX3 := Lib.hid hx3; have d0 : w3.cell? ⟨b5, 0, none⟩ = some (.int .i64 st) := cell_at HX3.out 0 _ rfl; have d1 : w3.cell? ⟨b5, 1, none⟩ = some (.string f) := cell_at HX3.out 1 _ rfl; have d2 : w3.cell? ⟨b5, 2, none⟩ = some (.slice A us.length c) := cell_at HX3.out 2 _ rfl; have d3 : w3.cell? ⟨b5, 3, none⟩ = some (.string t) := cell_at HX3.out 3 _ rfl; have HA3 : Hid (AtStrs w3 w3.heap.size A us) := Lib.hid (HFR.out.grown hg3 (by omega)).at_; have HU3 := Lib.hid (at_users (users_grown HATD.out HRD.out hg3) (small_sizes hsm)); have hs3 : w2.heap.size ≤ w3.heap.size := hg3.size; have G3 := Lib.hid (grown_trans HG2.out hg3); have HZ3 := Lib.hid ((hg3.block w.heap.size HZL.out (by intro e; injection e with e; omega)).trans HZ2.out); have HR3 := Lib.hid h3; have HAT3 := Lib.hid (users_grown HATD.out HRD.out hg3); clear hx3 hg3 h3)) | (go_simp; (go_at_call 46; refine Calls.mono (sSubmissionLine_ok st f t A us c _ HA3.out hcap hcm HOKS.out Au vs cu HU3.out (small_len hsm) HUV.out ⟨#[104, 111, 115, 116, 46, 111, 114, 103]⟩ l (by decide) (by decide) (by omega)) ?_; rintro e w4 ⟨st4, f4, A4, us4, c4, t4, n4, hok4, hcap4, hcm4, rfl, hfr4, hb4⟩; have HX4 := Lib.hid ((hb4.block _ (Nat.lt_of_lt_of_le hb5lt hs3)).trans HX3.out); have d0 : w4.cell? ⟨b5, 0, none⟩ = some (.int .i64 st) := cell_at HX4.out 0 _ rfl; have d1 : w4.cell? ⟨b5, 1, none⟩ = some (.string f) := cell_at HX4.out 1 _ rfl; have d2 : w4.cell? ⟨b5, 2, none⟩ = some (.slice A us.length c) := cell_at HX4.out 2 _ rfl; have d3 : w4.cell? ⟨b5, 3, none⟩ = some (.string t) := cell_at HX4.out 3 _ rfl; have y0 := free_at HX4.out 0; have y1 := free_at HX4.out 1; have y2 := free_at HX4.out 2; have y3 := free_at HX4.out 3; have HB4 := Lib.hid hb4; have HOK4 := Lib.hid hok4; have HFR4 := Lib.hid hfr4; clear hb4 hok4 hfr4))))
          all_goals
            go_wp2_with fail
            go_roundg (n - (k + 1))
            case rel =>
              have hbz : w4.heap.size = w4.heap.size := rfl
              have hfr : Sm.From w4 (b5 + 1) A4 us4 := HFR4.out.base (by omega)
              exact ⟨k + 1, by omega, Lib.hid rfl, by go_num, Lib.hid (Sm.Var.stored HX4.out HOK4.out hfr hcap4 hcm4), Lib.hid (((HR3.out.below HB4.out).set4 (by omega) _ _ _ _).mono (by omega)), Lib.hid (grown_set4 (grown_base G3.out (HB4.out.mono G3.out.size)) (by omega) _ _ _ _), Lib.hid ((res_set4 (by omega) _ _ _ _).trans ((HB4.out.block _ (by omega)).trans HZ3.out)), Lib.hid (((users_set4 (HAT3.out.below HB4.out) HX4.out _ _ _ _)).mono (by simp; exact HB4.out.size))⟩
            case measure => have := HG.out; omega
      · have hlti : ¬ (k : Int) < (n : Int) := by omega
        go_wp2_with fail
        go_meet
        exact ⟨HV, Lib.hid (HR.out.mono (by omega)), HW, HZ⟩
  case rest =>
    obtain ⟨HV, HR, HW, HZ⟩ := hcut
    go_wp2_with fail
    refine Calls.mono (pick_any 20 (by omega) _ _ _ _ (by omega) HR.out) ?_
    rintro e w5 ⟨r, hr, rfl, h5, hg5⟩
    obtain ⟨st, f, A, us, c, t, hx5, hok, hfr, hcap, hcm⟩ := HV.out.grown hg5 hbb
    have hb5lt := (Array.getElem?_eq_some_iff.1 hx5).1
    have HSM := Lib.hid (Sm.small_ok hok)
    have HX5 := Lib.hid hx5
    have HFR := Lib.hid hfr
    have HG5 := Lib.hid (grown_trans HW.out hg5)
    have HZ5 := Lib.hid ((hg5.block _ (Array.getElem?_eq_some_iff.1 HZ.out).1 (by intro e; injection e with e; omega)).trans HZ.out)
    have HR5 := Lib.hid h5
    have hne : b5 ≠ w.heap.size := by omega
    have hne' : w.heap.size ≠ b5 := by omega
    clear hx5 hok hfr hg5 h5 HV HR HW HZ
    by_cases q : r = 0
    · subst q
      go_wp2_with fail
      refine Calls.mono (pick_any 9 (by omega) _ _ _ _ (by omega) HR5.out) ?_
      rintro e w6 ⟨x, hx, rfl, h6, hg6⟩
      have hx6 := (hg6.block _ hb5lt (by intro e; injection e with e; omega)).trans HX5.out
      have hz6 := (hg6.block _ (by omega) (by intro e; injection e with e; omega)).trans HZ5.out
      have d0 : w6.cell? ⟨b5, 0, none⟩ = some (.int .i64 st) := cell_at hx6 0 _ rfl
      have d1 : w6.cell? ⟨b5, 1, none⟩ = some (.string f) := cell_at hx6 1 _ rfl
      have d2 : w6.cell? ⟨b5, 2, none⟩ = some (.slice A us.length c) := cell_at hx6 2 _ rfl
      have d3 : w6.cell? ⟨b5, 3, none⟩ = some (.string t) := cell_at hx6 3 _ rfl
      have y0 := free_at hx6 0
      have y1 := free_at hx6 1
      have y2 := free_at hx6 2
      have y3 := free_at hx6 3
      have r0 : w6.cell? ⟨w.heap.size, 0, none⟩ = some (.int .i64 0) := cell_at hz6 0 _ rfl
      have r1 : w6.cell? ⟨w.heap.size, 1, none⟩ = some (.string ⟨#[]⟩) := cell_at hz6 1 _ rfl
      have r2 : w6.cell? ⟨w.heap.size, 2, none⟩ = some (.slice none 0 0) := cell_at hz6 2 _ rfl
      have r3 : w6.cell? ⟨w.heap.size, 3, none⟩ = some (.string ⟨#[]⟩) := cell_at hz6 3 _ rfl
      have z0 := free_at hz6 0
      have z1 := free_at hz6 1
      have z2 := free_at hz6 2
      have z3 := free_at hz6 3
      clear hx6 hz6
      go_wp2_with fail
      refine bodyPost_ret (v := .agg #[.int .i64 ((x : Int) - 1), .string f, .slice A us.length c, .string t]) (by simp [results, Tryz.results78, go_sem, r0, r1, r2, r3]) rfl ?_
      exact Sm.picked_fin (show Sm.small ⟨(x : Int) - 1, f, us, t⟩ from HSM.out) ((HFR.out.grown hg6 (by omega)).set (p := ⟨b5, 0, none⟩) (Nat.lt_succ_self _) _) (by omega) hcap hcm (h6.set5 (p := ⟨b5, 0, none⟩) hbb _) (by omega) (grown_setNew (grown_trans HG5.out hg6) (p := ⟨b5, 0, none⟩) hwb2 _) hbl _ _ _ _
    · have q0 : ((r : Int) == 0) = false := by simp; omega
      clear q
      by_cases q : r = 1
      · subst q
        go_wp2_with fail
        refine Calls.mono (Dr.l91Name_any _ _ _ _ (by omega) HR5.out) ?_
        rintro e w6 ⟨x, hx, rfl, h6, hg6⟩
        have hx6 := (hg6.block _ hb5lt (by intro e; injection e with e; omega)).trans HX5.out
        have hz6 := (hg6.block _ (by omega) (by intro e; injection e with e; omega)).trans HZ5.out
        have d0 : w6.cell? ⟨b5, 0, none⟩ = some (.int .i64 st) := cell_at hx6 0 _ rfl
        have d1 : w6.cell? ⟨b5, 1, none⟩ = some (.string f) := cell_at hx6 1 _ rfl
        have d2 : w6.cell? ⟨b5, 2, none⟩ = some (.slice A us.length c) := cell_at hx6 2 _ rfl
        have d3 : w6.cell? ⟨b5, 3, none⟩ = some (.string t) := cell_at hx6 3 _ rfl
        have y0 := free_at hx6 0
        have y1 := free_at hx6 1
        have y2 := free_at hx6 2
        have y3 := free_at hx6 3
        have r0 : w6.cell? ⟨w.heap.size, 0, none⟩ = some (.int .i64 0) := cell_at hz6 0 _ rfl
        have r1 : w6.cell? ⟨w.heap.size, 1, none⟩ = some (.string ⟨#[]⟩) := cell_at hz6 1 _ rfl
        have r2 : w6.cell? ⟨w.heap.size, 2, none⟩ = some (.slice none 0 0) := cell_at hz6 2 _ rfl
        have r3 : w6.cell? ⟨w.heap.size, 3, none⟩ = some (.string ⟨#[]⟩) := cell_at hz6 3 _ rfl
        have z0 := free_at hz6 0
        have z1 := free_at hz6 1
        have z2 := free_at hz6 2
        have z3 := free_at hz6 3
        clear hx6 hz6
        go_wp2_with fail
        refine bodyPost_ret (v := .agg #[.int .i64 st, .string x, .slice A us.length c, .string t]) (by simp [results, Tryz.results78, go_sem, r0, r1, r2, r3]) rfl ?_
        exact Sm.picked_fin (show Sm.small ⟨st, x, us, t⟩ from ⟨by dsimp only; omega, HSM.out.2⟩) ((HFR.out.grown hg6 (by omega)).set (p := ⟨b5, 1, none⟩) (Nat.lt_succ_self _) _) (by omega) hcap hcm (h6.set5 (p := ⟨b5, 1, none⟩) hbb _) (by omega) (grown_setNew (grown_trans HG5.out hg6) (p := ⟨b5, 1, none⟩) hwb2 _) hbl _ _ _ _
      · have q1 : ((r : Int) == 1) = false := by simp; omega
        clear q
        by_cases q : r = 2
        · subst q
          go_wp2_with fail
          refine Calls.mono (pick_any 4 (by omega) _ _ _ _ (by omega) HR5.out) ?_
          rintro e w6 ⟨x, hx, rfl, h6, hg6⟩
          have hx6 := (hg6.block _ hb5lt (by intro e; injection e with e; omega)).trans HX5.out
          have hz6 := (hg6.block _ (by omega) (by intro e; injection e with e; omega)).trans HZ5.out
          have d0 : w6.cell? ⟨b5, 0, none⟩ = some (.int .i64 st) := cell_at hx6 0 _ rfl
          have d1 : w6.cell? ⟨b5, 1, none⟩ = some (.string f) := cell_at hx6 1 _ rfl
          have d2 : w6.cell? ⟨b5, 2, none⟩ = some (.slice A us.length c) := cell_at hx6 2 _ rfl
          have d3 : w6.cell? ⟨b5, 3, none⟩ = some (.string t) := cell_at hx6 3 _ rfl
          have y0 := free_at hx6 0
          have y1 := free_at hx6 1
          have y2 := free_at hx6 2
          have y3 := free_at hx6 3
          have r0 : w6.cell? ⟨w.heap.size, 0, none⟩ = some (.int .i64 0) := cell_at hz6 0 _ rfl
          have r1 : w6.cell? ⟨w.heap.size, 1, none⟩ = some (.string ⟨#[]⟩) := cell_at hz6 1 _ rfl
          have r2 : w6.cell? ⟨w.heap.size, 2, none⟩ = some (.slice none 0 0) := cell_at hz6 2 _ rfl
          have r3 : w6.cell? ⟨w.heap.size, 3, none⟩ = some (.string ⟨#[]⟩) := cell_at hz6 3 _ rfl
          have z0 := free_at hz6 0
          have z1 := free_at hz6 1
          have z2 := free_at hz6 2
          have z3 := free_at hz6 3
          clear hx6 hz6
          have HC := Lib.hid (l6Many_any ⟨#[121]⟩ (19 + x) rfl (by omega) w6)
          have E2 : Hid ((19 : Int) + (x : Int) = ((19 + x : Nat) : Int)) := Lib.hid (by omega)
          go_wp2_with fail
          rw [E2.out]
          refine Calls.mono HC.out ?_
          rintro e w7 ⟨z, rfl, hz, rfl⟩
          go_wp2_with fail
          refine bodyPost_ret (v := .agg #[.int .i64 st, .string f, .slice A us.length c, .string z]) (by simp [results, Tryz.results78, go_sem, r0, r1, r2, r3]) rfl ?_
          exact Sm.picked_fin (show Sm.small ⟨st, f, us, z⟩ from ⟨HSM.out.1, HSM.out.2.1, HSM.out.2.2.1, by dsimp only; omega⟩) ((HFR.out.grown hg6 (by omega)).set (p := ⟨b5, 3, none⟩) (Nat.lt_succ_self _) _) (by omega) hcap hcm (h6.set5 (p := ⟨b5, 3, none⟩) hbb _) (by omega) (grown_setNew (grown_trans HG5.out hg6) (p := ⟨b5, 3, none⟩) hwb2 _) hbl _ _ _ _
        · have q2 : ((r : Int) == 2) = false := by simp; omega
          clear q
          by_cases q : r = 3
          · subst q
            go_wp2_with fail
            refine Calls.mono (l92To_any _ _ _ _ (by omega) HR5.out) ?_
            rintro e w6 ⟨us6, v6, hl6, hS6, rfl, ho6, h6, hg6⟩
            obtain ⟨A6, c6, rfl, hcap6, hcm6⟩ := OwnL.form ho6
            have HFR6 := Lib.hid (Sm.From.of_own ho6 rfl (fun u hu => by have := hS6 u hu; unfold maxLen; omega))
            have HS6 := Lib.hid hS6
            clear ho6 hS6
            have hx6 := (hg6.block _ hb5lt (by intro e; injection e with e; omega)).trans HX5.out
            have hz6 := (hg6.block _ (by omega) (by intro e; injection e with e; omega)).trans HZ5.out
            have d0 : w6.cell? ⟨b5, 0, none⟩ = some (.int .i64 st) := cell_at hx6 0 _ rfl
            have d1 : w6.cell? ⟨b5, 1, none⟩ = some (.string f) := cell_at hx6 1 _ rfl
            have d2 : w6.cell? ⟨b5, 2, none⟩ = some (.slice A us.length c) := cell_at hx6 2 _ rfl
            have d3 : w6.cell? ⟨b5, 3, none⟩ = some (.string t) := cell_at hx6 3 _ rfl
            have y0 := free_at hx6 0
            have y1 := free_at hx6 1
            have y2 := free_at hx6 2
            have y3 := free_at hx6 3
            have r0 : w6.cell? ⟨w.heap.size, 0, none⟩ = some (.int .i64 0) := cell_at hz6 0 _ rfl
            have r1 : w6.cell? ⟨w.heap.size, 1, none⟩ = some (.string ⟨#[]⟩) := cell_at hz6 1 _ rfl
            have r2 : w6.cell? ⟨w.heap.size, 2, none⟩ = some (.slice none 0 0) := cell_at hz6 2 _ rfl
            have r3 : w6.cell? ⟨w.heap.size, 3, none⟩ = some (.string ⟨#[]⟩) := cell_at hz6 3 _ rfl
            have z0 := free_at hz6 0
            have z1 := free_at hz6 1
            have z2 := free_at hz6 2
            have z3 := free_at hz6 3
            clear hx6 hz6
            go_wp2_with fail
            refine bodyPost_ret (v := .agg #[.int .i64 st, .string f, .slice A6 us6.length c6, .string t]) (by simp [results, Tryz.results78, go_sem, r0, r1, r2, r3]) rfl ?_
            exact Sm.picked_fin (show Sm.small ⟨st, f, us6, t⟩ from ⟨HSM.out.1, hl6, HS6.out, HSM.out.2.2.2⟩) (HFR6.out.set (p := ⟨b5, 2, none⟩) (by simp; omega) _) (by omega) hcap6 hcm6 (h6.set5 (p := ⟨b5, 2, none⟩) hbb _) (by omega) (grown_setNew (grown_trans HG5.out hg6) (p := ⟨b5, 2, none⟩) hwb2 _) hbl _ _ _ _
          · have q3 : ((r : Int) == 3) = false := by simp; omega
            clear q
            have d0 : w5.cell? ⟨b5, 0, none⟩ = some (.int .i64 st) := cell_at HX5.out 0 _ rfl
            have d1 : w5.cell? ⟨b5, 1, none⟩ = some (.string f) := cell_at HX5.out 1 _ rfl
            have d2 : w5.cell? ⟨b5, 2, none⟩ = some (.slice A us.length c) := cell_at HX5.out 2 _ rfl
            have d3 : w5.cell? ⟨b5, 3, none⟩ = some (.string t) := cell_at HX5.out 3 _ rfl
            have y0 := free_at HX5.out 0
            have y1 := free_at HX5.out 1
            have y2 := free_at HX5.out 2
            have y3 := free_at HX5.out 3
            have r0 : w5.cell? ⟨w.heap.size, 0, none⟩ = some (.int .i64 0) := cell_at HZ5.out 0 _ rfl
            have r1 : w5.cell? ⟨w.heap.size, 1, none⟩ = some (.string ⟨#[]⟩) := cell_at HZ5.out 1 _ rfl
            have r2 : w5.cell? ⟨w.heap.size, 2, none⟩ = some (.slice none 0 0) := cell_at HZ5.out 2 _ rfl
            have r3 : w5.cell? ⟨w.heap.size, 3, none⟩ = some (.string ⟨#[]⟩) := cell_at HZ5.out 3 _ rfl
            have z0 := free_at HZ5.out 0
            have z1 := free_at HZ5.out 1
            have z2 := free_at HZ5.out 2
            have z3 := free_at HZ5.out 3
            go_wp2_with fail
            refine bodyPost_ret (v := .agg #[.int .i64 st, .string f, .slice A us.length c, .string t]) (by simp [results, Tryz.results78, go_sem, r0, r1, r2, r3]) rfl ?_
            exact Sm.picked_fin HSM.out HFR.out (by omega) hcap hcm HR5.out (by omega) HG5.out hbl _ _ _ _
end Go.Proofs.YtnbggmmghopphaaGreatDoor

namespace Go.Proofs.YtnbggmmghopphaaGreatDoor
set_option linter.unusedVariables false
open Go.RowKit
open Us (U)

/-- a session that was drawn -/
def Sm.Drawn (w : World) (e : Ending) (w' : World) : Prop :=
  ∃ st f A us c t, Sm.small ⟨st, f, us, t⟩ ∧ us.length ≤ c ∧ c ≤ maxLen ∧ e = .returned (.agg #[.int .i64 st, .string f, .slice A us.length c, .string t]) ∧ AtStrs w' w'.heap.size A us ∧ Below w.heap.size w w'
theorem Sm.drawn_fin {w W : World} {st : Int} {f t : ByteArray} {A : Option Addr} {us : List ByteArray} {c B' : Nat} (hs : Sm.small ⟨st, f, us, t⟩) (hf : Sm.From W B' A us) (hB : w.heap.size < B') (hc : us.length ≤ c) (hm : c ≤ maxLen) (hb : Below w.heap.size w W) (v0 v1 v2 v3 : Value) :
    Sm.Drawn w (.returned (.agg #[.int .i64 st, .string f, .slice A us.length c, .string t])) ((((W.setCell ⟨w.heap.size, 0, none⟩ v0).setCell ⟨w.heap.size, 1, none⟩ v1).setCell ⟨w.heap.size, 2, none⟩ v2).setCell ⟨w.heap.size, 3, none⟩ v3) :=
  ⟨st, f, A, us, c, t, hs, hc, hm, rfl, ((((hf.set (p := ⟨w.heap.size, 0, none⟩) hB _).set (p := ⟨w.heap.size, 1, none⟩) hB _).set (p := ⟨w.heap.size, 2, none⟩) hB _).set (p := ⟨w.heap.size, 3, none⟩) hB _).at_, set4 hb (Nat.le_refl _) _ _ _ _⟩
theorem Sm.Drawn.alloc {w W : World} {e : Ending} (h : Sm.Drawn w e W) (o : Obj) : Sm.Drawn w e (W.alloc o) := by
  obtain ⟨st, f, A, us, c, t, h1, h2, h3, h4, h5, h6⟩ := h
  have hb := (Below.refl W.heap.size W).alloc (Nat.le_refl _) o
  exact ⟨st, f, A, us, c, t, h1, h2, h3, h4, (h5.below hb).mono hb.size, h6.alloc h6.size o⟩
theorem Sm.small_max {s : Sm.S} (h : Sm.small s) : s.user.size ≤ maxLen ∧ s.text.size ≤ maxLen ∧ s.tos.length ≤ 1048576 := by
  obtain ⟨h1, h2, h3, h4⟩ := h
  unfold maxLen
  exact ⟨by omega, by omega, by omega⟩
/-- block b5 is a session's variable; its list lies apart from it, behind block b -/
def Sm.Var2 (w : World) (b b5 : Nat) : Prop :=
  ∃ st f A us c t, w.heap[b5]? = some (.cells #[.int .i64 st, .string f, .slice A us.length c, .string t] 36 (0, 0)) ∧ Sm.small ⟨st, f, us, t⟩ ∧ Sm.From w (b + 1) A us ∧ us.length ≤ c ∧ c ≤ maxLen ∧ b < b5
theorem Sm.Var2.lt {w : World} {b b5 : Nat} (h : Sm.Var2 w b b5) : b5 < w.heap.size := by
  obtain ⟨st, f, A, us, c, t, h1, _⟩ := h
  exact (Array.getElem?_eq_some_iff.1 h1).1
theorem Sm.Var2.grown {w w' : World} {b b5 : Nat} (h : Sm.Var2 w b b5) (hg : w.grownBy w' (some b)) : Sm.Var2 w' b b5 := by
  have hlt := h.lt
  obtain ⟨st, f, A, us, c, t, h1, h2, h3, h4, h5, h6⟩ := h
  exact ⟨st, f, A, us, c, t, (hg.block b5 hlt (by intro e; injection e with e; omega)).trans h1, h2, h3.grown hg (Nat.lt_succ_self _), h4, h5, h6⟩
theorem Sm.Var2.below {w w' : World} {b b5 : Nat} (h : Sm.Var2 w b b5) (hb : Below w.heap.size w w') : Sm.Var2 w' b b5 := by
  have hlt := h.lt
  obtain ⟨st, f, A, us, c, t, h1, h2, h3, h4, h5, h6⟩ := h
  exact ⟨st, f, A, us, c, t, (hb.block b5 hlt).trans h1, h2, h3.below hb, h4, h5, h6⟩
theorem Sm.Var2.laid {w : World} {st : Int} {f t : ByteArray} {A : Option Addr} {us : List ByteArray} {c b : Nat} (hp : Sm.small ⟨st, f, us, t⟩) (hf : Sm.From w (b + 1) A us) (hc : us.length ≤ c) (hm : c ≤ maxLen) (hb : b < w.heap.size) : Sm.Var2 (w.alloc (.cells #[.int .i64 st, .string f, .slice A us.length c, .string t] 36)) b w.heap.size :=
  ⟨st, f, A, us, c, t, heap_alloc_new w _, hp, hf.below ((Below.refl _ _).alloc (Nat.le_refl _) _), hc, hm, hb⟩
theorem Sm.Var2.stored {w : World} {b b5 : Nat} (h : Sm.Var2 w b b5) {st : Int} {f t : ByteArray} {A : Option Addr} {us : List ByteArray} {c : Nat} (hp : Sm.small ⟨st, f, us, t⟩) (hf : Sm.From w (b5 + 1) A us) (hc : us.length ≤ c) (hm : c ≤ maxLen) :
    Sm.Var2 ((((w.setCell ⟨b5, 0, none⟩ (.int .i64 st)).setCell ⟨b5, 1, none⟩ (.string f)).setCell ⟨b5, 2, none⟩ (.slice A us.length c)).setCell ⟨b5, 3, none⟩ (.string t)) b b5 := by
  obtain ⟨st0, f0, A0, us0, c0, t0, h1, h2, h3, h4, h5, h6⟩ := h
  refine ⟨st, f, A, us, c, t, ?_, hp, ((((hf.set (p := ⟨b5, 0, none⟩) (Nat.lt_succ_self _) _).set (p := ⟨b5, 1, none⟩) (Nat.lt_succ_self _) _).set (p := ⟨b5, 2, none⟩) (Nat.lt_succ_self _) _).set (p := ⟨b5, 3, none⟩) (Nat.lt_succ_self _) _).base (by omega), hc, hm, h6⟩
  rw [set_heap (set_heap (set_heap (set_heap h1)))]
  rfl
theorem Bytes.laid {w : World} {a : Option Addr} {len cap : Nat} (h : Bytes w a len cap) (o : Obj) : Bytes (w.alloc o) a len cap := by
  obtain ⟨b1, b2, b3⟩ := h
  refine ⟨b1, b2, fun hl => ?_⟩
  obtain ⟨ab, off, e1, e2, e3⟩ := b3 hl
  refine ⟨ab, off, e1, by simp; omega, fun j hj => ?_⟩
  obtain ⟨v, hv, hc⟩ := e3 j hj
  exact ⟨v, hv, (World.cell?_alloc_lt w _ _ e2).trans hc⟩

end Go.Proofs.YtnbggmmghopphaaGreatDoor
