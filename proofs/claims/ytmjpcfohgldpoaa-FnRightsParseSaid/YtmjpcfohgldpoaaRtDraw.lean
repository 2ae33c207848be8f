/- Draws of rights and of letters. -/
import Derived.Test.YtmjpcfohgldpoaaRdr
import Derived.Test.YtmjpcfohgldpoaaRtText2
namespace Go.Proofs.Ytmjpcfohgldpoaa
set_option linter.unusedVariables false
open Go.RowKit

/-- what drawing a number gives: one of which S holds -/
def PickedInt (S : Int → Prop) (c : Nat) (w : World) (B b m : Nat) (e : Ending) (w' : World) : Prop :=
  ∃ r : Int, S r ∧ e = .returned (.int .i64 r) ∧ Rd w' B b (m + c) ∧ w.grownBy w' (some b)
def RightsLike (r : Int) : Prop := -1 ≤ r ∧ r ≤ 64

set_option maxHeartbeats 800000 in
theorem l92Rights_any (w : World) (B b m : Nat) (hm : m ≤ 999999000) (h : Rd w B b m) :
    Calls Try.prog 41 #[.pointer (some ⟨b, 0, none⟩)] w (PickedInt RightsLike 3 w B b m) := by
  go_enter Try.func41, Try.ntmps41
  go_wp2_with fail
  refine (pick_any _ (by omega) _ B b m (by omega) h).mono ?_
  rintro e w1 ⟨r, hr, rfl, h1, hg1⟩
  by_cases h0 : r = 0
  · subst h0
    go_wp2_with fail
    refine (pick_any _ (by omega) _ B b (m + 1) (by omega) (h1.laid _)).mono ?_
    rintro e w2 ⟨r2, hr2, rfl, h2, hg2⟩
    obtain ⟨v, hv, hcs⟩ : ∃ v : Int, RightsLike v ∧ (#[Value.int .i64 (-1), Value.int .i64 0, Value.int .i64 63, Value.int .i64 64] : Array Value)[r2]? = some (.int .i64 v) := by
      have hr4 : r2 = 0 ∨ r2 = 1 ∨ r2 = 2 ∨ r2 = 3 := by omega
      rcases hr4 with rfl | rfl | rfl | rfl
      · exact ⟨-1, ⟨by omega, by omega⟩, rfl⟩
      · exact ⟨0, ⟨by omega, by omega⟩, rfl⟩
      · exact ⟨63, ⟨by omega, by omega⟩, rfl⟩
      · exact ⟨64, ⟨by omega, by omega⟩, rfl⟩
    have hc := laid_cell hg2 h1.lt r2 _ hcs
    clear hcs
    go_wp2_with fail
    go_ret
    exact ⟨v, hv, rfl, h2.mono (by omega), grown_trans (grown_laid hg1 _) hg2⟩
  · have h0' : ((r : Int) == 0) = false := by simp; omega
    go_wp2_with fail
    refine (pick_any _ (by omega) _ B b (m + 1) (by omega) h1).mono ?_
    rintro e w2 ⟨r2, hr2, rfl, h2, hg2⟩
    go_wp2_with fail
    refine (pick_any _ (by omega) _ B b (m + 2) (by omega) h2).mono ?_
    rintro e w3 ⟨r3, hr3, rfl, h3, hg3⟩
    go_wp2_with fail
    go_ret
    exact ⟨(r2 : Int) * 8 + r3, ⟨by omega, by omega⟩, rfl, h3, grown_trans hg1 (grown_trans hg2 hg3)⟩

set_option maxHeartbeats 400000 in
theorem drawRightsText_any (a : Option Addr) (len cap : Nat) (w : World) (h : Bytes w a len cap) :
    Calls Try.prog 19 #[.slice a len cap] w fun e w' => ∃ r, RightsLike r ∧ e = .returned (.int .i64 r) ∧ Below w.heap.size w w' := by
  go_enter Try.func19, Try.ntmps19
  go_wp2_with fail
  refine (l6Open_any a len cap _ h).mono ?_
  rintro e w1 ⟨rfl, h1, hb1⟩
  go_wp2_with fail
  refine (l92Rights_any _ _ _ _ (by omega) h1).mono ?_
  rintro e w2 ⟨r, hr, rfl, h2, hg2⟩
  go_wp2_with fail
  go_ret
  exact ⟨r, hr, rfl, hb1.trans (grown_to_below hg2 (Nat.le_refl _) hb1.size)⟩

set_option maxHeartbeats 400000 in
theorem drawRightsParse_any (a : Option Addr) (len cap : Nat) (w : World) (h : Bytes w a len cap) :
    Calls Try.prog 20 #[.slice a len cap] w fun e w' => ∃ s : ByteArray, s.size ≤ 6 ∧ e = .returned (.string s) ∧ Below w.heap.size w w' := by
  go_enter Try.func20, Try.ntmps20
  go_wp2_with fail
  refine (l6Open_any a len cap _ h).mono ?_
  rintro e w1 ⟨rfl, h1, hb1⟩
  go_wp2_with fail
  refine (pick_any _ (by omega) _ _ _ _ (by omega) h1).mono ?_
  rintro e w2 ⟨r, hr, rfl, h2, hg2⟩
  by_cases h0 : r = 0
  · subst h0
    go_wp2_with fail
    refine Calls.mono (of_any (fun s => decide (s.size ≤ 6) = true) 8 _ (by omega) _ _ _ _ (by omega) (by have := h2.lt; omega) (h2.laid _) (laid_of (fun s => decide (s.size ≤ 6)) _ _ _ 8 rfl (by decide))) ?_
    rintro e w3 ⟨s, hs, rfl, h3, hg3⟩
    go_wp2_with fail
    go_ret
    exact ⟨s, by simpa using hs, rfl, hb1.trans (grown_to_below (grown_trans (grown_laid hg2 _) hg3) (Nat.le_refl _) hb1.size)⟩
  · have h0' : ((r : Int) == 0) = false := by simp; omega
    go_wp2_with fail
    refine (l92Rights_any _ _ _ _ (by omega) h2).mono ?_
    rintro e w3 ⟨v, hv, rfl, h3, hg3⟩
    go_wp2_with fail
    refine (sRightsText_any v _).mono ?_
    rintro e w4 ⟨rfl, hb4⟩
    go_wp2_with fail
    go_ret
    exact ⟨_, by rw [str_size]; exact Rt.text_le v, rfl, hb1.trans (grown_to_below (grown_trans hg2 (grown_trans hg3 (grown_below hb4))) (Nat.le_refl _) hb1.size)⟩

end Go.Proofs.Ytmjpcfohgldpoaa
