/- Users in slices: cells, draws of names and of users. -/
import Derived.Test.YtjoohmokjliecaaSeq
import Derived.Test.YtjoohmokjliecaaUsW
namespace Go.Proofs.Ytjoohmokjliecaa
set_option linter.unusedVariables false
open Go.RowKit
open Us (U)

def Us.cells (u : U) : List Value := [.string u.name, .string u.pass, .int .i64 u.quota]
theorem Us.cells_len (u : U) : (Us.cells u).length = 3 := rfl
theorem at_users {w : World} {B : Nat} {A : Option Addr} {us : List U} (h : At w B 3 Us.cells A us) (hs : ∀ u ∈ us, u.name.size ≤ maxLen ∧ u.pass.size ≤ maxLen) : AtUsers w B A us := by
  refine ⟨fun hl => ?_, hs⟩
  obtain ⟨g, off, ha, hlt, hc⟩ := h hl
  exact ⟨g, off, ha, hlt, fun i u hu => ⟨hc i u hu 0 _ rfl, hc i u hu 1 _ rfl, hc i u hu 2 _ rfl⟩⟩
theorem users_at {w : World} {B : Nat} {A : Option Addr} {us : List U} (h : AtUsers w B A us) : At w B 3 Us.cells A us := fun hl => by
  obtain ⟨g, off, ha, hlt, hc⟩ := h.1 hl
  refine ⟨g, off, ha, hlt, fun i u hu j v hv => ?_⟩
  obtain ⟨h1, h2, h3⟩ := hc i u hu
  match j, hv with
  | 0, hv => simp [Us.cells] at hv; subst hv; exact h1
  | 1, hv => simp [Us.cells] at hv; subst hv; exact h2
  | 2, hv => simp [Us.cells] at hv; subst hv; exact h3
  | j + 3, hv => simp [Us.cells] at hv
theorem user_info : (Try.prog.info? 74).map (fun i => (i.zero, i.size, i.bytes)) = some (some (.agg #[.string ⟨#[]⟩, .string ⟨#[]⟩, .int .i64 0]), 3, 40) := by kernel_rfl

/-- what drawing a string gives -/
def PickedStr (n c : Nat) (w : World) (B b m : Nat) (e : Ending) (w' : World) : Prop :=
  ∃ s : ByteArray, s.size ≤ n ∧ e = .returned (.string s) ∧ Rd w' B b (m + c) ∧ w.grownBy w' (some b)
set_option maxHeartbeats 800000 in
theorem l91Name_any (w : World) (B b m : Nat) (hm : m ≤ 999999000) (h : Rd w B b m) :
    Calls Try.prog 60 #[.pointer (some ⟨b, 0, none⟩)] w (PickedStr 9 2 w B b m) := by
  go_enter Try.func60, Try.ntmps60
  go_wp2_with fail
  refine (pick_any _ (by omega) _ B b m (by omega) h).mono ?_
  rintro e w1 ⟨r, hr, rfl, h1, hg1⟩
  by_cases h0 : r = 0
  · subst h0
    go_wp2_with fail
    refine Calls.mono (of_any (fun s => decide (s.size ≤ 9) = true) 7 _ (by omega) _ _ _ _ (by omega) (by have := h1.lt; omega) (h1.laid _) (laid_of (fun s => decide (s.size ≤ 9)) _ _ _ 7 rfl (by decide))) ?_
    rintro e w3 ⟨s, hs, rfl, h3, hg3⟩
    go_wp2_with fail
    go_ret
    exact ⟨s, by simpa using hs, rfl, h3, grown_trans (grown_laid hg1 _) hg3⟩
  · have h0' : ((r : Int) == 0) = false := by simp; omega
    go_wp2_with fail
    refine Calls.mono (of_any (fun s => decide (s.size ≤ 9) = true) 6 _ (by omega) _ _ _ _ (by omega) (by have := h1.lt; omega) (h1.laid _) (laid_of (fun s => decide (s.size ≤ 9)) _ _ _ 6 rfl (by decide))) ?_
    rintro e w3 ⟨s, hs, rfl, h3, hg3⟩
    go_wp2_with fail
    go_ret
    exact ⟨s, by simpa using hs, rfl, h3, grown_trans (grown_laid hg1 _) hg3⟩

end Go.Proofs.Ytjoohmokjliecaa
