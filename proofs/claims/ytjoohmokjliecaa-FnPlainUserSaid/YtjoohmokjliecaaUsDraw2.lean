/- The draw of users, a name and a password; plain facts on proving. -/
import Derived.Test.YtjoohmokjliecaaUsProve
namespace Go.Proofs.Ytjoohmokjliecaa
set_option linter.unusedVariables false
open Go.RowKit
open Us (U)

theorem small_sizes {us : List U} (h : SmallUsers us) : ∀ u ∈ us, u.name.size ≤ maxLen ∧ u.pass.size ≤ maxLen := fun u hu => by
  have := h.2.2 u hu
  unfold maxLen
  exact ⟨by omega, by omega⟩
theorem small_len {us : List U} (h : SmallUsers us) : us.length ≤ maxLen := by
  have := h.2.1
  unfold maxLen; omega
theorem users_grown {A : Option Addr} {us : List U} {B b m : Nat} {w w' : World} (hat : At w w.heap.size 3 Us.cells A us) (h : Rd w B b m) (hg : w.grownBy w' (some b)) : At w' w'.heap.size 3 Us.cells A us := fun hl => by
  obtain ⟨g, off, ha, hlt, hc⟩ := hat hl
  have hne : g ≠ b := by
    rintro rfl
    obtain ⟨_, a, len, cap, p, _, hb, _⟩ := h
    have := hc 0 us[0] (List.getElem?_eq_getElem hl) 0 (.string us[0].name) rfl
    simp only [World.cell?, hb] at this
    match off, this with
    | 0, h => simp at h
    | 1, h => simp at h
    | k + 2, h => simp at h
  exact ⟨g, off, ha, by have := hg.size; omega, fun i u hu j v hv => by rw [World.cell?_of_block (hg.block g hlt (by intro e; injection e with e; exact hne e))]; exact hc i u hu j v hv⟩
theorem Us.proves_yes {us : List U} {nm ps : ByteArray} (h : Us.proves us nm ps = true) : (∀ ps' : ByteArray, ps'.toList ≠ ps.toList → Us.proves us nm ps' = false) ∧ ps.toList ≠ [] := by
  unfold Us.proves at h
  rw [Bool.and_eq_true] at h
  obtain ⟨u, hu⟩ := Option.isSome_iff_exists.1 h.1
  have h2 := h.2
  rw [hu] at h2
  have hp : u.pass.toList = ps.toList := eq_of_beq h2
  constructor
  · intro ps' hne
    unfold Us.proves
    rw [hu]
    show (true && u.pass.toList == ps'.toList) = false
    rw [hp, Bool.true_and]
    cases hb : (ps.toList == ps'.toList)
    · rfl
    · exact absurd (eq_of_beq hb).symm hne
  · unfold Us.ans at hu
    cases hok : Us.usersOk us
    · rw [hok] at hu; cases hu
    · rw [hok] at hu
      simp only [if_true] at hu
      have hm := List.mem_of_find?_eq_some hu
      obtain ⟨_, hv, _⟩ := (Us.usersOk_iff us).1 hok
      have := hv u hm
      unfold Us.valid at this
      simp only [Bool.and_eq_true] at this
      have hl := Nm.nameOk_len this.1.2
      rw [← hp]
      intro e
      rw [Go.ByteArray.toList_eq] at e
      rw [e] at hl
      simp at hl

set_option maxHeartbeats 1600000 in
theorem l92Pass_any (w : World) (B b m : Nat) (hm : m ≤ 999999000) (h : Rd w B b m) (A : Option Addr) (us : List U) (c : Nat) (nm : ByteArray) (hsm : SmallUsers us) (hat : At w w.heap.size 3 Us.cells A us) :
    Calls Try.prog 62 #[.pointer (some ⟨b, 0, none⟩), .slice A us.length c, .string nm] w (PickedStr 9 2 w B b m) := by
  go_enter Try.func62, Try.ntmps62
  go_wp2_with fail
  refine Calls.mono (l14Find_any A us c nm _ (at_users hat (small_sizes hsm)) (small_len hsm)) ?_
  rintro e w1 ⟨r, hr, rfl, hb1⟩
  have h1 := h.below hb1
  have hg1 : w.grownBy w1 (some b) := grown_below hb1
  have hat1 := (hat.below hb1).mono hb1.size
  rcases hr with ⟨rfl, hf⟩ | ⟨k, u, rfl, hk, hf⟩
  · clear hf
    go_wp2_with fail
    refine Calls.mono (of_any (fun s => decide (s.size ≤ 9) = true) 4 _ (by omega) _ _ _ _ (by omega) (by have := h1.lt; omega) (h1.laid _) (laid_of (fun s => decide (s.size ≤ 9)) _ _ _ 4 rfl (by decide))) ?_
    rintro e w3 ⟨s, hs, rfl, h3, hg3⟩
    go_wp2_with fail
    go_ret
    exact ⟨s, by simpa using hs, rfl, h3.mono (by omega), grown_trans (grown_laid hg1 _) hg3⟩
  · have hklt : k < us.length := (List.getElem?_eq_some_iff.1 hk).1
    have hsz := (hsm.2.2 u (List.mem_of_getElem? hk)).2
    have hl5 := hsm.2.1
    have HK := Lib.hid hk
    clear hf hk
    go_wp2_with fail
    refine (pick_any _ (by omega) _ B b m (by omega) h1).mono ?_
    rintro e w2 ⟨r2, hr2, rfl, h2, hg2⟩
    have hg12 := grown_trans hg1 hg2
    have hat2 := users_grown hat1 h1 hg2
    by_cases h0 : r2 = 0
    · subst h0
      go_wp2_with fail
      refine Calls.mono (of_any (fun s => decide (s.size ≤ 9) = true) 4 _ (by omega) _ _ _ _ (by omega) (by have := h2.lt; omega) (h2.laid _) (laid_of (fun s => decide (s.size ≤ 9)) _ _ _ 4 rfl (by decide))) ?_
      rintro e w3 ⟨s, hs, rfl, h3, hg3⟩
      go_wp2_with fail
      go_ret
      exact ⟨s, by simpa using hs, rfl, h3, grown_trans (grown_laid hg12 _) hg3⟩
    · obtain ⟨g, off, rfl, hg, hc⟩ := hat2 (by omega)
      have d2 := hc k u HK.out 1 _ rfl
      have h0' : decide ((0 : Int) < (r2 : Int)) = true := by simp; omega
      clear hc
      go_wp2_with fail
      go_ret
      exact ⟨u.pass, hsz, rfl, h2.mono (by omega), hg12⟩

set_option maxHeartbeats 800000 in
theorem drawUsersProve_any (a : Option Addr) (len cap : Nat) (w : World) (h : Bytes w a len cap) :
    Calls Try.prog 30 #[.slice a len cap] w fun e w' => ∃ us A c nm ps, SmallUsers us ∧ us.length ≤ c ∧ c ≤ maxLen ∧ ps.size ≤ 9 ∧ e = .returned (.tuple #[.slice A us.length c, .string nm, .string ps]) ∧ At w' w'.heap.size 3 Us.cells A us ∧ Below w.heap.size w w' := by
  go_enter Try.func30, Try.ntmps30
  go_wp2_with fail
  refine (l6Open_any a len cap _ h).mono ?_
  rintro e w1 ⟨rfl, h1, hb1⟩
  go_wp2_with fail
  refine (l92Users_any _ _ _ _ (by omega) h1).mono ?_
  rintro e w2 ⟨us, A, c, hsm, hc1, hc2, rfl, hat, h2, hg2⟩
  go_wp2_with fail
  refine (l91Name_any _ _ _ _ (by omega) h2).mono ?_
  rintro e w3 ⟨nm, hnm, rfl, h3, hg3⟩
  have hat3 := users_grown hat h2 hg3
  go_wp2_with fail
  refine (l92Pass_any _ _ _ _ (by omega) h3 A us c nm hsm hat3).mono ?_
  rintro e w4 ⟨ps, hps, rfl, h4, hg4⟩
  go_wp2_with fail
  refine bodyPost_ret (v := .tuple #[.slice A us.length c, .string nm, .string ps]) (by simp [results, Try.results30, go_sem]) rfl ⟨us, A, c, nm, ps, hsm, hc1, hc2, hps, rfl, users_grown hat3 h3 hg4, hb1.trans (grown_to_below (grown_trans (grown_trans hg2 hg3) hg4) (Nat.le_refl _) hb1.size)⟩

end Go.Proofs.Ytjoohmokjliecaa
