/- Draws of grants. -/
import Derived.Test.YtkmaandeljancaaAcSet
import Derived.Test.YtkmaandeljancaaDr
namespace Go.Proofs.Ytkmaandeljancaa
set_option linter.unusedVariables false
open Go.RowKit
open Ac (G)

/-- a list of grants as it may be drawn -/
def Ac.Small (us : List G) : Prop := us.length ≤ 8 ∧ ∀ u ∈ us, u.user.size ≤ 9
theorem Ac.Small.sizes {us : List G} (h : Ac.Small us) : ∀ u ∈ us, u.user.size ≤ maxLen := fun u hu => by
  have := h.2 u hu
  unfold maxLen; omega
theorem Ac.Small.len {us : List G} (h : Ac.Small us) : us.length ≤ maxLen := by
  have := h.1
  unfold maxLen; omega
theorem Ac.set_ok {us : List G} {s : ByteArray} {r : Int} (h : (Ac.set us s r).2 = true) : (Ac.set us s r).1.length ≤ 4 ∧ ∀ u ∈ (Ac.set us s r).1, u ∈ us ∨ u.user = s := by
  unfold Ac.set at h ⊢
  split at h
  · split at h
    · rename_i h1 h2
      rw [if_pos h1, if_pos h2]
      refine ⟨((Ac.aclOk_iff _).1 h2).1, fun u hu => ?_⟩
      rcases Ac.build_mem us s r u hu with h3 | h3
      · exact .inl h3
      · exact .inr (by rw [h3])
    · cases h
  · cases h
/-- what drawing grants gives -/
def Ac.Picked (n : Nat) (w : World) (B b m : Nat) (e : Ending) (w' : World) : Prop :=
  ∃ us A c, Ac.Small us ∧ us.length ≤ c ∧ c ≤ maxLen ∧ e = .returned (.slice A us.length c) ∧ Ac.Own w' w.heap.size (.slice A us.length c) us ∧ Rd w' B b (m + n) ∧ w.grownBy w' (some b)
theorem Ac.Picked.of {n : Nat} {w w' : World} {B b m : Nat} {v : Value} {us : List G} (ho : Ac.Own w' w.heap.size v us) (hs : Ac.Small us) (h : Rd w' B b (m + n)) (hg : w.grownBy w' (some b)) : Ac.Picked n w B b m (.returned v) w' := by
  obtain ⟨A, c, rfl, h1, h2⟩ := OwnL.form ho
  exact ⟨us, A, c, hs, h1, h2, rfl, ho, h, hg⟩
theorem Ac.own_grown {w w' : World} {B b : Nat} {v : Value} {us : List G} (ho : Ac.Own w B v us) (hg : w.grownBy w' (some b)) (hb : b < B) : Ac.Own w' B v us :=
  World.ownsRow.kept ho hg (by
    cases hq : v.ownBlock with
    | none => exact .inl rfl
    | some q => exact .inr fun e => by have := OwnL.blk ho hq; injection e with e; omega)

set_option maxRecDepth 100000 in
set_option maxHeartbeats 3200000 in
theorem l92Acl_any (w : World) (B b m : Nat) (hm : m ≤ 999990000) (h : Rd w B b m) :
    Calls Try.prog 23 #[.pointer (some ⟨b, 0, none⟩)] w (Ac.Picked 20 w B b m) := by
  have hbl := h.lt
  go_enter Try.func23, Try.ntmps23
  go_wp2_with fail
  refine (pick_any _ (by omega) _ B b m (by omega) (h.laid _)).mono ?_
  rintro e w1 ⟨n, hn, rfl, h1, hg1⟩
  have ho1 := Ac.own_grown (b := b) (ownL_nil (E := 34) (size := 2) (f := Ac.cells) (B := w.heap.size) w (Nat.le_refl _)) hg1 hbl
  have hw1 := grown_trans (grown_laid (grown_refl b w) _) hg1
  have HO1 := Lib.hid ho1
  clear ho1 hg1
  go_wp2_with fail
  go_loopg [3, 5] n (fun g v i wr => ∃ (k : Nat) (us : List G), k ≤ n ∧ Hid (g = n - k) ∧ i = .int .i64 k ∧ us.length ≤ 4 ∧ Hid (∀ u ∈ us, u.user.size ≤ 9) ∧ Hid (Ac.Own wr w.heap.size v us) ∧ Hid (Rd wr B b (m + 1 + 3 * k)) ∧ w.grownBy wr (some b))
  case atStart => exact ⟨0, [], Nat.zero_le _, Lib.hid rfl, rfl, by simp, Lib.hid (by simp), HO1.out, Lib.hid h1, hw1⟩
  case round =>
    obtain ⟨k, us, hk, HG, rfl, hl4, HS, HO, HR, hw⟩ := hrel
    by_cases hlt : k < n
    · obtain ⟨A, c, rfl, hc1, hc2⟩ := OwnL.form HO.out
      have hr := HR.out
      have hwl := hw.size
      have hblr := Nat.lt_of_lt_of_le hbl hwl
      go_wp2_with fail
      refine Calls.mono (of_any (fun s => decide (s.size ≤ 9) = true) 5 _ (by omega) _ _ _ _ (by omega) (by omega) (hr.laid _) (laid_of (fun s => decide (s.size ≤ 9)) _ _ _ 5 rfl (by decide))) ?_
      rintro e w2 ⟨s, hs, rfl, h2, hg2⟩
      have hs9 : s.size ≤ 9 := by simpa using hs
      go_wp2_with fail
      refine (pick_any _ (by omega) _ B b _ (by omega) h2).mono ?_
      rintro e w3 ⟨r3, hr3, rfl, h3, hg3⟩
      go_wp2_with fail
      refine (pick_any _ (by omega) _ B b _ (by omega) h3).mono ?_
      rintro e w4 ⟨r4, hr4, rfl, h4, hg4⟩
      have hw4 := grown_trans (grown_laid hw _) (grown_trans hg2 (grown_trans hg3 hg4))
      have ho4 := Ac.own_grown (Ac.own_grown (Ac.own_grown (OwnL.alloc HO.out _) hg2 hbl) hg3 hbl) hg4 hbl
      have HA := Lib.hid (at_grants (OwnL.at_ ho4 Ac.cells_len rfl) (fun u hu => by have := HS.out u hu; unfold maxLen; omega))
      have HO4 := Lib.hid ho4
      clear ho4 hs hr h2 h3 hg2 hg3 hg4
      go_wp2_with fail
      refine Calls.mono (sAclSet_any A us c s _ _ HA.out (by unfold maxLen; omega) (by unfold maxLen; omega)) ?_
      rintro e w5 ⟨A5, c5, rfl, ho5, hb5⟩
      have hw5 := grown_trans hw4 (grown_below hb5)
      have h5 := h4.below hb5
      generalize hset : Ac.set us s _ = st at ho5 ⊢
      obtain ⟨vs, ok⟩ := st
      have HST := Lib.hid hset
      have HO5 := Lib.hid (OwnL.base (B' := w.heap.size) ho5 hw4.size)
      have HO6 := Lib.hid (OwnL.below HO4.out hb5)
      clear hset ho5
      cases hok : ok
      · go_wp2_with fail
        go_roundg (n - (k + 1))
        case measure => have := HG.out; omega
        case rel => exact ⟨k + 1, us, by omega, Lib.hid rfl, by go_num, hl4, HS, HO6, Lib.hid (h5.mono (by omega)), hw5⟩
      · subst hok
        have HV := Lib.hid (Ac.set_ok (by rw [HST.out]))
        go_wp2_with fail
        go_roundg (n - (k + 1))
        case measure => have := HG.out; omega
        case rel =>
          have hv := HV.out
          rw [HST.out] at hv
          refine ⟨k + 1, vs, by omega, Lib.hid rfl, by go_num, hv.1, Lib.hid (fun u hu => ?_), HO5, Lib.hid (h5.mono (by omega)), hw5⟩
          rcases hv.2 u hu with h' | h'
          · exact HS.out u h'
          · rw [h']; exact hs9
    · obtain rfl : k = n := by omega
      have hr := HR.out
      obtain ⟨A, c, rfl, hc1, hc2⟩ := OwnL.form HO.out
      go_wp2_with fail
      refine (pick_any _ (by omega) _ B b _ (by omega) hr).mono ?_
      rintro e w2 ⟨sw, hsw, rfl, h2, hg2⟩
      have hw2 := grown_trans hw hg2
      have HO2 := Lib.hid (Ac.own_grown HO.out hg2 hbl)
      clear hg2 hr
      by_cases hs0 : sw = 0
      · subst hs0
        obtain ⟨i0, hi, hz0, hz1, hz2⟩ := info_parts grant_info
        go_wp2_with fail
        refine (Dr.l91Name_any _ B b _ (by omega) h2).mono ?_
        rintro e w3 ⟨s, hs, rfl, h3, hg3⟩
        go_wp2_with fail
        refine (pick_any _ (by omega) _ B b _ (by omega) h3).mono ?_
        rintro e w4 ⟨r4, hr4, rfl, h4, hg4⟩
        have hw4 := grown_trans hw2 (grown_trans hg3 hg4)
        have HO4 := Lib.hid (Ac.own_grown (Ac.own_grown HO2.out hg3 hbl) hg4 hbl)
        have HM1 : Hid (us.length + 1 ≤ maxLen) := Lib.hid (by unfold maxLen; omega)
        have HM2 : Hid ((us.length + 1) * 24 ≤ 140737488355328) := Lib.hid (by omega)
        have hBo := hw4.size
        clear hg3 hg4 h2 h3
        go_wp2_with (first | (at_builtin; refine wpList_snoc _ rfl (.tmp 38) (.tmp 44) _ rfl 34 i0 _ 2 24 Try.underlying23 hi hz0 hz1 hz2 rfl (by omega) Ac.cells Ac.cells_len Ac.cells_one1 w.heap.size _ us ⟨s, (r4 : Int)⟩ rfl HO4.out _ rfl rfl HM1.out HM2.out hBo ?_; intro v5 w5 hown5 hb5 hg5; have HO5 := Lib.hid hown5; have HB5 := Lib.hid hb5; clear hown5 hg5 hb5))
        go_ret
        refine Ac.Picked.of HO5.out ⟨by rw [List.length_append]; simp; omega, fun u hu => ?_⟩ ((h4.base HB5.out hbl).mono (by omega)) (grown_base hw4 HB5.out)
        rcases List.mem_append.1 hu with h' | h'
        · exact HS.out u h'
        · rw [List.mem_singleton] at h'; subst h'; exact hs
      have hs0b : ((sw : Int) == 0) = false := by simp; omega
      by_cases hs1 : sw = 1
      · subst hs1
        obtain ⟨i0, hi, hz0, hz1, hz2⟩ := info_parts grant_info
        have HA2 := Lib.hid (OwnL.at_ HO2.out Ac.cells_len rfl)
        have HM1 : Hid (us.length + us.length ≤ maxLen) := Lib.hid (by unfold maxLen; omega)
        have HM2 : Hid ((us.length + us.length) * 24 ≤ 140737488355328) := Lib.hid (by omega)
        have hBo := hw2.size
        clear hs0b
        go_wp2_with (first | (at_builtin; refine wpList_join _ rfl (.tmp 48) (.tmp 49) _ rfl 34 i0 _ 2 24 Try.underlying23 hi hz0 hz1 hz2 rfl (by omega) Ac.cells Ac.cells_len Ac.cells_one1 w.heap.size _ us rfl HO2.out _ A us us.length c rfl rfl HA2.out HM1.out HM2.out hBo ?_; intro v5 w5 hown5 hb5 hg5; have HO5 := Lib.hid hown5; have HG5 := Lib.hid hg5; have HB5 := Lib.hid hb5; clear hown5 hg5 hb5))
        go_ret
        refine Ac.Picked.of HO5.out ⟨by rw [List.length_append]; omega, fun u hu => ?_⟩ ((h2.base HB5.out hbl).mono (by omega)) (grown_base hw2 HB5.out)
        rcases List.mem_append.1 hu with h' | h' <;> exact HS.out u h'
      have hs1b : ((sw : Int) == 1) = false := by simp; omega
      go_wp2_with fail
      go_ret
      exact Ac.Picked.of HO2.out ⟨by omega, HS.out⟩ (h2.mono (by omega)) hw2

end Go.Proofs.Ytkmaandeljancaa
