/- The draw of receivers. -/
import Derived.Test.YtpbaimofffcnaaaStX
namespace Go.Proofs.Ytpbaimofffcnaaa
set_option linter.unusedVariables false
open Go.RowKit

/-- what drawing receivers gives -/
def St.Picked (n : Nat) (w : World) (B b m : Nat) (e : Ending) (w' : World) : Prop :=
  ∃ us v, us.length ≤ 6 ∧ (∀ u ∈ us, u.size ≤ 9) ∧ e = .returned v ∧ St.Own w' w.heap.size v us ∧ Rd w' B b (m + n) ∧ w.grownBy w' (some b)
abbrev St.four : Obj := .cells #[.string ⟨#[97, 109, 121]⟩, .string ⟨#[98, 111, 98]⟩, .string ⟨#[99, 121, 100]⟩, .string ⟨#[100, 97, 110]⟩] 9
theorem St.four_at {w : World} {g : Nat} (h : w.heap[g]? = some St.four) {k : Nat} (hk : k < 4) : ∃ s : ByteArray, s.size ≤ 9 ∧ w.cell? ⟨g, k, none⟩ = some (.string s) := by
  have hc : k = 0 ∨ k = 1 ∨ k = 2 ∨ k = 3 := by omega
  rcases hc with rfl | rfl | rfl | rfl
  · exact ⟨_, by decide, cell_at h 0 _ rfl⟩
  · exact ⟨_, by decide, cell_at h 1 _ rfl⟩
  · exact ⟨_, by decide, cell_at h 2 _ rfl⟩
  · exact ⟨_, by decide, cell_at h 3 _ rfl⟩
/-- the names' block lies apart from the slice -/
def St.Apart (w : World) (g : Nat) (v : Value) : Prop := w.heap[g]? = some St.four ∧ g < w.heap.size ∧ v.ownBlock ≠ some g
theorem St.Apart.grown {w w' : World} {g b : Nat} {v : Value} (h : St.Apart w g v) (hg : w.grownBy w' (some b)) (hb : b < g) : St.Apart w' g v :=
  ⟨(hg.block g h.2.1 (by intro e; injection e with e; omega)).trans h.1, Nat.lt_of_lt_of_le h.2.1 hg.size, h.2.2⟩
theorem St.Apart.snoc {w w' : World} {g : Nat} {v v' : Value} {o : Obj} (h : St.Apart w g v) (hg : (w.alloc o).grownBy w' v.ownBlock) (hv : v'.ownBlock = v.ownBlock ∨ v'.ownBlock = some (w.heap.size + 1)) : St.Apart w' g v' := by
  refine ⟨(hg.block g (by have := h.2.1; simp; omega) (fun e => h.2.2 e.symm)).trans ((Below.heap_alloc w o g h.2.1).trans h.1), Nat.lt_of_lt_of_le h.2.1 (Nat.le_trans (by simp) hg.size), ?_⟩
  rcases hv with e | e
  · rw [e]; exact h.2.2
  · rw [e]; intro e2; injection e2 with e2; have := h.2.1; omega

set_option maxRecDepth 100000 in
set_option maxHeartbeats 3200000 in
theorem l92To_any (w : World) (B b m : Nat) (hm : m ≤ 999990000) (h : Rd w B b m) :
    Calls Try.prog 55 #[.pointer (some ⟨b, 0, none⟩)] w (St.Picked 5 w B b m) := by
  have hbl := h.lt
  obtain ⟨i0, hi, hz0, hz1, hz2⟩ := info_parts str_info
  have hA0 : St.Apart ((w.alloc (.cells #[] 9)).alloc St.four) (w.heap.size + 1) (.slice (some ⟨w.heap.size, 0, none⟩) 0 0) := by
    have := heap_alloc_new (w.alloc (.cells #[] 9)) St.four
    refine ⟨by simpa using this, by simp, ?_⟩
    simp [Value.ownBlock]
  have HA0 := Lib.hid hA0
  clear hA0
  have HO0 : Hid (St.Own ((w.alloc (.cells #[] 9)).alloc St.four) w.heap.size (.slice (some ⟨w.heap.size, 0, none⟩) 0 0) []) := Lib.hid (OwnL.alloc (ownL_nil w (Nat.le_refl _)) _)
  have HR0 := Lib.hid ((h.laid (.cells #[] 9)).laid St.four)
  have HW0 := Lib.hid (grown_laid (grown_laid (grown_refl b w) (.cells #[] 9)) St.four)
  go_enter Try.func55, Try.ntmps55
  go_wp2_with fail
  go_loopg [3, 5] 3 (fun g v i wr => ∃ (k : Nat) (us : List ByteArray), k ≤ 3 ∧ Hid (g = 3 - k) ∧ i = .int .i64 k ∧ us.length ≤ k ∧ Hid (∀ u ∈ us, u.size ≤ 9) ∧ Hid (St.Own wr w.heap.size v us) ∧ Hid (St.Apart wr (w.heap.size + 1) v) ∧ Hid (Rd wr B b (m + k)) ∧ w.grownBy wr (some b))
  case atStart => exact ⟨0, [], Nat.zero_le _, Lib.hid rfl, rfl, Nat.le_refl _, Lib.hid (by simp), HO0, HA0, HR0, HW0.out⟩
  case round =>
    obtain ⟨k, us, hk, HG, rfl, hl, HS, HO, HA, HR, hw⟩ := hrel
    obtain ⟨A, c, rfl, hc1, hc2⟩ := OwnL.form HO.out
    have hr := HR.out
    by_cases hlt : k < 3
    · have hlti : (k : Int) < 3 := by omega
      go_wp2_with fail
      refine (pick_any _ (by omega) _ B b _ (by omega) hr).mono ?_
      rintro e w2 ⟨r2, hr2, rfl, h2, hg2⟩
      have hw2 := grown_trans hw hg2
      have HO2 := Lib.hid (own_grown HO.out hg2 hbl)
      have HA2 := Lib.hid (HA.out.grown hg2 (by omega))
      clear hg2 hr
      by_cases hs0 : r2 = 0
      · subst hs0
        obtain ⟨s, hs9, hcell⟩ := St.four_at HA2.out.1 (by omega : k < 4)
        have HM1 : Hid (us.length + 1 ≤ maxLen) := Lib.hid (by unfold maxLen; omega)
        have HM2 : Hid ((us.length + 1) * 16 ≤ 140737488355328) := Lib.hid (by omega)
        have hBo := hw2.size
        go_wp2_with (first | (at_builtin; refine wpList_snocAt _ rfl (.tmp 15) (.tmp 20) _ rfl 9 i0 _ 1 16 Try.underlying41 hi hz0 hz1 hz2 rfl (by omega) St.cells St.cells_len St.cells_one1 w.heap.size _ us s rfl HO2.out _ rfl rfl HM1.out HM2.out hBo ?_; intro v5 w5 hown5 hb5 hg5 hv5; have HO5 := Lib.hid hown5; have HB5 := Lib.hid hb5; have HA5 := Lib.hid (HA2.out.snoc hg5 hv5); clear hown5 hg5 hb5 hv5))
        go_roundg (3 - (k + 1))
        case measure => have := HG.out; omega
        case rel =>
          refine ⟨k + 1, us ++ [s], by omega, Lib.hid rfl, by go_num, by rw [List.length_append]; simp; omega, Lib.hid (fun u hu => ?_), HO5, HA5, Lib.hid ((h2.base HB5.out hbl).mono (by omega)), grown_base hw2 HB5.out⟩
          rcases List.mem_append.1 hu with h' | h'
          · exact HS.out u h'
          · rw [List.mem_singleton] at h'; subst h'; exact hs9
      · have hs0b : ((r2 : Int) == 0) = false := by simp; omega
        go_wp2_with fail
        go_roundg (3 - (k + 1))
        case measure => have := HG.out; omega
        case rel => exact ⟨k + 1, us, by omega, Lib.hid rfl, by go_num, by omega, HS, HO2, HA2, Lib.hid (h2.mono (by omega)), hw2⟩
    · obtain rfl : k = 3 := by omega
      by_cases hl0 : us.length = 0
      · obtain rfl : us = [] := List.eq_nil_of_length_eq_zero hl0
        have hnn : ((0 : Nat) : Int) = 0 := rfl
        go_wp2_with fail
        refine (pick_any _ (by omega) _ B b _ (by omega) hr).mono ?_
        rintro e w2 ⟨r2, hr2, rfl, h2, hg2⟩
        have hw2 := grown_trans hw hg2
        have HO2 := Lib.hid (own_grown HO.out hg2 hbl)
        have HA2 := Lib.hid (HA.out.grown hg2 (by omega))
        clear hg2 hr
        obtain ⟨s, hs9, hcell⟩ := St.four_at HA2.out.1 (by omega : r2 < 4)
        have HM1 : Hid (([] : List ByteArray).length + 1 ≤ maxLen) := Lib.hid (by unfold maxLen; simp)
        have HM2 : Hid ((([] : List ByteArray).length + 1) * 16 ≤ 140737488355328) := Lib.hid (by simp)
        have hBo := hw2.size
        have hr20 : (0 : Int) ≤ (r2 : Int) := by omega
        go_upto_region 10 with (first | (at_builtin; refine wpList_snoc _ rfl (.tmp 25) (.tmp 31) _ rfl 9 i0 _ 1 16 Try.underlying41 hi hz0 hz1 hz2 rfl (by omega) St.cells St.cells_len St.cells_one1 w.heap.size _ [] s rfl HO2.out _ rfl rfl HM1.out HM2.out hBo ?_; intro v5 w5 hown5 hb5 hg5; rw [List.nil_append] at hown5; have HB5 := Lib.hid hb5; clear hg5 hb5))
        have h5 := h2.base HB5.out hbl
        have hw5 := grown_base hw2 HB5.out
        obtain ⟨us5, hus5, hul5, hul6⟩ : ∃ us5 : List ByteArray, [s] = us5 ∧ 1 ≤ us5.length ∧ us5.length ≤ 1 := ⟨_, rfl, Nat.le_refl _, Nat.le_refl _⟩
        have HS5 : Hid (∀ u ∈ us5, u.size ≤ 9) := Lib.hid fun u hu => by rw [← hus5, List.mem_singleton] at hu; subst hu; exact hs9
        rw [hus5] at hown5
        clear hus5 HO HA HO2 HA2 hcell HM1 HM2
        obtain ⟨g, c3, rfl, hbg, _⟩ := OwnL.form' hown5 (by omega)
        have hr3 := h5
        go_wp2_with fail
        refine (pick_any _ (by omega) _ B b _ (by omega) hr3).mono ?_
        rintro e w6 ⟨sw, hsw, rfl, h6, hg6⟩
        have hw6 := grown_trans hw5 hg6
        have ho6 := own_grown hown5 hg6 hbl
        have hc36 := (own_cap ho6)
        have HO6 := Lib.hid ho6
        have hBo := hw6.size
        clear hg6 hr3
        by_cases hs0 : sw = 0
        · subst hs0
          obtain ⟨s0, hs0⟩ : ∃ s0, us5[0]? = some s0 := ⟨_, List.getElem?_eq_getElem (by omega)⟩
          have hcell : w6.cell? ⟨g, 0, none⟩ = some (.string s0) := by
            have := own_cell (j := 0) St.cells_len ho6 hs0 rfl
            simpa using this
          have hs09 : s0.size ≤ 9 := HS5.out s0 (List.mem_of_getElem? hs0)
          have hl0 : (0 : Int) < (us5.length : Int) := by omega
          have HM1 : Hid (us5.length + 1 ≤ maxLen) := Lib.hid (by unfold maxLen; omega)
          have HM2 : Hid ((us5.length + 1) * 16 ≤ 140737488355328) := Lib.hid (by omega)
          clear ho6 hs0
          go_wp2_with (first | (at_builtin; refine wpList_snoc _ rfl (.tmp 37) (.tmp 41) _ rfl 9 i0 _ 1 16 Try.underlying41 hi hz0 hz1 hz2 rfl (by omega) St.cells St.cells_len St.cells_one1 w.heap.size _ us5 s0 rfl HO6.out _ rfl rfl HM1.out HM2.out hBo ?_; intro v7 w7 hown7 hb7 hg7; have HO7 := Lib.hid hown7; have HB7 := Lib.hid hb7; clear hown7 hg7 hb7))
          go_ret
          refine ⟨us5 ++ [s0], v7, by rw [List.length_append]; simp; omega, fun u hu => ?_, rfl, HO7.out, (h6.base HB7.out hbl).mono (by omega), grown_base hw6 HB7.out⟩
          rcases List.mem_append.1 hu with h' | h'
          · exact HS5.out u h'
          · rw [List.mem_singleton] at h'; subst h'; exact hs09
        have hs0b : ((sw : Int) == 0) = false := by simp; omega
        by_cases hs1 : sw = 1
        · subst hs1
          have HO7 : Hid (St.Own w6 w.heap.size (.slice (some ⟨g, 0, none⟩) 0 c3) []) := Lib.hid (own_take (n' := 0) St.cells_len ho6 (by omega) rfl)
          have hz3 : (0 : Int) ≤ (c3 : Int) := by omega
          clear ho6
          go_wp2_with fail
          go_ret
          exact ⟨[], _, by simp, by simp, rfl, HO7.out, h6.mono (by omega), hw6⟩
        have hs1b : ((sw : Int) == 1) = false := by simp; omega
        by_cases hs2 : sw = 2
        · subst hs2
          have HL : Hid (At (w6.alloc (.cells #[.string ⟨#[100, 97, 110]⟩, .string ⟨#[101, 118, 101]⟩] 9)) (w6.heap.size + 1) 1 St.cells (some ⟨w6.heap.size, 0, none⟩) [(⟨#[100, 97, 110]⟩ : ByteArray), ⟨#[101, 118, 101]⟩]) := Lib.hid (at_lit St.cells_len (heap_alloc_new w6 _) rfl (by omega))
          have HO7 := Lib.hid (OwnL.alloc ho6 (.cells #[.string ⟨#[100, 97, 110]⟩, .string ⟨#[101, 118, 101]⟩] 9))
          have HM1 : Hid (us5.length + 2 ≤ maxLen) := Lib.hid (by unfold maxLen; omega)
          have HM2 : Hid ((us5.length + 2) * 16 ≤ 140737488355328) := Lib.hid (by omega)
          have HM3 : Hid (w.heap.size ≤ (w6.alloc (.cells #[.string ⟨#[100, 97, 110]⟩, .string ⟨#[101, 118, 101]⟩] 9)).heap.size) := Lib.hid (Nat.le_trans hBo (by simp))
          have h7 := h6.laid (.cells #[.string ⟨#[100, 97, 110]⟩, .string ⟨#[101, 118, 101]⟩] 9)
          have hw7 := grown_laid hw6 (.cells #[.string ⟨#[100, 97, 110]⟩, .string ⟨#[101, 118, 101]⟩] 9)
          clear ho6
          go_wp2_with (first | (at_builtin; refine wpList_join _ rfl (.tmp 49) (.tmp 50) _ rfl 9 i0 _ 1 16 Try.underlying41 hi hz0 hz1 hz2 rfl (by omega) St.cells St.cells_len St.cells_one1 w.heap.size _ us5 rfl HO7.out _ _ _ 2 2 rfl rfl HL.out HM1.out HM2.out HM3.out ?_; intro v8 w8 hown8 hb8 hg8; have HO8 := Lib.hid hown8; have HB8 := Lib.hid hb8; clear hown8 hg8 hb8))
          go_ret
          refine ⟨us5 ++ _, v8, ?_, fun u hu => ?_, rfl, HO8.out, (h7.base HB8.out hbl).mono (by omega), grown_base hw7 HB8.out⟩
          · rw [List.length_append]; simp; omega
          · rcases List.mem_append.1 hu with h' | h'
            · exact HS5.out u h'
            · simp only [List.mem_cons, List.not_mem_nil, or_false] at h'
              rcases h' with rfl | rfl <;> decide
        have hs2b : ((sw : Int) == 2) = false := by simp; omega
        go_wp2_with fail
        go_ret
        exact ⟨us5, _, by omega, HS5.out, rfl, HO6.out, h6.mono (by omega), hw6⟩
      · have hl0b : ((us.length : Int) == 0) = false := by simp; exact fun e => hl0 (by rw [e]; rfl)
        have ho := HO.out
        clear HO HA
        go_upto_region 10 with fail
        obtain ⟨g, c3, e3, hbg, _⟩ := OwnL.form' ho (by omega)
        injection e3 with e3 _ e5
        have e5 := e5.symm
        subst e3
        subst e5
        have hr3 := hr
        go_wp2_with fail
        refine (pick_any _ (by omega) _ B b _ (by omega) hr3).mono ?_
        rintro e w6 ⟨sw, hsw, rfl, h6, hg6⟩
        have hw6 := grown_trans hw hg6
        have ho6 := own_grown ho hg6 hbl
        have hc36 := (own_cap ho6)
        have HO6 := Lib.hid ho6
        have hBo := hw6.size
        clear hg6 hr3
        by_cases hs0 : sw = 0
        · subst hs0
          obtain ⟨s0, hs0⟩ : ∃ s0, us[0]? = some s0 := ⟨_, List.getElem?_eq_getElem (by omega)⟩
          have hcell : w6.cell? ⟨g, 0, none⟩ = some (.string s0) := by
            have := own_cell (j := 0) St.cells_len ho6 hs0 rfl
            simpa using this
          have hs09 : s0.size ≤ 9 := HS.out s0 (List.mem_of_getElem? hs0)
          have hl0 : (0 : Int) < (us.length : Int) := by omega
          have HM1 : Hid (us.length + 1 ≤ maxLen) := Lib.hid (by unfold maxLen; omega)
          have HM2 : Hid ((us.length + 1) * 16 ≤ 140737488355328) := Lib.hid (by omega)
          clear ho6 hs0
          go_wp2_with (first | (at_builtin; refine wpList_snoc _ rfl (.tmp 37) (.tmp 41) _ rfl 9 i0 _ 1 16 Try.underlying41 hi hz0 hz1 hz2 rfl (by omega) St.cells St.cells_len St.cells_one1 w.heap.size _ us s0 rfl HO6.out _ rfl rfl HM1.out HM2.out hBo ?_; intro v7 w7 hown7 hb7 hg7; have HO7 := Lib.hid hown7; have HB7 := Lib.hid hb7; clear hown7 hg7 hb7))
          go_ret
          refine ⟨us ++ [s0], v7, by rw [List.length_append]; simp; omega, fun u hu => ?_, rfl, HO7.out, (h6.base HB7.out hbl).mono (by omega), grown_base hw6 HB7.out⟩
          rcases List.mem_append.1 hu with h' | h'
          · exact HS.out u h'
          · rw [List.mem_singleton] at h'; subst h'; exact hs09
        have hs0b : ((sw : Int) == 0) = false := by simp; omega
        by_cases hs1 : sw = 1
        · subst hs1
          have HO7 : Hid (St.Own w6 w.heap.size (.slice (some ⟨g, 0, none⟩) 0 c3) []) := Lib.hid (own_take (n' := 0) St.cells_len ho6 (by omega) rfl)
          have hz3 : (0 : Int) ≤ (c3 : Int) := by omega
          clear ho6
          go_wp2_with fail
          go_ret
          exact ⟨[], _, by simp, by simp, rfl, HO7.out, h6.mono (by omega), hw6⟩
        have hs1b : ((sw : Int) == 1) = false := by simp; omega
        by_cases hs2 : sw = 2
        · subst hs2
          have HL : Hid (At (w6.alloc (.cells #[.string ⟨#[100, 97, 110]⟩, .string ⟨#[101, 118, 101]⟩] 9)) (w6.heap.size + 1) 1 St.cells (some ⟨w6.heap.size, 0, none⟩) [(⟨#[100, 97, 110]⟩ : ByteArray), ⟨#[101, 118, 101]⟩]) := Lib.hid (at_lit St.cells_len (heap_alloc_new w6 _) rfl (by omega))
          have HO7 := Lib.hid (OwnL.alloc ho6 (.cells #[.string ⟨#[100, 97, 110]⟩, .string ⟨#[101, 118, 101]⟩] 9))
          have HM1 : Hid (us.length + 2 ≤ maxLen) := Lib.hid (by unfold maxLen; omega)
          have HM2 : Hid ((us.length + 2) * 16 ≤ 140737488355328) := Lib.hid (by omega)
          have HM3 : Hid (w.heap.size ≤ (w6.alloc (.cells #[.string ⟨#[100, 97, 110]⟩, .string ⟨#[101, 118, 101]⟩] 9)).heap.size) := Lib.hid (Nat.le_trans hBo (by simp))
          have h7 := h6.laid (.cells #[.string ⟨#[100, 97, 110]⟩, .string ⟨#[101, 118, 101]⟩] 9)
          have hw7 := grown_laid hw6 (.cells #[.string ⟨#[100, 97, 110]⟩, .string ⟨#[101, 118, 101]⟩] 9)
          clear ho6
          go_wp2_with (first | (at_builtin; refine wpList_join _ rfl (.tmp 49) (.tmp 50) _ rfl 9 i0 _ 1 16 Try.underlying41 hi hz0 hz1 hz2 rfl (by omega) St.cells St.cells_len St.cells_one1 w.heap.size _ us rfl HO7.out _ _ _ 2 2 rfl rfl HL.out HM1.out HM2.out HM3.out ?_; intro v8 w8 hown8 hb8 hg8; have HO8 := Lib.hid hown8; have HB8 := Lib.hid hb8; clear hown8 hg8 hb8))
          go_ret
          refine ⟨us ++ _, v8, ?_, fun u hu => ?_, rfl, HO8.out, (h7.base HB8.out hbl).mono (by omega), grown_base hw7 HB8.out⟩
          · rw [List.length_append]; simp; omega
          · rcases List.mem_append.1 hu with h' | h'
            · exact HS.out u h'
            · simp only [List.mem_cons, List.not_mem_nil, or_false] at h'
              rcases h' with rfl | rfl <;> decide
        have hs2b : ((sw : Int) == 2) = false := by simp; omega
        go_wp2_with fail
        go_ret
        exact ⟨us, _, by omega, HS.out, rfl, HO6.out, h6.mono (by omega), hw6⟩

end Go.Proofs.Ytpbaimofffcnaaa
