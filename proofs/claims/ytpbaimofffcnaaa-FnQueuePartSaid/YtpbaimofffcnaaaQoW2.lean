/- l22Without, l22Take, QueueTake of the specification. (Printed by mkqo.py.) -/
import Derived.Test.YtpbaimofffcnaaaQoW
namespace Go.Proofs.Ytpbaimofffcnaaa
set_option linter.unusedVariables false
open Go.RowKit

/-- a list of names out of another one -/
def St.Out (us : List ByteArray) (w : World) (e : Ending) (w' : World) : Prop := ∃ A c vs, e = .returned (.slice A vs.length c) ∧ St.Own w' w.heap.size (.slice A vs.length c) vs ∧ vs.length ≤ us.length ∧ (∀ x ∈ vs, x ∈ us) ∧ Below w.heap.size w w'
set_option maxRecDepth 100000 in
set_option maxHeartbeats 1600000 in
theorem l22Without_any (A : Option Addr) (us : List ByteArray) (c : Nat) (nm : ByteArray) (w : World) (h : AtStrs w w.heap.size A us) (hul : us.length ≤ 1048576) :
    Calls Try.prog 61 #[.slice A us.length c, .string nm] w (St.Out us w) := by
  obtain ⟨i0, hi, hz0, hz1, hz2⟩ := info_parts str_info
  have HO0 : Hid (St.Own (w.alloc (.cells #[] 9)) w.heap.size (.slice (some ⟨w.heap.size, 0, none⟩) 0 0) ([] : List ByteArray)) := Lib.hid (ownL_nil w (Nat.le_refl _))
  go_enter Try.func61, Try.ntmps61
  go_wp2_with fail
  go_loopg [5, 6] us.length (fun g o i wr => ∃ (k : Nat) (vs : List ByteArray), k ≤ us.length ∧ Hid (g = us.length - k) ∧ i = .int .i64 k ∧ vs.length ≤ k ∧ Hid (∀ x ∈ vs, x ∈ us) ∧ Hid (St.Own wr w.heap.size o vs) ∧ Below w.heap.size w wr)
  case atStart => exact ⟨0, [], Nat.zero_le _, Lib.hid rfl, rfl, Nat.le_refl _, Lib.hid (fun x hx => by cases hx), HO0, by go_grown⟩
  case round =>
    obtain ⟨k, vs, hk, HG, rfl, hvk, HIN, HO, hb⟩ := hrel
    by_cases hlt : k < us.length
    · have hki : (k : Int) < (us.length : Int) := by omega
      obtain ⟨g, off, rfl, hg, hc⟩ := (h.below hb).1 (by omega)
      obtain ⟨u, hu⟩ : ∃ u, us[k]? = some u := ⟨_, List.getElem?_eq_getElem hlt⟩
      have d1 := hc k u hu
      have HUM := Lib.hid (List.mem_of_getElem? hu)
      have hgr : g < wr.heap.size := Nat.lt_of_lt_of_le hg hb.size
      clear hc hu
      cases hq : (u.toList == nm.toList)
      · obtain ⟨A5, c5, hv, _, _⟩ := OwnL.form HO.out
        subst hv
        have HM1 : Hid (vs.length + 1 ≤ maxLen) := Lib.hid (by unfold maxLen; omega)
        have HM2 : Hid ((vs.length + 1) * 16 ≤ 140737488355328) := Lib.hid (by omega)
        have hBw : w.heap.size ≤ wr.heap.size := hb.size
        have HIN2 : Hid (∀ x ∈ vs ++ [u], x ∈ us) := Lib.hid (fun x hx => by
          rcases List.mem_append.1 hx with hx | hx
          · exact HIN.out x hx
          · rw [List.mem_singleton] at hx; subst hx; exact HUM.out)
        go_wp2_with (first | (at_builtin; refine wpList_snoc _ rfl (.tmp 20) (.tmp 25) _ rfl 9 i0 _ 1 16 Try.underlying41 hi hz0 hz1 hz2 rfl (by omega) St.cells St.cells_len Qi.one_str w.heap.size _ vs u rfl HO.out _ rfl rfl HM1.out HM2.out hBw ?_; intro v7 w7 hown7 hb7 hg7; have HO7 := Lib.hid hown7; have HB7 := Lib.hid (hb.trans hb7); clear hown7 hb7 hg7))
        go_roundg (us.length - (k + 1))
        case measure => have := HG.out; omega
        case rel => exact ⟨k + 1, vs ++ [u], by omega, Lib.hid rfl, by go_num, by rw [List.length_append]; simp; omega, HIN2, HO7, HB7.out⟩
      · go_wp2_with fail
        go_roundg (us.length - (k + 1))
        case measure => have := HG.out; omega
        case rel => exact ⟨k + 1, vs, by omega, Lib.hid rfl, by go_num, by omega, HIN, HO, hb⟩
    · obtain rfl : k = us.length := by omega
      have hki : ¬ (us.length : Int) < (us.length : Int) := by omega
      obtain ⟨A5, c5, hv, _, _⟩ := OwnL.form HO.out
      subst hv
      go_wp2_with fail
      go_ret
      exact ⟨A5, c5, vs, rfl, HO.out, hvk, HIN.out, hb⟩

/-- what taking gives -/
def Qo.Took (w : World) (e : Ending) (w' : World) : Prop := ∃ nx v ms txt fd, e = .returned (.tuple #[.agg #[.int .i64 nx, v], .string txt, .bool fd]) ∧ Qo w' w.heap.size v ms ∧ ms.length ≤ 6 ∧ Below w.heap.size w w'
set_option maxRecDepth 100000 in
set_option maxHeartbeats 6400000 in
theorem l22Take_any (nx : Int) (A : Option Addr) (ls : List Qi.L) (c : Nat) (wid : Int) (nm : ByteArray) (w : World) (h : AtItems w w.heap.size A ls) (hn : ls.length ≤ 6) (hz : ∀ x ∈ ls, Qi.Sz x) :
    Calls Try.prog 57 #[.agg #[.int .i64 nx, .slice A ls.length c], .int .i64 wid, .string nm] w (Qo.Took w) := by
  obtain ⟨i0, hi, hz0, hz1, hz2⟩ := info_parts str_info
  obtain ⟨j0, hj, hy0, hy1, hy2⟩ := info_parts item_info
  have HA : Hid (∀ w', Below w.heap.size w w' → AtItems w' w'.heap.size A ls) := Lib.hid fun w' hb' => (h.below hb').mono hb'.size
  have HZ := Lib.hid hz
  clear h hz
  go_enter Try.func57, Try.ntmps57
  go_upto_region 2 with fail
  generalize hW : ((((w.alloc (.cells #[.int .i64 nx, .slice A ls.length c] 29)).alloc (.cells #[.int .i64 0, .slice none 0 0] 29)).alloc (.cells #[] 43)).alloc (.cells #[.int .i64 nx, .slice (some ⟨w.heap.size + 1 + 1, 0, none⟩) 0 0] 29)) = w0
  obtain ⟨hs0, hr0, hp0, hq0, hb0⟩ := Qo.start w nx A ls.length c hW
  clear hW
  obtain ⟨s, hs⟩ : ∃ s, s = w.heap.size := ⟨_, rfl⟩
  obtain ⟨p, hp⟩ : ∃ p, p = w.heap.size + 1 + 1 + 1 := ⟨_, rfl⟩
  obtain ⟨r, hr⟩ : ∃ r, r = w.heap.size + 1 := ⟨_, rfl⟩
  have hsp : s ≠ p := by omega
  have hrp : r ≠ p := by omega
  have hwp : w.heap.size ≤ p := by omega
  have hwr : w.heap.size ≤ r := by omega
  rw [← hp, ← hr, ← hs]
  rw [← hs] at hs0
  rw [← hp] at hp0
  rw [← hr] at hr0
  have HS0 := Lib.hid hs0
  have HR0 := Lib.hid hr0
  have HP0 := Lib.hid hp0
  have HQ0 := Lib.hid hq0
  have HB0 := Lib.hid hb0
  clear hs0 hr0 hp0 hq0 hb0 hp hr hs
  go_wp2_with fail
  go_loopg [10, 11, 12] ls.length (fun g tx fd i wr => ∃ (k : Nat) (ms : List Qi.L) (v : Value) (txt : ByteArray) (fnd : Bool), k ≤ ls.length ∧ Hid (g = ls.length - k) ∧ i = .int .i64 k ∧ tx = .string txt ∧ fd = .bool fnd ∧ ms.length ≤ k ∧ Hid (Qo wr w.heap.size v ms) ∧ Hid (wr.heap[s]? = some (.cells #[.int .i64 nx, .slice A ls.length c] 29 (0, 0))) ∧ Hid (wr.heap[r]? = some (.cells #[.int .i64 0, .slice none 0 0] 29 (0, 0))) ∧ Hid (wr.heap[p]? = some (.cells #[.int .i64 nx, v] 29 (0, 0))) ∧ Hid (Below w.heap.size w wr))
  case atStart => exact ⟨0, [], _, _, _, Nat.zero_le _, Lib.hid rfl, rfl, rfl, rfl, Nat.le_refl _, HQ0, HS0, HR0, HP0, HB0⟩
  case round =>
    obtain ⟨k, ms, v, txt, fnd, hk, HG, rfl, rfl, rfl, hmk, HQ, HS, HR, HP, HB⟩ := hrel
    have b1 : wr.cell? ⟨s, 1, none⟩ = some (.slice A ls.length c) := cell_at HS.out 1 _ rfl
    by_cases hlt : k < ls.length
    · have hki : (k : Int) < (ls.length : Int) := by omega
      have HI := Lib.hid (HA.out wr HB.out)
      obtain ⟨g, off, hA, hg, hc⟩ := HI.out.row (by omega)
      obtain ⟨u, hu⟩ : ∃ u, ls[k]? = some u := ⟨_, List.getElem?_eq_getElem hlt⟩
      obtain ⟨d0, d1, d2, d3⟩ := hc k u hu
      have HU := Lib.hid (HI.out.2 u (List.mem_of_getElem? hu))
      have HUZ := Lib.hid (HZ.out u (List.mem_of_getElem? hu))
      subst hA
      clear hc hu
      obtain ⟨id, f, t, A1, us, c1⟩ := u
      dsimp only at d0 d1 d2 d3
      have hE := Below.alloc (Below.refl wr.heap.size wr) (Nat.le_refl _) (.cells #[.int .i64 id, .string f, .string t, .slice A1 us.length c1] 43)
      have hx := heap_alloc_new wr (.cells #[.int .i64 id, .string f, .string t, .slice A1 us.length c1] 43)
      go_upto_region 8 with fail
      generalize wr.alloc (.cells #[.int .i64 id, .string f, .string t, .slice A1 us.length c1] 43) = w2 at hE hx ⊢
      obtain ⟨q, hq⟩ : ∃ q, q = wr.heap.size := ⟨_, rfl⟩
      have hqw : wr.heap.size ≤ q := by omega
      rw [← hq] at hx ⊢
      clear hq d0 d1 d2 d3 b1
      have hql := (Array.getElem?_eq_some_iff.1 hx).1
      have HX2 := Lib.hid hx
      have HE2 := Lib.hid hE
      have x3 : w2.cell? ⟨q, 3, none⟩ = some (.slice A1 us.length c1) := cell_at hx 3 _ rfl
      have HO : Hid (St.Own (w2.alloc (.cells #[] 9)) w2.heap.size (.slice (some ⟨w2.heap.size, 0, none⟩) 0 0) ([] : List ByteArray)) := Lib.hid (ownL_nil w2 (Nat.le_refl _))
      have hE3 : Below w2.heap.size w2 (w2.alloc (.cells #[] 9)) := Below.alloc (Below.refl _ _) (Nat.le_refl _) _
      have HAT := Lib.hid (At.strs_of (((HU.out.1.below hE).mono hE.size).below hE3))
      have HM1 : Hid (([] : List ByteArray).length + us.length ≤ maxLen) := Lib.hid (by have := HUZ.out.1; dsimp only at this; unfold maxLen; simp; omega)
      have HM2 : Hid ((([] : List ByteArray).length + us.length) * 16 ≤ 140737488355328) := Lib.hid (by have := HUZ.out.1; dsimp only at this; simp; omega)
      have HM3 : Hid (w2.heap.size ≤ (w2.alloc (.cells #[] 9)).heap.size) := Lib.hid hE3.size
      have HE3 := Lib.hid hE3
      clear hx hE hE3
      go_upto_region 9 with (first | (at_builtin; refine wpList_join _ rfl (.tmp 30) (.tmp 32) _ rfl 9 i0 _ 1 16 Try.underlying41 hi hz0 hz1 hz2 rfl (by omega) St.cells St.cells_len Qi.one_str w2.heap.size _ [] rfl HO.out _ A1 us us.length c1 rfl rfl HAT.out HM1.out HM2.out HM3.out ?_; intro v5 w5 hown5 hb5 hg5; obtain ⟨A5, c5, rfl, _, _⟩ := OwnL.form hown5; have HO5 := Lib.hid hown5; have HB5 := Lib.hid (HE3.out.trans hb5); have hx5 := (HB5.out.block q hql).trans HX2.out; have y3 := cell_at hx5 3 _ rfl; have f3 := free_at hx5 3; clear hown5 hb5 hg5 hx5))
      have hx5 := (HB5.out.block q hql).trans HX2.out
      have hw6 := (HE2.out.trans (HB5.out.mono HE2.out.size)).setCell (p := ⟨q, 3, none⟩) hqw (.slice A5 us.length c5)
      have hl6 := ow_setTo HO5.out hx5 (by decide) 3 (.slice A5 us.length c5)
      have hx6 := ow_setHeap (i := 3) (v := .slice A5 us.length c5) hx5
      clear y3 f3
      generalize w5.setCell ⟨q, 3, none⟩ (.slice A5 us.length c5) = w6 at hw6 hl6 hx6 ⊢
      have hB26 := HE2.out.size
      have HX6 : Hid (w6.heap[q]? = some (.cells #[.int .i64 id, .string f, .string t, .slice A5 us.length c5] 43 (0, 0))) := Lib.hid hx6
      have HL6 : Hid (St.Own w6 w.heap.size (.slice A5 us.length c5) us) := Lib.hid (OwnL.base hl6 (Nat.le_trans HB.out.size hB26))
      have HW6 := Lib.hid hw6
      have hl6c := own_cap HL6.out
      have hqw6 := hqw
      have x0 := cell_at hx6 0 _ rfl
      have x2 := cell_at hx6 2 _ rfl
      have x3 := cell_at hx6 3 _ rfl
      clear hx5 hw6 hl6 hx6 hB26 HO HAT HM1 HM2 HM3 HE2 HE3 HX2 HO5 HB5
      by_cases hid : id = wid
      · subst hid
        have HH := Lib.hid (l21Has_any A5 us us.length c5 nm w6 _ (at_strs (OwnL.at_ HL6.out St.cells_len rfl) HUZ.out.2.1) rfl (Nat.le_trans hl6c.1 hl6c.2))
        cases hh : St.has us nm
        · rw [hh] at HH
          go_upto_region 13 with (first | (go_at_call 26; refine Calls.mono HH.out ?_; rintro e wz ⟨rfl, hww⟩; rw [hww]; clear hww))
          clear x0 x2 x3
          have HZ6 : Hid (Qi.Sz ⟨id, f, t, A5, us, c5⟩) := Lib.hid HUZ.out
          have HQ6 := Lib.hid (HQ.out.below HW6.out)
          have HS6 := Lib.hid ((HW6.out.block s (Array.getElem?_eq_some_iff.1 HS.out).1).trans HS.out)
          have HR6 := Lib.hid ((HW6.out.block r (Array.getElem?_eq_some_iff.1 HR.out).1).trans HR.out)
          have HP6 := Lib.hid ((HW6.out.block p (Array.getElem?_eq_some_iff.1 HP.out).1).trans HP.out)
          have HB6 := Lib.hid (HB.out.trans (HW6.out.mono HB.out.size))
          have x3 := cell_at HX6.out 3 _ rfl
          by_cases hul : 0 < us.length
          · have huli : (0 : Int) < (us.length : Int) := by omega
            have x0 := cell_at HX6.out 0 _ rfl
            have x1 := cell_at HX6.out 1 _ rfl
            have x2 := cell_at HX6.out 2 _ rfl
            obtain ⟨A9, c9, hv, _, _⟩ := HQ6.out.form
            subst hv
            have p1 := cell_at HP6.out 1 _ rfl
            have HN1 : Hid (ms.length + 1 ≤ maxLen) := Lib.hid (by unfold maxLen; omega)
            have HN2 : Hid ((ms.length + 1) * 64 ≤ 140737488355328) := Lib.hid (by omega)
            have hBw : w.heap.size ≤ w6.heap.size := HB6.out.size
            have hpl6 : p < w6.heap.size := (Array.getElem?_eq_some_iff.1 HP6.out).1
            have hql6 : q < w6.heap.size := (Array.getElem?_eq_some_iff.1 HX6.out).1
            clear HQ HS HR HP HB
            go_wp2_with (first | (at_builtin; refine wpList_snoc _ rfl (.tmp 57) (.tmp 59) _ rfl 43 j0 _ 4 64 Try.underlying27 hj hy0 hy1 hy2 rfl (by omega) Qi.cells Qi.cells_len Qi.one1 w.heap.size _ ms (⟨id, f, t, A5, us, c5⟩ : Qi.L) rfl HQ6.out.row _ rfl rfl HN1.out HN2.out hBw ?_; intro v7 w7' hown7 hb7 hg7; obtain ⟨A7, c7, rfl, _, _⟩ := OwnL.form hown7; have HPU := Lib.hid (HQ6.out.push (x := ⟨id, f, t, A5, us, c5⟩) HP6.out hwp hBw HL6.out HZ6.out hown7 hg7); have p7 := cell_at HPU.out.2.2.2.2 1 _ rfl; have f7 := free_at HPU.out.2.2.2.2 1; clear hown7 hb7 hg7))
            have HQ8 := Lib.hid HPU.out.1
            have HP8 := Lib.hid HPU.out.2.1
            have HS8 := Lib.hid (HPU.out.2.2.1 s _ _ hsp (by decide) HS6.out)
            have HR8 := Lib.hid (HPU.out.2.2.1 r _ _ hrp (by decide) HR6.out)
            have HB8 := Lib.hid (HB6.out.trans HPU.out.2.2.2.1)
            rw [show (ms ++ [(⟨id, f, t, A5, us, c5⟩ : Qi.L)]).length = ms.length + 1 by simp] at HQ8 HP8 HS8 HR8 HB8
            go_roundg (ls.length - (k + 1))
            case measure => have := HG.out; omega
            case rel => exact ⟨k + 1, _, _, _, _, by omega, Lib.hid rfl, by go_num, rfl, rfl, by rw [List.length_append]; simp; omega, HQ8, HS8, HR8, HP8, HB8⟩
          · have huli : ¬ (0 : Int) < (us.length : Int) := by omega
            go_wp2_with fail
            go_roundg (ls.length - (k + 1))
            case measure => have := HG.out; omega
            case rel => exact ⟨k + 1, ms, _, _, _, by omega, Lib.hid rfl, by go_num, rfl, rfl, by omega, HQ6, HS6, HR6, HP6, HB6⟩
        · rw [hh] at HH
          have HWO := Lib.hid (l22Without_any A5 us c5 nm w6 (at_strs (OwnL.at_ HL6.out St.cells_len rfl) HUZ.out.2.1) (by have := HUZ.out.1; dsimp only at this; omega))
          go_upto_region 13 with (first | (go_at_call 26; refine Calls.mono HH.out ?_; rintro e wz ⟨rfl, hww⟩; rw [hww]; clear hww) | (go_at_call 61; refine Calls.mono HWO.out ?_; rintro e w8 ⟨A8, c8, us8, rfl, ho8, hl8, hin8, hb8⟩; have HB8' := Lib.hid hb8; have HO8 := Lib.hid ho8; have hx8 := (hb8.block q (Array.getElem?_eq_some_iff.1 HX6.out).1).trans HX6.out; have y3 := cell_at hx8 3 _ rfl; have f3 := free_at hx8 3; have HI8 := Lib.hid hin8; clear hb8 ho8 hx8 hin8))
          clear x0 x2 x3 y3 f3
          have hx8 := (HB8'.out.block q (Array.getElem?_eq_some_iff.1 HX6.out).1).trans HX6.out
          have hw9 := (HW6.out.trans (HB8'.out.mono HW6.out.size)).setCell (p := ⟨q, 3, none⟩) hqw (.slice A8 us8.length c8)
          have hl9 := ow_setTo HO8.out hx8 (by decide) 3 (.slice A8 us8.length c8)
          have hx9 := ow_setHeap (i := 3) (v := .slice A8 us8.length c8) hx8
          generalize w8.setCell ⟨q, 3, none⟩ (.slice A8 us8.length c8) = w9 at hw9 hl9 hx9 ⊢
          have HX9 : Hid (w9.heap[q]? = some (.cells #[.int .i64 id, .string f, .string t, .slice A8 us8.length c8] 43 (0, 0))) := Lib.hid hx9
          have HL9 : Hid (St.Own w9 w.heap.size (.slice A8 us8.length c8) us8) := Lib.hid (OwnL.base hl9 (Nat.le_trans HB.out.size HW6.out.size))
          have HW9 := Lib.hid hw9
          have HZ9 : Hid (Qi.Sz ⟨id, f, t, A8, us8, c8⟩) := Lib.hid ⟨Nat.le_trans hl8 HUZ.out.1, fun u hu => HUZ.out.2.1 u (HI8.out u hu), HUZ.out.2.2⟩
          clear hx8 hw9 hl9 hx9
          have HQ6 := Lib.hid (HQ.out.below HW9.out)
          have HS6 := Lib.hid ((HW9.out.block s (Array.getElem?_eq_some_iff.1 HS.out).1).trans HS.out)
          have HR6 := Lib.hid ((HW9.out.block r (Array.getElem?_eq_some_iff.1 HR.out).1).trans HR.out)
          have HP6 := Lib.hid ((HW9.out.block p (Array.getElem?_eq_some_iff.1 HP.out).1).trans HP.out)
          have HB6 := Lib.hid (HB.out.trans (HW9.out.mono HB.out.size))
          have x3 := cell_at HX9.out 3 _ rfl
          by_cases hul : 0 < us8.length
          · have huli : (0 : Int) < (us8.length : Int) := by omega
            have x0 := cell_at HX9.out 0 _ rfl
            have x1 := cell_at HX9.out 1 _ rfl
            have x2 := cell_at HX9.out 2 _ rfl
            obtain ⟨A9, c9, hv, _, _⟩ := HQ6.out.form
            subst hv
            have p1 := cell_at HP6.out 1 _ rfl
            have HN1 : Hid (ms.length + 1 ≤ maxLen) := Lib.hid (by unfold maxLen; omega)
            have HN2 : Hid ((ms.length + 1) * 64 ≤ 140737488355328) := Lib.hid (by omega)
            have hBw : w.heap.size ≤ w9.heap.size := HB6.out.size
            have hpl6 : p < w9.heap.size := (Array.getElem?_eq_some_iff.1 HP6.out).1
            have hql6 : q < w9.heap.size := (Array.getElem?_eq_some_iff.1 HX9.out).1
            clear HQ HS HR HP HB
            go_wp2_with (first | (at_builtin; refine wpList_snoc _ rfl (.tmp 57) (.tmp 59) _ rfl 43 j0 _ 4 64 Try.underlying27 hj hy0 hy1 hy2 rfl (by omega) Qi.cells Qi.cells_len Qi.one1 w.heap.size _ ms (⟨id, f, t, A8, us8, c8⟩ : Qi.L) rfl HQ6.out.row _ rfl rfl HN1.out HN2.out hBw ?_; intro v7 w7' hown7 hb7 hg7; obtain ⟨A7, c7, rfl, _, _⟩ := OwnL.form hown7; have HPU := Lib.hid (HQ6.out.push (x := ⟨id, f, t, A8, us8, c8⟩) HP6.out hwp hBw HL9.out HZ9.out hown7 hg7); have p7 := cell_at HPU.out.2.2.2.2 1 _ rfl; have f7 := free_at HPU.out.2.2.2.2 1; clear hown7 hb7 hg7))
            have HQ8 := Lib.hid HPU.out.1
            have HP8 := Lib.hid HPU.out.2.1
            have HS8 := Lib.hid (HPU.out.2.2.1 s _ _ hsp (by decide) HS6.out)
            have HR8 := Lib.hid (HPU.out.2.2.1 r _ _ hrp (by decide) HR6.out)
            have HB8 := Lib.hid (HB6.out.trans HPU.out.2.2.2.1)
            rw [show (ms ++ [(⟨id, f, t, A8, us8, c8⟩ : Qi.L)]).length = ms.length + 1 by simp] at HQ8 HP8 HS8 HR8 HB8
            go_roundg (ls.length - (k + 1))
            case measure => have := HG.out; omega
            case rel => exact ⟨k + 1, _, _, _, _, by omega, Lib.hid rfl, by go_num, rfl, rfl, by rw [List.length_append]; simp; omega, HQ8, HS8, HR8, HP8, HB8⟩
          · have huli : ¬ (0 : Int) < (us8.length : Int) := by omega
            go_wp2_with fail
            go_roundg (ls.length - (k + 1))
            case measure => have := HG.out; omega
            case rel => exact ⟨k + 1, ms, _, _, _, by omega, Lib.hid rfl, by go_num, rfl, rfl, by omega, HQ6, HS6, HR6, HP6, HB6⟩
      · have hidb : (id == wid) = false := by simpa using hid
        clear hid
        go_upto_region 13 with fail
        clear x0 x2 x3
        have HZ6 : Hid (Qi.Sz ⟨id, f, t, A5, us, c5⟩) := Lib.hid HUZ.out
        have HQ6 := Lib.hid (HQ.out.below HW6.out)
        have HS6 := Lib.hid ((HW6.out.block s (Array.getElem?_eq_some_iff.1 HS.out).1).trans HS.out)
        have HR6 := Lib.hid ((HW6.out.block r (Array.getElem?_eq_some_iff.1 HR.out).1).trans HR.out)
        have HP6 := Lib.hid ((HW6.out.block p (Array.getElem?_eq_some_iff.1 HP.out).1).trans HP.out)
        have HB6 := Lib.hid (HB.out.trans (HW6.out.mono HB.out.size))
        have x3 := cell_at HX6.out 3 _ rfl
        by_cases hul : 0 < us.length
        · have huli : (0 : Int) < (us.length : Int) := by omega
          have x0 := cell_at HX6.out 0 _ rfl
          have x1 := cell_at HX6.out 1 _ rfl
          have x2 := cell_at HX6.out 2 _ rfl
          obtain ⟨A9, c9, hv, _, _⟩ := HQ6.out.form
          subst hv
          have p1 := cell_at HP6.out 1 _ rfl
          have HN1 : Hid (ms.length + 1 ≤ maxLen) := Lib.hid (by unfold maxLen; omega)
          have HN2 : Hid ((ms.length + 1) * 64 ≤ 140737488355328) := Lib.hid (by omega)
          have hBw : w.heap.size ≤ w6.heap.size := HB6.out.size
          have hpl6 : p < w6.heap.size := (Array.getElem?_eq_some_iff.1 HP6.out).1
          have hql6 : q < w6.heap.size := (Array.getElem?_eq_some_iff.1 HX6.out).1
          clear HQ HS HR HP HB
          go_wp2_with (first | (at_builtin; refine wpList_snoc _ rfl (.tmp 57) (.tmp 59) _ rfl 43 j0 _ 4 64 Try.underlying27 hj hy0 hy1 hy2 rfl (by omega) Qi.cells Qi.cells_len Qi.one1 w.heap.size _ ms (⟨id, f, t, A5, us, c5⟩ : Qi.L) rfl HQ6.out.row _ rfl rfl HN1.out HN2.out hBw ?_; intro v7 w7' hown7 hb7 hg7; obtain ⟨A7, c7, rfl, _, _⟩ := OwnL.form hown7; have HPU := Lib.hid (HQ6.out.push (x := ⟨id, f, t, A5, us, c5⟩) HP6.out hwp hBw HL6.out HZ6.out hown7 hg7); have p7 := cell_at HPU.out.2.2.2.2 1 _ rfl; have f7 := free_at HPU.out.2.2.2.2 1; clear hown7 hb7 hg7))
          have HQ8 := Lib.hid HPU.out.1
          have HP8 := Lib.hid HPU.out.2.1
          have HS8 := Lib.hid (HPU.out.2.2.1 s _ _ hsp (by decide) HS6.out)
          have HR8 := Lib.hid (HPU.out.2.2.1 r _ _ hrp (by decide) HR6.out)
          have HB8 := Lib.hid (HB6.out.trans HPU.out.2.2.2.1)
          rw [show (ms ++ [(⟨id, f, t, A5, us, c5⟩ : Qi.L)]).length = ms.length + 1 by simp] at HQ8 HP8 HS8 HR8 HB8
          go_roundg (ls.length - (k + 1))
          case measure => have := HG.out; omega
          case rel => exact ⟨k + 1, _, _, _, _, by omega, Lib.hid rfl, by go_num, rfl, rfl, by rw [List.length_append]; simp; omega, HQ8, HS8, HR8, HP8, HB8⟩
        · have huli : ¬ (0 : Int) < (us.length : Int) := by omega
          go_wp2_with fail
          go_roundg (ls.length - (k + 1))
          case measure => have := HG.out; omega
          case rel => exact ⟨k + 1, ms, _, _, _, by omega, Lib.hid rfl, by go_num, rfl, rfl, by omega, HQ6, HS6, HR6, HP6, HB6⟩
    · obtain rfl : k = ls.length := by omega
      have hki : ¬ (ls.length : Int) < (ls.length : Int) := by omega
      obtain ⟨A9, c9, hv, _, _⟩ := HQ.out.form
      subst hv
      have p0 := cell_at HP.out 0 _ rfl
      have p1 := cell_at HP.out 1 _ rfl
      have r0 := cell_at HR.out 0 _ rfl
      have r1 := cell_at HR.out 1 _ rfl
      have f0 := free_at HR.out 0
      have f1 := free_at HR.out 1
      go_wp2_with fail
      refine bodyPost_ret (v := .tuple #[.agg #[.int .i64 nx, .slice A9 ms.length c9], .string txt, .bool fnd]) (by simp [results, Try.results57, go_sem, r0, r1]) rfl ?_
      refine ⟨nx, .slice A9 ms.length c9, ms, txt, fnd, rfl, ?_, by omega, ?_⟩
      · exact (HQ.out.setTo HR.out (by decide) (by decide) 0 _).setTo (ow_setHeap HR.out) (by decide) (by decide) 1 _
      · exact (HB.out.setCell (p := ⟨r, 0, none⟩) hwr _).setCell (p := ⟨r, 1, none⟩) hwr _

set_option maxRecDepth 100000 in
set_option maxHeartbeats 1600000 in
theorem sQueueTake_any (nx : Int) (A : Option Addr) (ls : List Qi.L) (c : Nat) (wid : Int) (nm : ByteArray) (w : World) (h : AtItems w w.heap.size A ls) (hn : ls.length ≤ 6) (hz : ∀ x ∈ ls, Qi.Sz x) :
    Calls Try.prog 42 #[.agg #[.int .i64 nx, .slice A ls.length c], .int .i64 wid, .string nm] w (Qo.Took w) := by
  have HA : Hid (∀ w', Below w.heap.size w w' → AtItems w' w'.heap.size A ls) := Lib.hid fun w' hb' => (h.below hb').mono hb'.size
  have hnm : ls.length ≤ maxLen := by unfold maxLen; omega
  have hb0 : Below w.heap.size w ((w.alloc (.cells #[.int .i64 nx, .slice A ls.length c] 29)).alloc (.cells #[.int .i64 0, .slice none 0 0] 29)) := ((Below.refl _ _).alloc (Nat.le_refl _) _).alloc (by simp) _
  have hx0 := (Below.heap_alloc (w.alloc (.cells #[.int .i64 nx, .slice A ls.length c] 29)) (.cells #[.int .i64 0, .slice none 0 0] 29) w.heap.size (by simp)).trans (heap_alloc_new w _)
  have hx1 := heap_alloc_new (w.alloc (.cells #[.int .i64 nx, .slice A ls.length c] 29)) (.cells #[.int .i64 0, .slice none 0 0] 29)
  rw [show (w.alloc (.cells #[.int .i64 nx, .slice A ls.length c] 29)).heap.size = w.heap.size + 1 by simp] at hx1
  go_enter Try.func42, Try.ntmps42
  go_upto_region 1 with fail
  generalize (w.alloc (.cells #[.int .i64 nx, .slice A ls.length c] 29)).alloc (.cells #[.int .i64 0, .slice none 0 0] 29) = w1 at hb0 hx0 hx1 ⊢
  obtain ⟨s, hs⟩ : ∃ s, s = w.heap.size := ⟨_, rfl⟩
  obtain ⟨r, hr⟩ : ∃ r, r = w.heap.size + 1 := ⟨_, rfl⟩
  have hwr : w.heap.size ≤ r := by omega
  rw [← hr, ← hs]
  rw [← hs] at hx0
  rw [← hr] at hx1
  clear hs hr
  have HX0 := Lib.hid hx0
  have HX1 := Lib.hid hx1
  have HB0 := Lib.hid hb0
  have b0 := cell_at hx0 0 _ rfl
  have b1 := cell_at hx0 1 _ rfl
  have HQ := Lib.hid (sQueueValid_any nx A ls c w1 (HA.out w1 hb0) hnm)
  clear hx0 hx1 hb0
  cases hok : Qu.ok nx (ls.map Qi.v)
  · rw [hok] at HQ
    go_wp2_with fail
    refine Calls.mono HQ.out ?_
    rintro e w2 ⟨rfl, hb2⟩
    have hr2 := (hb2.block r (Array.getElem?_eq_some_iff.1 HX1.out).1).trans HX1.out
    have HB2 := Lib.hid (HB0.out.trans (hb2.mono HB0.out.size))
    have r0 := cell_at hr2 0 _ rfl
    have r1 := cell_at hr2 1 _ rfl
    have f0 := free_at hr2 0
    have f1 := free_at hr2 1
    clear hr2 hb2
    go_wp2_with fail
    refine bodyPost_ret (v := .tuple #[.agg #[.int .i64 0, .slice none 0 0], .string ⟨#[]⟩, .bool false]) (by simp [results, Try.results42, go_sem, r0, r1]) rfl ?_
    exact ⟨0, .slice none 0 0, [], ⟨#[]⟩, false, rfl, Qo.nil _ _, Nat.zero_le _, (HB2.out.setCell (p := ⟨r, 0, none⟩) hwr _).setCell (p := ⟨r, 1, none⟩) hwr _⟩
  · rw [hok] at HQ
    go_wp2_with fail
    refine Calls.mono HQ.out ?_
    rintro e w2 ⟨rfl, hb2⟩
    have HB2 := Lib.hid (HB0.out.trans (hb2.mono HB0.out.size))
    have hs2 := (hb2.block s (Array.getElem?_eq_some_iff.1 HX0.out).1).trans HX0.out
    have HR2 := Lib.hid ((hb2.block r (Array.getElem?_eq_some_iff.1 HX1.out).1).trans HX1.out)
    clear b0 b1
    have b0 := cell_at hs2 0 _ rfl
    have b1 := cell_at hs2 1 _ rfl
    have HT := Lib.hid (l22Take_any nx A ls c wid nm w2 (HA.out w2 HB2.out) hn hz)
    clear hs2 hb2
    go_wp2_with fail
    refine Calls.mono HT.out ?_
    rintro e w3 ⟨nx3, v3, ms, txt, fd, rfl, hq3, hl3, hb3⟩
    have hr3 := (hb3.block r (Array.getElem?_eq_some_iff.1 HR2.out).1).trans HR2.out
    have HR3 := Lib.hid hr3
    have HB3 := Lib.hid (HB2.out.trans (hb3.mono HB2.out.size))
    have HQ3 := Lib.hid (hq3.base HB2.out.size)
    obtain ⟨A3, c3, hv, _, _⟩ := hq3.form
    subst hv
    have r0 := cell_at hr3 0 _ rfl
    have r1 := cell_at hr3 1 _ rfl
    have f0 := free_at hr3 0
    have f1 := free_at hr3 1
    clear hr3 hb3 hq3
    go_wp2_with fail
    refine bodyPost_ret (v := .tuple #[.agg #[.int .i64 nx3, .slice A3 ms.length c3], .string txt, .bool fd]) (by simp [results, Try.results42, go_sem, r0, r1]) rfl ?_
    exact ⟨nx3, _, ms, txt, fd, rfl, (HQ3.out.setTo HR3.out (by decide) (by decide) 0 _).setTo (ow_setHeap HR3.out) (by decide) (by decide) 1 _, hl3, (HB3.out.setCell (p := ⟨r, 0, none⟩) hwr _).setCell (p := ⟨r, 1, none⟩) hwr _⟩
end Go.Proofs.Ytpbaimofffcnaaa
