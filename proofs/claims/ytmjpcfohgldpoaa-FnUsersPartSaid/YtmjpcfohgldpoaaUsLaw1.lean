/- FnUsersAnyone: the walk. -/
import Derived.Test.YtmjpcfohgldpoaaUsDraw
import Derived.Test.YtmjpcfohgldpoaaUsW2
import Derived.Deep.DeepCutAuto
namespace Go.Proofs.Ytmjpcfohgldpoaa
set_option linter.unusedVariables false
open Go.RowKit
open Us (U)

theorem small_sizes {us : List U} (h : SmallUsers us) : ∀ u ∈ us, u.name.size ≤ maxLen ∧ u.pass.size ≤ maxLen := fun u hu => by
  have := h.2.2 u hu
  unfold maxLen
  exact ⟨by omega, by omega⟩
theorem small_len {us : List U} (h : SmallUsers us) : us.length ≤ maxLen := by
  have := h.2.1
  unfold maxLen; omega

set_option maxHeartbeats 800000 in
theorem drawUsersValid_any (a : Option Addr) (len cap : Nat) (w : World) (h : Bytes w a len cap) :
    Calls Try.prog 21 #[.slice a len cap] w fun e w' => ∃ us A c, SmallUsers us ∧ us.length ≤ c ∧ c ≤ maxLen ∧ e = .returned (.slice A us.length c) ∧ At w' w'.heap.size 3 Us.cells A us ∧ Below w.heap.size w w' := by
  go_enter Try.func21, Try.ntmps21
  go_wp2_with fail
  refine (l6Open_any a len cap _ h).mono ?_
  rintro e w1 ⟨rfl, h1, hb1⟩
  go_wp2_with fail
  refine (l92Users_any _ _ _ _ (by omega) h1).mono ?_
  rintro e w2 ⟨us, A, c, hsm, hc1, hc2, rfl, hat, h2, hg2⟩
  go_wp2_with fail
  go_ret
  exact ⟨us, A, c, hsm, hc1, hc2, rfl, hat, hb1.trans (grown_to_below hg2 (Nat.le_refl _) hb1.size)⟩

theorem anyone_list : ((ByteArray.mk #[97, 110, 121, 111, 110, 101]).toList == Us.anyoneL) = true := by
  rw [Go.ByteArray.toList_eq]; rfl
theorem userCall {A : Option Addr} {us : List U} {c n : Nat} (w : World) (h : At w w.heap.size 3 Us.cells A us) (hn : us.length = n) (hs : SmallUsers us) {v : Bool} (hv : Us.usersOk us = v) :
    Calls Try.prog 22 #[.slice A n c] w fun e w' => e = .returned (.bool v) ∧ Below w.heap.size w w' := by
  rw [← hn, ← hv]
  exact iUsersValid_any A us c w (at_users h (small_sizes hs)) (small_len hs)
theorem small_set {us : List U} {k : Nat} {u0 u : U} (h : SmallUsers us) (hk : us[k]? = some u0) (hu : u.name.size ≤ 9 ∧ u.pass.size ≤ 9) : SmallUsers (us.set k u) := by
  refine ⟨by rw [List.length_set]; exact h.1, by rw [List.length_set]; exact h.2.1, fun x hx => ?_⟩
  rcases List.mem_or_eq_of_mem_set hx with h' | h'
  · exact h.2.2 x h'
  · subst h'; exact hu
theorem cells_one (us : List U) : ∀ v ∈ us.flatMap Us.cells, v.oneCell' = true := by
  intro v hv
  obtain ⟨u, _, hu⟩ := List.mem_flatMap.1 hv
  simp only [Us.cells, List.mem_cons, List.not_mem_nil, or_false] at hu
  rcases hu with rfl | rfl | rfl <;> rfl
set_option maxRecDepth 100000 in
set_option maxHeartbeats 3200000 in
theorem walkFnUsersAnyone (a : Option Addr) (len cap : Nat) (w : World) (h : Bytes w a len cap) :
    Calls Try.prog 7 #[.slice a len cap] w fun e w' => e = .returned (.bool true) ∧ Below w.heap.size w w' := by
  by_cases hbig : len ≤ 1048576
  · go_enter Try.func7, Try.ntmps7
    go_wp2_with fail
    refine (drawUsersValid_any a len cap _ h).mono ?_
    rintro e w1 ⟨us, A, c, hsm, hc1, hc2, rfl, hat, hb1⟩
    have hau := at_users hat (small_sizes hsm)
    go_wp2_with fail
    refine (iUsersValid_any A us c _ hau (small_len hsm)).mono ?_
    rintro e w2 ⟨rfl, hb2⟩
    go_wp2_with fail
    refine (sUsersValid_any A us c _ ((hau.below hb2).mono hb2.size) (small_len hsm)).mono ?_
    rintro e w3 ⟨rfl, hb3⟩
    have hB := hb1.trans ((hb2.trans (hb3.mono hb2.size)).mono hb1.size)
    have hat3 := (hat.below (hb2.trans (hb3.mono hb2.size))).mono (Nat.le_trans hb2.size hb3.size)
    clear hat hau hb1 hb2 hb3
    cases hok : Us.usersOk us
    · go_wp2
      go_ret
      exact ⟨rfl, hB⟩
    · obtain ⟨hl1, hl5, hsz⟩ := hsm
      have hlen := hl1
      go_upto_region 8 with fail
      obtain ⟨i0, hi, hz0, hz1, hz2⟩ := info_parts user_info
      obtain ⟨u0, hu0⟩ : ∃ u0, us[0]? = some u0 := ⟨_, List.getElem?_eq_getElem (by omega)⟩
      have hatS := hat3
      clear hat3
      have hown0 := World.ownsRow_lit (base := w3.heap.size) (e := 35) (size := 3) w3 #[] 0 (Nat.le_refl _) (Nat.zero_le _) rfl
      have hrd0 := reads_of_at (by omega) Us.cells_len (hatS.below ((Below.refl w3.heap.size w3).alloc (Nat.le_refl _) (.cells #[] 35)))
      have H0 := Lib.hid hown0
      have HR0 := Lib.hid hrd0
      have K1 := Lib.hid (cells_one us)
      have K2 : Hid (0 + us.length ≤ maxLen) := Lib.hid (by unfold maxLen; omega)
      have K3 : Hid ((0 + us.length) * 40 ≤ 140737488355328) := Lib.hid (by omega)
      have K4 : Hid (w3.heap.size ≤ (w3.alloc (.cells #[] 35)).heap.size) := Lib.hid (by simp)
      clear hown0 hrd0
      go_upto_region 9 with (at_builtin; refine wpList_append_any _ rfl (.tmp 28) (.tmp 29) _ rfl w3.heap.size 35 i0 _ 3 40 Try.underlying31 hi hz0 hz1 hz2 rfl (by omega) _ 0 [] rfl H0.out w3.heap.size A us.length c _ rfl HR0.out K1.out K2.out K3.out K4.out ?_; intro v w4 hown hgr hbk)
      obtain ⟨g1, cap1, rfl, hgl, hcap1, hown1⟩ := copied hown (by omega)
      have hBW := copy_below hgr
      clear hown hgr hbk H0 HR0 K1 K2 K3 K4
      have hlt1 : g1 < w4.heap.size := (hown1.lt _ rfl).2
      have e0 : w4.cell? ⟨g1, 0, none⟩ = some (.string u0.name) := own_cell (i := 0) (j := 0) Us.cells_len hown1 hu0 rfl
      have f0 : w4.frozen? ⟨g1, 0, none⟩ = false := hown1.frozenAt 0
      have hset := own_set (i := 0) (j := 0) (u' := ⟨⟨#[97, 110, 121, 111, 110, 101]⟩, u0.pass, u0.quota⟩) (v := .string ⟨#[97, 110, 121, 111, 110, 101]⟩) Us.cells_len hown1 hu0 (by omega) rfl
      simp only [Nat.zero_mul, Nat.zero_add] at hset
      have hBS : Below w3.heap.size w3 (w4.setCell ⟨g1, 0, none⟩ (.string ⟨#[97, 110, 121, 111, 110, 101]⟩)) := hBW.setCell (p := ⟨g1, 0, none⟩) hgl _
      have HS1 := Lib.hid hset
      have HBS := Lib.hid hBS
      clear hset hBS hBW hown1
      go_upto_region 10 with fail
      have hBS := HBS.out
      clear HBS
      have hset := HS1.out
      clear HS1
      generalize w4.setCell ⟨g1, 0, none⟩ (.string ⟨#[97, 110, 121, 111, 110, 101]⟩) = w5 at hBS hset ⊢
      have hlt1' : g1 < w5.heap.size := (hset.lt _ rfl).2
      clear e0 f0 hlt1
      have hB := hB.trans (hBS.mono hB.size)
      have hatS := (hatS.below hBS).mono hBS.size
      have hr1 := hset
      have hl1 := hlt1'
      clear hset hBS hlt1' hgl
      have hown0 := World.ownsRow_lit (base := w5.heap.size) (e := 35) (size := 3) w5 #[] 0 (Nat.le_refl _) (Nat.zero_le _) rfl
      have hrd0 := reads_of_at (by omega) Us.cells_len (hatS.below ((Below.refl w5.heap.size w5).alloc (Nat.le_refl _) (.cells #[] 35)))
      have H0 := Lib.hid hown0
      have HR0 := Lib.hid hrd0
      have K1 := Lib.hid (cells_one us)
      have K2 : Hid (0 + us.length ≤ maxLen) := Lib.hid (by unfold maxLen; omega)
      have K3 : Hid ((0 + us.length) * 40 ≤ 140737488355328) := Lib.hid (by omega)
      have K4 : Hid (w5.heap.size ≤ (w5.alloc (.cells #[] 35)).heap.size) := Lib.hid (by simp)
      clear hown0 hrd0
      go_upto_region 11 with (at_builtin; refine wpList_append_any _ rfl (.tmp 34) (.tmp 35) _ rfl w5.heap.size 35 i0 _ 3 40 Try.underlying31 hi hz0 hz1 hz2 rfl (by omega) _ 0 [] rfl H0.out w5.heap.size A us.length c _ rfl HR0.out K1.out K2.out K3.out K4.out ?_; intro v w6 hown hgr hbk)
      obtain ⟨g2, cap2, rfl, hgl, hcap2, hown2⟩ := copied hown (by omega)
      have hBW := copy_below hgr
      clear hown hgr hbk H0 HR0 K1 K2 K3 K4
      have hlt2 : g2 < w6.heap.size := (hown2.lt _ rfl).2
      have e0 : w6.cell? ⟨g2, 1, none⟩ = some (.string u0.pass) := own_cell (i := 0) (j := 1) Us.cells_len hown2 hu0 rfl
      have f0 : w6.frozen? ⟨g2, 1, none⟩ = false := hown2.frozenAt 1
      have hset := own_set (i := 0) (j := 1) (u' := ⟨u0.name, ⟨#[]⟩, u0.quota⟩) (v := .string ⟨#[]⟩) Us.cells_len hown2 hu0 (by omega) rfl
      simp only [Nat.zero_mul, Nat.zero_add] at hset
      have hBS : Below w5.heap.size w5 (w6.setCell ⟨g2, 1, none⟩ (.string ⟨#[]⟩)) := hBW.setCell (p := ⟨g2, 1, none⟩) hgl _
      have HS2 := Lib.hid hset
      have HBS := Lib.hid hBS
      clear hset hBS hBW hown2
      go_upto_region 12 with fail
      have hBS := HBS.out
      clear HBS
      have hset := HS2.out
      clear HS2
      generalize w6.setCell ⟨g2, 1, none⟩ (.string ⟨#[]⟩) = w7 at hBS hset ⊢
      have hlt2' : g2 < w7.heap.size := (hset.lt _ rfl).2
      clear e0 f0 hlt2
      have hB := hB.trans (hBS.mono hB.size)
      have hatS := (hatS.below hBS).mono hBS.size
      have hr1 := own_below hr1 hBS hl1
      have hl1 := Nat.lt_of_lt_of_le hl1 hBS.size
      have hr2 := hset
      have hl2 := hlt2'
      clear hset hBS hlt2' hgl
      have hown0 := World.ownsRow_lit (base := w7.heap.size) (e := 35) (size := 3) w7 #[] 0 (Nat.le_refl _) (Nat.zero_le _) rfl
      have hrd0 := reads_of_at (by omega) Us.cells_len (hatS.below ((Below.refl w7.heap.size w7).alloc (Nat.le_refl _) (.cells #[] 35)))
      have H0 := Lib.hid hown0
      have HR0 := Lib.hid hrd0
      have K1 := Lib.hid (cells_one us)
      have K2 : Hid (0 + us.length ≤ maxLen) := Lib.hid (by unfold maxLen; omega)
      have K3 : Hid ((0 + us.length) * 40 ≤ 140737488355328) := Lib.hid (by omega)
      have K4 : Hid (w7.heap.size ≤ (w7.alloc (.cells #[] 35)).heap.size) := Lib.hid (by simp)
      clear hown0 hrd0
      go_upto_region 13 with (at_builtin; refine wpList_append_any _ rfl (.tmp 40) (.tmp 41) _ rfl w7.heap.size 35 i0 _ 3 40 Try.underlying31 hi hz0 hz1 hz2 rfl (by omega) _ 0 [] rfl H0.out w7.heap.size A us.length c _ rfl HR0.out K1.out K2.out K3.out K4.out ?_; intro v w8 hown hgr hbk)
      obtain ⟨g3, cap3, rfl, hgl, hcap3, hown3⟩ := copied hown (by omega)
      have hBW := copy_below hgr
      clear hown hgr hbk H0 HR0 K1 K2 K3 K4
      have hlt3 : g3 < w8.heap.size := (hown3.lt _ rfl).2
      have e0 : w8.cell? ⟨g3, 2, none⟩ = some (.int .i64 u0.quota) := own_cell (i := 0) (j := 2) Us.cells_len hown3 hu0 rfl
      have f0 : w8.frozen? ⟨g3, 2, none⟩ = false := hown3.frozenAt 2
      have hset := own_set (i := 0) (j := 2) (u' := ⟨u0.name, u0.pass, -1⟩) (v := .int .i64 (-1)) Us.cells_len hown3 hu0 (by omega) rfl
      simp only [Nat.zero_mul, Nat.zero_add] at hset
      have hBS : Below w7.heap.size w7 (w8.setCell ⟨g3, 2, none⟩ (.int .i64 (-1))) := hBW.setCell (p := ⟨g3, 2, none⟩) hgl _
      have HS3 := Lib.hid hset
      have HBS := Lib.hid hBS
      clear hset hBS hBW hown3
      go_upto_region 14 with fail
      have hBS := HBS.out
      clear HBS
      have hset := HS3.out
      clear HS3
      generalize w8.setCell ⟨g3, 2, none⟩ (.int .i64 (-1)) = w9 at hBS hset ⊢
      have hlt3' : g3 < w9.heap.size := (hset.lt _ rfl).2
      clear e0 f0 hlt3
      have hB := hB.trans (hBS.mono hB.size)
      have hatS := (hatS.below hBS).mono hBS.size
      have hr1 := own_below hr1 hBS hl1
      have hl1 := Nat.lt_of_lt_of_le hl1 hBS.size
      have hr2 := own_below hr2 hBS hl2
      have hl2 := Nat.lt_of_lt_of_le hl2 hBS.size
      have hr3 := hset
      have hl3 := hlt3'
      clear hset hBS hlt3' hgl
      have hc := userCall (A := some ⟨g1, 0, none⟩) (c := cap1) w9 (at_of_own Us.cells_len (hr1) (by rw [List.length_set])) (List.length_set ..) (small_set ⟨hlen, hl5, hsz⟩ hu0 ⟨(by omega : 6 ≤ 9), (hsz u0 (List.mem_of_getElem? hu0)).2⟩) (Us.usersOk_set (by omega) (Us.valid_no2 anyone_list))
      have HC := Lib.hid hc
      clear hc
      go_wp2_with fail
      refine HC.out.mono ?_
      rintro e w10 ⟨rfl, hx1⟩
      have hc := userCall (A := some ⟨g2, 0, none⟩) (c := cap2) w10 (at_of_own Us.cells_len (own_below hr2 hx1 hl2) (by rw [List.length_set])) (List.length_set ..) (small_set ⟨hlen, hl5, hsz⟩ hu0 ⟨(hsz u0 (List.mem_of_getElem? hu0)).1, (by omega : 0 ≤ 9)⟩) (Us.usersOk_set (by omega) (Us.valid_no3 (by rfl)))
      have HC := Lib.hid hc
      clear hc
      go_wp2_with fail
      refine HC.out.mono ?_
      rintro e w11 ⟨rfl, hx2⟩
      have hc := userCall (A := some ⟨g3, 0, none⟩) (c := cap3) w11 (at_of_own Us.cells_len (own_below (own_below hr3 hx1 hl3) hx2 (Nat.lt_of_lt_of_le hl3 hx1.size)) (by rw [List.length_set])) (List.length_set ..) (small_set ⟨hlen, hl5, hsz⟩ hu0 ⟨(hsz u0 (List.mem_of_getElem? hu0)).1, (hsz u0 (List.mem_of_getElem? hu0)).2⟩) (Us.usersOk_set (by omega) (Us.valid_no4 (by simp)))
      have HC := Lib.hid hc
      clear hc
      go_wp2_with fail
      refine HC.out.mono ?_
      rintro e w12 ⟨rfl, hx3⟩
      go_wp2_with fail
      go_ret
      exact ⟨rfl, hB.trans ((hx1.trans ((hx2.trans (hx3.mono hx2.size)).mono hx1.size)).mono hB.size)⟩
  · go_enter Try.func7, Try.ntmps7
    go_wp2
    go_ret
    exact ⟨rfl, Below.refl _ _⟩

end Go.Proofs.Ytmjpcfohgldpoaa
