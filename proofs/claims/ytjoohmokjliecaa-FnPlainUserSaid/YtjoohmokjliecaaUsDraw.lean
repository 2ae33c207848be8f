/- Draws of users. -/
import Derived.Test.YtjoohmokjliecaaUsSeq
namespace Go.Proofs.Ytjoohmokjliecaa
set_option linter.unusedVariables false
open Go.RowKit
open Us (U)

/-- a list of users as it may be drawn -/
def SmallUsers (us : List U) : Prop := 1 ≤ us.length ∧ us.length ≤ 5 ∧ ∀ u ∈ us, u.name.size ≤ 9 ∧ u.pass.size ≤ 9
/-- what drawing users gives -/
def PickedUsers (c : Nat) (w : World) (B b m : Nat) (e : Ending) (w' : World) : Prop :=
  ∃ us A cap, SmallUsers us ∧ us.length ≤ cap ∧ cap ≤ maxLen ∧ e = .returned (.slice A us.length cap) ∧ At w' w'.heap.size 3 Us.cells A us ∧ Rd w' B b (m + c) ∧ w.grownBy w' (some b)

theorem usersEnd' {w w7 : World} {B b m g r3 : Nat} {us : List U} (hown : w7.ownsRow g 74 3 (.slice (some ⟨g, 0, none⟩) (1 + r3) 3) (1 + r3) (us.flatMap Us.cells)) (hl : us.length = 1 + r3) (hr3 : (r3 : Int) < 3)
    (hsz : ∀ u ∈ us, u.name.size ≤ 9 ∧ u.pass.size ≤ 9) (h7 : Rd w7 B b (m + 10)) (hw7 : w.grownBy w7 (some b)) :
    PickedUsers 10 w B b m (.returned (.slice (some ⟨g, 0, none⟩) (1 + r3) 3)) w7 :=
  ⟨us, some ⟨g, 0, none⟩, 3, ⟨by omega, by omega, hsz⟩, by omega, by unfold maxLen; omega, by rw [hl], at_of_own Us.cells_len hown hl, h7, hw7⟩
theorem usersEnd {w w7 : World} {B b m g r3 k : Nat} {us : List U} {u' : U} (hown : w7.ownsRow g 74 3 (.slice (some ⟨g, 0, none⟩) (1 + r3) 3) (1 + r3) ((us.set k u').flatMap Us.cells)) (hl : us.length = 1 + r3) (hr3 : (r3 : Int) < 3)
    (hsz : ∀ u ∈ us, u.name.size ≤ 9 ∧ u.pass.size ≤ 9) (hu' : u'.name.size ≤ 9 ∧ u'.pass.size ≤ 9) (h7 : Rd w7 B b (m + 10)) (hw7 : w.grownBy w7 (some b)) :
    PickedUsers 10 w B b m (.returned (.slice (some ⟨g, 0, none⟩) (1 + r3) 3)) w7 :=
  usersEnd' hown (by rw [List.length_set]; exact hl) hr3 (fun u hu => by
    rcases List.mem_or_eq_of_mem_set hu with h | h
    · exact hsz u h
    · subst h; exact hu') h7 hw7

set_option maxRecDepth 100000 in
set_option maxHeartbeats 3200000 in
theorem l92Users_any (w : World) (B b m : Nat) (hm : m ≤ 999990000) (h : Rd w B b m) :
    Calls Try.prog 61 #[.pointer (some ⟨b, 0, none⟩)] w (PickedUsers 10 w B b m) := by
  go_enter Try.func61, Try.ntmps61
  go_wp2_with fail
  refine (pick_any _ (by omega) _ B b m (by omega) h).mono ?_
  rintro e w1 ⟨r1, hr1, rfl, h1, hg1⟩
  go_wp2_with fail
  refine (pick_any _ (by omega) _ B b (m + 1) (by omega) h1).mono ?_
  rintro e w2 ⟨r2, hr2, rfl, h2, hg2⟩
  go_wp2_with fail
  obtain ⟨us3, hus3, hl3, hsz3⟩ : ∃ us3 : List U, us3.flatMap Us.cells = [Value.string ⟨#[97, 109, 121]⟩, .string ⟨#[97, 49]⟩, .int .i64 60, .string ⟨#[98, 111, 98]⟩, .string ⟨#[98, 50]⟩, .int .i64 (20 + (r1 : Int)), .string ⟨#[99, 121, 100]⟩, .string ⟨#[99, 51]⟩, .int .i64 (100 + (r2 : Int))] ∧ us3.length = 3 ∧ ∀ u ∈ us3, u.name.size ≤ 9 ∧ u.pass.size ≤ 9 :=
    ⟨[⟨⟨#[97, 109, 121]⟩, ⟨#[97, 49]⟩, 60⟩, ⟨⟨#[98, 111, 98]⟩, ⟨#[98, 50]⟩, 20 + (r1 : Int)⟩, ⟨⟨#[99, 121, 100]⟩, ⟨#[99, 51]⟩, 100 + (r2 : Int)⟩], rfl, rfl, by
      intro u hu
      simp only [List.mem_cons, List.not_mem_nil, or_false] at hu
      rcases hu with rfl | rfl | rfl <;> exact ⟨(by omega : 3 ≤ 9), (by omega : 2 ≤ 9)⟩⟩
  have hown3 : (w2.alloc (.cells #[Value.string ⟨#[97, 109, 121]⟩, .string ⟨#[97, 49]⟩, .int .i64 60, .string ⟨#[98, 111, 98]⟩, .string ⟨#[98, 50]⟩, .int .i64 (20 + (r1 : Int)), .string ⟨#[99, 121, 100]⟩, .string ⟨#[99, 51]⟩, .int .i64 (100 + (r2 : Int))] 74)).ownsRow w2.heap.size 74 3 (.slice (some ⟨w2.heap.size, 0, none⟩) 3 3) 3 (us3.flatMap Us.cells) := by
    rw [hus3]
    exact World.ownsRow_lit (base := w2.heap.size) w2 #[Value.string ⟨#[97, 109, 121]⟩, .string ⟨#[97, 49]⟩, .int .i64 60, .string ⟨#[98, 111, 98]⟩, .string ⟨#[98, 50]⟩, .int .i64 (20 + (r1 : Int)), .string ⟨#[99, 121, 100]⟩, .string ⟨#[99, 51]⟩, .int .i64 (100 + (r2 : Int))] 3 (Nat.le_refl _) (by decide) rfl
  have hbl := h2.lt
  have hwg : w.heap.size ≤ w2.heap.size := Nat.le_trans hg1.size hg2.size
  have HUS := Lib.hid hus3
  clear hus3
  refine (pick_any _ (by omega) _ B b (m + 1 + 1) (by omega) (h2.laid _)).mono ?_
  rintro e w3 ⟨r3, hr3, rfl, h3, hg3⟩
  have hw := grown_trans hg1 (grown_trans (grown_laid hg2 _) hg3)
  have hg : w2.heap.size < w3.heap.size := Nat.lt_of_lt_of_le (by simp) hg3.size
  have hown4 := hown3.kept hg3 (.inr (by simp [Value.ownBlock]; omega))
  clear hown3 h1 h2 hg1 hg2 hg3
  generalize w2.heap.size = g at *
  have hown := own_take Us.cells_len hown4 (n' := 1 + r3) (by omega) hl3
  obtain ⟨us, hus, hln, hsz⟩ : ∃ us : List U, us = us3.take (1 + r3) ∧ us.length = 1 + r3 ∧ ∀ u ∈ us, u.name.size ≤ 9 ∧ u.pass.size ≤ 9 :=
    ⟨_, rfl, by rw [List.length_take]; omega, fun u hu => hsz3 u (List.mem_of_mem_take hu)⟩
  rw [← hus] at hown
  clear hown4 hus hl3 hsz3 HUS
  have HLN := Lib.hid hln
  clear hln
  go_wp2_with fail
  refine (pick_any _ (by omega) _ B b (m + 1 + 1 + 1) (by omega) h3).mono ?_
  rintro e w4 ⟨k, hk, rfl, h4, hg4⟩
  go_wp2_with fail
  refine (pick_any _ (by omega) _ B b (m + 1 + 1 + 1 + 1) (by omega) h4).mono ?_
  rintro e w5 ⟨sw, hsw, rfl, h5, hg5⟩
  have hown5 := (hown.kept hg4 (.inr (by simp [Value.ownBlock]; omega))).kept hg5 (.inr (by simp [Value.ownBlock]; omega))
  have hw5 := grown_trans hw (grown_trans hg4 hg5)
  have hg5s : g < w5.heap.size := Nat.lt_of_lt_of_le hg (Nat.le_trans hg4.size hg5.size)
  obtain ⟨u, hu⟩ : ∃ u, us[k]? = some u := ⟨_, List.getElem?_eq_getElem (by have := HLN.out; omega)⟩
  clear hown hw hg h3 h4 hg4 hg5
  by_cases hs0 : sw = 0
  · subst hs0
    go_wp2_with fail
    refine (l91Name_any _ B b _ (by omega) h5).mono ?_
    rintro e w6 ⟨s, hs, rfl, h6, hg6⟩
    have hown6 := hown5.kept hg6 (.inr (by simp [Value.ownBlock]; omega))
    have hg6s : g < w6.heap.size := Nat.lt_of_lt_of_le hg5s hg6.size
    have e0 : w6.cell? ⟨g, k * 3 + 0, none⟩ = some (.string u.name) := own_cell Us.cells_len hown6 hu (by rfl)
    have f0 : w6.frozen? ⟨g, k * 3 + 0, none⟩ = false := hown6.frozenAt _
    have hown7 := own_set (u' := ⟨s, u.pass, u.quota⟩) (j := 0) (v := .string s) Us.cells_len hown6 hu (by omega) rfl
    have h7 : Rd (w6.setCell ⟨g, k * 3 + 0, none⟩ (.string s)) B b (m + 10) := (h6.keep (Below.heap_setCell _ _ _ _ (by simp; omega)) (fun i hi => Below.heap_setCell _ _ _ _ (by have := h6.1; simp; omega))).mono (by omega)
    have hw7 := grown_setNew (grown_trans hw5 hg6) (p := ⟨g, k * 3 + 0, none⟩) hwg (.string s)
    have hu' : (⟨s, u.pass, u.quota⟩ : U).name.size ≤ 9 ∧ (⟨s, u.pass, u.quota⟩ : U).pass.size ≤ 9 := ⟨by simpa using hs, (hsz u (List.mem_of_getElem? hu)).2⟩
    generalize hq : (⟨s, u.pass, u.quota⟩ : U) = u' at hown7 hu'
    clear hq
    have HO := Lib.hid hown7
    clear hown7 hown6 hown5
    try simp only [Nat.add_zero] at e0 f0 HO h7 hw7
    go_wp2_with fail
    go_ret
    exact usersEnd HO.out HLN.out hr3 hsz hu' h7 hw7
  have hs0b : ((sw : Int) == 0) = false := by simp; omega
  by_cases hs1 : sw = 1
  · subst hs1
    clear hs0b
    go_wp2_with fail
    refine (l91Name_any _ B b _ (by omega) h5).mono ?_
    rintro e w6 ⟨s, hs, rfl, h6, hg6⟩
    have hown6 := hown5.kept hg6 (.inr (by simp [Value.ownBlock]; omega))
    have hg6s : g < w6.heap.size := Nat.lt_of_lt_of_le hg5s hg6.size
    have e0 : w6.cell? ⟨g, k * 3 + 1, none⟩ = some (.string u.pass) := own_cell Us.cells_len hown6 hu (by rfl)
    have f0 : w6.frozen? ⟨g, k * 3 + 1, none⟩ = false := hown6.frozenAt _
    have hown7 := own_set (u' := ⟨u.name, s, u.quota⟩) (j := 1) (v := .string s) Us.cells_len hown6 hu (by omega) rfl
    have h7 : Rd (w6.setCell ⟨g, k * 3 + 1, none⟩ (.string s)) B b (m + 10) := (h6.keep (Below.heap_setCell _ _ _ _ (by simp; omega)) (fun i hi => Below.heap_setCell _ _ _ _ (by have := h6.1; simp; omega))).mono (by omega)
    have hw7 := grown_setNew (grown_trans hw5 hg6) (p := ⟨g, k * 3 + 1, none⟩) hwg (.string s)
    have hu' : (⟨u.name, s, u.quota⟩ : U).name.size ≤ 9 ∧ (⟨u.name, s, u.quota⟩ : U).pass.size ≤ 9 := ⟨(hsz u (List.mem_of_getElem? hu)).1, by simpa using hs⟩
    generalize hq : (⟨u.name, s, u.quota⟩ : U) = u' at hown7 hu'
    clear hq
    have HO := Lib.hid hown7
    clear hown7 hown6 hown5
    try simp only [Nat.add_zero] at e0 f0 HO h7 hw7
    go_wp2_with fail
    go_ret
    exact usersEnd HO.out HLN.out hr3 hsz hu' h7 hw7
  have hs1b : ((sw : Int) == 1) = false := by simp; omega
  by_cases hs2 : sw = 2
  · subst hs2
    clear hs0b hs1b
    go_wp2_with fail
    refine (pick_any _ (by omega) _ B b _ (by omega) (h5.laid _)).mono ?_
    rintro e w6 ⟨q, hq4, rfl, h6, hg6⟩
    obtain ⟨v, hcs⟩ : ∃ v : Int, (#[Value.int .i64 (-1), Value.int .i64 0, Value.int .i64 200, Value.int .i64 201] : Array Value)[q]? = some (.int .i64 v) := by
      have hr4 : q = 0 ∨ q = 1 ∨ q = 2 ∨ q = 3 := by omega
      rcases hr4 with rfl | rfl | rfl | rfl <;> exact ⟨_, rfl⟩
    have hc := laid_cell hg6 h5.lt q _ hcs
    clear hcs
    have hown6 := (hown5.alloc (.cells #[Value.int .i64 (-1), Value.int .i64 0, Value.int .i64 200, Value.int .i64 201] 3)).kept hg6 (.inr (by simp [Value.ownBlock]; omega))
    have hg6s : g < w6.heap.size := Nat.lt_of_lt_of_le hg5s (Nat.le_trans (by simp) hg6.size)
    have hw6 := grown_trans (grown_laid hw5 _) hg6
    have e0 : w6.cell? ⟨g, k * 3 + 2, none⟩ = some (.int .i64 u.quota) := own_cell Us.cells_len hown6 hu (by rfl)
    have f0 : w6.frozen? ⟨g, k * 3 + 2, none⟩ = false := hown6.frozenAt _
    have hown7 := own_set (u' := ⟨u.name, u.pass, v⟩) (j := 2) (v := .int .i64 v) Us.cells_len hown6 hu (by omega) rfl
    have h7 : Rd (w6.setCell ⟨g, k * 3 + 2, none⟩ (.int .i64 v)) B b (m + 10) := (h6.keep (Below.heap_setCell _ _ _ _ (by simp; omega)) (fun i hi => Below.heap_setCell _ _ _ _ (by have := h6.1; simp; omega))).mono (by omega)
    have hw7 := grown_setNew hw6 (p := ⟨g, k * 3 + 2, none⟩) hwg (.int .i64 v)
    have hu' : (⟨u.name, u.pass, v⟩ : U).name.size ≤ 9 ∧ (⟨u.name, u.pass, v⟩ : U).pass.size ≤ 9 := hsz u (List.mem_of_getElem? hu)
    generalize hq : (⟨u.name, u.pass, v⟩ : U) = u' at hown7 hu'
    clear hq
    have HO := Lib.hid hown7
    clear hown7 hown6 hown5
    go_wp2_with fail
    go_ret
    exact usersEnd HO.out HLN.out hr3 hsz hu' h7 hw7
  have hs2b : ((sw : Int) == 2) = false := by simp; omega
  by_cases hs3 : sw = 3
  · subst hs3
    clear hs0b hs1b hs2b
    obtain ⟨i0, hi, hz0, hz1, hz2⟩ := info_parts user_info
    obtain ⟨us2, hus2, hl2, hsz2⟩ : ∃ us2 : List U, us2.flatMap Us.cells = [Value.string ⟨#[100, 97, 110]⟩, .string ⟨#[100, 52]⟩, .int .i64 9, .string ⟨#[101, 118, 101]⟩, .string ⟨#[101, 53]⟩, .int .i64 9] ∧ us2.length = 2 ∧ ∀ u ∈ us2, u.name.size ≤ 9 ∧ u.pass.size ≤ 9 :=
      ⟨[⟨⟨#[100, 97, 110]⟩, ⟨#[100, 52]⟩, 9⟩, ⟨⟨#[101, 118, 101]⟩, ⟨#[101, 53]⟩, 9⟩], rfl, rfl, by
        intro u hu
        simp only [List.mem_cons, List.not_mem_nil, or_false] at hu
        rcases hu with rfl | rfl <;> exact ⟨(by omega : 3 ≤ 9), (by omega : 2 ≤ 9)⟩⟩
    have hat2 : At (w5.alloc (.cells #[Value.string ⟨#[100, 97, 110]⟩, .string ⟨#[100, 52]⟩, .int .i64 9, .string ⟨#[101, 118, 101]⟩, .string ⟨#[101, 53]⟩, .int .i64 9] 74)) (w5.heap.size + 1) 3 Us.cells (some ⟨w5.heap.size, 0, none⟩) us2 := at_lit Us.cells_len (heap_alloc_new w5 _) (by rw [hus2]) (by omega)
    have hrd2 := reads_of_at (by omega) Us.cells_len hat2
    rw [hl2] at hrd2
    have hown6 := hown5.alloc (.cells #[Value.string ⟨#[100, 97, 110]⟩, .string ⟨#[100, 52]⟩, .int .i64 9, .string ⟨#[101, 118, 101]⟩, .string ⟨#[101, 53]⟩, .int .i64 9] 74)
    have H6 := Lib.hid hown6
    have HR2 := Lib.hid hrd2
    have HU2 := Lib.hid hus2
    have HL2 := Lib.hid hl2
    have h6 := (h5.laid (.cells #[Value.string ⟨#[100, 97, 110]⟩, .string ⟨#[100, 52]⟩, .int .i64 9, .string ⟨#[101, 118, 101]⟩, .string ⟨#[101, 53]⟩, .int .i64 9] 74))
    have hw6 := grown_laid hw5 (.cells #[Value.string ⟨#[100, 97, 110]⟩, .string ⟨#[100, 52]⟩, .int .i64 9, .string ⟨#[101, 118, 101]⟩, .string ⟨#[101, 53]⟩, .int .i64 9] 74)
    have H6R := Lib.hid h6
    have HW6 := Lib.hid hw6
    clear hown5 hown6 hrd2 hat2 hus2 hl2 h5 h6 hw5 hw6
    go_wp2_with (at_builtin; refine wpList_append_any _ rfl (.tmp 55) (.tmp 58) _ rfl g 74 i0 _ 3 40 Try.underlying59 hi hz0 hz1 hz2 rfl (by omega) _ (1 + r3) _ rfl H6.out (w5.heap.size + 1) (some ⟨w5.heap.size, 0, none⟩) 2 2 _ rfl HR2.out ?c1 ?c2 ?c3 ?c4 ?_)
    case c1 => rw [HU2.out]; intro v hv; simp only [List.mem_cons, List.not_mem_nil, or_false] at hv; rcases hv with rfl | rfl | rfl | rfl | rfl | rfl <;> rfl
    case c2 => unfold maxLen; omega
    case c3 => omega
    case c4 => simp; omega
    intro v' w7 hown7 hg7 hat7
    obtain ⟨A', cap', rfl⟩ := own_form hown7
    have hcap := own_cap hown7
    have hfl : us.flatMap Us.cells ++ us2.flatMap Us.cells = (us ++ us2).flatMap Us.cells := by rw [List.flatMap_append]
    have hll : (us ++ us2).length = 1 + r3 + 2 := by rw [List.length_append, HLN.out, HL2.out]
    rw [hfl] at hown7
    have HO := Lib.hid (at_of_own Us.cells_len hown7 hll)
    have HLL := Lib.hid hll
    clear hfl hown7 hll
    go_wp2
    go_ret
    refine ⟨us ++ us2, A', cap', ⟨by rw [HLL.out]; omega, by rw [HLL.out]; omega, fun u hu => ?_⟩, by rw [HLL.out]; exact hcap.1, hcap.2, by rw [HLL.out]; rfl, HO.out, (H6R.out.grown (c := g) hg7 (by have := H6R.out.1; omega) (by omega)).mono (by omega), grown_new (g := g) HW6.out hg7 hwg⟩
    rcases List.mem_append.1 hu with h | h
    · exact hsz u h
    · exact hsz2 u h
  have hs3b : ((sw : Int) == 3) = false := by simp; omega
  go_wp2_with fail
  go_ret
  exact usersEnd' hown5 HLN.out hr3 hsz (h5.mono (by omega)) hw5

end Go.Proofs.Ytjoohmokjliecaa
