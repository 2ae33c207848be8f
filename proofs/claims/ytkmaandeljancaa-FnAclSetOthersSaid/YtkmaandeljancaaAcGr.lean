/- grantOf and sameGrants of the laws; the draw of the laws on setting. -/
import Derived.Test.YtkmaandeljancaaAcDraw
import Derived.Test.YtkmaandeljancaaAcAt
import Derived.Test.YtkmaandeljancaaAcPlain4
import Derived.Test.YtkmaandeljancaaLawKit
import Derived.BigQuiet
namespace Go.Proofs.Ytkmaandeljancaa
set_option linter.unusedVariables false
open Go.RowKit
open Ac (G)

theorem Ac.lastR_none (us : List G) (s : ByteArray) : ∀ n, n ≤ us.length → (∀ i u, i < n → us[i]? = some u → u.user.data.toList ≠ s.data.toList) → Ac.lastR us s n = 0
  | 0, _, _ => rfl
  | n + 1, h, hn => by
    have hu := List.getElem?_eq_getElem (by omega : n < us.length)
    rw [Ac.lastR_succ hu, if_neg (hn n _ (by omega) hu), Ac.lastR_none us s n (by omega) fun i u hi h => hn i u (by omega) h]
theorem Ac.name_ne {us : List G} (hp : us.Pairwise (fun a b => slt a.user b.user = true)) {i n : Nat} {u v : G} (hi : i < n) (hu : us[i]? = some u) (hv : us[n]? = some v) : u.user ≠ v.user := by
  obtain ⟨h1, rfl⟩ := List.getElem?_eq_some_iff.1 hu
  obtain ⟨h2, rfl⟩ := List.getElem?_eq_some_iff.1 hv
  rw [List.pairwise_iff_getElem] at hp
  exact slt_ne (hp i n h1 h2 hi)
theorem Ac.data_eq {a b : ByteArray} : a.data.toList = b.data.toList ↔ a = b :=
  ⟨fun h => by cases a; cases b; congr; exact Array.toList_inj.1 h, fun h => by rw [h]⟩
theorem Ac.lastR_at {us : List G} (hp : us.Pairwise (fun a b => slt a.user b.user = true)) {k : Nat} {u : G} (hu : us[k]? = some u) : ∀ n, k < n → n ≤ us.length → Ac.lastR us u.user n = u.rights
  | 0, h, _ => by omega
  | n + 1, h, hn => by
    have hv := List.getElem?_eq_getElem (by omega : n < us.length)
    rw [Ac.lastR_succ hv]
    by_cases hk : k = n
    · subst hk
      rw [hu] at hv
      injection hv with hv
      rw [← hv, if_pos rfl]
    · rw [if_neg (fun e => Ac.name_ne hp (by omega : k < n) hu hv (Ac.data_eq.1 e).symm)]
      exact Ac.lastR_at hp hu n (by omega) (by omega)
theorem Ac.lastR_mem {us : List G} (hp : us.Pairwise (fun a b => slt a.user b.user = true)) {u : G} (hu : u ∈ us) : Ac.lastR us u.user us.length = u.rights := by
  obtain ⟨i, hi, rfl⟩ := List.mem_iff_getElem.1 hu
  exact Ac.lastR_at hp (List.getElem?_eq_getElem hi) us.length hi (Nat.le_refl _)
theorem Ac.lastR_no {us : List G} {s : ByteArray} (h : ∀ u ∈ us, u.user ≠ s) : Ac.lastR us s us.length = 0 :=
  Ac.lastR_none us s us.length (Nat.le_refl _) fun i u _ hu e => h u (List.mem_of_getElem? hu) (Ac.data_eq.1 e)
theorem Ac.lastR_cases {us : List G} (hp : us.Pairwise (fun a b => slt a.user b.user = true)) (s : ByteArray) :
    (∃ u ∈ us, u.user = s ∧ u.rights = Ac.lastR us s us.length) ∨ (Ac.lastR us s us.length = 0 ∧ ∀ u ∈ us, u.user ≠ s) := by
  by_cases h : ∃ u ∈ us, u.user = s
  · obtain ⟨u, hu, rfl⟩ := h
    exact .inl ⟨u, hu, rfl, (Ac.lastR_mem hp hu).symm⟩
  · have h2 : ∀ u ∈ us, u.user ≠ s := fun u hu e => h ⟨u, hu, e⟩
    exact .inr ⟨Ac.lastR_no h2, h2⟩

set_option maxHeartbeats 800000 in
theorem Ac.grantOf_any (A : Option Addr) (us : List G) (c : Nat) (s : ByteArray) (w : World) (B : Nat) (h : AtGrants w B A us) (hn : us.length ≤ maxLen) (hp : us.Pairwise (fun a b => slt a.user b.user = true)) :
    Calls Try.prog 15 #[.slice A us.length c, .string s] w fun e w' => e = .returned (.int .i64 (Ac.lastR us s us.length)) ∧ w' = w := by
  have HP := Lib.hid hp
  unfold maxLen at hn
  clear hp
  go_enter Try.func15, Try.ntmps15
  go_wp2_with fail
  go_loop [5] (fun i => ∃ k : Nat, k ≤ us.length ∧ i = .int .i64 k ∧ Hid (∀ i u, i < k → us[i]? = some u → u.user.data.toList ≠ s.data.toList)) (fun i => us.length - (intOf i).toNat)
  case atStart => exact ⟨0, Nat.zero_le _, rfl, Lib.hid fun i u hi => absurd hi (by omega)⟩
  case round =>
    obtain ⟨k, hk, rfl, HN⟩ := hrel
    by_cases hlt : k < us.length
    · obtain ⟨g, off, rfl, hg, hc⟩ := h.1 (by omega)
      obtain ⟨u, hu⟩ : ∃ u, us[k]? = some u := ⟨_, List.getElem?_eq_getElem hlt⟩
      obtain ⟨c1, c2⟩ := hc k u hu
      have HU := Lib.hid hu
      clear hc hu
      cases hs : (u.user.toList == s.toList)
      · go_wp2_with fail
        go_round
        case rel =>
          refine ⟨k + 1, by omega, by go_num, Lib.hid fun i v hi hv => ?_⟩
          by_cases hik : i = k
          · subst hik
            rw [HU.out] at hv
            injection hv with hv
            subst hv
            intro e
            rw [← Go.ByteArray.toList_eq, ← Go.ByteArray.toList_eq] at e
            rw [e] at hs
            simp at hs
          · exact HN.out i v (by omega) hv
        case measure => simp [intOf]; omega
      · obtain rfl : u.user = s := Ac.same_iff.1 hs
        have HF := Lib.hid (Ac.lastR_at HP.out HU.out us.length hlt (Nat.le_refl _))
        go_wp2_with fail
        go_ret
        exact ⟨by rw [HF.out]; rfl, rfl⟩
    · obtain rfl : k = us.length := by omega
      have HF := Lib.hid (Ac.lastR_none us s us.length (Nat.le_refl _) HN.out)
      go_wp2_with fail
      go_ret
      exact ⟨by rw [HF.out]; rfl, rfl⟩

set_option maxHeartbeats 800000 in
theorem Ac.sameGrants_any (A A' : Option Addr) (us : List G) (c c' : Nat) (w : World) (h : AtGrants w w.heap.size A us) (h' : AtGrants w w.heap.size A' us) (hn : us.length ≤ maxLen) :
    Calls Try.prog 12 #[.slice A us.length c, .slice A' us.length c'] w fun e w' => e = .returned (.bool true) ∧ Below w.heap.size w w' := by
  unfold maxLen at hn
  go_enter Try.func12, Try.ntmps12
  go_wp2_with fail
  go_loopg [5] us.length (fun g i wr => ∃ k : Nat, k ≤ us.length ∧ Hid (g = us.length - k) ∧ i = .int .i64 k ∧ Below w.heap.size w wr)
  case atStart => exact ⟨0, Nat.zero_le _, Lib.hid rfl, rfl, Below.refl _ _⟩
  case round =>
    obtain ⟨k, hk, HG, rfl, hb⟩ := hrel
    by_cases hlt : k < us.length
    · obtain ⟨g, off, rfl, hg, hc⟩ := (h.below hb).1 (by omega)
      obtain ⟨g', off', rfl, hg', hc'⟩ := (h'.below hb).1 (by omega)
      obtain ⟨u, hu⟩ : ∃ u, us[k]? = some u := ⟨_, List.getElem?_eq_getElem hlt⟩
      obtain ⟨d1, d2⟩ := hc k u hu
      obtain ⟨e1, e2⟩ := hc' k u hu
      have hki : (k : Int) < (us.length : Int) := by omega
      have hk0 : (0 : Int) ≤ (k : Int) := by omega
      clear hc hc' hu
      obtain ⟨wo, rfl⟩ : ∃ wo : World, wo = wr := ⟨_, rfl⟩
      go_upto_region 6 with fail
      go_quiet (fail)
      go_wp2_with fail
      go_roundg (us.length - (k + 1))
      case measure => have := HG.out; omega
      case rel => exact ⟨k + 1, by omega, Lib.hid rfl, by go_num, below_drewN hb _⟩
    · obtain rfl : k = us.length := by omega
      go_wp2_with fail
      go_ret
      exact ⟨rfl, hb⟩

/-- what drawing rights gives -/
def Ac.PickedR (c : Nat) (w : World) (B b m : Nat) (e : Ending) (w' : World) : Prop := ∃ r : Int, e = .returned (.int .i64 r) ∧ Rd w' B b (m + c) ∧ w.grownBy w' (some b)
set_option maxHeartbeats 800000 in
theorem Ac.l92Rights_any (w : World) (B b m : Nat) (hm : m ≤ 999999000) (h : Rd w B b m) :
    Calls Try.prog 26 #[.pointer (some ⟨b, 0, none⟩)] w (Ac.PickedR 3 w B b m) := by
  go_enter Try.func26, Try.ntmps26
  go_wp2_with fail
  refine (pick_any _ (by omega) _ B b m (by omega) h).mono ?_
  rintro e w1 ⟨r, hr, rfl, h1, hg1⟩
  by_cases h0 : r = 0
  · subst h0
    go_wp2_with fail
    refine (pick_any _ (by omega) _ B b (m + 1) (by omega) (h1.laid _)).mono ?_
    rintro e w2 ⟨r2, hr2, rfl, h2, hg2⟩
    obtain ⟨v, hcs⟩ : ∃ v : Int, (#[Value.int .i64 (-1), Value.int .i64 0, Value.int .i64 63, Value.int .i64 64] : Array Value)[r2]? = some (.int .i64 v) := by
      have hr4 : r2 = 0 ∨ r2 = 1 ∨ r2 = 2 ∨ r2 = 3 := by omega
      rcases hr4 with rfl | rfl | rfl | rfl <;> exact ⟨_, rfl⟩
    have hc := laid_cell hg2 h1.lt r2 _ hcs
    clear hcs
    go_wp2_with fail
    go_ret
    exact ⟨v, rfl, h2.mono (by omega), grown_trans (grown_laid hg1 _) hg2⟩
  · have h0' : ((r : Int) == 0) = false := by simp; omega
    go_wp2_with fail
    refine (pick_any _ (by omega) _ B b (m + 1) (by omega) h1).mono ?_
    rintro e w2 ⟨r2, hr2, rfl, h2, hg2⟩
    go_wp2_with fail
    refine (pick_any _ (by omega) _ B b (m + 2) (by omega) h2).mono ?_
    rintro e w3 ⟨r3, hr3, rfl, h3, hg3⟩
    go_wp2_with fail
    go_ret
    exact ⟨_, rfl, h3, grown_trans hg1 (grown_trans hg2 hg3)⟩

/-- what drawing grants, a user and rights gives -/
def Ac.DrawnS (w : World) (e : Ending) (w' : World) : Prop :=
  ∃ us A c s r, Ac.Small us ∧ us.length ≤ c ∧ c ≤ maxLen ∧ s.size ≤ maxLen ∧ e = .returned (.tuple #[.slice A us.length c, .string s, .int .i64 r]) ∧ AtGrants w' w'.heap.size A us ∧ Below w.heap.size w w'
abbrev Ac.fourCells : Array Value := #[.string ⟨#[97]⟩, .int .i64 1, .string ⟨#[98]⟩, .int .i64 2, .string ⟨#[99]⟩, .int .i64 3, .string ⟨#[100]⟩, .int .i64 63]
def Ac.four : List G := [⟨⟨#[97]⟩, 1⟩, ⟨⟨#[98]⟩, 2⟩, ⟨⟨#[99]⟩, 3⟩, ⟨⟨#[100]⟩, 63⟩]
theorem Ac.four_small : Ac.Small Ac.four := ⟨by show 4 ≤ 8; omega, fun u hu => by
  simp only [Ac.four, List.mem_cons, List.not_mem_nil, or_false] at hu
  rcases hu with rfl | rfl | rfl | rfl <;> (show 1 ≤ 9; omega)⟩

set_option maxHeartbeats 1600000 in
theorem drawAclSet_any (a : Option Addr) (len cap : Nat) (w : World) (h : Bytes w a len cap) :
    Calls Try.prog 9 #[.slice a len cap] w (Ac.DrawnS w) := by
  go_enter Try.func9, Try.ntmps9
  go_wp2_with fail
  refine (l6Open_any a len cap _ h).mono ?_
  rintro e w1 ⟨rfl, h1, hb1⟩
  have hlt := h1.lt
  go_wp2_with fail
  refine (l92Acl_any _ _ _ _ (by omega) h1).mono ?_
  rintro e w2 ⟨us, A, c, hsm, hc1, hc2, rfl, ho, h2, hg2⟩
  go_wp2_with fail
  refine (pick_any _ (by omega) _ _ _ _ (by omega) h2).mono ?_
  rintro e w3 ⟨p3, hp3, rfl, h3, hg3⟩
  have ho3 := Ac.own_grown ho hg3 hlt
  have hg13 := grown_trans hg2 hg3
  clear ho hg2 hg3 h2
  by_cases hz : p3 = 0
  · subst hz
    have hat4 : At (w3.alloc (.cells Ac.fourCells 34)) (w3.heap.size + 1) 2 Ac.cells (some ⟨w3.heap.size, 0, none⟩) Ac.four := at_lit Ac.cells_len (heap_alloc_new w3 _) rfl (by omega)
    have hown4 : Ac.Own (w3.alloc (.cells Ac.fourCells 34)) w3.heap.size (.slice (some ⟨w3.heap.size, 0, none⟩) 4 4) Ac.four :=
      World.ownsRow_lit (base := w3.heap.size) (e := 34) (size := 2) w3 Ac.fourCells 4 (Nat.le_refl _) (by decide) rfl
    have hlt3 := h3.lt
    go_wp2_with fail
    refine (Dr.l91Name_any _ _ _ _ (by omega) (h3.laid (.cells Ac.fourCells 34))).mono ?_
    rintro e w4 ⟨s, hs, rfl, h4, hg4⟩
    have ho4 := Ac.own_grown hown4 hg4 hlt3
    have hg14 := grown_trans (grown_laid hg13 _) hg4
    clear hat4 hown4 hg4
    go_wp2_with fail
    refine (pick_any _ (by omega) _ _ _ _ (by omega) h4).mono ?_
    rintro e w5 ⟨p5, hp5, rfl, h5, hg5⟩
    have ho5 := Ac.own_grown ho4 hg5 hlt3
    have hg15 := grown_trans hg14 hg5
    clear ho4 hg5 h4
    by_cases hy : p5 = 0
    · subst hy
      have HA := Lib.hid (at_grants (OwnL.at_ ho5 Ac.cells_len rfl) Ac.four_small.sizes)
      clear ho5
      go_wp2_with fail
      go_ret3
      exact ⟨Ac.four, _, _, s, 0, Ac.four_small, Nat.le_refl _, by unfold maxLen; decide, by unfold maxLen; omega, rfl, HA.out, hb1.trans (grown_to_below hg15 (Nat.le_refl _) hb1.size)⟩
    · have hyb : ((p5 : Int) == 0) = false := by simp; omega
      go_wp2_with fail
      refine (Ac.l92Rights_any _ _ _ _ (by omega) h5).mono ?_
      rintro e w6 ⟨r, rfl, h6, hg6⟩
      have ho6 := Ac.own_grown ho5 hg6 hlt3
      have HA := Lib.hid (at_grants (OwnL.at_ ho6 Ac.cells_len rfl) Ac.four_small.sizes)
      have hg16 := grown_trans hg15 hg6
      clear ho5 ho6
      go_wp2_with fail
      go_ret3
      exact ⟨Ac.four, _, _, s, r, Ac.four_small, Nat.le_refl _, by unfold maxLen; decide, by unfold maxLen; omega, rfl, HA.out, hb1.trans (grown_to_below hg16 (Nat.le_refl _) hb1.size)⟩
  · have hzb : ((p3 : Int) == 0) = false := by simp; omega
    go_wp2_with fail
    refine (Dr.l91Name_any _ _ _ _ (by omega) h3).mono ?_
    rintro e w4 ⟨s, hs, rfl, h4, hg4⟩
    have ho4 := Ac.own_grown ho3 hg4 hlt
    have hg14 := grown_trans hg13 hg4
    clear ho3 hg4
    go_wp2_with fail
    refine (pick_any _ (by omega) _ _ _ _ (by omega) h4).mono ?_
    rintro e w5 ⟨p5, hp5, rfl, h5, hg5⟩
    have ho5 := Ac.own_grown ho4 hg5 hlt
    have hg15 := grown_trans hg14 hg5
    clear ho4 hg5 h4
    by_cases hy : p5 = 0
    · subst hy
      have HA := Lib.hid (at_grants (OwnL.at_ ho5 Ac.cells_len rfl) hsm.sizes)
      clear ho5
      go_wp2_with fail
      go_ret3
      exact ⟨us, A, c, s, 0, hsm, hc1, hc2, by unfold maxLen; omega, rfl, HA.out, hb1.trans (grown_to_below hg15 (Nat.le_refl _) hb1.size)⟩
    · have hyb : ((p5 : Int) == 0) = false := by simp; omega
      go_wp2_with fail
      refine (Ac.l92Rights_any _ _ _ _ (by omega) h5).mono ?_
      rintro e w6 ⟨r, rfl, h6, hg6⟩
      have ho6 := Ac.own_grown ho5 hg6 hlt
      have HA := Lib.hid (at_grants (OwnL.at_ ho6 Ac.cells_len rfl) hsm.sizes)
      have hg16 := grown_trans hg15 hg6
      clear ho5 ho6
      go_wp2_with fail
      go_ret3
      exact ⟨us, A, c, s, r, hsm, hc1, hc2, by unfold maxLen; omega, rfl, HA.out, hb1.trans (grown_to_below hg16 (Nat.le_refl _) hb1.size)⟩

end Go.Proofs.Ytkmaandeljancaa
