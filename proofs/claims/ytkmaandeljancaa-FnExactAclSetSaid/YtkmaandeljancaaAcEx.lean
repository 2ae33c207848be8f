/- Grants that come in as plain data: opened; sizes, copies and comparison (szGrantS, toGrantS, eqGrantS). -/
import Derived.Test.YtkmaandeljancaaOpenK
import Derived.Test.YtkmaandeljancaaAcW
import Derived.Deep.LoopGhost
import Derived.Deep.RegionWith
namespace Go.Proofs.Ytkmaandeljancaa
set_option linter.unusedVariables false
open Go.RowKit Go.ChangeShapes Go.WideShapes Go.Deep
open Ac (G)

def Ac.cells (u : G) : List Value := [.string u.user, .int .i64 u.rights]
theorem Ac.cells_len (u : G) : (Ac.cells u).length = 2 := rfl
theorem at_grants {w : World} {B : Nat} {A : Option Addr} {us : List G} (h : At w B 2 Ac.cells A us) (hs : ∀ u ∈ us, u.user.size ≤ maxLen) : AtGrants w B A us := by
  refine ⟨fun hl => ?_, hs⟩
  obtain ⟨g, off, ha, hlt, hc⟩ := h hl
  exact ⟨g, off, ha, hlt, fun i u hu => ⟨hc i u hu 0 _ rfl, hc i u hu 1 _ rfl⟩⟩
theorem grant_info : (Try.prog.info? 34).map (fun i => (i.zero, i.size, i.bytes)) = some (some (.agg #[.string ⟨#[]⟩, .int .i64 0]), 2, 24) := by kernel_rfl

theorem open_grants {H : Type} {enc : TypeId × Value → H} {w : World} {spare : Nat → Bool} {held : Bool} {fuel : Nat} {A : Option Addr} {len cap : Nat} {x : DataW H × List MemPlace}
    (h : DataW.trod enc Try.prog w 0 spare held fuel 35 [.slice A len cap] = some x) : ∃ us : List G, us.length = len ∧ len ≤ cap ∧ cap ≤ maxLen ∧ AtGrants w w.heap.size A us := by
  rcases open_slice_fields Try.underlying35 Try.underlying53 (by kernel_rfl) (by kernel_rfl) h with ⟨hcs, _⟩ | ⟨a, l, c, m, D, Pl, hcs, _, hl, hm, hmm, _, hi⟩
  · simp at hcs
    obtain ⟨rfl, rfl, rfl⟩ := hcs
    exact ⟨[], rfl, Nat.le_refl _, Nat.zero_le _, fun h0 => absurd h0 (by simp), by simp⟩
  · simp at hcs
    obtain ⟨rfl, rfl, rfl⟩ := hcs
    have hml : len ≤ m := by rw [hmm]; split <;> omega
    have hall : ∀ i, i < len → ∃ u : G, (w.cell? (a.add (i * 2)) = some (.string u.user) ∧ w.cell? (a.add (i * 2 + 1)) = some (.int .i64 u.rights)) ∧ u.user.size ≤ maxLen := by
      intro i hil
      obtain ⟨ys, n, _, _, _, hf⟩ := hi i (by omega)
      obtain ⟨v0, y0, c0, _, t0⟩ := hf 0 _ rfl
      obtain ⟨v1, y1, c1, _, t1⟩ := hf 1 _ rfl
      obtain ⟨s0, e0, _, z0⟩ := DataW.trod_string Try.underlying9 t0
      obtain ⟨n2, e2, _, _⟩ := DataW.trod_int Try.underlying3 t1
      simp at e0 e2
      subst e0 e2
      exact ⟨⟨s0, n2⟩, ⟨c0, c1⟩, z0⟩
    obtain ⟨us, hul, hq⟩ := choose_list len hall
    refine ⟨us, hul, hl, hm, fun h0 => ?_, fun u hu => ?_⟩
    · obtain ⟨b, off, spot⟩ := a
      have hu0 : us[0]? = some us[0] := List.getElem?_eq_getElem h0
      have hc0 := (hq 0 _ hu0).1.1
      have hspot : spot = none := by simpa [Addr.add] using World.cell?_spot hc0
      subst hspot
      have hlt := World.block_lt_of_cell? w _ hc0
      refine ⟨b, off, rfl, by simpa [Addr.add] using hlt, fun i u hu => ?_⟩
      obtain ⟨⟨h1, h2⟩, _⟩ := hq i u hu
      rw [add_none] at h1 h2
      exact ⟨h1, by rw [Nat.add_assoc]; exact h2⟩
    · obtain ⟨i, hil, rfl⟩ := List.getElem_of_mem hu
      have := (hq i _ (List.getElem?_eq_getElem hil)).2
      exact this

/-- what counting gives: -1, or what is left -/
def Szd (left : Int) (Q : Prop) (w : World) (e : Ending) (w' : World) : Prop :=
  ∃ r : Int, e = .returned (.int .i64 r) ∧ -1 ≤ r ∧ r ≤ left ∧ (0 ≤ r → Q) ∧ Below w.heap.size w w'
set_option maxHeartbeats 800000 in
theorem szGrant_any (u : G) (left : Int) (w : World) (h0 : 0 ≤ left) (h1 : left ≤ 1048576) (hs : u.user.size ≤ maxLen) :
    Calls Try.prog 33 #[.agg #[.string u.user, .int .i64 u.rights], .int .i64 left] w (Szd left (u.user.size ≤ 1048576) w) := by
  unfold maxLen at hs
  by_cases c1 : left - (u.user.size : Int) < 0
  · go_enter Try.func33, Try.ntmps33
    go_wp2
    go_ret
    exact ⟨-1, rfl, by omega, by omega, fun h => absurd h (by omega), by go_grown⟩
  · go_enter Try.func33, Try.ntmps33
    go_wp2
    go_ret
    exact ⟨left - (u.user.size : Int), rfl, by omega, by omega, fun h => by omega, by go_grown⟩

set_option maxHeartbeats 800000 in
theorem szGrantS_any (A : Option Addr) (us : List G) (c : Nat) (left : Int) (w : World) (h : AtGrants w w.heap.size A us) (hn : us.length ≤ maxLen) (h0 : 0 ≤ left) (h1 : left ≤ 1048576) :
    Calls Try.prog 16 #[.slice A us.length c, .int .i64 left] w (Szd left (us.length ≤ 1048576 ∧ ∀ u ∈ us, u.user.size ≤ 1048576) w) := by
  unfold maxLen at hn
  by_cases c1 : left - (us.length : Int) < 0
  · go_enter Try.func16, Try.ntmps16
    go_wp2
    go_ret
    exact ⟨-1, rfl, by omega, by omega, fun h => absurd h (by omega), Below.refl _ _⟩
  · go_enter Try.func16, Try.ntmps16
    go_wp2_with fail
    go_loopg [1, 5] us.length (fun g lf i wr => ∃ (k : Nat) (r : Int), k ≤ us.length ∧ Hid (g = us.length - k) ∧ i = .int .i64 k ∧ lf = .int .i64 r ∧ 0 ≤ r ∧ r ≤ left ∧ Hid (∀ (j : Nat) (u : G), j < k → us[j]? = some u → u.user.size ≤ 1048576) ∧ Below w.heap.size w wr)
    case atStart => exact ⟨0, _, Nat.zero_le _, Lib.hid rfl, rfl, rfl, by omega, by omega, Lib.hid (fun j u hj => absurd hj (by omega)), Below.refl _ _⟩
    case round =>
      obtain ⟨k, r, hk, HG, rfl, rfl, hr0, hr1, HQ, hb⟩ := hrel
      by_cases hlt : k < us.length
      · obtain ⟨g, off, rfl, hg, hc⟩ := (h.below hb).1 (by omega)
        obtain ⟨u, hu⟩ : ∃ u, us[k]? = some u := ⟨_, List.getElem?_eq_getElem hlt⟩
        obtain ⟨d1, d2⟩ := hc k u hu
        have hz := h.2 u (List.mem_of_getElem? hu)
        have HU := Lib.hid hu
        clear hu hc
        go_wp2_with fail
        refine (szGrant_any u r _ hr0 (by omega) hz).mono ?_
        rintro e w1 ⟨r', rfl, hm, hle, hq, hb1⟩
        have HQ1 := Lib.hid hq
        clear hq
        by_cases hneg : r' < 0
        · go_wp2_with fail
          go_ret
          exact ⟨-1, rfl, by omega, by omega, fun h => absurd h (by omega), hb.trans (hb1.mono hb.size)⟩
        · go_wp2_with fail
          go_roundg (us.length - (k + 1))
          case measure => have := HG.out; omega
          case rel =>
            refine ⟨k + 1, r', by omega, Lib.hid rfl, by go_num, rfl, by omega, by omega, Lib.hid (fun j v hj hv => ?_), hb.trans (hb1.mono hb.size)⟩
            rcases Nat.lt_or_ge j k with h' | h'
            · exact HQ.out j v h' hv
            · have e : j = k := by omega
              subst e
              rw [HU.out] at hv
              injection hv with hv
              subst hv
              exact HQ1.out (by omega)
      · obtain rfl : k = us.length := by omega
        go_wp2_with fail
        go_ret
        refine ⟨r, rfl, by omega, hr1, fun _ => ⟨by omega, fun u hu => ?_⟩, hb⟩
        obtain ⟨i, hil, rfl⟩ := List.getElem_of_mem hu
        exact HQ.out i _ hil (List.getElem?_eq_getElem hil)

set_option maxHeartbeats 800000 in
theorem toGrant_any (u : G) (w : World) :
    Calls Try.prog 34 #[.agg #[.string u.user, .int .i64 u.rights]] w fun e w' => e = .returned (.agg #[.string u.user, .int .i64 u.rights]) ∧ Below w.heap.size w w' := by
  go_enter Try.func34, Try.ntmps34
  go_wp2
  refine bodyPost_ret (v := .agg #[.string u.user, .int .i64 u.rights]) (by simp [results, Try.results34, go_sem]) rfl ⟨rfl, ?_⟩
  go_grown

set_option maxHeartbeats 800000 in
theorem eqGrant_any (u : G) (w : World) :
    Calls Try.prog 35 #[.agg #[.string u.user, .int .i64 u.rights], .agg #[.string u.user, .int .i64 u.rights]] w fun e w' => e = .returned (.bool true) ∧ Below w.heap.size w w' := by
  go_enter Try.func35, Try.ntmps35
  go_wp2
  go_ret
  exact ⟨rfl, by go_grown⟩

set_option maxHeartbeats 800000 in
theorem eqGrantS_any (A A' : Option Addr) (us : List G) (c c' : Nat) (w : World) (h : AtGrants w w.heap.size A us) (h' : AtGrants w w.heap.size A' us) (hn : us.length ≤ maxLen) :
    Calls Try.prog 18 #[.slice A us.length c, .slice A' us.length c'] w fun e w' => e = .returned (.bool true) ∧ Below w.heap.size w w' := by
  unfold maxLen at hn
  go_enter Try.func18, Try.ntmps18
  go_wp2_with fail
  go_loopg [5] us.length (fun g i wr => ∃ k : Nat, k ≤ us.length ∧ Hid (g = us.length - k) ∧ i = .int .i64 k ∧ Below w.heap.size w wr)
  case atStart => exact ⟨0, Nat.zero_le _, Lib.hid rfl, rfl, Below.refl _ _⟩
  case round =>
    obtain ⟨k, hk, HG, rfl, hb⟩ := hrel
    by_cases hlt : k < us.length
    · obtain ⟨g, off, rfl, hg, hc⟩ := (h.below hb).1 (by omega)
      obtain ⟨g', off', rfl, hg', hc'⟩ := (h'.below hb).1 (by omega)
      obtain ⟨u, hu⟩ : ∃ u, us[k]? = some u := ⟨_, List.getElem?_eq_getElem hlt⟩
      obtain ⟨d1, d2⟩ := hc k u hu
      obtain ⟨e1, e2⟩ := hc' k u hu
      clear hc hc' hu
      go_wp2_with fail
      go_region_with (go_at_call 35; refine (eqGrant_any u _).mono ?_; rintro e w1 ⟨rfl, hb1⟩)
      all_goals
        go_wp2_with fail
        go_roundg (us.length - (k + 1))
        case measure => have := HG.out; omega
        case rel => exact ⟨k + 1, by omega, Lib.hid rfl, by go_num, hb.drew.trans (hb1.mono hb.size)⟩
    · obtain rfl : k = us.length := by omega
      go_wp2_with fail
      go_ret
      exact ⟨rfl, hb⟩

def Ac.zero : G := ⟨⟨#[]⟩, 0⟩
/-- the rows after k rounds of copying -/
def Ac.part (us : List G) (k : Nat) : List G := us.take k ++ List.replicate (us.length - k) Ac.zero
theorem Ac.part_len (us : List G) (k : Nat) (hk : k ≤ us.length) : (Ac.part us k).length = us.length := by
  unfold Ac.part; rw [List.length_append, List.length_take, List.length_replicate]; omega
theorem Ac.part_get (us : List G) (k : Nat) (hk : k < us.length) : (Ac.part us k)[k]? = some Ac.zero := by
  unfold Ac.part
  rw [List.getElem?_append_right (by rw [List.length_take]; omega), List.length_take, List.getElem?_replicate, if_pos (by omega)]
theorem Ac.part_set (us : List G) (k : Nat) (u : G) (hu : us[k]? = some u) : (Ac.part us k).set k u = Ac.part us (k + 1) := by
  have hk : k < us.length := (List.getElem?_eq_some_iff.1 hu).1
  apply List.ext_getElem?
  intro j
  rw [List.getElem?_set]
  unfold Ac.part
  by_cases h1 : k = j
  · subst h1
    rw [if_pos rfl, if_pos (by rw [List.length_append, List.length_take, List.length_replicate]; omega), List.getElem?_append_left (by rw [List.length_take]; omega), List.getElem?_take, if_pos (by omega), hu]
  · rw [if_neg h1]
    rcases Nat.lt_or_ge j k with h2 | h2
    · rw [List.getElem?_append_left (by rw [List.length_take]; omega), List.getElem?_append_left (by rw [List.length_take]; omega), List.getElem?_take, List.getElem?_take, if_pos h2, if_pos (by omega)]
    · rw [List.getElem?_append_right (by rw [List.length_take]; omega), List.getElem?_append_right (by rw [List.length_take]; omega), List.length_take, List.length_take, List.getElem?_replicate, List.getElem?_replicate]
      by_cases h3 : j < us.length
      · rw [if_pos (by omega), if_pos (by omega)]
      · rw [if_neg (by omega), if_neg (by omega)]
theorem Ac.part_zero (us : List G) : Ac.part us 0 = List.replicate us.length Ac.zero := by unfold Ac.part; simp
theorem Ac.part_all (us : List G) : Ac.part us us.length = us := by unfold Ac.part; simp

set_option maxRecDepth 100000 in
set_option maxHeartbeats 1600000 in
theorem toGrantS_any (A : Option Addr) (us : List G) (c : Nat) (w : World) (h : AtGrants w w.heap.size A us) (hn : us.length ≤ 1048576) :
    Calls Try.prog 17 #[.slice A us.length c] w fun e w' => ∃ A' c', e = .returned (.slice A' us.length c') ∧ us.length ≤ c' ∧ c' ≤ maxLen ∧ AtGrants w' w'.heap.size A' us ∧ Below w.heap.size w w' := by
  obtain ⟨i0, hi, hz0, hz1, hz2⟩ := info_parts grant_info
  have hmk := fun W => run_make_rowN (P := Try.prog) 23 34 i0 _ Try.underlying23 hi hz0 .i64 .i64 us.length us.length (Nat.le_refl _) (by rw [hz2]; omega) (by omega) W
  rw [hz1] at hmk
  have hml : (madeCells (Value.agg #[.string ⟨#[]⟩, .int .i64 0]).cells (us.length * 2)).toList = (Ac.part us 0).flatMap Ac.cells := by
    rw [Ac.part_zero]
    exact made_flat (by omega) Ac.cells_len rfl
  have HML := Lib.hid hml
  clear hml
  have hown0 : (w.alloc (.cells (madeCells (Value.agg #[.string ⟨#[]⟩, .int .i64 0]).cells (us.length * 2)) 34)).ownsRow w.heap.size 34 2 (.slice (some ⟨w.heap.size, 0, none⟩) us.length us.length) us.length ((Ac.part us 0).flatMap Ac.cells) := by
    rw [← HML.out]
    exact World.ownsRow_lit w _ us.length (Nat.le_refl _) (by unfold maxLen; omega) (size_madeCells _ _)
  have H0 := Lib.hid hown0
  clear hown0
  go_enter Try.func17, Try.ntmps17
  go_wp2_with fail
  go_loopg [4] us.length (fun g i wr => ∃ k : Nat, k ≤ us.length ∧ Hid (g = us.length - k) ∧ i = .int .i64 k ∧ wr.ownsRow w.heap.size 34 2 (.slice (some ⟨w.heap.size, 0, none⟩) us.length us.length) us.length ((Ac.part us k).flatMap Ac.cells) ∧ Below w.heap.size w wr)
  case atStart => exact ⟨0, Nat.zero_le _, Lib.hid rfl, rfl, H0.out, by go_grown⟩
  case round =>
    obtain ⟨k, hk, HG, rfl, hown, hb⟩ := hrel
    by_cases hlt : k < us.length
    · obtain ⟨g, off, rfl, hg, hc⟩ := (h.below hb).1 (by omega)
      obtain ⟨u, hu⟩ : ∃ u, us[k]? = some u := ⟨_, List.getElem?_eq_getElem hlt⟩
      obtain ⟨d1, d2⟩ := hc k u hu
      have HU := Lib.hid hu
      have HO := Lib.hid hown
      clear hc hu hown
      go_wp2_with fail
      refine (toGrant_any u _).mono ?_
      rintro e w1 ⟨rfl, hb1⟩
      have hlt1 := (HO.out.lt _ rfl).2
      have hown1 := own_below HO.out hb1 hlt1
      have e0 : w1.cell? ⟨w.heap.size, k * 2, none⟩ = some (.string ⟨#[]⟩) := own_cell (j := 0) Ac.cells_len hown1 (Ac.part_get us k hlt) rfl
      have e1 : w1.cell? ⟨w.heap.size, k * 2 + 1, none⟩ = some (.int .i64 0) := own_cell (j := 1) Ac.cells_len hown1 (Ac.part_get us k hlt) rfl
      have f0 : w1.frozen? ⟨w.heap.size, k * 2, none⟩ = false := hown1.frozenAt _
      have f1 : w1.frozen? ⟨w.heap.size, k * 2 + 1, none⟩ = false := hown1.frozenAt _
      have HO1 := Lib.hid hown1
      clear hown1 d1 d2
      have hpl : k < (Ac.part us k).length := by rw [Ac.part_len us k hk]; exact hlt
      have hs1 := own_set (j := 0) (u' := ⟨u.user, 0⟩) (v := .string u.user) Ac.cells_len HO1.out (Ac.part_get us k hlt) (by omega) rfl
      have hs2 := own_set (j := 1) (u' := u) (v := .int .i64 u.rights) Ac.cells_len hs1 (List.getElem?_set_self hpl) (by omega) rfl
      rw [List.set_set, Ac.part_set us k u HU.out] at hs2
      have HS := Lib.hid hs2
      clear hs1 hs2 hpl
      go_wp2_with fail
      go_roundg (us.length - (k + 1))
      case measure => have := HG.out; omega
      case rel => exact ⟨k + 1, by omega, Lib.hid rfl, by go_num, HS.out, ((hb.trans (hb1.mono hb.size)).setCell (p := ⟨w.heap.size, k * 2, none⟩) (Nat.le_refl _) _).setCell (p := ⟨w.heap.size, k * 2 + 1, none⟩) (Nat.le_refl _) _⟩
    · obtain rfl : k = us.length := by omega
      rw [Ac.part_all] at hown
      have HAT := Lib.hid (at_of_own Ac.cells_len hown rfl)
      clear hown
      go_wp2_with fail
      go_ret
      exact ⟨_, _, rfl, Nat.le_refl _, by unfold maxLen; omega, at_grants HAT.out h.2, hb⟩

end Go.Proofs.Ytkmaandeljancaa
