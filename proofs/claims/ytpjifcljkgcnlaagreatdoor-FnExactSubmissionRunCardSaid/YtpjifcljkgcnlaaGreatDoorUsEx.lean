/- Users that come in as plain data: opened; sizes, copies and comparison (szUserS, toUserS, eqUserS). -/
import Derived.Test.YtpjifcljkgcnlaaGreatDoorKt
import Derived.Test.YtpjifcljkgcnlaaGreatDoorUsA
import Derived.Deep.LoopGhost
import Derived.Deep.RegionWith
namespace Go.Proofs.YtpjifcljkgcnlaaGreatDoor
set_option linter.unusedVariables false
open Go.RowKit Go.ChangeShapes Go.WideShapes Go.Deep
open Us (U)

theorem open_users {H : Type} {enc : TypeId × Value → H} {w : World} {spare : Nat → Bool} {held : Bool} {fuel : Nat} {A : Option Addr} {len cap : Nat} {x : DataW H × List MemPlace}
    (h : DataW.trod enc Tryz.prog w 0 spare held fuel 22 [.slice A len cap] = some x) : ∃ us : List U, us.length = len ∧ len ≤ cap ∧ cap ≤ maxLen ∧ AtUsers w w.heap.size A us := by
  rcases open_slice_fields Tryz.underlying22 Tryz.underlying43 (by kernel_rfl) (by kernel_rfl) h with ⟨hcs, _⟩ | ⟨a, l, c, m, D, Pl, hcs, _, hl, hm, hmm, _, hi⟩
  · simp at hcs
    obtain ⟨rfl, rfl, rfl⟩ := hcs
    exact ⟨[], rfl, Nat.le_refl _, Nat.zero_le _, fun h0 => absurd h0 (by simp), by simp⟩
  · simp at hcs
    obtain ⟨rfl, rfl, rfl⟩ := hcs
    have hml : len ≤ m := by rw [hmm]; split <;> omega
    have hall : ∀ i, i < len → ∃ u : U, (w.cell? (a.add (i * 3)) = some (.string u.name) ∧ w.cell? (a.add (i * 3 + 1)) = some (.string u.pass) ∧ w.cell? (a.add (i * 3 + 2)) = some (.int .i64 u.quota)) ∧ u.name.size ≤ maxLen ∧ u.pass.size ≤ maxLen := by
      intro i hil
      obtain ⟨ys, n, _, _, _, hf⟩ := hi i (by omega)
      obtain ⟨v0, y0, c0, _, t0⟩ := hf 0 _ rfl
      obtain ⟨v1, y1, c1, _, t1⟩ := hf 1 _ rfl
      obtain ⟨v2, y2, c2, _, t2⟩ := hf 2 _ rfl
      obtain ⟨s0, e0, _, z0⟩ := DataW.trod_string Tryz.underlying9 t0
      obtain ⟨s1, e1, _, z1⟩ := DataW.trod_string Tryz.underlying9 t1
      obtain ⟨n2, e2, _, _⟩ := DataW.trod_int Tryz.underlying3 t2
      simp at e0 e1 e2
      subst e0 e1 e2
      exact ⟨⟨s0, s1, n2⟩, ⟨c0, c1, c2⟩, z0, z1⟩
    obtain ⟨us, hul, hq⟩ := choose_list len hall
    refine ⟨us, hul, hl, hm, fun h0 => ?_, fun u hu => ?_⟩
    · obtain ⟨b, off, spot⟩ := a
      have hu0 : us[0]? = some us[0] := List.getElem?_eq_getElem h0
      have hc0 := (hq 0 _ hu0).1.1
      have hspot : spot = none := by simpa [Addr.add] using World.cell?_spot hc0
      subst hspot
      have hlt := World.block_lt_of_cell? w _ hc0
      refine ⟨b, off, rfl, by simpa [Addr.add] using hlt, fun i u hu => ?_⟩
      obtain ⟨⟨h1, h2, h3⟩, _⟩ := hq i u hu
      rw [add_none] at h1 h2 h3
      exact ⟨h1, by rw [Nat.add_assoc]; exact h2, by rw [Nat.add_assoc]; exact h3⟩
    · obtain ⟨i, hil, rfl⟩ := List.getElem_of_mem hu
      have := (hq i _ (List.getElem?_eq_getElem hil)).2
      exact this

set_option maxHeartbeats 800000 in
theorem szUser_any (u : U) (left : Int) (w : World) (h0 : 0 ≤ left) (h1 : left ≤ 1048576) (hs : u.name.size ≤ maxLen ∧ u.pass.size ≤ maxLen) :
    Calls Tryz.prog 20 #[.agg #[.string u.name, .string u.pass, .int .i64 u.quota], .int .i64 left] w (Szd left (u.name.size ≤ 1048576 ∧ u.pass.size ≤ 1048576) w) := by
  obtain ⟨z1, z2⟩ := hs
  unfold maxLen at z1 z2
  by_cases c1 : left - (u.name.size : Int) < 0
  · go_enter Tryz.func20, Tryz.ntmps20
    go_wp2
    go_ret
    exact ⟨-1, rfl, by omega, by omega, fun h => absurd h (by omega), by go_grown⟩
  · by_cases c2 : left - (u.name.size : Int) - (u.pass.size : Int) < 0
    · go_enter Tryz.func20, Tryz.ntmps20
      go_wp2
      go_ret
      exact ⟨-1, rfl, by omega, by omega, fun h => absurd h (by omega), by go_grown⟩
    · go_enter Tryz.func20, Tryz.ntmps20
      go_wp2
      go_ret
      exact ⟨left - (u.name.size : Int) - (u.pass.size : Int), rfl, by omega, by omega, fun h => ⟨by omega, by omega⟩, by go_grown⟩

set_option maxHeartbeats 800000 in
theorem szUserS_any (A : Option Addr) (us : List U) (c : Nat) (left : Int) (w : World) (h : AtUsers w w.heap.size A us) (hn : us.length ≤ maxLen) (h0 : 0 ≤ left) (h1 : left ≤ 1048576) :
    Calls Tryz.prog 4 #[.slice A us.length c, .int .i64 left] w (Szd left (us.length ≤ 1048576 ∧ ∀ u ∈ us, u.name.size ≤ 1048576 ∧ u.pass.size ≤ 1048576) w) := by
  unfold maxLen at hn
  by_cases c1 : left - (us.length : Int) < 0
  · go_enter Tryz.func4, Tryz.ntmps4
    go_wp2
    go_ret
    exact ⟨-1, rfl, by omega, by omega, fun h => absurd h (by omega), Below.refl _ _⟩
  · go_enter Tryz.func4, Tryz.ntmps4
    go_wp2_with fail
    go_loopg [1, 5] us.length (fun g lf i wr => ∃ (k : Nat) (r : Int), k ≤ us.length ∧ Hid (g = us.length - k) ∧ i = .int .i64 k ∧ lf = .int .i64 r ∧ 0 ≤ r ∧ r ≤ left ∧ Hid (∀ (j : Nat) (u : U), j < k → us[j]? = some u → u.name.size ≤ 1048576 ∧ u.pass.size ≤ 1048576) ∧ Below w.heap.size w wr)
    case atStart => exact ⟨0, _, Nat.zero_le _, Lib.hid rfl, rfl, rfl, by omega, by omega, Lib.hid (fun j u hj => absurd hj (by omega)), Below.refl _ _⟩
    case round =>
      obtain ⟨k, r, hk, HG, rfl, rfl, hr0, hr1, HQ, hb⟩ := hrel
      by_cases hlt : k < us.length
      · obtain ⟨g, off, rfl, hg, hc⟩ := (h.below hb).1 (by omega)
        obtain ⟨u, hu⟩ : ∃ u, us[k]? = some u := ⟨_, List.getElem?_eq_getElem hlt⟩
        obtain ⟨d1, d2, d3⟩ := hc k u hu
        have hz := h.2 u (List.mem_of_getElem? hu)
        have HU := Lib.hid hu
        clear hu hc
        go_wp2_with fail
        refine (szUser_any u r _ hr0 (by omega) hz).mono ?_
        rintro e w1 ⟨r', rfl, hm, hle, hq, hb1⟩
        have HQ1 := Lib.hid hq
        clear hq
        by_cases hneg : r' < 0
        · go_wp2_with fail
          go_ret
          exact ⟨-1, rfl, by omega, by omega, fun h => absurd h (by omega), hb.trans (hb1.mono hb.size)⟩
        · go_wp2_with fail
          go_roundg (us.length - (k + 1))
          case measure => have := HG.out; omega
          case rel =>
            refine ⟨k + 1, r', by omega, Lib.hid rfl, by go_num, rfl, by omega, by omega, Lib.hid (fun j v hj hv => ?_), hb.trans (hb1.mono hb.size)⟩
            rcases Nat.lt_or_ge j k with h' | h'
            · exact HQ.out j v h' hv
            · have e : j = k := by omega
              subst e
              rw [HU.out] at hv
              injection hv with hv
              subst hv
              exact HQ1.out (by omega)
      · obtain rfl : k = us.length := by omega
        go_wp2_with fail
        go_ret
        refine ⟨r, rfl, by omega, hr1, fun _ => ⟨by omega, fun u hu => ?_⟩, hb⟩
        obtain ⟨i, hil, rfl⟩ := List.getElem_of_mem hu
        exact HQ.out i _ hil (List.getElem?_eq_getElem hil)

set_option maxHeartbeats 800000 in
theorem toUser_any (u : U) (w : World) :
    Calls Tryz.prog 25 #[.agg #[.string u.name, .string u.pass, .int .i64 u.quota]] w fun e w' => e = .returned (.agg #[.string u.name, .string u.pass, .int .i64 u.quota]) ∧ Below w.heap.size w w' := by
  go_enter Tryz.func25, Tryz.ntmps25
  go_wp2
  refine bodyPost_ret (v := .agg #[.string u.name, .string u.pass, .int .i64 u.quota]) (by simp [results, Tryz.results25, go_sem]) rfl ⟨rfl, ?_⟩
  go_grown

set_option maxHeartbeats 800000 in
theorem eqUser_any (u : U) (w : World) :
    Calls Tryz.prog 31 #[.agg #[.string u.name, .string u.pass, .int .i64 u.quota], .agg #[.string u.name, .string u.pass, .int .i64 u.quota]] w fun e w' => e = .returned (.bool true) ∧ Below w.heap.size w w' := by
  go_enter Tryz.func31, Tryz.ntmps31
  go_wp2
  go_ret
  exact ⟨rfl, by go_grown⟩

set_option maxHeartbeats 800000 in
theorem eqUserS_any (A A' : Option Addr) (us : List U) (c c' : Nat) (w : World) (h : AtUsers w w.heap.size A us) (h' : AtUsers w w.heap.size A' us) (hn : us.length ≤ maxLen) :
    Calls Tryz.prog 12 #[.slice A us.length c, .slice A' us.length c'] w fun e w' => e = .returned (.bool true) ∧ Below w.heap.size w w' := by
  unfold maxLen at hn
  go_enter Tryz.func12, Tryz.ntmps12
  go_wp2_with fail
  go_loopg [5] us.length (fun g i wr => ∃ k : Nat, k ≤ us.length ∧ Hid (g = us.length - k) ∧ i = .int .i64 k ∧ Below w.heap.size w wr)
  case atStart => exact ⟨0, Nat.zero_le _, Lib.hid rfl, rfl, Below.refl _ _⟩
  case round =>
    obtain ⟨k, hk, HG, rfl, hb⟩ := hrel
    by_cases hlt : k < us.length
    · obtain ⟨g, off, rfl, hg, hc⟩ := (h.below hb).1 (by omega)
      obtain ⟨g', off', rfl, hg', hc'⟩ := (h'.below hb).1 (by omega)
      obtain ⟨u, hu⟩ : ∃ u, us[k]? = some u := ⟨_, List.getElem?_eq_getElem hlt⟩
      obtain ⟨d1, d2, d3⟩ := hc k u hu
      obtain ⟨e1, e2, e3⟩ := hc' k u hu
      clear hc hc' hu
      go_wp2_with fail
      go_region_with (go_at_call 31; refine (eqUser_any u _).mono ?_; rintro e w1 ⟨rfl, hb1⟩)
      all_goals
        go_wp2_with fail
        go_roundg (us.length - (k + 1))
        case measure => have := HG.out; omega
        case rel => exact ⟨k + 1, by omega, Lib.hid rfl, by go_num, hb.drew.trans (hb1.mono hb.size)⟩
    · obtain rfl : k = us.length := by omega
      go_wp2_with fail
      go_ret
      exact ⟨rfl, hb⟩

def Us.zero : U := ⟨⟨#[]⟩, ⟨#[]⟩, 0⟩
/-- the rows after k rounds of copying -/
def Us.part (us : List U) (k : Nat) : List U := us.take k ++ List.replicate (us.length - k) Us.zero
theorem Us.part_len (us : List U) (k : Nat) (hk : k ≤ us.length) : (Us.part us k).length = us.length := by
  unfold Us.part; rw [List.length_append, List.length_take, List.length_replicate]; omega
theorem Us.part_get (us : List U) (k : Nat) (hk : k < us.length) : (Us.part us k)[k]? = some Us.zero := by
  unfold Us.part
  rw [List.getElem?_append_right (by rw [List.length_take]; omega), List.length_take, List.getElem?_replicate, if_pos (by omega)]
theorem Us.part_set (us : List U) (k : Nat) (u : U) (hu : us[k]? = some u) : (Us.part us k).set k u = Us.part us (k + 1) := by
  have hk : k < us.length := (List.getElem?_eq_some_iff.1 hu).1
  apply List.ext_getElem?
  intro j
  rw [List.getElem?_set]
  unfold Us.part
  by_cases h1 : k = j
  · subst h1
    rw [if_pos rfl, if_pos (by rw [List.length_append, List.length_take, List.length_replicate]; omega), List.getElem?_append_left (by rw [List.length_take]; omega), List.getElem?_take, if_pos (by omega), hu]
  · rw [if_neg h1]
    rcases Nat.lt_or_ge j k with h2 | h2
    · rw [List.getElem?_append_left (by rw [List.length_take]; omega), List.getElem?_append_left (by rw [List.length_take]; omega), List.getElem?_take, List.getElem?_take, if_pos h2, if_pos (by omega)]
    · rw [List.getElem?_append_right (by rw [List.length_take]; omega), List.getElem?_append_right (by rw [List.length_take]; omega), List.length_take, List.length_take, List.getElem?_replicate, List.getElem?_replicate]
      by_cases h3 : j < us.length
      · rw [if_pos (by omega), if_pos (by omega)]
      · rw [if_neg (by omega), if_neg (by omega)]
theorem Us.part_zero (us : List U) : Us.part us 0 = List.replicate us.length Us.zero := by unfold Us.part; simp
theorem Us.part_all (us : List U) : Us.part us us.length = us := by unfold Us.part; simp

set_option maxRecDepth 100000 in
set_option maxHeartbeats 1600000 in
theorem toUserS_any (A : Option Addr) (us : List U) (c : Nat) (w : World) (h : AtUsers w w.heap.size A us) (hn : us.length ≤ 1048576) :
    Calls Tryz.prog 7 #[.slice A us.length c] w fun e w' => ∃ A' c', e = .returned (.slice A' us.length c') ∧ us.length ≤ c' ∧ c' ≤ maxLen ∧ AtUsers w' w'.heap.size A' us ∧ Below w.heap.size w w' := by
  obtain ⟨i0, hi, hz0, hz1, hz2⟩ := info_parts user_info
  have hmk := fun W => run_make_rowN (P := Tryz.prog) 30 54 i0 _ Tryz.underlying30 hi hz0 .i64 .i64 us.length us.length (Nat.le_refl _) (by rw [hz2]; omega) (by omega) W
  rw [hz1] at hmk
  have hml : (madeCells (Value.agg #[.string ⟨#[]⟩, .string ⟨#[]⟩, .int .i64 0]).cells (us.length * 3)).toList = (Us.part us 0).flatMap Us.cells := by
    rw [Us.part_zero]
    exact made_flat (by omega) Us.cells_len rfl
  have HML := Lib.hid hml
  clear hml
  have hown0 : (w.alloc (.cells (madeCells (Value.agg #[.string ⟨#[]⟩, .string ⟨#[]⟩, .int .i64 0]).cells (us.length * 3)) 54)).ownsRow w.heap.size 54 3 (.slice (some ⟨w.heap.size, 0, none⟩) us.length us.length) us.length ((Us.part us 0).flatMap Us.cells) := by
    rw [← HML.out]
    exact World.ownsRow_lit w _ us.length (Nat.le_refl _) (by unfold maxLen; omega) (size_madeCells _ _)
  have H0 := Lib.hid hown0
  clear hown0
  go_enter Tryz.func7, Tryz.ntmps7
  go_wp2_with fail
  go_loopg [4] us.length (fun g i wr => ∃ k : Nat, k ≤ us.length ∧ Hid (g = us.length - k) ∧ i = .int .i64 k ∧ wr.ownsRow w.heap.size 54 3 (.slice (some ⟨w.heap.size, 0, none⟩) us.length us.length) us.length ((Us.part us k).flatMap Us.cells) ∧ Below w.heap.size w wr)
  case atStart => exact ⟨0, Nat.zero_le _, Lib.hid rfl, rfl, H0.out, by go_grown⟩
  case round =>
    obtain ⟨k, hk, HG, rfl, hown, hb⟩ := hrel
    by_cases hlt : k < us.length
    · obtain ⟨g, off, rfl, hg, hc⟩ := (h.below hb).1 (by omega)
      obtain ⟨u, hu⟩ : ∃ u, us[k]? = some u := ⟨_, List.getElem?_eq_getElem hlt⟩
      obtain ⟨d1, d2, d3⟩ := hc k u hu
      have HU := Lib.hid hu
      have HO := Lib.hid hown
      clear hc hu hown
      go_wp2_with fail
      refine (toUser_any u _).mono ?_
      rintro e w1 ⟨rfl, hb1⟩
      have hlt1 := (HO.out.lt _ rfl).2
      have hown1 := own_below HO.out hb1 hlt1
      have e0 : w1.cell? ⟨w.heap.size, k * 3, none⟩ = some (.string ⟨#[]⟩) := own_cell (j := 0) Us.cells_len hown1 (Us.part_get us k hlt) rfl
      have e1 : w1.cell? ⟨w.heap.size, k * 3 + 1, none⟩ = some (.string ⟨#[]⟩) := own_cell (j := 1) Us.cells_len hown1 (Us.part_get us k hlt) rfl
      have e2 : w1.cell? ⟨w.heap.size, k * 3 + 2, none⟩ = some (.int .i64 0) := own_cell (j := 2) Us.cells_len hown1 (Us.part_get us k hlt) rfl
      have f0 : w1.frozen? ⟨w.heap.size, k * 3, none⟩ = false := hown1.frozenAt _
      have f1 : w1.frozen? ⟨w.heap.size, k * 3 + 1, none⟩ = false := hown1.frozenAt _
      have f2 : w1.frozen? ⟨w.heap.size, k * 3 + 2, none⟩ = false := hown1.frozenAt _
      have HO1 := Lib.hid hown1
      clear hown1 d1 d2 d3
      have hpl : k < (Us.part us k).length := by rw [Us.part_len us k hk]; exact hlt
      have hs1 := own_set (j := 0) (u' := ⟨u.name, ⟨#[]⟩, 0⟩) (v := .string u.name) Us.cells_len HO1.out (Us.part_get us k hlt) (by omega) rfl
      have hs2 := own_set (j := 1) (u' := ⟨u.name, u.pass, 0⟩) (v := .string u.pass) Us.cells_len hs1 (List.getElem?_set_self hpl) (by omega) rfl
      have hs3 := own_set (j := 2) (u' := u) (v := .int .i64 u.quota) Us.cells_len hs2 (List.getElem?_set_self (by rw [List.length_set]; exact hpl)) (by omega) rfl
      rw [List.set_set, List.set_set, Us.part_set us k u HU.out] at hs3
      have HS := Lib.hid hs3
      clear hs1 hs2 hs3 hpl
      go_wp2_with fail
      go_roundg (us.length - (k + 1))
      case measure => have := HG.out; omega
      case rel => exact ⟨k + 1, by omega, Lib.hid rfl, by go_num, HS.out, (((hb.trans (hb1.mono hb.size)).setCell (p := ⟨w.heap.size, k * 3, none⟩) (Nat.le_refl _) _).setCell (p := ⟨w.heap.size, k * 3 + 1, none⟩) (Nat.le_refl _) _).setCell (p := ⟨w.heap.size, k * 3 + 2, none⟩) (Nat.le_refl _) _⟩
    · obtain rfl : k = us.length := by omega
      rw [Us.part_all] at hown
      have HAT := Lib.hid (at_of_own Us.cells_len hown rfl)
      clear hown
      go_wp2_with fail
      go_ret
      exact ⟨_, _, rfl, Nat.le_refl _, by unfold maxLen; omega, at_users HAT.out h.2, hb⟩

end Go.Proofs.YtpjifcljkgcnlaaGreatDoor
