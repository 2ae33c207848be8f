/- StX: StW StEx StDraw, in one text. -/
import Derived.Test.YtpbaimofffcnaaaPl
import Derived.Test.YtpbaimofffcnaaaRx
import Derived.Deep.DeepCutAuto
import Derived.BigQuiet
import Derived.Test.YtpbaimofffcnaaaKt
import Derived.Deep.LoopGhost
import Derived.Deep.RegionWith
namespace Go.Proofs.Ytpbaimofffcnaaa
set_option linter.unusedVariables false
open Go.RowKit

/-- a slice of strings that reads as a list, below block B -/
def AtStrs (w : World) (B : Nat) (A : Option Addr) (us : List ByteArray) : Prop :=
  (0 < us.length → ∃ g off, A = some ⟨g, off, none⟩ ∧ g < B ∧ ∀ i u, us[i]? = some u → w.cell? ⟨g, off + i, none⟩ = some (.string u)) ∧
  ∀ u ∈ us, u.size ≤ maxLen
section
variable {w w' : World} {B : Nat} {A : Option Addr} {us : List ByteArray}
theorem AtStrs.keep (h : AtStrs w B A us) (hB : ∀ i, i < B → w'.heap[i]? = w.heap[i]?) : AtStrs w' B A us := by
  refine ⟨fun hl => ?_, h.2⟩
  obtain ⟨g, off, ha, hlt, hc⟩ := h.1 hl
  exact ⟨g, off, ha, hlt, fun i u hu => by rw [World.cell?_of_block (hB g hlt)]; exact hc i u hu⟩
theorem AtStrs.below (h : AtStrs w B A us) (k : Below B w w') : AtStrs w' B A us := h.keep k.block
theorem AtStrs.mono (h : AtStrs w B A us) {B' : Nat} (hB : B ≤ B') : AtStrs w B' A us := by
  refine ⟨fun hl => ?_, h.2⟩
  obtain ⟨g, off, ha, hlt, hc⟩ := h.1 hl
  exact ⟨g, off, ha, by omega, hc⟩
theorem AtStrs.take (h : AtStrs w B A us) (k : Nat) : AtStrs w B A (us.take k) := by
  refine ⟨fun hl => ?_, fun u hu => h.2 u (List.mem_of_mem_take hu)⟩
  rw [List.length_take] at hl
  obtain ⟨g, off, ha, hlt, hc⟩ := h.1 (by omega)
  refine ⟨g, off, ha, hlt, fun i u hu => hc i u ?_⟩
  rw [List.getElem?_take] at hu
  by_cases him : i < k
  · rwa [if_pos him] at hu
  · rw [if_neg him] at hu; cases hu
end

set_option maxHeartbeats 1600000 in
theorem l21Has_any (A : Option Addr) (us : List ByteArray) (n c : Nat) (nm : ByteArray) (w : World) (B : Nat) (h : AtStrs w B A us) (hl : us.length = n) (hn : n ≤ maxLen) :
    Calls Try.prog 26 #[.slice A n c, .string nm] w fun e w' => e = .returned (.bool (St.has us nm)) ∧ w' = w := by
  unfold maxLen at hn
  subst hl
  go_enter Try.func26, Try.ntmps26
  go_wp2_with fail
  go_loopg [5] us.length (fun g i wr => ∃ k : Nat, k ≤ us.length ∧ Hid (g = us.length - k) ∧ i = .int .i64 k ∧ Hid (St.has us nm = (us.drop k).any fun x => x.toList == nm.toList) ∧ wr = w)
  case atStart => exact ⟨0, Nat.zero_le _, Lib.hid rfl, rfl, Lib.hid (by rw [List.drop_zero]; rfl), rfl⟩
  case round =>
    obtain ⟨k, hk, HG, rfl, HR, rfl⟩ := hrel
    by_cases hlt2 : k < us.length
    · obtain ⟨g, off, rfl, hg, hc⟩ := h.1 (by omega)
      obtain ⟨u, hu⟩ : ∃ u, us[k]? = some u := ⟨_, List.getElem?_eq_getElem hlt2⟩
      have d1 := hc k u hu
      have HU := Lib.hid hu
      clear hc hu
      cases hn1 : (u.toList == nm.toList)
      · have HN := Lib.hid (St.has_next HR.out HU.out hn1)
        go_wp2_with fail
        go_roundg (us.length - (k + 1))
        case measure => have := HG.out; omega
        case rel => exact ⟨k + 1, by omega, Lib.hid rfl, by go_num, HN, rfl⟩
      · have HF := Lib.hid (St.has_yes HR.out HU.out hn1)
        go_wp2_with fail
        go_ret
        exact ⟨by rw [HF.out]; rfl, rfl⟩
    · obtain rfl : k = us.length := by omega
      have HF := Lib.hid (St.has_end HR.out)
      go_wp2_with fail
      go_ret
      exact ⟨by rw [HF.out]; rfl, rfl⟩

set_option maxHeartbeats 1600000 in
theorem index_any (A : Option Addr) (us : List ByteArray) (n c : Nat) (nm : ByteArray) (w : World) (B : Nat) (h : AtStrs w B A us) (hl : us.length = n) (hn : n ≤ maxLen) :
    Calls Try.prog 46 #[.slice A n c, .string nm] w fun e w' => ∃ r : Int, e = .returned (.int .i64 r) ∧ decide (0 ≤ r) = St.has us nm ∧ w' = w := by
  unfold maxLen at hn
  subst hl
  go_enter Try.func46, Try.ntmps46
  go_wp2_with fail
  go_loopg [8] us.length (fun g i wr => ∃ k : Nat, k ≤ us.length ∧ Hid (g = us.length - k) ∧ i = .int .i64 k ∧ Hid (St.has us nm = (us.drop k).any fun x => x.toList == nm.toList) ∧ wr = w)
  case atStart => exact ⟨0, Nat.zero_le _, Lib.hid rfl, rfl, Lib.hid (by rw [List.drop_zero]; rfl), rfl⟩
  case round =>
    obtain ⟨k, hk, HG, rfl, HR, rfl⟩ := hrel
    by_cases hlt2 : k < us.length
    · obtain ⟨g, off, rfl, hg, hc⟩ := h.1 (by omega)
      obtain ⟨u, hu⟩ : ∃ u, us[k]? = some u := ⟨_, List.getElem?_eq_getElem hlt2⟩
      have d1 := hc k u hu
      have HU := Lib.hid hu
      clear hc hu
      cases hn1 : (u.toList == nm.toList)
      · have HN := Lib.hid (St.has_next HR.out HU.out hn1)
        have hn2 : (nm.toList == u.toList) = false := by rw [BEq.comm]; exact hn1
        go_wp2_with fail
        go_roundg (us.length - (k + 1))
        case measure => have := HG.out; omega
        case rel => exact ⟨k + 1, by omega, Lib.hid rfl, by go_num, HN, rfl⟩
      · have HF := Lib.hid (St.has_yes HR.out HU.out hn1)
        have hn2 : (nm.toList == u.toList) = true := by rw [BEq.comm]; exact hn1
        go_wp2_with fail
        go_ret
        exact ⟨k, rfl, by rw [HF.out]; simp, rfl⟩
    · obtain rfl : k = us.length := by omega
      have HF := Lib.hid (St.has_end HR.out)
      go_wp2_with fail
      go_ret
      exact ⟨-1, rfl, by rw [HF.out]; rfl, rfl⟩
set_option maxHeartbeats 1600000 in
theorem contains_any (A : Option Addr) (us : List ByteArray) (n c : Nat) (nm : ByteArray) (w : World) (B : Nat) (h : AtStrs w B A us) (hl : us.length = n) (hn : n ≤ maxLen) :
    Calls Try.prog 28 #[.slice A n c, .string nm] w fun e w' => e = .returned (.bool (St.has us nm)) ∧ w' = w := by
  go_enter Try.func28, Try.ntmps28
  go_wp2_with fail
  refine (index_any A us n c nm _ B h hl hn).mono ?_
  rintro e w1 ⟨r, rfl, hr, rfl⟩
  go_wp2_with fail
  go_ret
  exact ⟨by rw [← hr]; rfl, rfl⟩

end Go.Proofs.Ytpbaimofffcnaaa

namespace Go.Proofs.Ytpbaimofffcnaaa
set_option linter.unusedVariables false
open Go.RowKit Go.ChangeShapes Go.WideShapes Go.Deep

def St.cells (u : ByteArray) : List Value := [.string u]
theorem St.cells_len (u : ByteArray) : (St.cells u).length = 1 := rfl
theorem at_strs {w : World} {B : Nat} {A : Option Addr} {us : List ByteArray} (h : At w B 1 St.cells A us) (hs : ∀ u ∈ us, u.size ≤ maxLen) : AtStrs w B A us := by
  refine ⟨fun hl => ?_, hs⟩
  obtain ⟨g, off, ha, hlt, hc⟩ := h hl
  exact ⟨g, off, ha, hlt, fun i u hu => by simpa using hc i u hu 0 _ rfl⟩
theorem str_info : (Try.prog.info? 9).map (fun i => (i.zero, i.size, i.bytes)) = some (some (.string ⟨#[]⟩), 1, 16) := by kernel_rfl

theorem AtStrs.setCell {w : World} {B : Nat} {A : Option Addr} {us : List ByteArray} {p : Addr} (h : AtStrs w B A us) (hp : ∀ g off, A = some ⟨g, off, none⟩ → p.block ≠ g) (v : Value) : AtStrs (w.setCell p v) B A us := by
  refine ⟨fun hl => ?_, h.2⟩
  obtain ⟨g, off, ha, hlt, hc⟩ := h.1 hl
  exact ⟨g, off, ha, hlt, fun i u hu => by rw [World.cell?_setCell_other w p _ v (fun e => hp g off ha (by rw [e]))]; exact hc i u hu⟩
set_option maxHeartbeats 800000 in
theorem szStringS_any (A : Option Addr) (us : List ByteArray) (c : Nat) (left : Int) (w : World) (h : AtStrs w w.heap.size A us) (hn : us.length ≤ maxLen) (h0 : 0 ≤ left) (h1 : left ≤ 1048576) :
    Calls Try.prog 47 #[.slice A us.length c, .int .i64 left] w (Szd left (us.length ≤ 1048576 ∧ ∀ u ∈ us, u.size ≤ 1048576) w) := by
  unfold maxLen at hn
  by_cases c1 : left - (us.length : Int) < 0
  · go_enter Try.func47, Try.ntmps47
    go_wp2
    go_ret
    exact ⟨-1, rfl, by omega, by omega, fun h => absurd h (by omega), Below.refl _ _⟩
  · go_enter Try.func47, Try.ntmps47
    go_wp2_with fail
    go_loopg [1, 5] us.length (fun g lf i wr => ∃ (k : Nat) (r : Int), k ≤ us.length ∧ Hid (g = us.length - k) ∧ i = .int .i64 k ∧ lf = .int .i64 r ∧ 0 ≤ r ∧ r ≤ left ∧ Hid (∀ (j : Nat) (u : ByteArray), j < k → us[j]? = some u → u.size ≤ 1048576) ∧ Below w.heap.size w wr)
    case atStart => exact ⟨0, _, Nat.zero_le _, Lib.hid rfl, rfl, rfl, by omega, by omega, Lib.hid (fun j u hj => absurd hj (by omega)), Below.refl _ _⟩
    case round =>
      obtain ⟨k, r, hk, HG, rfl, rfl, hr0, hr1, HQ, hb⟩ := hrel
      by_cases hlt : k < us.length
      · obtain ⟨g, off, rfl, hg, hc⟩ := (h.below hb).1 (by omega)
        obtain ⟨u, hu⟩ : ∃ u, us[k]? = some u := ⟨_, List.getElem?_eq_getElem hlt⟩
        have d1 := hc k u hu
        have hz := h.2 u (List.mem_of_getElem? hu)
        have HU := Lib.hid hu
        clear hu hc
        unfold maxLen at hz
        by_cases hneg : r - (u.size : Int) < 0
        · go_wp2_with fail
          go_ret
          exact ⟨-1, rfl, by omega, by omega, fun h => absurd h (by omega), hb⟩
        · go_wp2_with fail
          go_roundg (us.length - (k + 1))
          case measure => have := HG.out; omega
          case rel =>
            refine ⟨k + 1, r - (u.size : Int), by omega, Lib.hid rfl, by go_num, rfl, by omega, by omega, Lib.hid (fun j v hj hv => ?_), hb⟩
            rcases Nat.lt_or_ge j k with h' | h'
            · exact HQ.out j v h' hv
            · have e : j = k := by omega
              subst e
              rw [HU.out] at hv
              injection hv with hv
              subst hv
              omega
      · obtain rfl : k = us.length := by omega
        go_wp2_with fail
        go_ret
        refine ⟨r, rfl, by omega, hr1, fun _ => ⟨by omega, fun u hu => ?_⟩, hb⟩
        obtain ⟨i, hil, rfl⟩ := List.getElem_of_mem hu
        exact HQ.out i _ hil (List.getElem?_eq_getElem hil)

set_option maxHeartbeats 800000 in
theorem eqStringS_any (A A' : Option Addr) (us : List ByteArray) (c c' : Nat) (w : World) (h : AtStrs w w.heap.size A us) (h' : AtStrs w w.heap.size A' us) (hn : us.length ≤ maxLen) :
    Calls Try.prog 53 #[.slice A us.length c, .slice A' us.length c'] w fun e w' => e = .returned (.bool true) ∧ Below w.heap.size w w' := by
  unfold maxLen at hn
  go_enter Try.func53, Try.ntmps53
  go_wp2_with fail
  go_loopg [5] us.length (fun g i wr => ∃ k : Nat, k ≤ us.length ∧ Hid (g = us.length - k) ∧ i = .int .i64 k ∧ Below w.heap.size w wr)
  case atStart => exact ⟨0, Nat.zero_le _, Lib.hid rfl, rfl, Below.refl _ _⟩
  case round =>
    obtain ⟨k, hk, HG, rfl, hb⟩ := hrel
    by_cases hlt : k < us.length
    · obtain ⟨g, off, rfl, hg, hc⟩ := (h.below hb).1 (by omega)
      obtain ⟨g', off', rfl, hg', hc'⟩ := (h'.below hb).1 (by omega)
      obtain ⟨u, hu⟩ : ∃ u, us[k]? = some u := ⟨_, List.getElem?_eq_getElem hlt⟩
      have d1 := hc k u hu
      have e1 := hc' k u hu
      clear hc hc' hu
      have k1 : (k : Int) < (us.length : Int) := by omega
      go_upto_region 6 with fail
      go_quiet (fail)
      go_wp2_with fail
      go_roundg (us.length - (k + 1))
      case measure => have := HG.out; omega
      case rel => exact ⟨k + 1, by omega, Lib.hid rfl, by go_num, below_drewN hb _⟩
    · obtain rfl : k = us.length := by omega
      go_wp2_with fail
      go_ret
      exact ⟨rfl, hb⟩

def St.zero : ByteArray := ⟨#[]⟩
/-- the rows after k rounds of copying -/
def St.part (us : List ByteArray) (k : Nat) : List ByteArray := us.take k ++ List.replicate (us.length - k) St.zero
theorem St.part_len (us : List ByteArray) (k : Nat) (hk : k ≤ us.length) : (St.part us k).length = us.length := by
  unfold St.part; rw [List.length_append, List.length_take, List.length_replicate]; omega
theorem St.part_get (us : List ByteArray) (k : Nat) (hk : k < us.length) : (St.part us k)[k]? = some St.zero := by
  unfold St.part
  rw [List.getElem?_append_right (by rw [List.length_take]; omega), List.length_take, List.getElem?_replicate, if_pos (by omega)]
theorem St.part_set (us : List ByteArray) (k : Nat) (u : ByteArray) (hu : us[k]? = some u) : (St.part us k).set k u = St.part us (k + 1) := by
  have hk : k < us.length := (List.getElem?_eq_some_iff.1 hu).1
  apply List.ext_getElem?
  intro j
  rw [List.getElem?_set]
  unfold St.part
  by_cases h1 : k = j
  · subst h1
    rw [if_pos rfl, if_pos (by rw [List.length_append, List.length_take, List.length_replicate]; omega), List.getElem?_append_left (by rw [List.length_take]; omega), List.getElem?_take, if_pos (by omega), hu]
  · rw [if_neg h1]
    rcases Nat.lt_or_ge j k with h2 | h2
    · rw [List.getElem?_append_left (by rw [List.length_take]; omega), List.getElem?_append_left (by rw [List.length_take]; omega), List.getElem?_take, List.getElem?_take, if_pos h2, if_pos (by omega)]
    · rw [List.getElem?_append_right (by rw [List.length_take]; omega), List.getElem?_append_right (by rw [List.length_take]; omega), List.length_take, List.length_take, List.getElem?_replicate, List.getElem?_replicate]
      by_cases h3 : j < us.length
      · rw [if_pos (by omega), if_pos (by omega)]
      · rw [if_neg (by omega), if_neg (by omega)]
theorem St.part_zero (us : List ByteArray) : St.part us 0 = List.replicate us.length St.zero := by unfold St.part; simp
theorem St.part_all (us : List ByteArray) : St.part us us.length = us := by unfold St.part; simp

set_option maxRecDepth 100000 in
set_option maxHeartbeats 1600000 in
theorem toStringS_any (A : Option Addr) (us : List ByteArray) (c : Nat) (w : World) (h : AtStrs w w.heap.size A us) (hn : us.length ≤ 1048576) :
    Calls Try.prog 48 #[.slice A us.length c] w fun e w' => ∃ A' c', e = .returned (.slice A' us.length c') ∧ us.length ≤ c' ∧ c' ≤ maxLen ∧ AtStrs w' w'.heap.size A' us ∧ (∀ g off, A' = some ⟨g, off, none⟩ → w.heap.size ≤ g) ∧ Below w.heap.size w w' := by
  obtain ⟨i0, hi, hz0, hz1, hz2⟩ := info_parts str_info
  have hmk := fun W => run_make_rowN (P := Try.prog) 41 9 i0 _ Try.underlying41 hi hz0 .i64 .i64 us.length us.length (Nat.le_refl _) (by rw [hz2]; omega) (by omega) W
  rw [hz1] at hmk
  have hml : (madeCells (Value.string ⟨#[]⟩).cells (us.length * 1)).toList = (St.part us 0).flatMap St.cells := by
    rw [St.part_zero]
    exact made_flat (by omega) St.cells_len rfl
  have HML := Lib.hid hml
  clear hml
  have hown0 : (w.alloc (.cells (madeCells (Value.string ⟨#[]⟩).cells (us.length * 1)) 9)).ownsRow w.heap.size 9 1 (.slice (some ⟨w.heap.size, 0, none⟩) us.length us.length) us.length ((St.part us 0).flatMap St.cells) := by
    rw [← HML.out]
    exact World.ownsRow_lit w _ us.length (Nat.le_refl _) (by unfold maxLen; omega) (size_madeCells _ _)
  have H0 : Hid ((w.alloc (.cells (madeCells #[.string ⟨#[]⟩] us.length) 9)).ownsRow w.heap.size 9 1 (.slice (some ⟨w.heap.size, 0, none⟩) us.length us.length) us.length ((St.part us 0).flatMap St.cells)) := Lib.hid (by rw [Nat.mul_one] at hown0; exact hown0)
  clear hown0
  go_enter Try.func48, Try.ntmps48
  go_wp2_with fail
  go_loopg [4] us.length (fun g i wr => ∃ k : Nat, k ≤ us.length ∧ Hid (g = us.length - k) ∧ i = .int .i64 k ∧ wr.ownsRow w.heap.size 9 1 (.slice (some ⟨w.heap.size, 0, none⟩) us.length us.length) us.length ((St.part us k).flatMap St.cells) ∧ Below w.heap.size w wr)
  case atStart => exact ⟨0, Nat.zero_le _, Lib.hid rfl, rfl, H0.out, by go_grown⟩
  case round =>
    obtain ⟨k, hk, HG, rfl, hown, hb⟩ := hrel
    by_cases hlt : k < us.length
    · obtain ⟨g, off, rfl, hg, hc⟩ := (h.below hb).1 (by omega)
      obtain ⟨u, hu⟩ : ∃ u, us[k]? = some u := ⟨_, List.getElem?_eq_getElem hlt⟩
      have d1 := hc k u hu
      have HU := Lib.hid hu
      have HO := Lib.hid hown
      clear hc hu hown
      have hown1 := HO.out
      have e0 : wr.cell? ⟨w.heap.size, k, none⟩ = some (.string ⟨#[]⟩) := by simpa [St.zero] using own_cell (j := 0) St.cells_len hown1 (St.part_get us k hlt) rfl
      have f0 : wr.frozen? ⟨w.heap.size, k, none⟩ = false := hown1.frozenAt _
      have hs1 := own_set (j := 0) (u' := u) (v := .string u) St.cells_len hown1 (St.part_get us k hlt) (by omega) rfl
      rw [St.part_set us k u HU.out] at hs1
      simp only [Nat.mul_one, Nat.add_zero] at hs1
      have HS := Lib.hid hs1
      clear hs1 hown1
      go_wp2_with fail
      go_roundg (us.length - (k + 1))
      case measure => have := HG.out; omega
      case rel => exact ⟨k + 1, by omega, Lib.hid rfl, by go_num, HS.out, hb.setCell (p := ⟨w.heap.size, k, none⟩) (Nat.le_refl _) _⟩
    · obtain rfl : k = us.length := by omega
      rw [St.part_all] at hown
      have HAT := Lib.hid (at_of_own St.cells_len hown rfl)
      clear hown
      go_wp2_with fail
      go_ret
      exact ⟨_, _, rfl, Nat.le_refl _, by unfold maxLen; omega, at_strs HAT.out h.2, fun g off e => by injection e with e; injection e with e; omega, hb⟩

end Go.Proofs.Ytpbaimofffcnaaa

namespace Go.Proofs.Ytpbaimofffcnaaa
set_option linter.unusedVariables false
open Go.RowKit

theorem St.cells_one1 (u : ByteArray) : ∀ v ∈ St.cells u, v.oneCell' = true := by
  intro v hv
  simp only [St.cells, List.mem_singleton] at hv
  subst hv; rfl
/-- a slice of the call's own that holds these strings -/
abbrev St.Own (w : World) (B : Nat) (v : Value) (us : List ByteArray) : Prop := OwnL 9 1 St.cells w B v us
theorem own_grown {α : Type} {E : TypeId} {size : Nat} {f : α → List Value} {w w' : World} {B b : Nat} {v : Value} {us : List α} (ho : OwnL E size f w B v us) (hg : w.grownBy w' (some b)) (hb : b < B) : OwnL E size f w' B v us :=
  World.ownsRow.kept ho hg (by
    cases hq : v.ownBlock with
    | none => exact .inl rfl
    | some q => exact .inr fun e => by have := OwnL.blk ho hq; injection e with e; omega)

theorem many_size (a b : ByteArray) : (a ++ b).size = a.size + b.size := by simp
set_option maxHeartbeats 800000 in
theorem l6Many_any (s : ByteArray) (n : Nat) (hs : s.size = 1) (hn : n ≤ 30) (w : World) :
    Calls Try.prog 60 #[.string s, .int .i64 (n : Int)] w fun e w' => ∃ t : ByteArray, e = .returned (.string t) ∧ t.size = n ∧ w = w' := by
  go_enter Try.func60, Try.ntmps60
  go_wp2_with fail
  go_loopg [0, 1, 5] n (fun g s i o wr => ∃ (k : Nat) (t u : ByteArray), Hid (g = k) ∧ i = .int .i64 (k : Int) ∧ s = .string t ∧ o = .string u ∧ k ≤ 30 ∧ Hid (u.size + k * t.size = n) ∧ wr = w)
  case atStart => exact ⟨n, s, ⟨#[]⟩, Lib.hid rfl, rfl, rfl, rfl, hn, Lib.hid (by rw [hs]; show 0 + n * 1 = n; omega), rfl⟩
  case round =>
    obtain ⟨k, t, u, HG, rfl, rfl, rfl, hk, HS, rfl⟩ := hrel
    by_cases h0 : 0 < k
    · have h0i : (0 : Int) < (k : Int) := by omega
      have hts : t.size ≤ 30 := by
        have e := HS.out
        have := Nat.le_mul_of_pos_left t.size h0
        omega
      have hus : u.size ≤ 30 := by have e := HS.out; omega
      have E2 : Hid ((k : Int) / 2 = ((k / 2 : Nat) : Int)) := Lib.hid (by omega)
      by_cases h1 : k % 2 = 1
      · have h4 : ((k : Int) % 2 == 1) = true := by simp; omega
        have HS2 : Hid ((u ++ t).size + k / 2 * (t ++ t).size = n) := Lib.hid (by
          have e := HS.out
          rw [many_size, many_size]
          obtain ⟨d, rfl⟩ : ∃ d, k = 2 * d + 1 := ⟨k / 2, by omega⟩
          rw [show (2 * d + 1) / 2 = d from by omega, Nat.mul_add, ← e, Nat.add_mul, Nat.mul_comm 2 d, Nat.mul_assoc, Nat.two_mul, Nat.mul_add]
          omega)
        go_wp2_with fail
        go_roundg (k / 2)
        case measure => have := HG.out; omega
        case rel => exact ⟨k / 2, t ++ t, u ++ t, Lib.hid rfl, by rw [E2.out], rfl, rfl, by omega, HS2, rfl⟩
      · have h4 : ((k : Int) % 2 == 1) = false := by simp; omega
        have HS2 : Hid (u.size + k / 2 * (t ++ t).size = n) := Lib.hid (by
          have e := HS.out
          rw [many_size]
          obtain ⟨d, rfl⟩ : ∃ d, k = 2 * d := ⟨k / 2, by omega⟩
          rw [show 2 * d / 2 = d from by omega, Nat.mul_add, ← e, Nat.mul_comm 2 d, Nat.mul_assoc, Nat.two_mul, Nat.mul_add])
        go_wp2_with fail
        go_roundg (k / 2)
        case measure => have := HG.out; omega
        case rel => exact ⟨k / 2, t ++ t, u, Lib.hid rfl, by rw [E2.out], rfl, rfl, by omega, HS2, rfl⟩
    · obtain rfl : k = 0 := by omega
      have HF : Hid (u.size = n) := Lib.hid (by have := HS.out; omega)
      go_wp2_with fail
      go_ret
      exact ⟨u, rfl, HF.out, rfl⟩

set_option maxHeartbeats 800000 in
theorem l91Text_any (w : World) (B b m : Nat) (hm : m ≤ 999999000) (h : Rd w B b m) :
    Calls Try.prog 56 #[.pointer (some ⟨b, 0, none⟩)] w (Dr.Str 30 2 w B b m) := by
  go_enter Try.func56, Try.ntmps56
  go_wp2_with fail
  refine (pick_any _ (by omega) _ B b m (by omega) h).mono ?_
  rintro e w1 ⟨r, hr, rfl, h1, hg1⟩
  by_cases h0 : r = 0
  · subst h0
    go_wp2_with fail
    refine (pick_any _ (by omega) _ B b _ (by omega) h1).mono ?_
    rintro e w2 ⟨r2, hr2, rfl, h2, hg2⟩
    have HC := Lib.hid (l6Many_any ⟨#[120]⟩ (19 + r2) rfl (by omega) w2)
    have e2 : (19 : Int) + (r2 : Int) = ((19 + r2 : Nat) : Int) := by omega
    have E2 := Lib.hid e2
    clear e2
    go_wp2_with fail
    rw [E2.out]
    refine Calls.mono HC.out ?_
    rintro e w3 ⟨t, rfl, ht, rfl⟩
    go_wp2_with fail
    go_ret
    exact ⟨t, by omega, rfl, h2, grown_trans hg1 hg2⟩
  · have h0' : ((r : Int) == 0) = false := by simp; omega
    go_wp2_with fail
    refine Calls.mono (of_any (fun s => decide (s.size ≤ 30) = true) 6 _ (by omega) _ _ _ _ (by omega) (by have := h1.lt; omega) (h1.laid _) (laid_of (fun s => decide (s.size ≤ 30)) _ _ _ 6 rfl (by decide))) ?_
    rintro e w3 ⟨s, hs, rfl, h3, hg3⟩
    go_wp2_with fail
    go_ret
    exact ⟨s, by simpa using hs, rfl, h3, grown_trans (grown_laid hg1 _) hg3⟩

end Go.Proofs.Ytpbaimofffcnaaa
