/- UsersFind of the program and of the reference. -/
import Derived.Test.YtjoohmokjliecaaUsSeq
import Derived.Test.YtjoohmokjliecaaUsW2
namespace Go.Proofs.Ytjoohmokjliecaa
set_option linter.unusedVariables false
open Go.RowKit
open Us (U)

def Us.val (u : U) : Value := .agg #[.string u.name, .string u.pass, .int .i64 u.quota]

/-- the user with a name -/
def Us.named (nm : ByteArray) (u : U) : Bool := u.name.toList == nm.toList
def Us.find (us : List U) (nm : ByteArray) : Option U := us.find? (Us.named nm)
def Us.none : U := ⟨⟨#[]⟩, ⟨#[]⟩, 0⟩
def Us.found (us : List U) (nm : ByteArray) : Value := .tuple #[Us.val ((Us.find us nm).getD Us.none), .bool (Us.find us nm).isSome]
theorem Us.find_yes {us : List U} {nm : ByteArray} {k : Nat} {u : U} (h : Us.find us nm = (us.drop k).find? (Us.named nm)) (hu : us[k]? = some u) (hn : Us.named nm u = true) : Us.find us nm = some u := by
  have hk : k < us.length := (List.getElem?_eq_some_iff.1 hu).1
  have e : us[k] = u := (List.getElem?_eq_some_iff.1 hu).2
  rw [h, List.drop_eq_getElem_cons hk, e, List.find?_cons_of_pos hn]
theorem Us.find_next {us : List U} {nm : ByteArray} {k : Nat} {u : U} (h : Us.find us nm = (us.drop k).find? (Us.named nm)) (hu : us[k]? = some u) (hn : Us.named nm u = false) : Us.find us nm = (us.drop (k + 1)).find? (Us.named nm) := by
  have hk : k < us.length := (List.getElem?_eq_some_iff.1 hu).1
  have e : us[k] = u := (List.getElem?_eq_some_iff.1 hu).2
  rw [h, List.drop_eq_getElem_cons hk, e, List.find?_cons_of_neg (by rw [hn]; decide)]

set_option maxHeartbeats 800000 in
theorem findTest_any (u : U) (nm : ByteArray) (q : Nat) (w : World) (hq : w.cell? ⟨q, 0, none⟩ = some (.string nm)) (hlt : q < w.heap.size) :
    Calls Try.prog 76 #[Us.val u, .pointer (some ⟨q, 0, none⟩)] w fun e w' => e = .returned (.bool (Us.named nm u)) ∧ Below w.heap.size w w' := by
  unfold Us.val
  go_enter Try.func76, Try.ntmps76
  go_wp2
  go_ret
  exact ⟨rfl, by go_grown⟩

set_option maxHeartbeats 1600000 in
theorem findBy_any (A : Option Addr) (us : List U) (c : Nat) (nm : ByteArray) (q : Nat) (w : World) (h : AtUsers w w.heap.size A us) (hn : us.length ≤ maxLen) (hq : w.cell? ⟨q, 0, none⟩ = some (.string nm)) (hlt : q < w.heap.size) :
    Calls Try.prog 75 #[.slice A us.length c, .func (Fn.func 76) #[] #[.pointer (some ⟨q, 0, none⟩)]] w fun e w' => e = .returned (Us.found us nm) ∧ Below w.heap.size w w' := by
  unfold maxLen at hn
  have HQ := Lib.hid hq
  clear hq
  go_enter Try.func75, Try.ntmps75
  go_wp2_with fail
  go_loopg [11] us.length (fun g i wr => ∃ k : Nat, k ≤ us.length ∧ Hid (g = us.length - k) ∧ i = .int .i64 k ∧ Hid (Us.find us nm = (us.drop k).find? (Us.named nm)) ∧ wr.heap[w.heap.size]? = some (.cells #[.string ⟨#[]⟩, .string ⟨#[]⟩, .int .i64 0] 74 (0, 0)) ∧ Below w.heap.size w wr)
  case atStart => exact ⟨0, Nat.zero_le _, Lib.hid rfl, rfl, Lib.hid (by rw [List.drop_zero]; rfl), heap_alloc_new w _, by go_grown⟩
  case round =>
    obtain ⟨k, hk, HG, rfl, HR, hbx, hb⟩ := hrel
    have r0 : wr.cell? ⟨w.heap.size, 0, none⟩ = some (.string ⟨#[]⟩) := cell_at hbx 0 _ rfl
    have r1 : wr.cell? ⟨w.heap.size, 1, none⟩ = some (.string ⟨#[]⟩) := cell_at hbx 1 _ rfl
    have r2 : wr.cell? ⟨w.heap.size, 2, none⟩ = some (.int .i64 0) := cell_at hbx 2 _ rfl
    have s0 := free_at hbx 0
    have s1 := free_at hbx 1
    have s2 := free_at hbx 2
    have hsz : w.heap.size < wr.heap.size := (Array.getElem?_eq_some_iff.1 hbx).1
    have HBX := Lib.hid hbx
    clear hbx
    by_cases hlt2 : k < us.length
    · obtain ⟨g, off, rfl, hg, hc⟩ := (h.below hb).1 (by omega)
      obtain ⟨u, hu⟩ : ∃ u, us[k]? = some u := ⟨_, List.getElem?_eq_getElem hlt2⟩
      obtain ⟨d1, d2, d3⟩ := hc k u hu
      have HU := Lib.hid hu
      clear hc hu
      have hq1 : ∀ o, (wr.alloc o).cell? ⟨q, 0, none⟩ = some (.string nm) := fun o => by rw [World.cell?_alloc_lt _ _ _ (by simp; omega), hb.cell (p := ⟨q, 0, none⟩) hlt]; exact HQ.out
      have HQ1 := Lib.hid hq1
      clear hq1
      go_wp2_with fail
      refine Calls.mono (findTest_any u nm q _ (HQ1.out _) (by simp; omega)) ?_
      rintro e w1 ⟨rfl, hb1⟩
      have hbw : Below wr.heap.size wr w1 := unbox hb1
      have hB := hb.trans (hbw.mono hb.size)
      have hbx1 : w1.heap[w.heap.size]? = some (.cells #[.string ⟨#[]⟩, .string ⟨#[]⟩, .int .i64 0] 74 (0, 0)) := (hbw.block _ hsz).trans HBX.out
      have hbu := boxed hb1
      cases hn1 : Us.named nm u
      · have HX1 := Lib.hid hbx1
        have HN := Lib.hid (Us.find_next HR.out HU.out hn1)
        clear hbx1 hbu r0 r1 r2 s0 s1 s2 d1 d2 d3
        go_wp2_with fail
        go_roundg (us.length - (k + 1))
        case measure => have := HG.out; omega
        case rel => exact ⟨k + 1, by omega, Lib.hid rfl, by go_num, HN, HX1.out, hB⟩
      · have HF := Lib.hid (Us.find_yes HR.out HU.out hn1)
        clear r0 r1 r2 s0 s1 s2 d1 d2 d3
        have r0 : w1.cell? ⟨w.heap.size, 0, none⟩ = some (.string ⟨#[]⟩) := cell_at hbx1 0 _ rfl
        have r1 : w1.cell? ⟨w.heap.size, 1, none⟩ = some (.string ⟨#[]⟩) := cell_at hbx1 1 _ rfl
        have r2 : w1.cell? ⟨w.heap.size, 2, none⟩ = some (.int .i64 0) := cell_at hbx1 2 _ rfl
        have s0 := free_at hbx1 0
        have s1 := free_at hbx1 1
        have s2 := free_at hbx1 2
        have d0 : w1.cell? ⟨wr.heap.size, 0, none⟩ = some (.string u.name) := cell_at hbu 0 _ rfl
        have d1 : w1.cell? ⟨wr.heap.size, 1, none⟩ = some (.string u.pass) := cell_at hbu 1 _ rfl
        have d2 : w1.cell? ⟨wr.heap.size, 2, none⟩ = some (.int .i64 u.quota) := cell_at hbu 2 _ rfl
        clear hbx1 hbu
        go_wp2_with fail
        refine bodyPost_ret (v := .tuple #[.agg #[.string u.name, .string u.pass, .int .i64 u.quota], .bool true]) (by simp [results, Try.results75, go_sem, r0, r1, r2]) rfl ⟨by unfold Us.found; rw [HF.out]; rfl, ?_⟩
        exact ((hB.setCell (p := ⟨w.heap.size, 0, none⟩) (Nat.le_refl _) _).setCell (p := ⟨w.heap.size, 1, none⟩) (Nat.le_refl _) _).setCell (p := ⟨w.heap.size, 2, none⟩) (Nat.le_refl _) _
    · obtain rfl : k = us.length := by omega
      have HF : Hid (Us.find us nm = none) := Lib.hid (by rw [HR.out, List.drop_length]; rfl)
      go_wp2_with fail
      refine bodyPost_ret (v := .tuple #[.agg #[.string ⟨#[]⟩, .string ⟨#[]⟩, .int .i64 0], .bool false]) (by simp [results, Try.results75, go_sem, r0, r1, r2, hsz]) rfl ⟨by unfold Us.found; rw [HF.out]; rfl, ?_⟩
      exact (((hb.setCell (p := ⟨w.heap.size, 0, none⟩) (Nat.le_refl _) _).setCell (p := ⟨w.heap.size, 1, none⟩) (Nat.le_refl _) _).setCell (p := ⟨w.heap.size, 2, none⟩) (Nat.le_refl _) _).alloc (by simp; omega) _

end Go.Proofs.Ytjoohmokjliecaa
