/- UsersFind of the program and of the reference: the calls. -/
import Derived.Test.YtjoohmokjliecaaUsFind
namespace Go.Proofs.Ytjoohmokjliecaa
set_option linter.unusedVariables false
open Go.RowKit
open Us (U)

def Us.ans (us : List U) (nm : ByteArray) : Option U := if Us.usersOk us then Us.find us nm else Option.none
def Us.answer (us : List U) (nm : ByteArray) : Value := .tuple #[Us.val ((Us.ans us nm).getD Us.none), .bool (Us.ans us nm).isSome]

set_option maxHeartbeats 1600000 in
theorem l14Find_any (A : Option Addr) (us : List U) (c : Nat) (nm : ByteArray) (w : World) (h : AtUsers w w.heap.size A us) (hn : us.length ≤ maxLen) :
    Calls Try.prog 93 #[.slice A us.length c, .string nm] w fun e w' => ∃ r : Int, ((r = -1 ∧ Us.find us nm = none) ∨ ∃ (k : Nat) (u : U), r = k ∧ us[k]? = some u ∧ Us.find us nm = some u) ∧ e = .returned (.int .i64 r) ∧ Below w.heap.size w w' := by
  unfold maxLen at hn
  go_enter Try.func93, Try.ntmps93
  go_wp2_with fail
  go_loopg [5] us.length (fun g i wr => ∃ k : Nat, k ≤ us.length ∧ Hid (g = us.length - k) ∧ i = .int .i64 k ∧ Hid (Us.find us nm = (us.drop k).find? (Us.named nm)) ∧ Below w.heap.size w wr)
  case atStart => exact ⟨0, Nat.zero_le _, Lib.hid rfl, rfl, Lib.hid (by rw [List.drop_zero]; rfl), by go_grown⟩
  case round =>
    obtain ⟨k, hk, HG, rfl, HR, hb⟩ := hrel
    by_cases hlt2 : k < us.length
    · obtain ⟨g, off, rfl, hg, hc⟩ := (h.below hb).1 (by omega)
      obtain ⟨u, hu⟩ : ∃ u, us[k]? = some u := ⟨_, List.getElem?_eq_getElem hlt2⟩
      obtain ⟨d1, d2, d3⟩ := hc k u hu
      have HU := Lib.hid hu
      clear hc hu
      cases hn1 : Us.named nm u
      · have HN := Lib.hid (Us.find_next HR.out HU.out hn1)
        have hn2 : (u.name.toList == nm.toList) = false := hn1
        clear hn1
        go_wp2_with fail
        go_roundg (us.length - (k + 1))
        case measure => have := HG.out; omega
        case rel => exact ⟨k + 1, by omega, Lib.hid rfl, by go_num, HN, hb⟩
      · have HF := Lib.hid (Us.find_yes HR.out HU.out hn1)
        have hn2 : (u.name.toList == nm.toList) = true := hn1
        clear hn1
        go_wp2_with fail
        go_ret
        exact ⟨k, .inr ⟨k, u, rfl, HU.out, HF.out⟩, rfl, hb⟩
    · obtain rfl : k = us.length := by omega
      have HF : Hid (Us.find us nm = none) := Lib.hid (by rw [HR.out, List.drop_length]; rfl)
      go_wp2_with fail
      go_ret
      exact ⟨-1, .inl ⟨rfl, HF.out⟩, rfl, hb⟩

set_option maxHeartbeats 1600000 in
theorem iUsersFind_any (A : Option Addr) (us : List U) (c : Nat) (nm : ByteArray) (w : World) (h : AtUsers w w.heap.size A us) (hn : us.length ≤ maxLen) :
    Calls Try.prog 40 #[.slice A us.length c, .string nm] w fun e w' => e = .returned (Us.answer us nm) ∧ Below w.heap.size w w' := by
  go_enter Try.func40, Try.ntmps40
  go_wp2_with fail
  refine Calls.mono (iUsersValid_any A us c _ ((h.below (by go_grown)).mono (by simp; omega)) hn) ?_
  rintro e w1 ⟨rfl, hb1⟩
  have hbu : w1.heap[w.heap.size + 1]? = some (.cells #[.string ⟨#[]⟩, .string ⟨#[]⟩, .int .i64 0] 74 (0, 0)) := (hb1.block _ (by simp)).trans (by simpa using heap_alloc_new (w.alloc _) (.cells #[.string ⟨#[]⟩, .string ⟨#[]⟩, .int .i64 0] 74 (0, 0)))
  have hbq : w1.heap[w.heap.size]? = some (.cells #[.string nm] 9 (0, 0)) := (hb1.block _ (by simp; omega)).trans ((((Below.refl _ (w.alloc (.cells #[.string nm] 9 (0, 0)))).alloc (Nat.le_refl _) _).block _ (by simp)).trans (heap_alloc_new w _))
  have hsz : w.heap.size + 2 ≤ w1.heap.size := by have := hb1.size; simp at this; omega
  have hbw : Below w.heap.size w w1 := Below.trans (by go_grown) (hb1.mono (by simp; omega))
  have q0 : w1.cell? ⟨w.heap.size, 0, none⟩ = some (.string nm) := cell_at hbq 0 _ rfl
  have r0 : w1.cell? ⟨w.heap.size + 1, 0, none⟩ = some (.string ⟨#[]⟩) := cell_at hbu 0 _ rfl
  have r1 : w1.cell? ⟨w.heap.size + 1, 1, none⟩ = some (.string ⟨#[]⟩) := cell_at hbu 1 _ rfl
  have r2 : w1.cell? ⟨w.heap.size + 1, 2, none⟩ = some (.int .i64 0) := cell_at hbu 2 _ rfl
  have s0 := free_at hbu 0
  have s1 := free_at hbu 1
  have s2 := free_at hbu 2
  have HBU := Lib.hid hbu
  have HB1 := Lib.hid hb1
  clear hbu hbq hb1
  cases hok : Us.usersOk us
  · go_wp2_with fail
    refine bodyPost_ret (v := .tuple #[.agg #[.string ⟨#[]⟩, .string ⟨#[]⟩, .int .i64 0], .bool false]) (by simp [results, Try.results40, go_sem, r0, r1, r2]) rfl ⟨by unfold Us.answer Us.ans; rw [hok]; rfl, ?_⟩
    exact (((hbw.setCell (p := ⟨w.heap.size + 1, 0, none⟩) (by simp) _).setCell (p := ⟨w.heap.size + 1, 1, none⟩) (by simp) _).setCell (p := ⟨w.heap.size + 1, 2, none⟩) (by simp) _)
  · have hw1 := (h.below hbw).mono hbw.size
    have HA := Lib.hid hw1
    have Q0 := Lib.hid q0
    clear r0 r1 r2 s0 s1 s2 hw1 q0
    go_wp2_with fail
    refine Calls.mono (findBy_any A us c nm w.heap.size _ HA.out hn Q0.out (by omega)) ?_
    rintro e w2 ⟨rfl, hb2⟩
    have hbu : w2.heap[w.heap.size + 1]? = some (.cells #[.string ⟨#[]⟩, .string ⟨#[]⟩, .int .i64 0] 74 (0, 0)) := (hb2.block _ (by omega)).trans HBU.out
    have r0 : w2.cell? ⟨w.heap.size + 1, 0, none⟩ = some (.string ⟨#[]⟩) := cell_at hbu 0 _ rfl
    have r1 : w2.cell? ⟨w.heap.size + 1, 1, none⟩ = some (.string ⟨#[]⟩) := cell_at hbu 1 _ rfl
    have r2 : w2.cell? ⟨w.heap.size + 1, 2, none⟩ = some (.int .i64 0) := cell_at hbu 2 _ rfl
    have s0 := free_at hbu 0
    have s1 := free_at hbu 1
    have s2 := free_at hbu 2
    have hB := hbw.trans (hb2.mono hbw.size)
    have hA : Us.ans us nm = Us.find us nm := by unfold Us.ans; rw [hok]; rfl
    unfold Us.found
    generalize hu : (Us.find us nm).getD Us.none = u
    generalize hb : (Us.find us nm).isSome = b
    have HE : Hid (Us.answer us nm = .tuple #[.agg #[.string u.name, .string u.pass, .int .i64 u.quota], .bool b]) := Lib.hid (by unfold Us.answer; rw [hA, hu, hb]; rfl)
    unfold Us.val
    clear hbu hA hu hb
    go_wp2_with fail
    refine bodyPost_ret (v := .tuple #[.agg #[.string u.name, .string u.pass, .int .i64 u.quota], .bool b]) (by simp [results, Try.results40, go_sem, r0, r1, r2]) rfl ⟨by rw [HE.out], ?_⟩
    exact (((hB.setCell (p := ⟨w.heap.size + 1, 0, none⟩) (by simp) _).setCell (p := ⟨w.heap.size + 1, 1, none⟩) (by simp) _).setCell (p := ⟨w.heap.size + 1, 2, none⟩) (by simp) _)

set_option maxHeartbeats 1600000 in
theorem sUsersFind_any (A : Option Addr) (us : List U) (c : Nat) (nm : ByteArray) (w : World) (h : AtUsers w w.heap.size A us) (hn : us.length ≤ maxLen) :
    Calls Try.prog 63 #[.slice A us.length c, .string nm] w fun e w' => e = .returned (Us.answer us nm) ∧ Below w.heap.size w w' := by
  go_enter Try.func63, Try.ntmps63
  go_wp2_with fail
  refine Calls.mono (sUsersValid_any A us c _ ((h.below (by go_grown)).mono (by simp)) hn) ?_
  rintro e w1 ⟨rfl, hb1⟩
  have hbu : w1.heap[w.heap.size]? = some (.cells #[.string ⟨#[]⟩, .string ⟨#[]⟩, .int .i64 0] 74 (0, 0)) := (hb1.block _ (by simp)).trans (heap_alloc_new w _)
  have hsz : w.heap.size + 1 ≤ w1.heap.size := by have := hb1.size; simp at this; omega
  have hbw : Below w.heap.size w w1 := Below.trans (by go_grown) (hb1.mono (by simp))
  have HBU := Lib.hid hbu
  have hw1 := (h.below hbw).mono hbw.size
  clear hb1
  cases hok : Us.usersOk us
  · have r0 : w1.cell? ⟨w.heap.size, 0, none⟩ = some (.string ⟨#[]⟩) := cell_at hbu 0 _ rfl
    have r1 : w1.cell? ⟨w.heap.size, 1, none⟩ = some (.string ⟨#[]⟩) := cell_at hbu 1 _ rfl
    have r2 : w1.cell? ⟨w.heap.size, 2, none⟩ = some (.int .i64 0) := cell_at hbu 2 _ rfl
    have s0 := free_at hbu 0
    have s1 := free_at hbu 1
    have s2 := free_at hbu 2
    clear hbu
    go_wp2_with fail
    refine bodyPost_ret (v := .tuple #[.agg #[.string ⟨#[]⟩, .string ⟨#[]⟩, .int .i64 0], .bool false]) (by simp [results, Try.results63, go_sem, r0, r1, r2]) rfl ⟨by unfold Us.answer Us.ans; rw [hok]; rfl, ?_⟩
    exact (((hbw.setCell (p := ⟨w.heap.size, 0, none⟩) (by simp) _).setCell (p := ⟨w.heap.size, 1, none⟩) (by simp) _).setCell (p := ⟨w.heap.size, 2, none⟩) (by simp) _)
  · have HA := Lib.hid hw1
    clear hw1 hbu
    go_wp2_with fail
    refine Calls.mono (l14Find_any A us c nm _ HA.out hn) ?_
    rintro e w2 ⟨r, hr, rfl, hb2⟩
    have hA : Us.ans us nm = Us.find us nm := by unfold Us.ans; rw [hok]; rfl
    have hbu := (hb2.block w.heap.size (by omega)).trans HBU.out
    have hB := hbw.trans (hb2.mono hbw.size)
    rcases hr with ⟨rfl, hf⟩ | ⟨k, u, rfl, hk, hf⟩
    · have r0 : w2.cell? ⟨w.heap.size, 0, none⟩ = some (.string ⟨#[]⟩) := cell_at hbu 0 _ rfl
      have r1 : w2.cell? ⟨w.heap.size, 1, none⟩ = some (.string ⟨#[]⟩) := cell_at hbu 1 _ rfl
      have r2 : w2.cell? ⟨w.heap.size, 2, none⟩ = some (.int .i64 0) := cell_at hbu 2 _ rfl
      have s0 := free_at hbu 0
      have s1 := free_at hbu 1
      have s2 := free_at hbu 2
      have HF := Lib.hid (show Us.ans us nm = none from hA.trans hf)
      clear hbu hf hA
      go_wp2_with fail
      refine bodyPost_ret (v := .tuple #[.agg #[.string ⟨#[]⟩, .string ⟨#[]⟩, .int .i64 0], .bool false]) (by simp [results, Try.results63, go_sem, r0, r1, r2]) rfl ⟨by unfold Us.answer; rw [HF.out]; rfl, ?_⟩
      exact (((hB.setCell (p := ⟨w.heap.size, 0, none⟩) (by simp) _).setCell (p := ⟨w.heap.size, 1, none⟩) (by simp) _).setCell (p := ⟨w.heap.size, 2, none⟩) (by simp) _)
    · have hklt : k < us.length := (List.getElem?_eq_some_iff.1 hk).1
      have HF := Lib.hid hf
      have HE := Lib.hid (show Us.ans us nm = some u from hA.trans hf)
      have HK := Lib.hid hk
      have HBU2 := Lib.hid hbu
      have H2 := Lib.hid ((HA.out.below hb2).mono hb2.size)
      have hneg : decide ((k : Int) < 0) = false := by simp
      clear hbu hf hA hk
      go_wp2_with fail
      refine Calls.mono (l14Find_any A us c nm _ H2.out hn) ?_
      rintro e w3 ⟨r, hr, rfl, hb3⟩
      rcases hr with ⟨rfl, hf⟩ | ⟨k2, u2, rfl, hk2, hf⟩
      · rw [HF.out] at hf; cases hf
      · obtain rfl : u = u2 := by rw [HF.out] at hf; injection hf
        have hk2lt : k2 < us.length := (List.getElem?_eq_some_iff.1 hk2).1
        have hbu := (hb3.block w.heap.size (by have := hb2.size; omega)).trans HBU2.out
        obtain ⟨g, off, rfl, hg, hc⟩ := (H2.out.below hb3).1 (by omega)
        obtain ⟨d1, d2, d3⟩ := hc k2 u hk2
        have r0 : w3.cell? ⟨w.heap.size, 0, none⟩ = some (.string ⟨#[]⟩) := cell_at hbu 0 _ rfl
        have r1 : w3.cell? ⟨w.heap.size, 1, none⟩ = some (.string ⟨#[]⟩) := cell_at hbu 1 _ rfl
        have r2 : w3.cell? ⟨w.heap.size, 2, none⟩ = some (.int .i64 0) := cell_at hbu 2 _ rfl
        have s0 := free_at hbu 0
        have s1 := free_at hbu 1
        have s2 := free_at hbu 2
        have hB3 := hB.trans (hb3.mono hB.size)
        clear hbu hf hc hk2
        unfold maxLen at hn
        go_wp2_with fail
        refine bodyPost_ret (v := .tuple #[.agg #[.string u.name, .string u.pass, .int .i64 u.quota], .bool true]) (by simp [results, Try.results63, go_sem, r0, r1, r2]) rfl ⟨by unfold Us.answer; rw [HE.out]; rfl, ?_⟩
        exact (((hB3.setCell (p := ⟨w.heap.size, 0, none⟩) (by simp) _).setCell (p := ⟨w.heap.size, 1, none⟩) (by simp) _).setCell (p := ⟨w.heap.size, 2, none⟩) (by simp) _)

end Go.Proofs.Ytjoohmokjliecaa
