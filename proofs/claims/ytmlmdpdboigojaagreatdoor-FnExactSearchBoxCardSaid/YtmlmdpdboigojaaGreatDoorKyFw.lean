/- keyFlagWord of the program: the word of a single flag. -/
import Derived.Test.YtmlmdpdboigojaaGreatDoorKyIm2
import Derived.Laws.Rows
namespace Go.Proofs.YtmlmdpdboigojaaGreatDoor
set_option linter.unusedVariables false
open Go.RowKit

/-- the names of the flags, as the package variable holds them -/
def Ky.names : List ByteArray := [⟨#[83, 101, 101, 110]⟩, ⟨#[65, 110, 115, 119, 101, 114, 101, 100]⟩, ⟨#[70, 108, 97, 103, 103, 101, 100]⟩, ⟨#[68, 101, 108, 101, 116, 101, 100]⟩, ⟨#[68, 114, 97, 102, 116]⟩]
def Ky.Fl (w : World) : Prop := ∀ i u, Ky.names[i]? = some u → w.cell? ⟨0, i, none⟩ = some (.string u)
theorem Ky.Fl.lt {w : World} (h : Ky.Fl w) : 0 < w.heap.size := World.block_lt_of_cell? w _ (h 0 _ rfl)
theorem Ky.Fl.below {w w' : World} (h : Ky.Fl w) (hb : Below w.heap.size w w') : Ky.Fl w' := fun i u hu => (hb.cell (p := ⟨0, i, none⟩) h.lt).trans (h i u hu)
/-- in lower case, none is empty -/
theorem Ky.low (u : ByteArray) (hu : u ∈ Ky.names) (w : World) :
    Calls Tryz.prog 68 #[.string u] w fun e w' => (∃ v : ByteArray, e = .returned (.string v) ∧ v.toList.isEmpty = false) ∧ Below w.heap.size w w' := by
  have key : u.size ≤ 140737488355328 ∧ (∀ (j : Nat) (b : UInt8), u.data.toList[j]? = some b → b.toNat < 128) ∧ (Lib.toLowerA u.data.toList).isEmpty = false := by
    have hall : ∀ l : List UInt8, (l.all fun b => decide (b.toNat < 128)) = true → ∀ (j : Nat) (b : UInt8), l[j]? = some b → b.toNat < 128 := fun l hl j b hb => by
      have := List.all_eq_true.1 hl b (List.mem_of_getElem? hb)
      simpa using this
    unfold Ky.names at hu
    simp only [List.mem_cons, List.not_mem_nil, or_false] at hu
    rcases hu with rfl | rfl | rfl | rfl | rfl
    · exact ⟨by decide, hall _ (by decide), by decide⟩
    · exact ⟨by decide, hall _ (by decide), by decide⟩
    · exact ⟨by decide, hall _ (by decide), by decide⟩
    · exact ⟨by decide, hall _ (by decide), by decide⟩
    · exact ⟨by decide, hall _ (by decide), by decide⟩
  refine (Tryz.strings_ToLower_ascii u w key.1 key.2.1).mono ?_
  rintro e w' ⟨rfl, hb⟩
  refine ⟨⟨_, rfl, ?_⟩, hb⟩
  rw [Go.ByteArray.toList_eq]
  simpa using key.2.2

set_option maxRecDepth 100000 in
set_option maxHeartbeats 1600000 in
theorem keyFlagWord_any (n : Int) (w : World) (h : Ky.Fl w) :
    Calls Tryz.prog 57 #[.int .i64 n] w fun e w' => (∃ v : ByteArray, e = .returned (.string v) ∧ v.toList.isEmpty = !Ky.flagOne n) ∧ Below w.heap.size w w' := by
  have h0 := h 0 _ rfl
  have h1 := h 1 _ rfl
  have h2 := h 2 _ rfl
  have h3 := h 3 _ rfl
  have h4 := h 4 _ rfl
  go_enter Tryz.func57, Tryz.ntmps57
  go_wp2_with fail
  have i0 : ∀ W : World, (Instr.index 114 (.agg #[.string ⟨#[83, 101, 101, 110]⟩, .string ⟨#[65, 110, 115, 119, 101, 114, 101, 100]⟩, .string ⟨#[70, 108, 97, 103, 103, 101, 100]⟩, .string ⟨#[68, 101, 108, 101, 116, 101, 100]⟩, .string ⟨#[68, 114, 97, 102, 116]⟩]) (.int .i64 0)).run Tryz.prog W = .ok (.string ⟨#[83, 101, 101, 110]⟩) W := fun _ => by kernel_rfl
  have i1 : ∀ W : World, (Instr.index 114 (.agg #[.string ⟨#[83, 101, 101, 110]⟩, .string ⟨#[65, 110, 115, 119, 101, 114, 101, 100]⟩, .string ⟨#[70, 108, 97, 103, 103, 101, 100]⟩, .string ⟨#[68, 101, 108, 101, 116, 101, 100]⟩, .string ⟨#[68, 114, 97, 102, 116]⟩]) (.int .i64 1)).run Tryz.prog W = .ok (.string ⟨#[65, 110, 115, 119, 101, 114, 101, 100]⟩) W := fun _ => by kernel_rfl
  have i2 : ∀ W : World, (Instr.index 114 (.agg #[.string ⟨#[83, 101, 101, 110]⟩, .string ⟨#[65, 110, 115, 119, 101, 114, 101, 100]⟩, .string ⟨#[70, 108, 97, 103, 103, 101, 100]⟩, .string ⟨#[68, 101, 108, 101, 116, 101, 100]⟩, .string ⟨#[68, 114, 97, 102, 116]⟩]) (.int .i64 2)).run Tryz.prog W = .ok (.string ⟨#[70, 108, 97, 103, 103, 101, 100]⟩) W := fun _ => by kernel_rfl
  have i3 : ∀ W : World, (Instr.index 114 (.agg #[.string ⟨#[83, 101, 101, 110]⟩, .string ⟨#[65, 110, 115, 119, 101, 114, 101, 100]⟩, .string ⟨#[70, 108, 97, 103, 103, 101, 100]⟩, .string ⟨#[68, 101, 108, 101, 116, 101, 100]⟩, .string ⟨#[68, 114, 97, 102, 116]⟩]) (.int .i64 3)).run Tryz.prog W = .ok (.string ⟨#[68, 101, 108, 101, 116, 101, 100]⟩) W := fun _ => by kernel_rfl
  have i4 : ∀ W : World, (Instr.index 114 (.agg #[.string ⟨#[83, 101, 101, 110]⟩, .string ⟨#[65, 110, 115, 119, 101, 114, 101, 100]⟩, .string ⟨#[70, 108, 97, 103, 103, 101, 100]⟩, .string ⟨#[68, 101, 108, 101, 116, 101, 100]⟩, .string ⟨#[68, 114, 97, 102, 116]⟩]) (.int .i64 4)).run Tryz.prog W = .ok (.string ⟨#[68, 114, 97, 102, 116]⟩) W := fun _ => by kernel_rfl
  go_loopg [6] 5 (fun g i wr => ∃ k : Nat, k ≤ 5 ∧ Hid (g = 5 - k) ∧ i = .int .i64 k ∧ Hid (∀ j, j < k → n ≠ ((2 ^ j : Nat) : Int)) ∧ wr = w)
  case atStart => exact ⟨0, Nat.zero_le _, Lib.hid rfl, rfl, Lib.hid (fun j hj => absurd hj (by omega)), rfl⟩
  case round =>
    obtain ⟨k, hk, HG, rfl, HQ, rfl⟩ := hrel
    obtain rfl | rfl | rfl | rfl | rfl | rfl : k = 0 ∨ k = 1 ∨ k = 2 ∨ k = 3 ∨ k = 4 ∨ k = 5 := by omega
    · by_cases hn : n = 1
      · subst hn
        go_wp2_with fail
        refine (Ky.low ⟨#[83, 101, 101, 110]⟩ (List.mem_of_getElem? (i := 0) rfl) _).mono ?_
        rintro e w2 ⟨⟨v, rfl, hv⟩, hb2⟩
        have HV := Lib.hid hv
        clear hv
        go_wp2_with fail
        go_ret
        exact ⟨⟨v, rfl, by rw [HV.out]; rfl⟩, hb2⟩
      · go_wp2_with fail
        go_roundg 4
        case measure => have := HG.out; omega
        case rel =>
          refine ⟨1, by omega, Lib.hid rfl, by go_num, Lib.hid (fun j hj => ?_), rfl⟩
          rcases Nat.lt_or_ge j 0 with h' | h'
          · exact HQ.out j h'
          · have e : j = 0 := by omega
            subst e
            exact hn
    · by_cases hn : n = 2
      · subst hn
        go_wp2_with fail
        refine (Ky.low ⟨#[65, 110, 115, 119, 101, 114, 101, 100]⟩ (List.mem_of_getElem? (i := 1) rfl) _).mono ?_
        rintro e w2 ⟨⟨v, rfl, hv⟩, hb2⟩
        have HV := Lib.hid hv
        clear hv
        go_wp2_with fail
        go_ret
        exact ⟨⟨v, rfl, by rw [HV.out]; rfl⟩, hb2⟩
      · go_wp2_with fail
        go_roundg 3
        case measure => have := HG.out; omega
        case rel =>
          refine ⟨2, by omega, Lib.hid rfl, by go_num, Lib.hid (fun j hj => ?_), rfl⟩
          rcases Nat.lt_or_ge j 1 with h' | h'
          · exact HQ.out j h'
          · have e : j = 1 := by omega
            subst e
            exact hn
    · by_cases hn : n = 4
      · subst hn
        go_wp2_with fail
        refine (Ky.low ⟨#[70, 108, 97, 103, 103, 101, 100]⟩ (List.mem_of_getElem? (i := 2) rfl) _).mono ?_
        rintro e w2 ⟨⟨v, rfl, hv⟩, hb2⟩
        have HV := Lib.hid hv
        clear hv
        go_wp2_with fail
        go_ret
        exact ⟨⟨v, rfl, by rw [HV.out]; rfl⟩, hb2⟩
      · go_wp2_with fail
        go_roundg 2
        case measure => have := HG.out; omega
        case rel =>
          refine ⟨3, by omega, Lib.hid rfl, by go_num, Lib.hid (fun j hj => ?_), rfl⟩
          rcases Nat.lt_or_ge j 2 with h' | h'
          · exact HQ.out j h'
          · have e : j = 2 := by omega
            subst e
            exact hn
    · by_cases hn : n = 8
      · subst hn
        go_wp2_with fail
        refine (Ky.low ⟨#[68, 101, 108, 101, 116, 101, 100]⟩ (List.mem_of_getElem? (i := 3) rfl) _).mono ?_
        rintro e w2 ⟨⟨v, rfl, hv⟩, hb2⟩
        have HV := Lib.hid hv
        clear hv
        go_wp2_with fail
        go_ret
        exact ⟨⟨v, rfl, by rw [HV.out]; rfl⟩, hb2⟩
      · go_wp2_with fail
        go_roundg 1
        case measure => have := HG.out; omega
        case rel =>
          refine ⟨4, by omega, Lib.hid rfl, by go_num, Lib.hid (fun j hj => ?_), rfl⟩
          rcases Nat.lt_or_ge j 3 with h' | h'
          · exact HQ.out j h'
          · have e : j = 3 := by omega
            subst e
            exact hn
    · by_cases hn : n = 16
      · subst hn
        go_wp2_with fail
        refine (Ky.low ⟨#[68, 114, 97, 102, 116]⟩ (List.mem_of_getElem? (i := 4) rfl) _).mono ?_
        rintro e w2 ⟨⟨v, rfl, hv⟩, hb2⟩
        have HV := Lib.hid hv
        clear hv
        go_wp2_with fail
        go_ret
        exact ⟨⟨v, rfl, by rw [HV.out]; rfl⟩, hb2⟩
      · go_wp2_with fail
        go_roundg 0
        case measure => have := HG.out; omega
        case rel =>
          refine ⟨5, by omega, Lib.hid rfl, by go_num, Lib.hid (fun j hj => ?_), rfl⟩
          rcases Nat.lt_or_ge j 4 with h' | h'
          · exact HQ.out j h'
          · have e : j = 4 := by omega
            subst e
            exact hn
    · have HF : Hid (Ky.flagOne n = false) := Lib.hid (by
        have q0 := HQ.out 0 (by omega)
        have q1 := HQ.out 1 (by omega)
        have q2 := HQ.out 2 (by omega)
        have q3 := HQ.out 3 (by omega)
        have q4 := HQ.out 4 (by omega)
        simp at q0 q1 q2 q3 q4
        unfold Ky.flagOne
        simp [q0, q1, q2, q3, q4])
      go_wp2_with fail
      go_ret
      exact ⟨⟨_, rfl, by rw [HF.out, Go.ByteArray.toList_eq]; rfl⟩, Below.refl _ _⟩
end Go.Proofs.YtmlmdpdboigojaaGreatDoor
