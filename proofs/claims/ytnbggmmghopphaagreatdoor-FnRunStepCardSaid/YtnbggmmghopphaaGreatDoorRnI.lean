/- Lists of numbers and of letters: sameInts, hasInt, sameLetters of the laws. -/
import Derived.Test.YtnbggmmghopphaaGreatDoorSmUu
import Derived.Test.YtnbggmmghopphaaGreatDoorRnPlain
namespace Go.Proofs.YtnbggmmghopphaaGreatDoor
set_option linter.unusedVariables false
open Go.RowKit

def It.cells (n : Int) : List Value := [.int .i64 n]
theorem It.cells_len (n : Int) : (It.cells n).length = 1 := rfl
/-- a letter that lies in a row: its list lies elsewhere -/
structure Rl.L where
  f : ByteArray
  A : Option Addr
  us : List ByteArray
  c : Nat
  t : ByteArray
def Rl.cells (x : Rl.L) : List Value := [.string x.f, .slice x.A x.us.length x.c, .string x.t]
theorem Rl.cells_len (x : Rl.L) : (Rl.cells x).length = 3 := rfl
def Rl.v (x : Rl.L) : Rn.V := ⟨x.f, x.us, x.t⟩
def AtLets (w : World) (B : Nat) (A : Option Addr) (ls : List Rl.L) : Prop :=
  At w B 3 Rl.cells A ls ∧ ∀ x ∈ ls, AtStrs w B x.A x.us ∧ x.us.length ≤ 3 ∧ x.us.length ≤ x.c ∧ x.c ≤ maxLen
theorem AtLets.below {w w' : World} {B : Nat} {A : Option Addr} {ls : List Rl.L} (h : AtLets w B A ls) (hb : Below B w w') : AtLets w' B A ls :=
  ⟨h.1.below hb, fun x hx => ⟨(h.2 x hx).1.below hb, (h.2 x hx).2⟩⟩
theorem AtLets.mono {w : World} {B B' : Nat} {A : Option Addr} {ls : List Rl.L} (h : AtLets w B A ls) (hb : B ≤ B') : AtLets w B' A ls :=
  ⟨h.1.mono hb, fun x hx => ⟨(h.2 x hx).1.mono hb, (h.2 x hx).2⟩⟩
theorem At.ints {w : World} {B : Nat} {A : Option Addr} {ns : List Int} (h : At w B 1 It.cells A ns) (hl : 0 < ns.length) : ∃ g off, A = some ⟨g, off, none⟩ ∧ g < B ∧ ∀ i n, ns[i]? = some n → w.cell? ⟨g, off + i, none⟩ = some (.int .i64 n) := by
  obtain ⟨g, off, ha, hg, hc⟩ := h hl
  refine ⟨g, off, ha, hg, fun i n hn => ?_⟩
  have := hc i n hn 0 (.int .i64 n) rfl
  simpa using this

set_option maxHeartbeats 800000 in
theorem sameInts_any (A A' : Option Addr) (ns : List Int) (c c' : Nat) (w : World) (h : At w w.heap.size 1 It.cells A ns) (h' : At w w.heap.size 1 It.cells A' ns) (hn : ns.length ≤ maxLen) :
    Calls Tryz.prog 21 #[.slice A ns.length c, .slice A' ns.length c'] w fun e w' => e = .returned (.bool true) ∧ Below w.heap.size w w' := by
  unfold maxLen at hn
  go_enter Tryz.func21, Tryz.ntmps21
  go_wp2_with fail
  go_loopg [5] ns.length (fun g i wr => ∃ k : Nat, k ≤ ns.length ∧ Hid (g = ns.length - k) ∧ i = .int .i64 k ∧ Below w.heap.size w wr)
  case atStart => exact ⟨0, Nat.zero_le _, Lib.hid rfl, rfl, Below.refl _ _⟩
  case round =>
    obtain ⟨k, hk, HG, rfl, hb⟩ := hrel
    by_cases hlt : k < ns.length
    · obtain ⟨g, off, rfl, hg, hc⟩ := At.ints (h.below hb) (by omega)
      obtain ⟨g', off', rfl, hg', hc'⟩ := At.ints (h'.below hb) (by omega)
      obtain ⟨u, hu⟩ : ∃ u, ns[k]? = some u := ⟨_, List.getElem?_eq_getElem hlt⟩
      have d1 := hc k u hu
      have e1 := hc' k u hu
      clear hc hc' hu
      have k1 : (k : Int) < (ns.length : Int) := by omega
      go_upto_region 6 with fail
      go_quiet (fail)
      go_wp2_with fail
      go_roundg (ns.length - (k + 1))
      case measure => have := HG.out; omega
      case rel => exact ⟨k + 1, by omega, Lib.hid rfl, by go_num, below_drewN hb _⟩
    · obtain rfl : k = ns.length := by omega
      go_wp2_with fail
      go_ret
      exact ⟨rfl, hb⟩

set_option maxHeartbeats 1600000 in
theorem sameLetters_any (A A' : Option Addr) (ls ls' : List Rl.L) (c c' : Nat) (w : World) (h : AtLets w w.heap.size A ls) (h' : AtLets w w.heap.size A' ls') (he : ls.map Rl.v = ls'.map Rl.v) (hn : ls.length ≤ maxLen) :
    Calls Tryz.prog 22 #[.slice A ls.length c, .slice A' ls'.length c'] w fun e w' => e = .returned (.bool true) ∧ Below w.heap.size w w' := by
  unfold maxLen at hn
  have hll : ls'.length = ls.length := by have := congrArg List.length he; rw [List.length_map, List.length_map] at this; exact this.symm
  rw [hll]
  have HLL := Lib.hid hll
  have HE := Lib.hid he
  clear hll he
  go_enter Tryz.func22, Tryz.ntmps22
  go_wp2_with fail
  go_loopg [5] ls.length (fun g i wr => ∃ k : Nat, k ≤ ls.length ∧ Hid (g = ls.length - k) ∧ i = .int .i64 k ∧ Below w.heap.size w wr)
  case atStart => exact ⟨0, Nat.zero_le _, Lib.hid rfl, rfl, Below.refl _ _⟩
  case round =>
    obtain ⟨k, hk, HG, rfl, hb⟩ := hrel
    by_cases hlt : k < ls.length
    · obtain ⟨g, off, rfl, hg, hc⟩ := (h.below hb).1 (by omega)
      obtain ⟨g', off', rfl, hg', hc'⟩ := (h'.below hb).1 (by have := HLL.out; omega)
      obtain ⟨u, hu⟩ : ∃ u, ls[k]? = some u := ⟨_, List.getElem?_eq_getElem hlt⟩
      obtain ⟨u', hu'⟩ : ∃ u', ls'[k]? = some u' := ⟨_, List.getElem?_eq_getElem (by have := HLL.out; omega)⟩
      have hv : Rl.v u = Rl.v u' := by
        have h1 : (ls.map Rl.v)[k]? = some (Rl.v u) := by rw [List.getElem?_map, hu]; rfl
        have h2 : (ls'.map Rl.v)[k]? = some (Rl.v u') := by rw [List.getElem?_map, hu']; rfl
        rw [HE.out, h2] at h1
        injection h1 with h1
        exact h1.symm
      have HA := Lib.hid ((h.below hb).2 u (List.mem_of_getElem? hu))
      have HA' := Lib.hid ((h'.below hb).2 u' (List.mem_of_getElem? hu'))
      obtain ⟨f, A1, us, c1, t⟩ := u
      obtain ⟨f', A2, us', c2, t'⟩ := u'
      injection hv with e1 e2 e3
      dsimp only at e1 e2 e3
      subst e1 e2 e3
      have d0 : wr.cell? ⟨g, off + k * 3, none⟩ = some (.string f) := hc k _ hu 0 _ rfl
      have d1 : wr.cell? ⟨g, off + k * 3 + 1, none⟩ = some (.slice A1 us.length c1) := hc k _ hu 1 _ rfl
      have d2 : wr.cell? ⟨g, off + k * 3 + 2, none⟩ = some (.string t) := hc k _ hu 2 _ rfl
      have e0 : wr.cell? ⟨g', off' + k * 3, none⟩ = some (.string f) := hc' k _ hu' 0 _ rfl
      have e1 : wr.cell? ⟨g', off' + k * 3 + 1, none⟩ = some (.slice A2 us.length c2) := hc' k _ hu' 1 _ rfl
      have e2 : wr.cell? ⟨g', off' + k * 3 + 2, none⟩ = some (.string t) := hc' k _ hu' 2 _ rfl
      clear hc hc' hu hu'
      have k1 : (k : Int) < (ls.length : Int) := by omega
      have HW := Lib.hid hb.size
      have HSL := Lib.hid (fun (W : World) (hW : W.heap = wr.heap) => sameLetter_any f t A1 A2 us c1 c2 W (((HA.out.1.keep (w' := W) (fun i _ => by rw [hW])).mono (by rw [hW]; exact HW.out))) (((HA'.out.1.keep (w' := W) (fun i _ => by rw [hW])).mono (by rw [hW]; exact HW.out))) (by have h3 := HA.out.2.1; dsimp only at h3; unfold maxLen; omega))
      go_upto_region 6 with fail
      go_region_with (go_at_call 26; refine Calls.mono (HSL.out _ rfl) ?_; rintro e w1 ⟨rfl, hb1⟩)
      all_goals
        go_wp2_with fail
        go_roundg (ls.length - (k + 1))
        case measure => have := HG.out; omega
        case rel => exact ⟨k + 1, by omega, Lib.hid rfl, by go_num, hb.drew.trans (hb1.mono hb.size)⟩
    · obtain rfl : k = ls.length := by omega
      go_wp2_with fail
      go_ret
      exact ⟨rfl, hb⟩

set_option maxHeartbeats 800000 in
theorem hasInt_any (A : Option Addr) (ns : List Int) (c : Nat) (n : Int) (w : World) (h : At w w.heap.size 1 It.cells A ns) (hn : ns.length ≤ maxLen) (hm : n ∈ ns) :
    Calls Tryz.prog 30 #[.slice A ns.length c, .int .i64 n] w fun e w' => e = .returned (.bool true) ∧ Below w.heap.size w w' := by
  unfold maxLen at hn
  have HM := Lib.hid hm
  clear hm
  go_enter Tryz.func30, Tryz.ntmps30
  go_wp2_with fail
  go_loopg [5] ns.length (fun g i wr => ∃ k : Nat, k ≤ ns.length ∧ Hid (g = ns.length - k) ∧ i = .int .i64 k ∧ Hid (¬ n ∈ ns.take k) ∧ Below w.heap.size w wr)
  case atStart => exact ⟨0, Nat.zero_le _, Lib.hid rfl, rfl, Lib.hid (by simp), Below.refl _ _⟩
  case round =>
    obtain ⟨k, hk, HG, rfl, HA, hb⟩ := hrel
    by_cases hlt : k < ns.length
    · obtain ⟨g, off, rfl, hg, hc⟩ := At.ints (h.below hb) (by omega)
      obtain ⟨u, hu⟩ : ∃ u, ns[k]? = some u := ⟨_, List.getElem?_eq_getElem hlt⟩
      have d1 := hc k u hu
      have HU := Lib.hid hu
      clear hc hu
      have k1 : (k : Int) < (ns.length : Int) := by omega
      by_cases hq : u = n
      · have hq1 : (u == n) = true := by simpa using hq
        clear hq
        go_wp2_with fail
        go_ret
        exact ⟨rfl, hb⟩
      · have hq1 : (u == n) = false := by simpa using hq
        have HA2 : Hid (¬ n ∈ ns.take (k + 1)) := Lib.hid (by
          rw [List.take_add_one, HU.out]
          intro hx
          rcases List.mem_append.1 hx with hx | hx
          · exact HA.out hx
          · simp at hx; exact hq hx.symm)
        clear hq
        go_wp2_with fail
        go_roundg (ns.length - (k + 1))
        case measure => have := HG.out; omega
        case rel => exact ⟨k + 1, by omega, Lib.hid rfl, by go_num, HA2, hb⟩
    · obtain rfl : k = ns.length := by omega
      exact absurd HM.out (by have := HA.out; rwa [List.take_length] at this)

end Go.Proofs.YtnbggmmghopphaaGreatDoor
