/- Lists of numbers: comparison and marks (eqIntS, markIntS, heldIntS of the laws). (The texts of RnMk, for a seat without letters.) -/
import Derived.Test.YtmlmdpdboigojaaGreatDoorOwT
import Derived.Test.YtmlmdpdboigojaaGreatDoorItB
import Derived.Test.YtmlmdpdboigojaaGreatDoorMk
import Derived.Deep.LoopGhost
import Derived.Deep.RegionWith
import Derived.Deep.DeepCutAuto
namespace Go.Proofs.YtmlmdpdboigojaaGreatDoor
set_option linter.unusedVariables false
open Go.RowKit

set_option maxHeartbeats 800000 in
theorem eqIntS_any (A A' : Option Addr) (ns : List Int) (c c' : Nat) (w : World) (h : At w w.heap.size 1 It.cells A ns) (h' : At w w.heap.size 1 It.cells A' ns) (hn : ns.length ≤ maxLen) :
    Calls Tryz.prog 10 #[.slice A ns.length c, .slice A' ns.length c'] w fun e w' => e = .returned (.bool true) ∧ Below w.heap.size w w' := by
  unfold maxLen at hn
  go_enter Tryz.func10, Tryz.ntmps10
  go_wp2_with fail
  go_loopg [5] ns.length (fun g i wr => ∃ k : Nat, k ≤ ns.length ∧ Hid (g = ns.length - k) ∧ i = .int .i64 k ∧ Below w.heap.size w wr)
  case atStart => exact ⟨0, Nat.zero_le _, Lib.hid rfl, rfl, Below.refl _ _⟩
  case round =>
    obtain ⟨k, hk, HG, rfl, hb⟩ := hrel
    by_cases hlt : k < ns.length
    · obtain ⟨g, off, rfl, hg, hc⟩ := At.ints (h.below hb) (by omega)
      obtain ⟨g', off', rfl, hg', hc'⟩ := At.ints (h'.below hb) (by omega)
      obtain ⟨u, hu⟩ : ∃ u, ns[k]? = some u := ⟨_, List.getElem?_eq_getElem hlt⟩
      have d1 := hc k u hu
      have e1 := hc' k u hu
      clear hc hc' hu
      have k1 : (k : Int) < (ns.length : Int) := by omega
      go_upto_region 6 with fail
      go_quiet (fail)
      go_wp2_with fail
      go_roundg (ns.length - (k + 1))
      case measure => have := HG.out; omega
      case rel => exact ⟨k + 1, by omega, Lib.hid rfl, by go_num, below_drewN hb _⟩
    · obtain rfl : k = ns.length := by omega
      go_wp2_with fail
      go_ret
      exact ⟨rfl, hb⟩

/-- the marks of n numbers, from a number on -/
def It.marks (q : Nat) : Nat → List Int
  | 0 => []
  | n + 1 => It.marks q n ++ [((q + n : Nat) : Int)]
theorem It.marks_len (q : Nat) : ∀ n, (It.marks q n).length = n
  | 0 => rfl
  | n + 1 => by rw [It.marks, List.length_append, It.marks_len q n]; rfl
theorem It.marks_succ (q n : Nat) : It.marks q (n + 1) = It.marks q n ++ [((q + n : Nat) : Int)] := rfl
theorem It.marks_get (q : Nat) : ∀ n k, k < n → (It.marks q n)[k]? = some ((q + k : Nat) : Int)
  | 0, k, h => by omega
  | n + 1, k, h => by
    rw [It.marks_succ]
    by_cases hk : k < n
    · rw [List.getElem?_append_left (by rw [It.marks_len]; exact hk)]
      exact It.marks_get q n k hk
    · obtain rfl : k = n := by omega
      rw [List.getElem?_append_right (by rw [It.marks_len]; exact Nat.le_refl _), It.marks_len, Nat.sub_self]; rfl
/-- the first k numbers are marked -/
def It.marked (us : List Int) (q k : Nat) : List Int := It.marks q k ++ us.drop k
theorem It.marked_len (us : List Int) (q k : Nat) (h : k ≤ us.length) : (It.marked us q k).length = us.length := by
  unfold It.marked; rw [List.length_append, It.marks_len, List.length_drop]; omega
theorem It.marked_get (us : List Int) (q k : Nat) {u : Int} (h : us[k]? = some u) : (It.marked us q k)[k]? = some u := by
  unfold It.marked
  rw [List.getElem?_append_right (by rw [It.marks_len]; exact Nat.le_refl _), It.marks_len, Nat.sub_self, List.getElem?_drop, Nat.add_zero, h]
theorem It.marked_set (us : List Int) (q k : Nat) (h : k < us.length) : (It.marked us q k).set k ((q + k : Nat) : Int) = It.marked us q (k + 1) := by
  unfold It.marked
  rw [List.set_append_right _ _ (by rw [It.marks_len]; exact Nat.le_refl _), It.marks_len, Nat.sub_self, List.drop_eq_getElem_cons h, List.set_cons_zero, It.marks_succ, List.append_assoc]; rfl
theorem It.marked_all (us : List Int) (q : Nat) : It.marked us q us.length = It.marks q us.length := by unfold It.marked; simp
/-- what marking gives -/
def It.Mkd (us : List Int) (q : Nat) (v : Value) (B : Nat) (w : World) (e : Ending) (w' : World) : Prop :=
  e = .returned (.int .i64 ((q + us.length : Nat) : Int)) ∧ It.Own w' B v (It.marks q us.length) ∧ w.grownBy w' v.ownBlock

set_option maxRecDepth 100000 in
set_option maxHeartbeats 1600000 in
theorem markIntS_any (A : Option Addr) (us : List Int) (c B q : Nat) (w : World) (h : It.Own w B (.slice A us.length c) us) (hq : 0 < q) (hn : q + us.length ≤ 100000000) :
    Calls Tryz.prog 15 #[.slice A us.length c, .int .i64 (q : Int)] w (It.Mkd us q (.slice A us.length c) B w) := by
  have hn1 : us.length ≤ 100000000 := by omega
  go_enter Tryz.func15, Tryz.ntmps15
  go_wp2_with fail
  go_loopg [1, 5] us.length (fun g m i wr => ∃ k : Nat, k ≤ us.length ∧ Hid (g = us.length - k) ∧ i = .int .i64 k ∧ m = .int .i64 ((q + k : Nat) : Int) ∧ Hid (wr.ownsRow B 3 1 (.slice A us.length c) us.length ((It.marked us q k).flatMap It.cells)) ∧ w.grownBy wr (Value.slice A us.length c).ownBlock)
  case atStart => exact ⟨0, Nat.zero_le _, Lib.hid rfl, rfl, rfl, Lib.hid h, World.grownBy.refl w _⟩
  case round =>
    obtain ⟨k, hk, HG, rfl, rfl, HO, hg⟩ := hrel
    by_cases hlt : k < us.length
    · obtain ⟨g, cc, e1, hgb, hgs⟩ := HO.out.form (by omega)
      injection e1 with e1 _ e2
      subst e1; subst e2
      obtain ⟨u, hu⟩ : ∃ u, us[k]? = some u := ⟨_, List.getElem?_eq_getElem hlt⟩
      have HU := Lib.hid (It.marked_get us q k hu)
      obtain ⟨x, hx⟩ : ∃ x : Nat, x = q + k := ⟨_, rfl⟩
      have HX := Lib.hid hx
      have hxb : (x : Int) ≤ 100000000 := by omega
      have hx0 : (0 : Int) ≤ (x : Int) := by omega
      have hki : (k : Int) < (us.length : Int) := by omega
      have hk0 : (0 : Int) ≤ (k : Int) := by omega
      rw [← hx]
      clear hx hu
      have e0 : wr.cell? ⟨g, k, none⟩ = some (.int .i64 u) := by
        have := own_cell (j := 0) It.cells_len HO.out HU.out rfl
        simpa using this
      have f0 : wr.frozen? ⟨g, k, none⟩ = false := HO.out.frozenAt _
      have hs1 := own_set (j := 0) (u' := ((x : Nat) : Int)) (v := .int .i64 (x : Int)) It.cells_len HO.out HU.out (by omega) rfl
      have hset : ((It.marked us q k).set k ((x : Nat) : Int)) = It.marked us q (k + 1) := by rw [HX.out]; exact It.marked_set us q k hlt
      rw [hset] at hs1
      simp only [Nat.mul_one, Nat.add_zero] at hs1
      have HS := Lib.hid hs1
      have HGW := Lib.hid (grown_set (b := g) hg k (.int .i64 (x : Int)))
      clear hs1 hset
      go_wp2_with fail
      go_roundg (us.length - (k + 1))
      case measure => have := HG.out; omega
      case rel => exact ⟨k + 1, by omega, Lib.hid rfl, by go_num, by have := HX.out; go_num, HS, HGW.out⟩
    · obtain rfl : k = us.length := by omega
      have ho := HO.out
      rw [It.marked_all] at ho
      go_wp2_with fail
      go_ret
      refine ⟨rfl, ?_, hg⟩
      unfold It.Own OwnL
      rw [It.marks_len]; exact ho

set_option maxRecDepth 100000 in
set_option maxHeartbeats 1600000 in
theorem heldIntS_any (A : Option Addr) (n c q : Nat) (w : World) (h : At w w.heap.size 1 It.cells A (It.marks q n)) (hq : 0 < q) (hn : q + n ≤ 100000000) :
    Calls Tryz.prog 16 #[.slice A n c, .int .i64 (q : Int)] w fun e w' => e = .returned (.int .i64 ((q + n : Nat) : Int)) ∧ Below w.heap.size w w' := by
  have hn1 : n ≤ 100000000 := by omega
  go_enter Tryz.func16, Tryz.ntmps16
  go_wp2_with fail
  go_loopg [1, 5] n (fun g m i wr => ∃ k : Nat, k ≤ n ∧ Hid (g = n - k) ∧ i = .int .i64 k ∧ m = .int .i64 ((q + k : Nat) : Int) ∧ Below w.heap.size w wr)
  case atStart => exact ⟨0, Nat.zero_le _, Lib.hid rfl, rfl, rfl, Below.refl _ _⟩
  case round =>
    obtain ⟨k, hk, HG, rfl, rfl, hb⟩ := hrel
    by_cases hlt : k < n
    · obtain ⟨g, off, rfl, hg, hc⟩ := At.ints (h.below hb) (by rw [It.marks_len]; omega)
      have d1 := hc k _ (It.marks_get q n k hlt)
      obtain ⟨x, hx⟩ : ∃ x : Nat, x = q + k := ⟨_, rfl⟩
      have HX := Lib.hid hx
      have hxb : (x : Int) ≤ 100000000 := by omega
      have hx0 : (0 : Int) ≤ (x : Int) := by omega
      have hki : (k : Int) < (n : Int) := by omega
      have hk0 : (0 : Int) ≤ (k : Int) := by omega
      rw [← hx] at d1 ⊢
      clear hx hc
      go_wp2_with fail
      go_roundg (n - (k + 1))
      case measure => have := HG.out; omega
      case rel => exact ⟨k + 1, by omega, Lib.hid rfl, by go_num, by have := HX.out; go_num, hb⟩
    · obtain rfl : k = n := by omega
      go_wp2_with fail
      go_ret
      exact ⟨rfl, hb⟩


end Go.Proofs.YtmlmdpdboigojaaGreatDoor
