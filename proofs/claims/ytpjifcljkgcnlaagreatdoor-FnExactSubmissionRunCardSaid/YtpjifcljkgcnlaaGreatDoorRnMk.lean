/- eqIntS, eqLetterS, markIntS, heldIntS of the laws. -/
import Derived.Test.YtpjifcljkgcnlaaGreatDoorRnSt
import Derived.Test.YtpjifcljkgcnlaaGreatDoorLtEx
import Derived.Test.YtpjifcljkgcnlaaGreatDoorUsMk
namespace Go.Proofs.YtpjifcljkgcnlaaGreatDoor
set_option linter.unusedVariables false
open Go.RowKit

set_option maxHeartbeats 800000 in
theorem eqIntS_any (A A' : Option Addr) (ns : List Int) (c c' : Nat) (w : World) (h : At w w.heap.size 1 It.cells A ns) (h' : At w w.heap.size 1 It.cells A' ns) (hn : ns.length ≤ maxLen) :
    Calls Tryz.prog 10 #[.slice A ns.length c, .slice A' ns.length c'] w fun e w' => e = .returned (.bool true) ∧ Below w.heap.size w w' := by
  unfold maxLen at hn
  go_enter Tryz.func10, Tryz.ntmps10
  go_wp2_with fail
  go_loopg [5] ns.length (fun g i wr => ∃ k : Nat, k ≤ ns.length ∧ Hid (g = ns.length - k) ∧ i = .int .i64 k ∧ Below w.heap.size w wr)
  case atStart => exact ⟨0, Nat.zero_le _, Lib.hid rfl, rfl, Below.refl _ _⟩
  case round =>
    obtain ⟨k, hk, HG, rfl, hb⟩ := hrel
    by_cases hlt : k < ns.length
    · obtain ⟨g, off, rfl, hg, hc⟩ := At.ints (h.below hb) (by omega)
      obtain ⟨g', off', rfl, hg', hc'⟩ := At.ints (h'.below hb) (by omega)
      obtain ⟨u, hu⟩ : ∃ u, ns[k]? = some u := ⟨_, List.getElem?_eq_getElem hlt⟩
      have d1 := hc k u hu
      have e1 := hc' k u hu
      clear hc hc' hu
      have k1 : (k : Int) < (ns.length : Int) := by omega
      go_upto_region 6 with fail
      go_quiet (fail)
      go_wp2_with fail
      go_roundg (ns.length - (k + 1))
      case measure => have := HG.out; omega
      case rel => exact ⟨k + 1, by omega, Lib.hid rfl, by go_num, below_drewN hb _⟩
    · obtain rfl : k = ns.length := by omega
      go_wp2_with fail
      go_ret
      exact ⟨rfl, hb⟩

set_option maxHeartbeats 1600000 in
theorem eqLetterS_any (A A' : Option Addr) (ls ls' : List Rl.L) (c c' : Nat) (w : World) (h : AtLets w w.heap.size A ls) (h' : AtLets w w.heap.size A' ls') (he : ls.map Rl.v = ls'.map Rl.v) (hn : ls.length ≤ maxLen) :
    Calls Tryz.prog 11 #[.slice A ls.length c, .slice A' ls'.length c'] w fun e w' => e = .returned (.bool true) ∧ Below w.heap.size w w' := by
  unfold maxLen at hn
  have hll : ls'.length = ls.length := by have := congrArg List.length he; rw [List.length_map, List.length_map] at this; exact this.symm
  rw [hll]
  have HLL := Lib.hid hll
  have HE := Lib.hid he
  clear hll he
  go_enter Tryz.func11, Tryz.ntmps11
  go_wp2_with fail
  go_loopg [5] ls.length (fun g i wr => ∃ k : Nat, k ≤ ls.length ∧ Hid (g = ls.length - k) ∧ i = .int .i64 k ∧ Below w.heap.size w wr)
  case atStart => exact ⟨0, Nat.zero_le _, Lib.hid rfl, rfl, Below.refl _ _⟩
  case round =>
    obtain ⟨k, hk, HG, rfl, hb⟩ := hrel
    by_cases hlt : k < ls.length
    · obtain ⟨g, off, rfl, hg, hc⟩ := (h.below hb).1 (by omega)
      obtain ⟨g', off', rfl, hg', hc'⟩ := (h'.below hb).1 (by have := HLL.out; omega)
      obtain ⟨u, hu⟩ : ∃ u, ls[k]? = some u := ⟨_, List.getElem?_eq_getElem hlt⟩
      obtain ⟨u', hu'⟩ : ∃ u', ls'[k]? = some u' := ⟨_, List.getElem?_eq_getElem (by have := HLL.out; omega)⟩
      have hv : Rl.v u = Rl.v u' := by
        have h1 : (ls.map Rl.v)[k]? = some (Rl.v u) := by rw [List.getElem?_map, hu]; rfl
        have h2 : (ls'.map Rl.v)[k]? = some (Rl.v u') := by rw [List.getElem?_map, hu']; rfl
        rw [HE.out, h2] at h1
        injection h1 with h1
        exact h1.symm
      have HA := Lib.hid ((h.below hb).2 u (List.mem_of_getElem? hu))
      have HA' := Lib.hid ((h'.below hb).2 u' (List.mem_of_getElem? hu'))
      obtain ⟨f, A1, us, c1, t⟩ := u
      obtain ⟨f', A2, us', c2, t'⟩ := u'
      injection hv with e1 e2 e3
      dsimp only at e1 e2 e3
      subst e1 e2 e3
      have d0 : wr.cell? ⟨g, off + k * 3, none⟩ = some (.string f) := hc k _ hu 0 _ rfl
      have d1 : wr.cell? ⟨g, off + k * 3 + 1, none⟩ = some (.slice A1 us.length c1) := hc k _ hu 1 _ rfl
      have d2 : wr.cell? ⟨g, off + k * 3 + 2, none⟩ = some (.string t) := hc k _ hu 2 _ rfl
      have e0 : wr.cell? ⟨g', off' + k * 3, none⟩ = some (.string f) := hc' k _ hu' 0 _ rfl
      have e1 : wr.cell? ⟨g', off' + k * 3 + 1, none⟩ = some (.slice A2 us.length c2) := hc' k _ hu' 1 _ rfl
      have e2 : wr.cell? ⟨g', off' + k * 3 + 2, none⟩ = some (.string t) := hc' k _ hu' 2 _ rfl
      clear hc hc' hu hu'
      have k1 : (k : Int) < (ls.length : Int) := by omega
      have HW := Lib.hid hb.size
      have HSL := Lib.hid (fun (W : World) (hW : W.heap = wr.heap) => eqLetter_any f t A1 A2 us c1 c2 W (((HA.out.1.keep (w' := W) (fun i _ => by rw [hW])).mono (by rw [hW]; exact HW.out))) (((HA'.out.1.keep (w' := W) (fun i _ => by rw [hW])).mono (by rw [hW]; exact HW.out))) (by have h3 := HA.out.2.1; dsimp only at h3; unfold maxLen; omega))
      go_upto_region 6 with fail
      go_region_with (go_at_call 30; refine Calls.mono (HSL.out _ rfl) ?_; rintro e w1 ⟨rfl, hb1⟩)
      all_goals
        go_wp2_with fail
        go_roundg (ls.length - (k + 1))
        case measure => have := HG.out; omega
        case rel => exact ⟨k + 1, by omega, Lib.hid rfl, by go_num, hb.drew.trans (hb1.mono hb.size)⟩
    · obtain rfl : k = ls.length := by omega
      go_wp2_with fail
      go_ret
      exact ⟨rfl, hb⟩


/-- the marks of n numbers, from a number on -/
def It.marks (q : Nat) : Nat → List Int
  | 0 => []
  | n + 1 => It.marks q n ++ [((q + n : Nat) : Int)]
theorem It.marks_len (q : Nat) : ∀ n, (It.marks q n).length = n
  | 0 => rfl
  | n + 1 => by rw [It.marks, List.length_append, It.marks_len q n]; rfl
theorem It.marks_succ (q n : Nat) : It.marks q (n + 1) = It.marks q n ++ [((q + n : Nat) : Int)] := rfl
theorem It.marks_get (q : Nat) : ∀ n k, k < n → (It.marks q n)[k]? = some ((q + k : Nat) : Int)
  | 0, k, h => by omega
  | n + 1, k, h => by
    rw [It.marks_succ]
    by_cases hk : k < n
    · rw [List.getElem?_append_left (by rw [It.marks_len]; exact hk)]
      exact It.marks_get q n k hk
    · obtain rfl : k = n := by omega
      rw [List.getElem?_append_right (by rw [It.marks_len]; exact Nat.le_refl _), It.marks_len, Nat.sub_self]; rfl
/-- the first k numbers are marked -/
def It.marked (us : List Int) (q k : Nat) : List Int := It.marks q k ++ us.drop k
theorem It.marked_len (us : List Int) (q k : Nat) (h : k ≤ us.length) : (It.marked us q k).length = us.length := by
  unfold It.marked; rw [List.length_append, It.marks_len, List.length_drop]; omega
theorem It.marked_get (us : List Int) (q k : Nat) {u : Int} (h : us[k]? = some u) : (It.marked us q k)[k]? = some u := by
  unfold It.marked
  rw [List.getElem?_append_right (by rw [It.marks_len]; exact Nat.le_refl _), It.marks_len, Nat.sub_self, List.getElem?_drop, Nat.add_zero, h]
theorem It.marked_set (us : List Int) (q k : Nat) (h : k < us.length) : (It.marked us q k).set k ((q + k : Nat) : Int) = It.marked us q (k + 1) := by
  unfold It.marked
  rw [List.set_append_right _ _ (by rw [It.marks_len]; exact Nat.le_refl _), It.marks_len, Nat.sub_self, List.drop_eq_getElem_cons h, List.set_cons_zero, It.marks_succ, List.append_assoc]; rfl
theorem It.marked_all (us : List Int) (q : Nat) : It.marked us q us.length = It.marks q us.length := by unfold It.marked; simp
/-- what marking gives -/
def It.Mkd (us : List Int) (q : Nat) (v : Value) (B : Nat) (w : World) (e : Ending) (w' : World) : Prop :=
  e = .returned (.int .i64 ((q + us.length : Nat) : Int)) ∧ It.Own w' B v (It.marks q us.length) ∧ w.grownBy w' v.ownBlock

set_option maxRecDepth 100000 in
set_option maxHeartbeats 1600000 in
theorem markIntS_any (A : Option Addr) (us : List Int) (c B q : Nat) (w : World) (h : It.Own w B (.slice A us.length c) us) (hq : 0 < q) (hn : q + us.length ≤ 100000000) :
    Calls Tryz.prog 16 #[.slice A us.length c, .int .i64 (q : Int)] w (It.Mkd us q (.slice A us.length c) B w) := by
  have hn1 : us.length ≤ 100000000 := by omega
  go_enter Tryz.func16, Tryz.ntmps16
  go_wp2_with fail
  go_loopg [1, 5] us.length (fun g m i wr => ∃ k : Nat, k ≤ us.length ∧ Hid (g = us.length - k) ∧ i = .int .i64 k ∧ m = .int .i64 ((q + k : Nat) : Int) ∧ Hid (wr.ownsRow B 3 1 (.slice A us.length c) us.length ((It.marked us q k).flatMap It.cells)) ∧ w.grownBy wr (Value.slice A us.length c).ownBlock)
  case atStart => exact ⟨0, Nat.zero_le _, Lib.hid rfl, rfl, rfl, Lib.hid h, World.grownBy.refl w _⟩
  case round =>
    obtain ⟨k, hk, HG, rfl, rfl, HO, hg⟩ := hrel
    by_cases hlt : k < us.length
    · obtain ⟨g, cc, e1, hgb, hgs⟩ := HO.out.form (by omega)
      injection e1 with e1 _ e2
      subst e1; subst e2
      obtain ⟨u, hu⟩ : ∃ u, us[k]? = some u := ⟨_, List.getElem?_eq_getElem hlt⟩
      have HU := Lib.hid (It.marked_get us q k hu)
      obtain ⟨x, hx⟩ : ∃ x : Nat, x = q + k := ⟨_, rfl⟩
      have HX := Lib.hid hx
      have hxb : (x : Int) ≤ 100000000 := by omega
      have hx0 : (0 : Int) ≤ (x : Int) := by omega
      have hki : (k : Int) < (us.length : Int) := by omega
      have hk0 : (0 : Int) ≤ (k : Int) := by omega
      rw [← hx]
      clear hx hu
      have e0 : wr.cell? ⟨g, k, none⟩ = some (.int .i64 u) := by
        have := own_cell (j := 0) It.cells_len HO.out HU.out rfl
        simpa using this
      have f0 : wr.frozen? ⟨g, k, none⟩ = false := HO.out.frozenAt _
      have hs1 := own_set (j := 0) (u' := ((x : Nat) : Int)) (v := .int .i64 (x : Int)) It.cells_len HO.out HU.out (by omega) rfl
      have hset : ((It.marked us q k).set k ((x : Nat) : Int)) = It.marked us q (k + 1) := by rw [HX.out]; exact It.marked_set us q k hlt
      rw [hset] at hs1
      simp only [Nat.mul_one, Nat.add_zero] at hs1
      have HS := Lib.hid hs1
      have HGW := Lib.hid (grown_set (b := g) hg k (.int .i64 (x : Int)))
      clear hs1 hset
      go_wp2_with fail
      go_roundg (us.length - (k + 1))
      case measure => have := HG.out; omega
      case rel => exact ⟨k + 1, by omega, Lib.hid rfl, by go_num, by have := HX.out; go_num, HS, HGW.out⟩
    · obtain rfl : k = us.length := by omega
      have ho := HO.out
      rw [It.marked_all] at ho
      go_wp2_with fail
      go_ret
      refine ⟨rfl, ?_, hg⟩
      unfold It.Own OwnL
      rw [It.marks_len]; exact ho

set_option maxRecDepth 100000 in
set_option maxHeartbeats 1600000 in
theorem heldIntS_any (A : Option Addr) (n c q : Nat) (w : World) (h : At w w.heap.size 1 It.cells A (It.marks q n)) (hq : 0 < q) (hn : q + n ≤ 100000000) :
    Calls Tryz.prog 18 #[.slice A n c, .int .i64 (q : Int)] w fun e w' => e = .returned (.int .i64 ((q + n : Nat) : Int)) ∧ Below w.heap.size w w' := by
  have hn1 : n ≤ 100000000 := by omega
  go_enter Tryz.func18, Tryz.ntmps18
  go_wp2_with fail
  go_loopg [1, 5] n (fun g m i wr => ∃ k : Nat, k ≤ n ∧ Hid (g = n - k) ∧ i = .int .i64 k ∧ m = .int .i64 ((q + k : Nat) : Int) ∧ Below w.heap.size w wr)
  case atStart => exact ⟨0, Nat.zero_le _, Lib.hid rfl, rfl, rfl, Below.refl _ _⟩
  case round =>
    obtain ⟨k, hk, HG, rfl, rfl, hb⟩ := hrel
    by_cases hlt : k < n
    · obtain ⟨g, off, rfl, hg, hc⟩ := At.ints (h.below hb) (by rw [It.marks_len]; omega)
      have d1 := hc k _ (It.marks_get q n k hlt)
      obtain ⟨x, hx⟩ : ∃ x : Nat, x = q + k := ⟨_, rfl⟩
      have HX := Lib.hid hx
      have hxb : (x : Int) ≤ 100000000 := by omega
      have hx0 : (0 : Int) ≤ (x : Int) := by omega
      have hki : (k : Int) < (n : Int) := by omega
      have hk0 : (0 : Int) ≤ (k : Int) := by omega
      rw [← hx] at d1 ⊢
      clear hx hc
      go_wp2_with fail
      go_roundg (n - (k + 1))
      case measure => have := HG.out; omega
      case rel => exact ⟨k + 1, by omega, Lib.hid rfl, by go_num, by have := HX.out; go_num, hb⟩
    · obtain rfl : k = n := by omega
      go_wp2_with fail
      go_ret
      exact ⟨rfl, hb⟩


/-- the marks of a letter, of letters, from a number on -/
def Rl.mk1 (q : Nat) (x : Rl.L) : Rl.L := ⟨Mk.text q, x.A, St.marks (q + 1) x.us.length, x.c, Mk.text (q + 1 + x.us.length)⟩
def Rl.cnt : List Rl.L → Nat
  | [] => 0
  | x :: r => 2 + x.us.length + Rl.cnt r
def Rl.marks (q : Nat) : List Rl.L → List Rl.L
  | [] => []
  | x :: r => Rl.mk1 q x :: Rl.marks (q + (2 + x.us.length)) r
theorem Rl.val_mk1 (q : Nat) (x : Rl.L) : Rl.val (Rl.mk1 q x) = Rl.val x := by unfold Rl.val Rl.mk1; dsimp only; rw [St.marks_len]
theorem Rl.cnt_cons (x : Rl.L) (r : List Rl.L) : Rl.cnt (x :: r) = 2 + x.us.length + Rl.cnt r := rfl
theorem Rl.marks_cons (q : Nat) (x : Rl.L) (r : List Rl.L) : Rl.marks q (x :: r) = Rl.mk1 q x :: Rl.marks (q + (2 + x.us.length)) r := rfl
theorem Rl.marks_len : ∀ (q : Nat) (ls : List Rl.L), (Rl.marks q ls).length = ls.length
  | q, [] => rfl
  | q, x :: r => by rw [Rl.marks_cons, List.length_cons, List.length_cons, Rl.marks_len]
theorem Rl.cnt_app : ∀ (a b : List Rl.L), Rl.cnt (a ++ b) = Rl.cnt a + Rl.cnt b
  | [], b => by rw [List.nil_append]; exact (Nat.zero_add _).symm
  | x :: r, b => by rw [List.cons_append, Rl.cnt_cons, Rl.cnt_cons, Rl.cnt_app r b]; omega
theorem Rl.marks_app : ∀ (q : Nat) (a b : List Rl.L), Rl.marks q (a ++ b) = Rl.marks q a ++ Rl.marks (q + Rl.cnt a) b
  | q, [], b => rfl
  | q, x :: r, b => by rw [List.cons_append, Rl.marks_cons, Rl.marks_cons, Rl.cnt_cons, Rl.marks_app, List.cons_append, Nat.add_assoc]
theorem Rl.take_succ {ls : List Rl.L} {k : Nat} {x : Rl.L} (h : ls[k]? = some x) : ls.take (k + 1) = ls.take k ++ [x] := by rw [List.take_add_one, h]; rfl
theorem Rl.cnt_succ {ls : List Rl.L} {k : Nat} {x : Rl.L} (h : ls[k]? = some x) : Rl.cnt (ls.take (k + 1)) = Rl.cnt (ls.take k) + (2 + x.us.length) := by rw [Rl.take_succ h, Rl.cnt_app]; rfl
theorem Rl.cnt_le {ls : List Rl.L} (h : ∀ x ∈ ls, x.us.length ≤ 3) : Rl.cnt ls ≤ 5 * ls.length := by
  induction ls with
  | nil => exact Nat.le_refl _
  | cons x r ih => rw [Rl.cnt_cons]; have h1 := h x (by simp); have h2 := ih (fun y hy => h y (List.mem_cons_of_mem _ hy)); rw [List.length_cons]; omega
theorem Rl.cnt_take (ls : List Rl.L) (k : Nat) : Rl.cnt (ls.take k) ≤ Rl.cnt ls := by
  conv => rhs; rw [← List.take_append_drop k ls]
  rw [Rl.cnt_app]; omega
/-- the first k letters are marked -/
def Rl.part (ls : List Rl.L) (q k : Nat) : List Rl.L := Rl.marks q (ls.take k) ++ ls.drop k
theorem Rl.part_get {ls : List Rl.L} (q : Nat) {k : Nat} {x : Rl.L} (h : ls[k]? = some x) : (Rl.part ls q k)[k]? = some x := by
  have hk := (List.getElem?_eq_some_iff.1 h).1
  have hl : (Rl.marks q (ls.take k)).length = k := by rw [Rl.marks_len, List.length_take]; omega
  unfold Rl.part
  rw [List.getElem?_append_right (by omega), hl, Nat.sub_self, List.getElem?_drop, Nat.add_zero, h]
theorem Rl.part_len (ls : List Rl.L) (q k : Nat) (h : k ≤ ls.length) : (Rl.part ls q k).length = ls.length := by
  unfold Rl.part; rw [List.length_append, Rl.marks_len, List.length_take, List.length_drop]; omega
theorem Rl.part_set {ls : List Rl.L} (q : Nat) {k : Nat} {x : Rl.L} (h : ls[k]? = some x) : (Rl.part ls q k).set k (Rl.mk1 (q + Rl.cnt (ls.take k)) x) = Rl.part ls q (k + 1) := by
  have hk := (List.getElem?_eq_some_iff.1 h).1
  have hl : (Rl.marks q (ls.take k)).length = k := by rw [Rl.marks_len, List.length_take]; omega
  have e : ls[k] = x := (List.getElem?_eq_some_iff.1 h).2
  unfold Rl.part
  rw [List.set_append_right _ _ (by omega), hl, Nat.sub_self, List.drop_eq_getElem_cons hk, List.set_cons_zero, Rl.take_succ h, Rl.marks_app, List.append_assoc]; rfl
theorem Rl.part_zero (ls : List Rl.L) (q : Nat) : Rl.part ls q 0 = ls := by unfold Rl.part; simp [Rl.marks]
theorem Rl.part_all (ls : List Rl.L) (q : Nat) : Rl.part ls q ls.length = Rl.marks q ls := by unfold Rl.part; simp
theorem Rl.flat_same {α : Type} {f : α → List Value} {us : List α} {i : Nat} {u u' : α} (hu : us[i]? = some u) (h : f u' = f u) : (us.set i u').flatMap f = us.flatMap f := by
  rw [List.flatMap_def, List.flatMap_def, List.map_set, h]
  congr 1
  apply List.ext_getElem?
  intro j
  rw [List.getElem?_set]
  by_cases hij : i = j
  · subst hij
    rw [if_pos rfl, List.getElem?_map, hu, List.length_map, if_pos (List.getElem?_eq_some_iff.1 hu).1]; rfl
  · rw [if_neg hij]
namespace Rn
theorem Sep.setk {w w' : World} {B : Nat} {ls : List Rl.L} (h : Sep w B ls) {k : Nat} {x x' : Rl.L} (hk : ls[k]? = some x) (hg : w.grownBy w' (Rl.val x).ownBlock) (hx : St.Own w' B (Rl.val x') x'.us) (hv : Rl.val x' = Rl.val x) : Sep w' B (ls.set k x') := by
  refine ⟨fun y hy => ?_, ?_⟩
  · obtain ⟨i, hi, e⟩ := List.mem_iff_getElem.1 hy
    have he : (ls.set k x')[i]? = some y := by rw [List.getElem?_eq_getElem hi, e]
    rw [List.getElem?_set] at he
    by_cases hik : k = i
    · subst hik
      rw [if_pos rfl] at he
      split at he
      · injection he with he; subst he; exact hx
      · cases he
    · rw [if_neg hik] at he
      exact h.others hk hg (Ne.symm hik) he
  · have hp := h.apart
    have key : ∀ l : List Rl.L, (l.map Rl.val).Pairwise (fun a b => ∀ q, a.ownBlock = some q → b.ownBlock = some q → False) ↔ l.Pairwise (fun x y => ∀ q, (Rl.val x).ownBlock = some q → (Rl.val y).ownBlock = some q → False) := fun l => List.pairwise_map
    rw [← key] at hp ⊢
    have hm : (ls.set k x').map Rl.val = ls.map Rl.val := by
      rw [List.map_set, hv]
      apply List.ext_getElem?
      intro i
      rw [List.getElem?_set]
      by_cases hik : k = i
      · subst hik
        rw [if_pos rfl, List.getElem?_map, hk, List.length_map, if_pos (List.getElem?_eq_some_iff.1 hk).1]; rfl
      · rw [if_neg hik]
    rw [hm]; exact hp
theorem Sep.setTo {w : World} {B : Nat} {ls : List Rl.L} (h : Sep w B ls) {b : Nat} {cs : Array Value} {T : TypeId} (hb : w.heap[b]? = some (.cells cs T (0, 0))) (hE : 9 ≠ T) (i : Nat) (v : Value) : Sep (w.setCell ⟨b, i, none⟩ v) B ls :=
  ⟨fun x hx => OwnL.setTo (h.own x hx) hb hE i v, h.apart⟩
theorem Sep.vals {w : World} {B : Nat} {ls : List Rl.L} (h : Sep w B ls) {k : Nat} {x x' : Rl.L} (hk : ls[k]? = some x) (hu : x'.us = x.us) (hv : Rl.val x' = Rl.val x) : Sep w B (ls.set k x') :=
  h.setk hk (World.grownBy.refl w _) (by rw [hu, hv]; exact h.own x (List.mem_of_getElem? hk)) hv
theorem Sep.apartBy {w w' : World} {B : Nat} {ls : List Rl.L} (h : Sep w B ls) {v : Value} (h1 : ∀ q, v.ownBlock = some q → q < B) (hg : w.grownBy w' v.ownBlock) : Sep w' B ls :=
  ⟨fun x hx => World.ownsRow.kept (h.own x hx) hg (by
    cases hq : (Rl.val x).ownBlock with
    | none => exact .inl rfl
    | some q => exact .inr (fun e => by have a := h1 q e.symm; have b := OwnL.blk (h.own x hx) hq; omega)), h.apart⟩
/-- rows of numbers stay -/
def IntsKeep (B : Nat) (w w' : World) : Prop := ∀ v us, It.Own w B v us → It.Own w' B v us
theorem IntsKeep.refl (B : Nat) (w : World) : IntsKeep B w w := fun _ _ h => h
theorem IntsKeep.trans {B : Nat} {a b c : World} (h : IntsKeep B a b) (k : IntsKeep B b c) : IntsKeep B a c := fun v us x => k v us (h v us x)
theorem IntsKeep.below {B : Nat} {w w' : World} (hb : Below w.heap.size w w') : IntsKeep B w w' := fun _ _ h => OwnL.below h hb
theorem IntsKeep.setTo {B : Nat} {w : World} {b : Nat} {cs : Array Value} {T : TypeId} (hb : w.heap[b]? = some (.cells cs T (0, 0))) (hE : 3 ≠ T) (i : Nat) (v : Value) : IntsKeep B w (w.setCell ⟨b, i, none⟩ v) := fun _ _ h => OwnL.setTo h hb hE i v
theorem IntsKeep.grown {α : Type} {E : TypeId} {n : Nat} {f : α → List Value} {B B2 : Nat} {w w' : World} {v : Value} {us : List α} (ho : OwnL E n f w B2 v us) (hE : E ≠ 3) (hg : w.grownBy w' v.ownBlock) : IntsKeep B w w' := fun _ _ h => OwnL.keptBy h ho hE hg
/-- what marking letters gives -/
def Mkd (ls : List Rl.L) (q : Nat) (v : Value) (B : Nat) (w : World) (e : Ending) (w' : World) : Prop :=
  e = .returned (.int .i64 ((q + Rl.cnt ls : Nat) : Int)) ∧ OwnL 49 3 Rl.cells w' B v (Rl.marks q ls) ∧ Sep w' B (Rl.marks q ls) ∧ Below B w w' ∧ IntsKeep B w w'
end Rn

set_option maxRecDepth 100000 in
set_option maxHeartbeats 3200000 in
theorem markLetterS_any (A : Option Addr) (ls : List Rl.L) (c B q : Nat) (w : World) (h : OwnL 49 3 Rl.cells w B (.slice A ls.length c) ls) (hs : Rn.Sep w B ls) (hB : B ≤ w.heap.size) (hq : 0 < q) (hn : q + Rl.cnt ls ≤ 100000000) (hln : ls.length ≤ 100000000) :
    Calls Tryz.prog 17 #[.slice A ls.length c, .int .i64 (q : Int)] w (Rn.Mkd ls q (.slice A ls.length c) B w) := by
  go_enter Tryz.func17, Tryz.ntmps17
  go_wp2_with fail
  go_loopg [1, 5] ls.length (fun g m i wr => ∃ k : Nat, k ≤ ls.length ∧ Hid (g = ls.length - k) ∧ i = .int .i64 k ∧ m = .int .i64 ((q + Rl.cnt (ls.take k) : Nat) : Int) ∧ Hid (wr.ownsRow B 49 3 (.slice A ls.length c) ls.length ((Rl.part ls q k).flatMap Rl.cells)) ∧ Hid (Rn.Sep wr B (Rl.part ls q k)) ∧ Hid (Below B w wr) ∧ Hid (Rn.IntsKeep B w wr))
  case atStart => exact ⟨0, Nat.zero_le _, Lib.hid rfl, rfl, by simp [Rl.cnt], Lib.hid (by rw [Rl.part_zero]; exact h), Lib.hid (by rw [Rl.part_zero]; exact hs), Lib.hid (Below.refl _ _), Lib.hid (Rn.IntsKeep.refl _ _)⟩
  case round =>
    obtain ⟨k, hk, HG, rfl, rfl, HO, HS, HB, HI⟩ := hrel
    by_cases hlt : k < ls.length
    · obtain ⟨g, cc, e1, hgb, hgs⟩ := HO.out.form (by omega)
      injection e1 with e1 _ e2
      subst e1; subst e2
      obtain ⟨u, hu⟩ : ∃ u, ls[k]? = some u := ⟨_, List.getElem?_eq_getElem hlt⟩
      have HU := Lib.hid (Rl.part_get q hu)
      have HPS := Lib.hid (Rl.part_set q hu)
      have HCS := Lib.hid (Rl.cnt_succ hu)
      have hcl : Rl.cnt (ls.take k) + (2 + u.us.length) ≤ Rl.cnt ls := by rw [← HCS.out]; exact Rl.cnt_take _ _
      obtain ⟨x, hx⟩ : ∃ x : Nat, x = q + Rl.cnt (ls.take k) := ⟨_, rfl⟩
      have HX := Lib.hid hx
      rw [← hx] at HPS ⊢
      have hxn : x + (2 + u.us.length) ≤ 100000000 := by omega
      have hx0' : 0 < x := by omega
      clear hx hu hcl
      obtain ⟨pt, hpt⟩ : ∃ pt, pt = Rl.part ls q k := ⟨_, rfl⟩
      have hptl : pt.length = ls.length := by rw [hpt]; exact Rl.part_len _ _ _ hk
      rw [← hpt] at HO HS HU HPS
      clear hpt
      obtain ⟨f, A1, us, c1, t⟩ := u
      dsimp only at hxn HCS
      have HMT := Lib.hid (markText_any x hx0' (by omega))
      have HM2 := Lib.hid (markText_any (x + 1 + us.length) (by omega) (by omega))
      have HMS := Lib.hid (fun (W : World) (hW : St.Own W B (.slice A1 us.length c1) us) => markStringS_any A1 us c1 B (x + 1) W hW (by omega) (by omega))
      have hxb : (x : Int) ≤ 100000000 := by omega
      have hx0 : (0 : Int) ≤ (x : Int) := by omega
      have hx1 : ((x + 1 : Nat) : Int) = (x : Int) + 1 := by omega
      have hki : (k : Int) < (ls.length : Int) := by omega
      have hk0 : (0 : Int) ≤ (k : Int) := by omega
      rw [hx1] at HMS
      obtain ⟨y, hy⟩ : ∃ y : Nat, y = x + 1 + us.length := ⟨_, rfl⟩
      have hyb : (y : Int) ≤ 100000000 := by omega
      have hy0 : (0 : Int) ≤ (y : Int) := by omega
      have HY := Lib.hid hy
      rw [← hy] at HM2
      unfold St.Mkd at HMS
      rw [← hy] at HMS
      clear hy hx1
      go_wp2_with fail
      refine Calls.mono (HMT.out _) ?_
      rintro e w1 ⟨rfl, hb1⟩
      have hown1 := own_below HO.out hb1 hgs
      have HS1 := Lib.hid (HS.out.below hb1)
      have HB1 := Lib.hid (HB.out.trans (hb1.mono (Nat.le_trans hB HB.out.size)))
      have HI1 := Lib.hid (HI.out.trans (Rn.IntsKeep.below hb1))
      have hgs1 : g < w1.heap.size := Nat.lt_of_lt_of_le hgs hb1.size
      obtain ⟨cur, hcur⟩ := OwnL.typed (f := Rl.cells) (us := pt) (E := 49) (n := 3) (B := B) (v := .slice (some ⟨g, 0, none⟩) ls.length c) (by unfold OwnL; rw [hptl]; exact hown1) (q := g) rfl
      have e0 : w1.cell? ⟨g, k * 3, none⟩ = some (.string f) := own_cell (j := 0) Rl.cells_len hown1 HU.out rfl
      have f0 : w1.frozen? ⟨g, k * 3, none⟩ = false := hown1.frozenAt _
      have hpl : k < pt.length := by rw [hptl]; exact hlt
      have HO2 := Lib.hid (own_set (j := 0) (u' := ⟨Mk.text x, A1, us, c1, t⟩) (v := .string (Mk.text x)) Rl.cells_len hown1 HU.out (by omega) rfl)
      have HS2 := Lib.hid ((HS1.out.setTo hcur (by decide) (k * 3) (.string (Mk.text x))).vals HU.out (x' := ⟨Mk.text x, A1, us, c1, t⟩) rfl rfl)
      have HI2 := Lib.hid (HI1.out.trans (Rn.IntsKeep.setTo hcur (by decide) (k * 3) (.string (Mk.text x))))
      have HB2 := Lib.hid (HB1.out.setCell (p := ⟨g, k * 3, none⟩) hgb (.string (Mk.text x)))
      have HU2 := Lib.hid (List.getElem?_set_self (a := (⟨Mk.text x, A1, us, c1, t⟩ : Rl.L)) hpl)
      have hpl2 : (pt.set k ⟨Mk.text x, A1, us, c1, t⟩).length = ls.length := by rw [List.length_set]; exact hptl
      obtain ⟨p2, hp2⟩ : ∃ p2, p2 = pt.set k ⟨Mk.text x, A1, us, c1, t⟩ := ⟨_, rfl⟩
      have HP2 := Lib.hid hp2
      rw [← hp2] at HO2 HS2 HU2 hpl2
      have E1 : Hid (w1.cell? ⟨g, k * 3 + 1, none⟩ = some (.slice A1 us.length c1)) := Lib.hid (own_cell (j := 1) Rl.cells_len hown1 HU.out rfl)
      clear hb1 hown1 HO HS HB HI HS1 HB1 HI1 hcur hp2
      simp only [Nat.add_zero] at HO2
      have hgs2 : g < (w1.setCell ⟨g, k * 3, none⟩ (.string (Mk.text x))).heap.size := by simpa using hgs1
      have e1 : w1.cell? ⟨g, k * 3 + 1, none⟩ = some (.slice A1 us.length c1) := E1.out
      go_wp2_with fail
      obtain ⟨w2, hw2⟩ : ∃ w2, w2 = w1.setCell ⟨g, k * 3, none⟩ (.string (Mk.text x)) := ⟨_, rfl⟩
      rw [← hw2] at HO2 HS2 HI2 HB2 hgs2 ⊢
      clear hw2 e0 e1 E1 f0
      have hos2 : St.Own w2 B (.slice A1 us.length c1) us := HS2.out.own _ (List.mem_of_getElem? HU2.out)
      have HOS2 := Lib.hid hos2
      clear hos2
      refine Calls.mono (HMS.out w2 HOS2.out) ?_
      rintro e w3 ⟨rfl, ho3, hg3⟩
      obtain ⟨mk, hmk⟩ : ∃ mk, mk = St.marks (x + 1) us.length := ⟨_, rfl⟩
      have hmkl : mk.length = us.length := by rw [hmk]; exact St.marks_len _ _
      have HMK := Lib.hid hmk
      rw [← hmk] at ho3
      clear hmk
      have hol2 : OwnL 49 3 Rl.cells w2 B (.slice (some ⟨g, 0, none⟩) ls.length c) p2 := by unfold OwnL; rw [hpl2]; exact HO2.out
      have HO3 : Hid (OwnL 49 3 Rl.cells w3 B (.slice (some ⟨g, 0, none⟩) ls.length c) p2) := Lib.hid (hol2.keptBy HOS2.out (by decide) hg3)
      have hvx : Rl.val ⟨Mk.text x, A1, mk, c1, t⟩ = Rl.val ⟨Mk.text x, A1, us, c1, t⟩ := by unfold Rl.val; dsimp only; rw [hmkl]
      have HS3 : Hid (Rn.Sep w3 B (p2.set k ⟨Mk.text x, A1, mk, c1, t⟩)) := Lib.hid (HS2.out.setk HU2.out hg3 (x' := ⟨Mk.text x, A1, mk, c1, t⟩) (by show St.Own w3 B (.slice A1 mk.length c1) mk; rw [hmkl]; exact ho3) hvx)
      have HB3 := Lib.hid (HB2.out.grown hg3 (Nat.le_trans hB HB2.out.size) (fun q hq => OwnL.blk HOS2.out hq))
      have HI3 := Lib.hid (HI2.out.trans (Rn.IntsKeep.grown HOS2.out (by decide) hg3))
      have hgs3 : g < w3.heap.size := Nat.lt_of_lt_of_le hgs2 hg3.size
      have hfl3 : (p2.set k ⟨Mk.text x, A1, mk, c1, t⟩).flatMap Rl.cells = p2.flatMap Rl.cells := Rl.flat_same HU2.out (by unfold Rl.cells; dsimp only; rw [hmkl])
      have hpl3 : (p2.set k ⟨Mk.text x, A1, mk, c1, t⟩).length = ls.length := by rw [List.length_set]; exact hpl2
      have HU3 := Lib.hid (List.getElem?_set_self (a := (⟨Mk.text x, A1, mk, c1, t⟩ : Rl.L)) (l := p2) (i := k) (by rw [hpl2]; exact hlt))
      have HO3' : Hid (w3.ownsRow B 49 3 (.slice (some ⟨g, 0, none⟩) ls.length c) ls.length ((p2.set k ⟨Mk.text x, A1, mk, c1, t⟩).flatMap Rl.cells)) := Lib.hid (by rw [hfl3]; have := HO3.out; unfold OwnL at this; rw [hpl2] at this; exact this)
      obtain ⟨p3, hp3⟩ : ∃ p3, p3 = p2.set k ⟨Mk.text x, A1, mk, c1, t⟩ := ⟨_, rfl⟩
      have HP3 := Lib.hid hp3
      rw [← hp3] at HS3 HU3 HO3' hpl3
      clear hp3 hfl3 hol2 HO3 HOS2 HO2 HS2 HB2 HI2 hgs2 ho3 hg3 HU2 HMS HU hvx
      go_wp2_with fail
      refine Calls.mono (HM2.out _) ?_
      rintro e w4 ⟨rfl, hb4⟩
      have hown4 := own_below HO3'.out hb4 hgs3
      have HS4 := Lib.hid (HS3.out.below hb4)
      have HB4 := Lib.hid (HB3.out.trans (hb4.mono (Nat.le_trans hB HB3.out.size)))
      have HI4 := Lib.hid (HI3.out.trans (Rn.IntsKeep.below hb4))
      obtain ⟨cur, hcur⟩ := OwnL.typed (f := Rl.cells) (us := p3) (E := 49) (n := 3) (B := B) (v := .slice (some ⟨g, 0, none⟩) ls.length c) (by unfold OwnL; rw [hpl3]; exact hown4) (q := g) rfl
      have e2 : w4.cell? ⟨g, k * 3 + 2, none⟩ = some (.string t) := own_cell (j := 2) Rl.cells_len hown4 HU3.out rfl
      have f2 : w4.frozen? ⟨g, k * 3 + 2, none⟩ = false := hown4.frozenAt _
      have HM1 : Hid (Rl.mk1 x ⟨f, A1, us, c1, t⟩ = ⟨Mk.text x, A1, mk, c1, Mk.text y⟩) := Lib.hid (by unfold Rl.mk1; dsimp only; rw [← HMK.out, ← HY.out])
      have hps : p3.set k ⟨Mk.text x, A1, mk, c1, Mk.text y⟩ = Rl.part ls q (k + 1) := by rw [HP3.out, HP2.out, List.set_set, List.set_set, ← HM1.out]; exact HPS.out
      have ho5 := own_set (j := 2) (u' := ⟨Mk.text x, A1, mk, c1, Mk.text y⟩) (v := .string (Mk.text y)) Rl.cells_len hown4 HU3.out (by omega) rfl
      have hs5 := ((HS4.out.setTo hcur (by decide) (k * 3 + 2) (.string (Mk.text y))).vals HU3.out (x' := ⟨Mk.text x, A1, mk, c1, Mk.text y⟩) rfl rfl)
      rw [hps] at ho5 hs5
      have HO5 := Lib.hid ho5
      have HS5 := Lib.hid hs5
      have HI5 := Lib.hid (HI4.out.trans (Rn.IntsKeep.setTo hcur (by decide) (k * 3 + 2) (.string (Mk.text y))))
      have HB5 := Lib.hid (HB4.out.setCell (p := ⟨g, k * 3 + 2, none⟩) hgb (.string (Mk.text y)))
      clear hb4 hown4 hcur ho5 hs5 hps HS4 HB4 HI4 HS3 HB3 HI3 HO3' HU3
      go_wp2_with fail
      go_roundg (ls.length - (k + 1))
      case measure => have := HG.out; omega
      case rel => exact ⟨k + 1, by omega, Lib.hid rfl, by go_num, by have h1 := HX.out; have h2 := HY.out; have h3 := HCS.out; go_num, HO5, HS5, HB5, HI5⟩
    · obtain rfl : k = ls.length := by omega
      have ho := HO.out
      have hs' := HS.out
      rw [Rl.part_all] at ho hs'
      have HC : Hid (Rl.cnt (ls.take ls.length) = Rl.cnt ls) := Lib.hid (by rw [List.take_length])
      rw [HC.out]
      have hki : ¬ (ls.length : Int) < (ls.length : Int) := by omega
      go_wp2_with fail
      go_ret
      refine ⟨rfl, ?_, hs', HB.out, HI.out⟩
      unfold OwnL
      rw [Rl.marks_len]; exact ho


theorem Rl.marks_get : ∀ (q : Nat) (ls : List Rl.L) (k : Nat) (x : Rl.L), ls[k]? = some x → (Rl.marks q ls)[k]? = some (Rl.mk1 (q + Rl.cnt (ls.take k)) x)
  | q, [], k, x, h => by simp at h
  | q, y :: r, 0, x, h => by
    simp only [List.getElem?_cons_zero, Option.some.injEq] at h
    subst h
    rfl
  | q, y :: r, k + 1, x, h => by
    rw [List.getElem?_cons_succ] at h
    rw [Rl.marks_cons, List.getElem?_cons_succ, Rl.marks_get _ r k x h, List.take_succ_cons, Rl.cnt_cons, Nat.add_assoc]

set_option maxRecDepth 100000 in
set_option maxHeartbeats 3200000 in
theorem heldLetterS_any (A : Option Addr) (ls : List Rl.L) (c q : Nat) (w : World) (h : At w w.heap.size 3 Rl.cells A (Rl.marks q ls)) (ht : ∀ x ∈ Rl.marks q ls, AtStrs w w.heap.size x.A x.us) (hq : 0 < q) (hn : q + Rl.cnt ls ≤ 100000000) (hln : ls.length ≤ 100000000) :
    Calls Tryz.prog 19 #[.slice A ls.length c, .int .i64 (q : Int)] w fun e w' => e = .returned (.int .i64 ((q + Rl.cnt ls : Nat) : Int)) ∧ Below w.heap.size w w' := by
  go_enter Tryz.func19, Tryz.ntmps19
  go_wp2_with fail
  go_loopg [1, 5] ls.length (fun g m i wr => ∃ k : Nat, k ≤ ls.length ∧ Hid (g = ls.length - k) ∧ i = .int .i64 k ∧ m = .int .i64 ((q + Rl.cnt (ls.take k) : Nat) : Int) ∧ Below w.heap.size w wr)
  case atStart => exact ⟨0, Nat.zero_le _, Lib.hid rfl, rfl, by simp [Rl.cnt], Below.refl _ _⟩
  case round =>
    obtain ⟨k, hk, HG, rfl, rfl, hb⟩ := hrel
    by_cases hlt : k < ls.length
    · obtain ⟨u, hu⟩ : ∃ u, ls[k]? = some u := ⟨_, List.getElem?_eq_getElem hlt⟩
      have hmg := Rl.marks_get q ls k u hu
      obtain ⟨g, off, rfl, hg, hc⟩ := (h.below hb) (by rw [Rl.marks_len]; omega)
      have HCS := Lib.hid (Rl.cnt_succ hu)
      have hcl : Rl.cnt (ls.take k) + (2 + u.us.length) ≤ Rl.cnt ls := by rw [← HCS.out]; exact Rl.cnt_take _ _
      obtain ⟨x, hx⟩ : ∃ x : Nat, x = q + Rl.cnt (ls.take k) := ⟨_, rfl⟩
      have HX := Lib.hid hx
      rw [← hx] at hmg ⊢
      have HT := Lib.hid (ht _ (List.mem_of_getElem? hmg))
      obtain ⟨f, A1, us, c1, t⟩ := u
      dsimp only at hcl HCS
      have hxn : x + (2 + us.length) ≤ 100000000 := by omega
      have hx0' : 0 < x := by omega
      clear hx hu hcl
      have e0 : wr.cell? ⟨g, off + k * 3, none⟩ = some (.string (Mk.text x)) := hc k _ hmg 0 _ rfl
      have e1 : wr.cell? ⟨g, off + k * 3 + 1, none⟩ = some (.slice A1 us.length c1) := by have h1 := hc k _ hmg 1 _ rfl; have h2 : (Rl.mk1 x ⟨f, A1, us, c1, t⟩).us.length = us.length := St.marks_len _ _; rw [h2] at h1; exact h1
      have e2 : wr.cell? ⟨g, off + k * 3 + 2, none⟩ = some (.string (Mk.text (x + 1 + us.length))) := hc k _ hmg 2 _ rfl
      have HT1 : Hid (AtStrs w w.heap.size A1 (St.marks (x + 1) us.length)) := HT
      clear hc hmg HT
      have HMT := Lib.hid (markText_any x hx0' (by omega))
      have HM2 := Lib.hid (markText_any (x + 1 + us.length) (by omega) (by omega))
      have HHS := Lib.hid (fun (W : World) (hW : AtStrs W W.heap.size A1 (St.marks (x + 1) us.length)) => heldStringS_any A1 us.length c1 (x + 1) W hW (by omega) (by omega))
      have hxb : (x : Int) ≤ 100000000 := by omega
      have hx0 : (0 : Int) ≤ (x : Int) := by omega
      have hx1 : ((x + 1 : Nat) : Int) = (x : Int) + 1 := by omega
      have hki : (k : Int) < (ls.length : Int) := by omega
      have hk0 : (0 : Int) ≤ (k : Int) := by omega
      rw [hx1] at HHS
      obtain ⟨y, hy⟩ : ∃ y : Nat, y = x + 1 + us.length := ⟨_, rfl⟩
      have hyb : (y : Int) ≤ 100000000 := by omega
      have hy0 : (0 : Int) ≤ (y : Int) := by omega
      have hyn : ¬ (y : Int) < 0 := by omega
      have HY := Lib.hid hy
      rw [← hy] at HM2 HHS e2
      have hgr : g < wr.heap.size := Nat.lt_of_lt_of_le hg hb.size
      clear hy hx1
      obtain ⟨wo, rfl⟩ : ∃ wo : World, wo = wr := ⟨_, rfl⟩
      have E1 := Lib.hid e1
      have E2 := Lib.hid e2
      clear e1 e2
      go_upto_region 4 with fail
      go_region_held3 (fun w' => w'.cell? ⟨g, off + k * 3, none⟩ = some (.string (Mk.text x))) (first | go_keep | exact (hb1.cell (p := ⟨g, off + k * 3, none⟩) hgr).trans e0)
        (first | (go_at_call 32; refine Calls.mono (HMT.out _) ?_; rintro e w1 ⟨rfl, hb1⟩))
      have hb1' : Below wo.heap.size wo w1 := ⟨hb1.os, hb1.tape, hb1.output, hb1.size, hb1.block⟩
      have e1 := (hb1'.cell (p := ⟨g, off + k * 3 + 1, none⟩) hgr).trans E1.out
      have hbw1 := hb.trans (hb1'.mono hb.size)
      have HHB := Lib.hid hb1'
      have HT2 := Lib.hid ((HT1.out.below hbw1).mono hbw1.size)
      clear hb1 hb1' e0
      go_wp2_with fail
      refine Calls.mono (HHS.out _ HT2.out) ?_
      rintro e w2 ⟨rfl, hb2⟩
      have hb2' : Below wo.heap.size wo w2 := HHB.out.trans (hb2.mono HHB.out.size)
      have e2 := (hb2'.cell (p := ⟨g, off + k * 3 + 2, none⟩) hgr).trans E2.out
      have hbw2 := hb.trans (hb2'.mono hb.size)
      have hgr2 : g < w2.heap.size := Nat.lt_of_lt_of_le hgr hb2'.size
      clear hb2 hb2' HT2 HHB E1 E2 e1
      obtain ⟨wp, rfl⟩ : ∃ wp : World, wp = w2 := ⟨_, rfl⟩
      go_upto_region 10 with fail
      go_region_held3 (fun w' => w'.cell? ⟨g, off + k * 3 + 2, none⟩ = some (.string (Mk.text y))) (first | go_keep | exact (hb1.cell (p := ⟨g, off + k * 3 + 2, none⟩) hgr2).trans e2)
        (first | (go_at_call 32; refine Calls.mono (HM2.out _) ?_; rintro e w3 ⟨rfl, hb1⟩))
      have hb3 : Below wp.heap.size wp w3 := ⟨hb1.os, hb1.tape, hb1.output, hb1.size, hb1.block⟩
      go_wp2_with fail
      go_roundg (ls.length - (k + 1))
      case measure => have := HG.out; omega
      case rel => exact ⟨k + 1, by omega, Lib.hid rfl, by go_num, by have h1 := HX.out; have h2 := HY.out; have h3 := HCS.out; go_num, hbw2.trans (hb3.mono hbw2.size)⟩
    · obtain rfl : k = ls.length := by omega
      have HC : Hid (Rl.cnt (ls.take ls.length) = Rl.cnt ls) := Lib.hid (by rw [List.take_length])
      rw [HC.out]
      have hki : ¬ (ls.length : Int) < (ls.length : Int) := by omega
      go_wp2_with fail
      go_ret
      exact ⟨rfl, hb⟩

end Go.Proofs.YtpjifcljkgcnlaaGreatDoor
