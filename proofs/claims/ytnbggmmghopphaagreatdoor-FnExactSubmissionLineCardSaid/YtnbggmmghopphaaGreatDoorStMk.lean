/- markStringS and heldStringS of the laws. -/
import Derived.Test.YtnbggmmghopphaaGreatDoorMk
import Derived.Test.YtnbggmmghopphaaGreatDoorStX
import Derived.BigQuiet
import Derived.Deep.RegionHeld3
import Derived.Deep.DeepCutAuto
namespace Go.Proofs.YtnbggmmghopphaaGreatDoor
set_option linter.unusedVariables false
open Go.RowKit

/-- the marks of n strings, from a number on -/
def St.marks (q : Nat) : Nat → List ByteArray
  | 0 => []
  | n + 1 => St.marks q n ++ [Mk.text (q + n)]
theorem St.marks_len (q : Nat) : ∀ n, (St.marks q n).length = n
  | 0 => rfl
  | n + 1 => by rw [St.marks, List.length_append, St.marks_len q n]; rfl
theorem St.marks_succ (q n : Nat) : St.marks q (n + 1) = St.marks q n ++ [Mk.text (q + n)] := rfl
theorem St.marks_get (q : Nat) : ∀ n k, k < n → (St.marks q n)[k]? = some (Mk.text (q + k))
  | 0, k, h => by omega
  | n + 1, k, h => by
    rw [St.marks_succ]
    by_cases hk : k < n
    · rw [List.getElem?_append_left (by rw [St.marks_len]; exact hk)]
      exact St.marks_get q n k hk
    · obtain rfl : k = n := by omega
      rw [List.getElem?_append_right (by rw [St.marks_len]; exact Nat.le_refl _), St.marks_len, Nat.sub_self]; rfl
theorem St.marks_sizes (q n : Nat) (h : q + n ≤ 100000000) : ∀ u ∈ St.marks q n, u.size ≤ maxLen := fun u hu => by
  obtain ⟨i, hi, rfl⟩ := List.mem_iff_getElem.1 hu
  rw [St.marks_len] at hi
  have := St.marks_get q n i hi
  rw [List.getElem?_eq_getElem (by rw [St.marks_len]; exact hi)] at this
  injection this with this
  rw [this]
  have := Mk.text_size (q + i)
  unfold maxLen; omega
/-- the first k strings are marked -/
def St.marked (us : List ByteArray) (q k : Nat) : List ByteArray := St.marks q k ++ us.drop k
theorem St.marked_len (us : List ByteArray) (q k : Nat) (h : k ≤ us.length) : (St.marked us q k).length = us.length := by
  unfold St.marked; rw [List.length_append, St.marks_len, List.length_drop]; omega
theorem St.marked_get (us : List ByteArray) (q k : Nat) {u : ByteArray} (h : us[k]? = some u) : (St.marked us q k)[k]? = some u := by
  unfold St.marked
  rw [List.getElem?_append_right (by rw [St.marks_len]; exact Nat.le_refl _), St.marks_len, Nat.sub_self, List.getElem?_drop, Nat.add_zero, h]
theorem St.marked_set (us : List ByteArray) (q k : Nat) (h : k < us.length) : (St.marked us q k).set k (Mk.text (q + k)) = St.marked us q (k + 1) := by
  unfold St.marked
  rw [List.set_append_right _ _ (by rw [St.marks_len]; exact Nat.le_refl _), St.marks_len, Nat.sub_self, List.drop_eq_getElem_cons h, List.set_cons_zero, St.marks_succ, List.append_assoc]; rfl
theorem St.marked_all (us : List ByteArray) (q : Nat) : St.marked us q us.length = St.marks q us.length := by unfold St.marked; simp

/-- what marking gives: the list is marked; nothing else has turned -/
def St.Mkd (us : List ByteArray) (q : Nat) (v : Value) (B : Nat) (w : World) (e : Ending) (w' : World) : Prop :=
  e = .returned (.int .i64 ((q + us.length : Nat) : Int)) ∧ St.Own w' B v (St.marks q us.length) ∧ w.grownBy w' v.ownBlock

set_option maxRecDepth 100000 in
set_option maxHeartbeats 1600000 in
theorem markStringS_any (A : Option Addr) (us : List ByteArray) (c B q : Nat) (w : World) (h : St.Own w B (.slice A us.length c) us) (hq : 0 < q) (hn : q + us.length ≤ 100000000) :
    Calls Tryz.prog 40 #[.slice A us.length c, .int .i64 (q : Int)] w (St.Mkd us q (.slice A us.length c) B w) := by
  have hn1 : us.length ≤ 100000000 := by omega
  go_enter Tryz.func40, Tryz.ntmps40
  go_wp2_with fail
  go_loopg [1, 5] us.length (fun g m i wr => ∃ k : Nat, k ≤ us.length ∧ Hid (g = us.length - k) ∧ i = .int .i64 k ∧ m = .int .i64 ((q + k : Nat) : Int) ∧ Hid (wr.ownsRow B 9 1 (.slice A us.length c) us.length ((St.marked us q k).flatMap St.cells)) ∧ w.grownBy wr (Value.slice A us.length c).ownBlock)
  case atStart => exact ⟨0, Nat.zero_le _, Lib.hid rfl, rfl, rfl, Lib.hid h, World.grownBy.refl w _⟩
  case round =>
    obtain ⟨k, hk, HG, rfl, rfl, HO, hg⟩ := hrel
    by_cases hlt : k < us.length
    · obtain ⟨g, cc, e1, hgb, hgs⟩ := HO.out.form (by omega)
      injection e1 with e1 _ e2
      subst e1; subst e2
      obtain ⟨u, hu⟩ : ∃ u, us[k]? = some u := ⟨_, List.getElem?_eq_getElem hlt⟩
      have HU := Lib.hid (St.marked_get us q k hu)
      have HMT := Lib.hid (markText_any (q + k) (by omega) (by omega))
      obtain ⟨x, hx⟩ : ∃ x : Nat, x = q + k := ⟨_, rfl⟩
      have HX := Lib.hid hx
      have hxb : (x : Int) ≤ 100000000 := by omega
      have hx0 : (0 : Int) ≤ (x : Int) := by omega
      rw [← hx] at HMT ⊢
      clear hx hu
      go_wp2_with fail
      refine Calls.mono (HMT.out _) ?_
      rintro e w1 ⟨rfl, hb1⟩
      have hgw : w.grownBy w1 (Value.slice (some ⟨g, 0, none⟩) us.length c).ownBlock := grown_trans hg (grown_below hb1)
      have hown1 := own_below HO.out hb1 hgs
      have e0 : w1.cell? ⟨g, k, none⟩ = some (.string u) := by
        have := own_cell (j := 0) St.cells_len hown1 HU.out rfl
        simpa using this
      have f0 : w1.frozen? ⟨g, k, none⟩ = false := hown1.frozenAt _
      have hs1 := own_set (j := 0) (u' := Mk.text x) (v := .string (Mk.text x)) St.cells_len hown1 HU.out (by omega) rfl
      have hset : ((St.marked us q k).set k (Mk.text x)) = St.marked us q (k + 1) := by rw [HX.out]; exact St.marked_set us q k hlt
      rw [hset] at hs1
      simp only [Nat.mul_one, Nat.add_zero] at hs1
      have HS := Lib.hid hs1
      have HGW := Lib.hid (grown_set (b := g) hgw k (.string (Mk.text x)))
      clear hs1 hset hown1 hgw hb1
      go_wp2_with fail
      go_roundg (us.length - (k + 1))
      case measure => have := HG.out; omega
      case rel => exact ⟨k + 1, by omega, Lib.hid rfl, by go_num, by have := HX.out; go_num, HS, HGW.out⟩
    · obtain rfl : k = us.length := by omega
      have ho := HO.out
      rw [St.marked_all] at ho
      go_wp2_with fail
      go_ret
      refine ⟨rfl, ?_, hg⟩
      unfold St.Own OwnL
      rw [St.marks_len]; exact ho

set_option maxRecDepth 100000 in
set_option maxHeartbeats 1600000 in
theorem heldStringS_any (A : Option Addr) (n c q : Nat) (w : World) (h : AtStrs w w.heap.size A (St.marks q n)) (hq : 0 < q) (hn : q + n ≤ 100000000) :
    Calls Tryz.prog 77 #[.slice A n c, .int .i64 (q : Int)] w fun e w' => e = .returned (.int .i64 ((q + n : Nat) : Int)) ∧ Below w.heap.size w w' := by
  have hn1 : n ≤ 100000000 := by omega
  go_enter Tryz.func77, Tryz.ntmps77
  go_wp2_with fail
  go_loopg [1, 5] n (fun g m i wr => ∃ k : Nat, k ≤ n ∧ Hid (g = n - k) ∧ i = .int .i64 k ∧ m = .int .i64 ((q + k : Nat) : Int) ∧ Below w.heap.size w wr)
  case atStart => exact ⟨0, Nat.zero_le _, Lib.hid rfl, rfl, rfl, Below.refl _ _⟩
  case round =>
    obtain ⟨k, hk, HG, rfl, rfl, hb⟩ := hrel
    by_cases hlt : k < n
    · obtain ⟨g, off, rfl, hg, hc⟩ := (h.below hb).1 (by rw [St.marks_len]; omega)
      have d1 := hc k _ (St.marks_get q n k hlt)
      have HMT := Lib.hid (markText_any (q + k) (by omega) (by omega))
      obtain ⟨x, hx⟩ : ∃ x : Nat, x = q + k := ⟨_, rfl⟩
      have HX := Lib.hid hx
      have hxb : (x : Int) ≤ 100000000 := by omega
      have hx0 : (0 : Int) ≤ (x : Int) := by omega
      have hki : (k : Int) < (n : Int) := by omega
      have hk0 : (0 : Int) ≤ (k : Int) := by omega
      rw [← hx] at HMT d1 ⊢
      have hgr : g < wr.heap.size := Nat.lt_of_lt_of_le hg hb.size
      clear hx hc
      obtain ⟨wo, rfl⟩ : ∃ wo : World, wo = wr := ⟨_, rfl⟩
      go_upto_region 4 with fail
      go_region_held3 (fun w' => w'.cell? ⟨g, off + k, none⟩ = some (.string (Mk.text x))) (first | go_keep | exact (hb1.cell (p := ⟨g, off + k, none⟩) hgr).trans d1)
        (first | (go_at_call 76; refine Calls.mono (HMT.out _) ?_; rintro e w1 ⟨rfl, hb1⟩))
      have hb1' : Below wo.heap.size wo w1 := ⟨hb1.os, hb1.tape, hb1.output, hb1.size, hb1.block⟩
      go_wp2_with fail
      go_roundg (n - (k + 1))
      case measure => have := HG.out; omega
      case rel => exact ⟨k + 1, by omega, Lib.hid rfl, by go_num, by have := HX.out; go_num, hb.trans (hb1'.mono hb.size)⟩
    · obtain rfl : k = n := by omega
      go_wp2_with fail
      go_ret
      exact ⟨rfl, hb⟩

end Go.Proofs.YtnbggmmghopphaaGreatDoor
