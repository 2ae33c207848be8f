/- MkX: Mk StMk SbMk, in one text. -/
import Derived.Test.YtpjifcljkgcnlaaGreatDoorProg
import Derived.WalkKit
import Derived.WalkSpells
import Derived.WalkLawsBesides
import Derived.Handy
import Derived.Lib.Hide
import Derived.Deep.LoopGhost
import Derived.Laws.IdiomStrings
import Derived.Test.YtpjifcljkgcnlaaGreatDoorStX
import Derived.BigQuiet
import Derived.Deep.RegionHeld3
import Derived.Deep.DeepCutAuto
namespace Go.Proofs.YtpjifcljkgcnlaaGreatDoor
set_option linter.unusedVariables false
open Go.RowKit

/-- the digits of a number -/
def Mk.digs (k : Nat) : List UInt8 := if h : k = 0 then [] else Mk.digs (k / 10) ++ [UInt8.ofNat (48 + k % 10)]
termination_by k
decreasing_by omega
theorem Mk.digs_zero : Mk.digs 0 = [] := by rw [Mk.digs]; rfl
theorem Mk.digs_pos {k : Nat} (h : 0 < k) : Mk.digs k = Mk.digs (k / 10) ++ [UInt8.ofNat (48 + k % 10)] := by
  rw [Mk.digs, dif_neg (by omega)]
theorem Mk.digs_len (k : Nat) : (Mk.digs k).length ≤ k := by
  induction k using Nat.strongRecOn with
  | _ k ih =>
    by_cases h : k = 0
    · subst h; rw [Mk.digs_zero]; simp
    · rw [Mk.digs_pos (by omega), List.length_append]
      have := ih (k / 10) (by omega)
      simp only [List.length_singleton]; omega
def Mk.text (k : Nat) : ByteArray := ⟨(109 :: Mk.digs k).toArray⟩
theorem Mk.text_size (k : Nat) : (Mk.text k).size ≤ k + 1 := by
  have := Mk.digs_len k
  show (109 :: Mk.digs k).toArray.size ≤ k + 1
  simp; omega
theorem Mk.append (a b : List UInt8) : (ByteArray.mk a.toArray) ++ (ByteArray.mk b.toArray) = ByteArray.mk (a ++ b).toArray := by
  apply ByteArray.ext
  simp

set_option maxRecDepth 100000 in
set_option maxHeartbeats 800000 in
theorem markText_any (k : Nat) (h0 : 0 < k) (hk : k ≤ 1000000000) (w : World) :
    Calls Tryz.prog 32 #[.int .i64 (k : Int)] w fun e w' => e = .returned (.string (Mk.text k)) ∧ Below w.heap.size w w' := by
  have hlen := Mk.digs_len k
  have h0i : ¬ ((k : Int) ≤ 0) := by omega
  have HK := Lib.hid hk
  have HLEN := Lib.hid hlen
  clear hk hlen
  go_enter Tryz.func32, Tryz.ntmps32
  go_wp2_with fail
  go_loopg [0, 3] k (fun g i o wr => ∃ (m : Nat) (l : List UInt8), Hid (g = m) ∧ i = .int .i64 (m : Int) ∧ o = .string ⟨l.toArray⟩ ∧ m ≤ k ∧ l.length ≤ k ∧ Hid (Mk.digs m ++ l = Mk.digs k) ∧ Below w.heap.size w wr)
  case atStart => exact ⟨k, [], Lib.hid rfl, rfl, rfl, Nat.le_refl _, Nat.zero_le _, Lib.hid (by simp), Below.refl _ _⟩
  case round =>
    obtain ⟨m, l, HG, rfl, rfl, hm, hl, HD, hb⟩ := hrel
    by_cases hm0 : 0 < m
    · have hm0i : (0 : Int) < (m : Int) := by omega
      have hmb : (m : Int) ≤ 1000000000 := by have := HK.out; omega
      have E2 : Hid ((m : Int) / 10 = ((m / 10 : Nat) : Int)) := Lib.hid (by omega)
      obtain ⟨d, hd⟩ : ∃ d : UInt8, UInt8.ofNat (48 + m % 10) = d := ⟨_, rfl⟩
      have hdv : (d.toNat : Int) = 48 + (m : Int) % 10 := by
        rw [← hd, UInt8.toNat_ofNat_of_lt' (by show 48 + m % 10 < 256; omega)]
        omega
      have HD2 : Hid (Mk.digs (m / 10) ++ ([d] ++ l) = Mk.digs k) := Lib.hid (by rw [← HD.out, Mk.digs_pos hm0, List.append_assoc, hd])
      have HL2 : Hid (([d] ++ l).length ≤ k) := Lib.hid (by
        have e := congrArg List.length HD2.out
        rw [List.length_append] at e
        have := HLEN.out
        omega)
      have hms : 0 ≤ (m : Int) % 10 := by omega
      have hms2 : (m : Int) % 10 < 10 := by omega
      have hcv : (convert 77 9 (.slice (some ⟨wr.heap.size, 0, none⟩) 1 1)).run Tryz.prog (wr.alloc (.cells #[.int .u8 (48 + (m : Int) % 10)] 5)) = .ok (.string ⟨[d].toArray⟩) (wr.alloc (.cells #[.int .u8 (48 + (m : Int) % 10)] 5)) := by
        refine run_convert_bytes_back _ 77 9 5 ⟨wr.heap.size, 0, none⟩ 1 [d] Tryz.underlying77 Tryz.underlying5 Tryz.underlying9 fun j hj => ?_
        obtain rfl : j = 0 := by simpa using hj
        show (wr.alloc (.cells #[.int .u8 (48 + (m : Int) % 10)] 5)).cell? ⟨wr.heap.size, 0, none⟩ = some (.int .u8 (d.toNat : Int))
        rw [hdv]
        simp only [World.cell?, heap_alloc_new]
        rfl
      have HA := Lib.hid (Mk.append [d] l)
      have hls : (ByteArray.mk l.toArray).size ≤ 1000000000 := by
        show l.toArray.size ≤ 1000000000
        have := HK.out
        simp; omega
      have hos : (ByteArray.mk [d].toArray).size ≤ 1 := Nat.le_refl _
      have hmk : m / 10 ≤ k := by omega
      clear hm hl hd hdv
      go_wp2_with fail
      go_roundg (m / 10)
      case measure => have := HG.out; omega
      case rel => exact ⟨m / 10, [d] ++ l, Lib.hid rfl, by rw [E2.out], by rw [← HA.out], hmk, HL2.out, HD2, hb.alloc hb.size _⟩
    · obtain rfl : m = 0 := by omega
      have HF : Hid (l = Mk.digs k) := Lib.hid (by rw [← HD.out, Mk.digs_zero]; rfl)
      have HA := Lib.hid (Mk.append [109] l)
      have hls : (ByteArray.mk l.toArray).size ≤ 1000000000 := by
        show l.toArray.size ≤ 1000000000
        have := HK.out
        simp; omega
      have h109 : (ByteArray.mk #[109]).size ≤ 1 := Nat.le_refl _
      go_wp2_with fail
      go_ret
      refine ⟨?_, hb⟩
      unfold Mk.text
      rw [← HF.out]
      exact congrArg (fun x => Ending.returned (Value.string x)) HA.out

end Go.Proofs.YtpjifcljkgcnlaaGreatDoor

namespace Go.Proofs.YtpjifcljkgcnlaaGreatDoor
set_option linter.unusedVariables false
open Go.RowKit

/-- the marks of n strings, from a number on -/
def St.marks (q : Nat) : Nat → List ByteArray
  | 0 => []
  | n + 1 => St.marks q n ++ [Mk.text (q + n)]
theorem St.marks_len (q : Nat) : ∀ n, (St.marks q n).length = n
  | 0 => rfl
  | n + 1 => by rw [St.marks, List.length_append, St.marks_len q n]; rfl
theorem St.marks_succ (q n : Nat) : St.marks q (n + 1) = St.marks q n ++ [Mk.text (q + n)] := rfl
theorem St.marks_get (q : Nat) : ∀ n k, k < n → (St.marks q n)[k]? = some (Mk.text (q + k))
  | 0, k, h => by omega
  | n + 1, k, h => by
    rw [St.marks_succ]
    by_cases hk : k < n
    · rw [List.getElem?_append_left (by rw [St.marks_len]; exact hk)]
      exact St.marks_get q n k hk
    · obtain rfl : k = n := by omega
      rw [List.getElem?_append_right (by rw [St.marks_len]; exact Nat.le_refl _), St.marks_len, Nat.sub_self]; rfl
theorem St.marks_sizes (q n : Nat) (h : q + n ≤ 100000000) : ∀ u ∈ St.marks q n, u.size ≤ maxLen := fun u hu => by
  obtain ⟨i, hi, rfl⟩ := List.mem_iff_getElem.1 hu
  rw [St.marks_len] at hi
  have := St.marks_get q n i hi
  rw [List.getElem?_eq_getElem (by rw [St.marks_len]; exact hi)] at this
  injection this with this
  rw [this]
  have := Mk.text_size (q + i)
  unfold maxLen; omega
/-- the first k strings are marked -/
def St.marked (us : List ByteArray) (q k : Nat) : List ByteArray := St.marks q k ++ us.drop k
theorem St.marked_len (us : List ByteArray) (q k : Nat) (h : k ≤ us.length) : (St.marked us q k).length = us.length := by
  unfold St.marked; rw [List.length_append, St.marks_len, List.length_drop]; omega
theorem St.marked_get (us : List ByteArray) (q k : Nat) {u : ByteArray} (h : us[k]? = some u) : (St.marked us q k)[k]? = some u := by
  unfold St.marked
  rw [List.getElem?_append_right (by rw [St.marks_len]; exact Nat.le_refl _), St.marks_len, Nat.sub_self, List.getElem?_drop, Nat.add_zero, h]
theorem St.marked_set (us : List ByteArray) (q k : Nat) (h : k < us.length) : (St.marked us q k).set k (Mk.text (q + k)) = St.marked us q (k + 1) := by
  unfold St.marked
  rw [List.set_append_right _ _ (by rw [St.marks_len]; exact Nat.le_refl _), St.marks_len, Nat.sub_self, List.drop_eq_getElem_cons h, List.set_cons_zero, St.marks_succ, List.append_assoc]; rfl
theorem St.marked_all (us : List ByteArray) (q : Nat) : St.marked us q us.length = St.marks q us.length := by unfold St.marked; simp

/-- what marking gives: the list is marked; nothing else has turned -/
def St.Mkd (us : List ByteArray) (q : Nat) (v : Value) (B : Nat) (w : World) (e : Ending) (w' : World) : Prop :=
  e = .returned (.int .i64 ((q + us.length : Nat) : Int)) ∧ St.Own w' B v (St.marks q us.length) ∧ w.grownBy w' v.ownBlock

set_option maxRecDepth 100000 in
set_option maxHeartbeats 1600000 in
theorem markStringS_any (A : Option Addr) (us : List ByteArray) (c B q : Nat) (w : World) (h : St.Own w B (.slice A us.length c) us) (hq : 0 < q) (hn : q + us.length ≤ 100000000) :
    Calls Tryz.prog 15 #[.slice A us.length c, .int .i64 (q : Int)] w (St.Mkd us q (.slice A us.length c) B w) := by
  have hn1 : us.length ≤ 100000000 := by omega
  go_enter Tryz.func15, Tryz.ntmps15
  go_wp2_with fail
  go_loopg [1, 5] us.length (fun g m i wr => ∃ k : Nat, k ≤ us.length ∧ Hid (g = us.length - k) ∧ i = .int .i64 k ∧ m = .int .i64 ((q + k : Nat) : Int) ∧ Hid (wr.ownsRow B 9 1 (.slice A us.length c) us.length ((St.marked us q k).flatMap St.cells)) ∧ w.grownBy wr (Value.slice A us.length c).ownBlock)
  case atStart => exact ⟨0, Nat.zero_le _, Lib.hid rfl, rfl, rfl, Lib.hid h, World.grownBy.refl w _⟩
  case round =>
    obtain ⟨k, hk, HG, rfl, rfl, HO, hg⟩ := hrel
    by_cases hlt : k < us.length
    · obtain ⟨g, cc, e1, hgb, hgs⟩ := HO.out.form (by omega)
      injection e1 with e1 _ e2
      subst e1; subst e2
      obtain ⟨u, hu⟩ : ∃ u, us[k]? = some u := ⟨_, List.getElem?_eq_getElem hlt⟩
      have HU := Lib.hid (St.marked_get us q k hu)
      have HMT := Lib.hid (markText_any (q + k) (by omega) (by omega))
      obtain ⟨x, hx⟩ : ∃ x : Nat, x = q + k := ⟨_, rfl⟩
      have HX := Lib.hid hx
      have hxb : (x : Int) ≤ 100000000 := by omega
      have hx0 : (0 : Int) ≤ (x : Int) := by omega
      rw [← hx] at HMT ⊢
      clear hx hu
      go_wp2_with fail
      refine Calls.mono (HMT.out _) ?_
      rintro e w1 ⟨rfl, hb1⟩
      have hgw : w.grownBy w1 (Value.slice (some ⟨g, 0, none⟩) us.length c).ownBlock := grown_trans hg (grown_below hb1)
      have hown1 := own_below HO.out hb1 hgs
      have e0 : w1.cell? ⟨g, k, none⟩ = some (.string u) := by
        have := own_cell (j := 0) St.cells_len hown1 HU.out rfl
        simpa using this
      have f0 : w1.frozen? ⟨g, k, none⟩ = false := hown1.frozenAt _
      have hs1 := own_set (j := 0) (u' := Mk.text x) (v := .string (Mk.text x)) St.cells_len hown1 HU.out (by omega) rfl
      have hset : ((St.marked us q k).set k (Mk.text x)) = St.marked us q (k + 1) := by rw [HX.out]; exact St.marked_set us q k hlt
      rw [hset] at hs1
      simp only [Nat.mul_one, Nat.add_zero] at hs1
      have HS := Lib.hid hs1
      have HGW := Lib.hid (grown_set (b := g) hgw k (.string (Mk.text x)))
      clear hs1 hset hown1 hgw hb1
      go_wp2_with fail
      go_roundg (us.length - (k + 1))
      case measure => have := HG.out; omega
      case rel => exact ⟨k + 1, by omega, Lib.hid rfl, by go_num, by have := HX.out; go_num, HS, HGW.out⟩
    · obtain rfl : k = us.length := by omega
      have ho := HO.out
      rw [St.marked_all] at ho
      go_wp2_with fail
      go_ret
      refine ⟨rfl, ?_, hg⟩
      unfold St.Own OwnL
      rw [St.marks_len]; exact ho

set_option maxRecDepth 100000 in
set_option maxHeartbeats 1600000 in
theorem heldStringS_any (A : Option Addr) (n c q : Nat) (w : World) (h : AtStrs w w.heap.size A (St.marks q n)) (hq : 0 < q) (hn : q + n ≤ 100000000) :
    Calls Tryz.prog 33 #[.slice A n c, .int .i64 (q : Int)] w fun e w' => e = .returned (.int .i64 ((q + n : Nat) : Int)) ∧ Below w.heap.size w w' := by
  have hn1 : n ≤ 100000000 := by omega
  go_enter Tryz.func33, Tryz.ntmps33
  go_wp2_with fail
  go_loopg [1, 5] n (fun g m i wr => ∃ k : Nat, k ≤ n ∧ Hid (g = n - k) ∧ i = .int .i64 k ∧ m = .int .i64 ((q + k : Nat) : Int) ∧ Below w.heap.size w wr)
  case atStart => exact ⟨0, Nat.zero_le _, Lib.hid rfl, rfl, rfl, Below.refl _ _⟩
  case round =>
    obtain ⟨k, hk, HG, rfl, rfl, hb⟩ := hrel
    by_cases hlt : k < n
    · obtain ⟨g, off, rfl, hg, hc⟩ := (h.below hb).1 (by rw [St.marks_len]; omega)
      have d1 := hc k _ (St.marks_get q n k hlt)
      have HMT := Lib.hid (markText_any (q + k) (by omega) (by omega))
      obtain ⟨x, hx⟩ : ∃ x : Nat, x = q + k := ⟨_, rfl⟩
      have HX := Lib.hid hx
      have hxb : (x : Int) ≤ 100000000 := by omega
      have hx0 : (0 : Int) ≤ (x : Int) := by omega
      have hki : (k : Int) < (n : Int) := by omega
      have hk0 : (0 : Int) ≤ (k : Int) := by omega
      rw [← hx] at HMT d1 ⊢
      have hgr : g < wr.heap.size := Nat.lt_of_lt_of_le hg hb.size
      clear hx hc
      obtain ⟨wo, rfl⟩ : ∃ wo : World, wo = wr := ⟨_, rfl⟩
      go_upto_region 4 with fail
      go_region_held3 (fun w' => w'.cell? ⟨g, off + k, none⟩ = some (.string (Mk.text x))) (first | go_keep | exact (hb1.cell (p := ⟨g, off + k, none⟩) hgr).trans d1)
        (first | (go_at_call 32; refine Calls.mono (HMT.out _) ?_; rintro e w1 ⟨rfl, hb1⟩))
      have hb1' : Below wo.heap.size wo w1 := ⟨hb1.os, hb1.tape, hb1.output, hb1.size, hb1.block⟩
      go_wp2_with fail
      go_roundg (n - (k + 1))
      case measure => have := HG.out; omega
      case rel => exact ⟨k + 1, by omega, Lib.hid rfl, by go_num, by have := HX.out; go_num, hb.trans (hb1'.mono hb.size)⟩
    · obtain rfl : k = n := by omega
      go_wp2_with fail
      go_ret
      exact ⟨rfl, hb⟩

end Go.Proofs.YtpjifcljkgcnlaaGreatDoor

namespace Go.Proofs.YtpjifcljkgcnlaaGreatDoor
set_option linter.unusedVariables false
open Go.RowKit

end Go.Proofs.YtpjifcljkgcnlaaGreatDoor
