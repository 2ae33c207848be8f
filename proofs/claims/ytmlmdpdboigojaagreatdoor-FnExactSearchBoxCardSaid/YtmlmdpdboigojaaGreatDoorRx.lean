/- Rx: Rdr L6 Nm, in one text. -/
import Derived.Test.YtmlmdpdboigojaaGreatDoorProg
import Derived.WalkKit
import Derived.WalkSpells
import Derived.WalkLawsBesides
import Derived.Handy
import Derived.Deep.QuietTactic
import Derived.BigQuiet
import Derived.Deep.Draws
import Derived.Laws.BitsAllLaws
import Derived.Laws.BitsLemmas
import Derived.Lib.Hide
import Derived.Test.YtmlmdpdboigojaaGreatDoorPl
import Derived.Deep.LoopGhost
namespace Go.Proofs.YtmlmdpdboigojaaGreatDoor
set_option linter.unusedVariables false
open Go.RowKit

theorem boxed {w w1 : World} {o : Obj} (hb : Below (w.alloc o).heap.size (w.alloc o) w1) : w1.heap[w.heap.size]? = some o := by
  rw [hb.block _ (by simp)]
  exact heap_alloc_new w o
theorem cell_at {w : World} {b : Nat} {cs : Array Value} {t : TypeId} (h : w.heap[b]? = some (.cells cs t (0, 0))) (i : Nat) (v : Value) (hv : cs[i]? = some v) : w.cell? ⟨b, i, none⟩ = some v := by
  simp only [World.cell?, h]; simpa using hv
theorem free_at {w : World} {b : Nat} {cs : Array Value} {t : TypeId} (h : w.heap[b]? = some (.cells cs t (0, 0))) (i : Nat) : w.frozen? ⟨b, i, none⟩ = false := by
  simp [World.frozen?, h]
theorem unbox {w w1 : World} {o : Obj} (hb : Below (w.alloc o).heap.size (w.alloc o) w1) : Below w.heap.size w w1 :=
  ((Below.refl w.heap.size w).alloc (Nat.le_refl _) o).trans (hb.mono (by simp))
theorem grown_trans {b : Nat} {w w1 w2 : World} (h : w.grownBy w1 (some b)) (k : w1.grownBy w2 (some b)) : w.grownBy w2 (some b) :=
  ⟨k.os.trans h.os, k.tape.trans h.tape, k.output.trans h.output, Nat.le_trans h.size k.size, fun i hi hne => (k.block i (Nat.lt_of_lt_of_le hi h.size) hne).trans (h.block i hi hne)⟩
theorem grown_below {b : Nat} {w w1 : World} (h : Below w.heap.size w w1) : w.grownBy w1 (some b) := ⟨h.os, h.tape, h.output, h.size, fun i hi _ => h.block i hi⟩
theorem grown_refl (b : Nat) (w : World) : w.grownBy w (some b) := World.grownBy.refl w _
theorem grown_drewN {b : Nat} {w w1 : World} (h : w.grownBy w1 (some b)) (n : Nat) : w.grownBy (w1.drewN n) (some b) := ⟨h.os, h.tape, h.output, h.size, h.block⟩
theorem grown_set {b : Nat} {w w1 : World} (h : w.grownBy w1 (some b)) (i : Nat) (u : Value) : w.grownBy (w1.setCell ⟨b, i, none⟩ u) (some b) :=
  ⟨h.os, h.tape, h.output, by simpa [World.setCell] using h.size, fun j hj hne => (Below.heap_setCell w1 _ u j (fun e => hne (by rw [e]))).trans (h.block j hj hne)⟩
theorem grown_alloc {b : Nat} {w w1 : World} (h : w.grownBy w1 (some b)) (o : Obj) : w.grownBy (w1.alloc o) (some b) :=
  ⟨h.os, h.tape, h.output, Nat.le_trans h.size (by simp), fun i hi hne => (Below.heap_alloc w1 o i (Nat.lt_of_lt_of_le hi h.size)).trans (h.block i hi hne)⟩
theorem grown_new {b g : Nat} {w w1 w2 : World} (h : w.grownBy w1 (some b)) (k : w1.grownBy w2 (some g)) (hg : w.heap.size ≤ g) : w.grownBy w2 (some b) :=
  ⟨k.os.trans h.os, k.tape.trans h.tape, k.output.trans h.output, Nat.le_trans h.size k.size, fun i hi hne => (k.block i (Nat.lt_of_lt_of_le hi h.size) (fun e => by injection e with e; omega)).trans (h.block i hi hne)⟩
theorem grown_setNew {b : Nat} {w w1 : World} (h : w.grownBy w1 (some b)) {p : Addr} (hp : w.heap.size ≤ p.block) (u : Value) : w.grownBy (w1.setCell p u) (some b) :=
  ⟨h.os, h.tape, h.output, by simpa [World.setCell] using h.size, fun j hj hne => (Below.heap_setCell w1 p u j (by omega)).trans (h.block j hj hne)⟩
/-- what only block b and new blocks may have turned: below b, nothing -/
theorem grown_to_below {b B : Nat} {w w1 : World} (h : w.grownBy w1 (some b)) (hb : B ≤ b) (hB : B ≤ w.heap.size) : Below B w w1 :=
  ⟨h.os, h.tape, h.output, h.size, fun i hi => h.block i (by omega) (fun e => by injection e with e; omega)⟩

/-- the bytes of a code: len of them, in a block below B -/
def Code (w : World) (B : Nat) (a : Option Addr) (len : Nat) : Prop :=
  len ≤ 2000 ∧ (0 < len → ∃ ab off, a = some ⟨ab, off, none⟩ ∧ ab < B ∧ ∀ j, j < len → ∃ v : Nat, v < 256 ∧ w.cell? ⟨ab, off + j, none⟩ = some (.int .u8 (v : Int)))
theorem Code.keep {w w' : World} {B : Nat} {a : Option Addr} {len : Nat} (h : Code w B a len) (hB : ∀ i, i < B → w'.heap[i]? = w.heap[i]?) : Code w' B a len := by
  refine ⟨h.1, fun hl => ?_⟩
  obtain ⟨ab, off, ha, hlt, hc⟩ := h.2 hl
  refine ⟨ab, off, ha, hlt, fun j hj => ?_⟩
  obtain ⟨v, hv, hcell⟩ := hc j hj
  exact ⟨v, hv, by rw [World.cell?_of_block (hB ab hlt)]; exact hcell⟩
theorem ofInt_i64 (a : Nat) (ha : a < 9223372036854775808) : (BitVec.ofInt 64 (a : Int)).toNat = a := by
  rw [BitVec.ofInt_natCast, BitVec.toNat_ofNat]; exact Nat.mod_eq_of_lt (by omega)
theorem i64_xor_nat (a b : Nat) (ha : a < 9223372036854775808) (hb : b < 9223372036854775808) : bits .xor .i64 (a : Int) (b : Int) = ((a ^^^ b : Nat) : Int) := by
  have hx : a ^^^ b < 2 ^ 63 := Nat.xor_lt_two_pow (by omega) (by omega)
  show IntKind.i64.wrap ((BitVec.ofInt 64 (a : Int) ^^^ BitVec.ofInt 64 (b : Int)).toNat : Int) = _
  rw [BitVec.toNat_xor, ofInt_i64 a ha, ofInt_i64 b hb, IntKind.wrap_i64]
  omega

theorem ret_int {k : IntKind} {a b : Int} (h : a = b) : Ending.returned (.int k a) = .returned (.int k b) := by rw [h]

/-- a slice of bytes that came in -/
def Bytes (w : World) (a : Option Addr) (len cap : Nat) : Prop :=
  len ≤ cap ∧ cap ≤ maxLen ∧ (0 < len → ∃ ab off, a = some ⟨ab, off, none⟩ ∧ ab < w.heap.size ∧ ∀ j, j < len → ∃ v : Nat, v < 256 ∧ w.cell? ⟨ab, off + j, none⟩ = some (.int .u8 (v : Int)))

/-- a cell of a list that was laid ahead of a draw -/
theorem laid_cell {w1 w2 : World} {cs : Array Value} {t : TypeId} {b : Nat} (hg : (w1.alloc (.cells cs t)).grownBy w2 (some b)) (hb : b < w1.heap.size) (i : Nat) (v : Value) (hv : cs[i]? = some v) :
    w2.cell? ⟨w1.heap.size, i, none⟩ = some v := by
  have h1 : (w1.alloc (.cells cs t)).cell? ⟨w1.heap.size, i, none⟩ = some v := by
    simp only [World.cell?, heap_alloc_new]
    simpa using hv
  exact hg.cell h1 (by intro e; injection e with e; simp at e; omega)
def isStr (p : ByteArray → Bool) : Value → Bool
  | .string s => p s
  | _ => false
theorem laid_of (p : ByteArray → Bool) (cs : Array Value) (t : TypeId) (w : World) (n : Nat) (hn : cs.size = n) (h : cs.toList.all (isStr p) = true) :
    ∀ j, j < n → ∃ s, p s = true ∧ (w.alloc (.cells cs t)).cell? ⟨w.heap.size, j, none⟩ = some (.string s) := by
  intro j hj
  have hj' : j < cs.size := by omega
  have hm := (List.all_eq_true.1 h) cs[j] (by simp)
  obtain ⟨s, hs, hp⟩ : ∃ s, cs[j] = .string s ∧ p s = true := by
    cases hv : cs[j] with
    | string s => rw [hv] at hm; exact ⟨s, rfl, hm⟩
    | _ => rw [hv] at hm; simp [isStr] at hm
  refine ⟨s, hp, ?_⟩
  simp only [World.cell?, heap_alloc_new]
  simp [hj', hs]
theorem grown_laid {w w1 : World} {b : Nat} (h : w.grownBy w1 (some b)) (o : Obj) : w.grownBy (w1.alloc o) (some b) := grown_alloc h o

end Go.Proofs.YtmlmdpdboigojaaGreatDoor

namespace Go.Proofs.YtmlmdpdboigojaaGreatDoor
set_option linter.unusedVariables false
open Go.RowKit

/-- lo ≤ n ≤ hi -/
def inB (n lo hi : Int) : Bool := decide (lo ≤ n) && decide (n ≤ hi)
theorem inB_iff {n lo hi : Int} : inB n lo hi = true ↔ lo ≤ n ∧ n ≤ hi := by unfold inB; simp
theorem inB_no {n lo hi : Int} : inB n lo hi = false ↔ ¬ (lo ≤ n ∧ n ≤ hi) := by rw [← inB_iff]; simp
set_option maxHeartbeats 400000 in
theorem l6In_any (n lo hi : Int) (w : World) :
    Calls Tryz.prog 37 #[.int .i64 n, .int .i64 lo, .int .i64 hi] w fun e w' => e = .returned (.bool (inB n lo hi)) ∧ w = w' := by
  by_cases h1 : lo ≤ n
  · by_cases h2 : n ≤ hi
    · go_enter Tryz.func37, Tryz.ntmps37
      go_wp2
      go_ret
      exact ⟨by rw [inB_iff.2 ⟨h1, h2⟩]; rfl, rfl⟩
    · go_enter Tryz.func37, Tryz.ntmps37
      go_wp2
      go_ret
      exact ⟨by rw [inB_no.2 (by omega)]; rfl, rfl⟩
  · go_enter Tryz.func37, Tryz.ntmps37
    go_wp2
    go_ret
    exact ⟨by rw [inB_no.2 (by omega)]; rfl, rfl⟩

theorem l6In_yes (n lo hi : Int) (w : World) (h : lo ≤ n ∧ n ≤ hi) :
    Calls Tryz.prog 37 #[.int .i64 n, .int .i64 lo, .int .i64 hi] w fun e w' => e = .returned (.bool true) ∧ w = w' :=
  (l6In_any n lo hi w).mono fun e w' ⟨he, hw⟩ => ⟨by rw [he, inB_iff.2 h], hw⟩
theorem l6In_no (n lo hi : Int) (w : World) (h : ¬ (lo ≤ n ∧ n ≤ hi)) :
    Calls Tryz.prog 37 #[.int .i64 n, .int .i64 lo, .int .i64 hi] w fun e w' => e = .returned (.bool false) ∧ w = w' :=
  (l6In_any n lo hi w).mono fun e w' ⟨he, hw⟩ => ⟨by rw [he, inB_no.2 h], hw⟩

end Go.Proofs.YtmlmdpdboigojaaGreatDoor

namespace Go.Proofs.YtmlmdpdboigojaaGreatDoor
set_option linter.unusedVariables false
open Go.RowKit

theorem below_drewN {B : Nat} {a w : World} (h : Below B a w) (n : Nat) : Below B a (w.drewN n) := ⟨h.os, h.tape, h.output, h.size, h.block⟩
theorem slen (s : ByteArray) : s.data.toList.length = s.size := by rw [Array.length_toList]; rfl

set_option maxHeartbeats 400000 in
theorem nameByte_any (c : UInt8) (w : World) :
    Calls Tryz.prog 80 #[.int .u8 (c.toNat : Int)] w fun e w' => e = .returned (.bool (Nm.nb c)) ∧ w' = w := by
  by_cases h1 : 97 ≤ c.toNat
  · by_cases h2 : c.toNat ≤ 122
    · have H := Lib.hid (Nm.nb_yes (c := c) (by omega))
      go_enter Tryz.func80, Tryz.ntmps80
      go_wp2
      go_ret
      exact ⟨by rw [H.out]; first | rfl | (simp; omega), rfl⟩
    · have H := Lib.hid (Nm.nb_no (c := c) (by omega))
      have h4 : ¬ c.toNat ≤ 57 := by omega
      go_enter Tryz.func80, Tryz.ntmps80
      go_wp2
      go_ret
      exact ⟨by rw [H.out]; first | rfl | (simp; omega), rfl⟩
  · by_cases h3 : 48 ≤ c.toNat
    · by_cases h4 : c.toNat ≤ 57
      · have H := Lib.hid (Nm.nb_yes (c := c) (by omega))
        go_enter Tryz.func80, Tryz.ntmps80
        go_wp2
        go_ret
        exact ⟨by rw [H.out]; first | rfl | (simp; omega), rfl⟩
      · have H := Lib.hid (Nm.nb_no (c := c) (by omega))
        go_enter Tryz.func80, Tryz.ntmps80
        go_wp2
        go_ret
        exact ⟨by rw [H.out]; first | rfl | (simp; omega), rfl⟩
    · have H := Lib.hid (Nm.nb_no (c := c) (by omega))
      go_enter Tryz.func80, Tryz.ntmps80
      go_wp2
      go_ret
      exact ⟨by rw [H.out]; first | rfl | (simp; omega), rfl⟩

/-- block b is a cursor over s at a place -/
def Cur (w : World) (b : Nat) (s : ByteArray) (p : Nat) : Prop := w.heap[b]? = some (.cells #[.string s, .int .i64 ((p : Nat) : Int)] 117 (0, 0))
section
variable {w : World} {b : Nat} {s : ByteArray} {p : Nat}
theorem Cur.c0 (h : Cur w b s p) : w.cell? ⟨b, 0, none⟩ = some (.string s) := by unfold Cur at h; simp [World.cell?, h]
theorem Cur.c1 (h : Cur w b s p) : w.cell? ⟨b, 1, none⟩ = some (.int .i64 (p : Int)) := by unfold Cur at h; simp [World.cell?, h]
theorem Cur.f1 (h : Cur w b s p) : w.frozen? ⟨b, 1, none⟩ = false := by unfold Cur at h; simp [World.frozen?, h]
theorem Cur.lt (h : Cur w b s p) : b < w.heap.size := by
  unfold Cur at h
  rcases Nat.lt_or_ge b w.heap.size with h' | h'
  · exact h'
  · simp [Array.getElem?_eq_none h'] at h
theorem Cur.drewN (h : Cur w b s p) (n : Nat) : Cur (w.drewN n) b s p := h
theorem Cur.step (h : Cur w b s p) : Cur (w.setCell ⟨b, 1, none⟩ (.int .i64 ((p : Int) + 1))) b s (p + 1) := by
  unfold Cur at h ⊢
  simp [World.setCell, Array.getElem?_modify, h]
end

set_option maxHeartbeats 400000 in
theorem done_no (s : ByteArray) (p b : Nat) (w : World) (c0 : w.cell? ⟨b, 0, none⟩ = some (.string s)) (c1 : w.cell? ⟨b, 1, none⟩ = some (.int .i64 (p : Int))) (h : p < s.size) :
    Calls Tryz.prog 70 #[.pointer (some ⟨b, 0, none⟩)] w fun e w' => e = .returned (.bool false) ∧ ∃ m, w' = w.drewN m := by
  have hb : ((p : Int) == (s.size : Int)) = false := by simp; omega
  go_enter Tryz.func70, Tryz.ntmps70
  go_wp2_with fail
  go_quiet (fail)
  go_wp2
  go_ret
  exact ⟨rfl, _, rfl⟩
set_option maxHeartbeats 400000 in
theorem done_yes (s : ByteArray) (b : Nat) (w : World) (c0 : w.cell? ⟨b, 0, none⟩ = some (.string s)) (c1 : w.cell? ⟨b, 1, none⟩ = some (.int .i64 (s.size : Int))) :
    Calls Tryz.prog 70 #[.pointer (some ⟨b, 0, none⟩)] w fun e w' => e = .returned (.bool true) ∧ ∃ m, w' = w.drewN m := by
  go_enter Tryz.func70, Tryz.ntmps70
  go_wp2_with fail
  go_quiet (fail)
  go_wp2
  go_ret
  exact ⟨by simp, _, rfl⟩

theorem done_end (s : ByteArray) (k b : Nat) (w : World) (c0 : w.cell? ⟨b, 0, none⟩ = some (.string s)) (c1 : w.cell? ⟨b, 1, none⟩ = some (.int .i64 (k : Int))) (h : s.size = k) :
    Calls Tryz.prog 70 #[.pointer (some ⟨b, 0, none⟩)] w fun e w' => e = .returned (.bool true) ∧ ∃ m, w' = w.drewN m := by
  subst h; exact done_yes s b w c0 c1
/-- what reading a name gives -/
def Named (s : ByteArray) (p : Nat) (w : World) (b : Nat) (e : Ending) (w' : World) : Prop :=
  e = .returned (.tuple #[.string (s.extract p (p + Nm.run (s.data.toList.drop p))), .bool (Nm.lenOk (Nm.run (s.data.toList.drop p)))]) ∧ Cur w' b s (p + Nm.run (s.data.toList.drop p)) ∧ w.grownBy w' (some b)

set_option maxRecDepth 100000 in
set_option maxHeartbeats 1600000 in
theorem name_any (s : ByteArray) (p b : Nat) (w : World) (hp : p ≤ s.size) (hs : s.size ≤ maxLen) (h : Cur w b s p) :
    Calls Tryz.prog 69 #[.pointer (some ⟨b, 0, none⟩)] w (Named s p w b) := by
  unfold maxLen at hs
  have hl : s.data.toList.length = s.size := slen s
  have HL := Lib.hid hl
  clear hl
  have c0 := h.c0
  have c1 := h.c1
  have f1 := h.f1
  go_enter Tryz.func69, Tryz.ntmps69
  go_wp2_with fail
  go_loopg [] (s.size - p) (fun g wr => ∃ k : Nat, p ≤ k ∧ k ≤ s.size ∧ Hid (g = s.size - k) ∧ Cur wr b s k ∧ w.grownBy wr (some b) ∧ Hid (Nm.run (s.data.toList.drop p) = (k - p) + Nm.run (s.data.toList.drop k)))
  case atStart => exact ⟨p, Nat.le_refl _, hp, Lib.hid rfl, h, grown_refl b w, Lib.hid (by omega)⟩
  case round =>
    obtain ⟨k, hpk, hks, HG, hc, hg, HR⟩ := hrel
    clear c0 c1 f1
    have c0 := hc.c0
    have c1 := hc.c1
    have f1 := hc.f1
    have HGR : Hid (∀ n, w.grownBy (wr.drewN n) (some b)) := Lib.hid (fun n => grown_drewN hg n)
    by_cases hlt : k < s.size
    · cases hn : Nm.nb s[k]
      · have H0 := Lib.hid (Nm.run_stop (l := s.data.toList) (i := k) (by rw [HL.out]; exact hlt) hn)
        go_wp2_with fail
        go_quiet ((first | (go_at_call 70; exact Calls.quiet_of (done_no s k b _ (by simpa using c0) (by simpa using c1) hlt)) | (go_at_call 80; exact Calls.quiet_of_same (nameByte_any _ _))))
        have HF : Hid (Nm.run (s.data.toList.drop p) = k - p) := Lib.hid (by have := HR.out; have := H0.out; omega)
        have HX : Hid (p + Nm.run (s.data.toList.drop p) = k) := Lib.hid (by have := HF.out; omega)
        clear h hg HG HR H0 HL
        by_cases hz : k = p
        · subst hz
          have hd : decide (1 ≤ ((k : Int) - (k : Int))) = false := by simp
          have HB := Lib.hid (show Nm.lenOk 0 = false from rfl)
          go_wp2_with fail
          go_quiet (fail)
          go_wp2_with fail
          go_ret2
          refine ⟨?_, by rw [HX.out]; exact hc, grown_drewN (HGR.out _) _⟩
          rw [HF.out, Nat.sub_self, HB.out]; simp
        · have h1 : (1 : Int) ≤ (k : Int) - (p : Int) := by omega
          by_cases h8 : k - p ≤ 8
          · have h8' : (k : Int) - (p : Int) ≤ 8 := by omega
            have HB : Hid (Nm.lenOk (k - p) = true) := Lib.hid (Nm.lenOk_iff.2 (by omega))
            go_wp2_with fail
            go_quiet (fail)
            go_wp2_with fail
            go_ret2
            refine ⟨?_, by rw [HX.out]; exact hc, grown_drewN (HGR.out _) _⟩
            rw [HX.out, HF.out, HB.out]; first | rfl | (simp; omega)
          · have h8' : ¬ (k : Int) - (p : Int) ≤ 8 := by omega
            have HB : Hid (Nm.lenOk (k - p) = false) := Lib.hid (by cases hq : Nm.lenOk (k - p); rfl; exact absurd (Nm.lenOk_iff.1 hq) (by omega))
            go_wp2_with fail
            go_quiet (fail)
            go_wp2_with fail
            go_ret2
            refine ⟨?_, by rw [HX.out]; exact hc, grown_drewN (HGR.out _) _⟩
            rw [HX.out, HF.out, HB.out]; first | rfl | (simp; omega)
      · have HN := Lib.hid (Nm.run_step (l := s.data.toList) (i := k) (by rw [HL.out]; exact hlt) hn)
        go_wp2_with fail
        go_quiet ((first | (go_at_call 70; exact Calls.quiet_of (done_no s k b _ (by simpa using c0) (by simpa using c1) hlt)) | (go_at_call 80; exact Calls.quiet_of_same (nameByte_any _ _))))
        go_wp2_with fail
        go_roundg (s.size - (k + 1))
        case measure => have := HG.out; omega
        case rel => exact ⟨k + 1, by omega, by omega, Lib.hid rfl, (hc.drewN _).step, grown_set (HGR.out _) 1 _, Lib.hid (by have := HR.out; have := HN.out; omega)⟩
    · have HK : Hid (s.size = k) := Lib.hid (by omega)
      have H0 : Hid (Nm.run (s.data.toList.drop k) = 0) := Lib.hid (by rw [List.drop_of_length_le (by rw [HL.out]; omega)]; rfl)
      clear hlt
      go_wp2_with fail
      go_quiet ((go_at_call 70; exact Calls.quiet_of (done_end s k b _ (by simpa using c0) (by simpa using c1) HK.out)))
      have HF : Hid (Nm.run (s.data.toList.drop p) = k - p) := Lib.hid (by have := HR.out; have := H0.out; omega)
      have HX : Hid (p + Nm.run (s.data.toList.drop p) = k) := Lib.hid (by have := HF.out; omega)
      clear h hg HG HR H0 HL
      by_cases hz : k = p
      · subst hz
        have hd : decide (1 ≤ ((k : Int) - (k : Int))) = false := by simp
        have HB := Lib.hid (show Nm.lenOk 0 = false from rfl)
        go_wp2_with fail
        go_quiet (fail)
        go_wp2_with fail
        go_ret2
        refine ⟨?_, by rw [HX.out]; exact hc, grown_drewN (HGR.out _) _⟩
        rw [HF.out, Nat.sub_self, HB.out]; simp
      · have h1 : (1 : Int) ≤ (k : Int) - (p : Int) := by omega
        by_cases h8 : k - p ≤ 8
        · have h8' : (k : Int) - (p : Int) ≤ 8 := by omega
          have HB : Hid (Nm.lenOk (k - p) = true) := Lib.hid (Nm.lenOk_iff.2 (by omega))
          go_wp2_with fail
          go_quiet (fail)
          go_wp2_with fail
          go_ret2
          refine ⟨?_, by rw [HX.out]; exact hc, grown_drewN (HGR.out _) _⟩
          rw [HX.out, HF.out, HB.out]; first | rfl | (simp; omega)
        · have h8' : ¬ (k : Int) - (p : Int) ≤ 8 := by omega
          have HB : Hid (Nm.lenOk (k - p) = false) := Lib.hid (by cases hq : Nm.lenOk (k - p); rfl; exact absurd (Nm.lenOk_iff.1 hq) (by omega))
          go_wp2_with fail
          go_quiet (fail)
          go_wp2_with fail
          go_ret2
          refine ⟨?_, by rw [HX.out]; exact hc, grown_drewN (HGR.out _) _⟩
          rw [HX.out, HF.out, HB.out]; first | rfl | (simp; omega)

set_option maxHeartbeats 800000 in
theorem iNameValid_any (s : ByteArray) (w : World) (hs : s.size ≤ maxLen) :
    Calls Tryz.prog 58 #[.string s] w fun e w' => e = .returned (.bool (Nm.nameOk s.data.toList)) ∧ Below w.heap.size w w' := by
  have hr := Nm.run_le s.data.toList
  rw [slen] at hr
  have hcur : Cur (w.alloc (.cells #[.string s, .int .i64 0] 117)) w.heap.size s 0 := heap_alloc_new w _
  go_enter Tryz.func58, Tryz.ntmps58
  go_wp2_with fail
  refine (name_any s 0 w.heap.size _ (by omega) hs hcur).mono ?_
  rintro e w1 ⟨rfl, hc1, hg1⟩
  rw [List.drop_zero, Nat.zero_add] at hc1
  rw [List.drop_zero, Nat.zero_add]
  have hB : Below w.heap.size w w1 := ((Below.refl w.heap.size w).alloc (Nat.le_refl _) (.cells #[.string s, .int .i64 0] 117)).trans (grown_to_below hg1 (Nat.le_refl _) (by simp))
  have c0 := hc1.c0
  have c1 := hc1.c1
  cases hl : Nm.lenOk (Nm.run s.data.toList)
  · have HF : Hid (Nm.nameOk s.data.toList = false) := Lib.hid (by
      by_cases e : Nm.run s.data.toList = s.data.toList.length
      · rw [Nm.nameOk_of_run _ e, ← e, hl]
      · exact Nm.nameOk_short _ e)
    clear hl hr
    go_wp2_with fail
    go_ret
    exact ⟨by rw [HF.out]; rfl, hB⟩
  · by_cases e : Nm.run s.data.toList = s.size
    · have HF : Hid (Nm.nameOk s.data.toList = true) := Lib.hid (by rw [Nm.nameOk_of_run _ (by rw [e, slen]), slen, ← e, hl])
      rw [e] at c1
      clear hl hr e hc1
      go_wp2_with (go_at_call 70; refine (done_yes s w.heap.size _ (by simpa using c0) (by simpa using c1)).mono ?_; rintro e w2 ⟨rfl, nq, rfl⟩)
      go_ret
      exact ⟨by rw [HF.out]; rfl, below_drewN hB nq⟩
    · have HF : Hid (Nm.nameOk s.data.toList = false) := Lib.hid (Nm.nameOk_short _ (by rw [slen]; exact e))
      have hlt : Nm.run s.data.toList < s.size := by omega
      clear hl e hc1
      go_wp2_with (go_at_call 70; refine (done_no s _ w.heap.size _ (by simpa using c0) (by simpa using c1) hlt).mono ?_; rintro e w2 ⟨rfl, nq, rfl⟩)
      go_ret
      exact ⟨by rw [HF.out]; rfl, below_drewN hB nq⟩

set_option maxHeartbeats 1600000 in
theorem sNameValid_any (s : ByteArray) (w : World) (hs : s.size ≤ maxLen) :
    Calls Tryz.prog 73 #[.string s] w fun e w' => e = .returned (.bool (Nm.nameOk s.data.toList)) ∧ w = w' := by
  unfold maxLen at hs
  go_enter Tryz.func73, Tryz.ntmps73
  go_wp2_with fail
  go_loop [3] (fun i => ∃ k : Nat, k ≤ s.size ∧ i = .int .i64 k ∧ Hid (s.data.toList.all Nm.nb = (s.data.toList.drop k).all Nm.nb)) (fun i => s.size - (intOf i).toNat)
  case atStart => exact ⟨0, by omega, rfl, Lib.hid (by simp)⟩
  case round =>
    obtain ⟨k, hk, rfl, HR⟩ := hrel
    by_cases hlt : k < s.size
    · have HS : Hid ((s.data.toList.drop k).all Nm.nb = (Nm.nb s[k] && (s.data.toList.drop (k + 1)).all Nm.nb)) := Lib.hid (Nm.all_step (by simpa using hlt))
      have hno : ∀ h : Nm.nb s[k] = false, Nm.nameOk s.data.toList = false := by
        intro h
        unfold Nm.nameOk
        rw [HR.out, HS.out, h]; rfl
      have HNO := Lib.hid hno
      clear hno
      have hyes : ∀ h : Nm.nb s[k] = true, s.data.toList.all Nm.nb = (s.data.toList.drop (k + 1)).all Nm.nb := by
        intro h
        rw [HR.out, HS.out, h]; rfl
      have HY := Lib.hid hyes
      clear hyes
      by_cases h97 : 97 ≤ s[k].toNat
      · by_cases h122 : s[k].toNat ≤ 122
        · have d1 : decide (((s[k].toNat : Nat) : Int) ≤ 122) = true := by simp; omega
          go_wp2_with fail
          refine ⟨⟨k + 1, by omega, by go_num, Lib.hid (HY.out (Nm.nb_yes (by omega)))⟩, by simp [intOf]; omega⟩
        · have d1 : decide (((s[k].toNat : Nat) : Int) ≤ 122) = false := by simp; omega
          have d2 : decide (((s[k].toNat : Nat) : Int) ≤ 57) = false := by simp; omega
          go_wp2_with fail
          go_ret
          exact ⟨by rw [HNO.out (Nm.nb_no (by omega))]; rfl, rfl⟩
      · by_cases h48 : 48 ≤ s[k].toNat
        · by_cases h57 : s[k].toNat ≤ 57
          · have d2 : decide (((s[k].toNat : Nat) : Int) ≤ 57) = true := by simp; omega
            go_wp2_with fail
            refine ⟨⟨k + 1, by omega, by go_num, Lib.hid (HY.out (Nm.nb_yes (by omega)))⟩, by simp [intOf]; omega⟩
          · have d2 : decide (((s[k].toNat : Nat) : Int) ≤ 57) = false := by simp; omega
            go_wp2_with fail
            go_ret
            exact ⟨by rw [HNO.out (Nm.nb_no (by omega))]; rfl, rfl⟩
        · go_wp2_with fail
          go_ret
          exact ⟨by rw [HNO.out (Nm.nb_no (by omega))]; rfl, rfl⟩
    · obtain rfl : k = s.size := by omega
      have hall : s.data.toList.all Nm.nb = true := by rw [HR.out, List.drop_of_length_le (by rw [slen]; omega)]; rfl
      have HF : Hid (Nm.nameOk s.data.toList = inB (s.size : Int) 1 8) := Lib.hid (by
        unfold Nm.nameOk
        rw [hall, slen]
        cases hq : inB (s.size : Int) 1 8
        · cases hz : Nm.lenOk s.size
          · rfl
          · exact absurd (Nm.lenOk_iff.1 hz) (by have := inB_no.1 hq; omega)
        · rw [Nm.lenOk_iff.2 (by have := inB_iff.1 hq; omega)]; rfl)
      clear hall
      go_wp2_with (go_at_call 37; refine (l6In_any _ _ _ _).mono ?_; rintro e w' ⟨rfl, rfl⟩)
      go_ret
      exact ⟨by rw [HF.out]; rfl, rfl⟩

end Go.Proofs.YtmlmdpdboigojaaGreatDoor
