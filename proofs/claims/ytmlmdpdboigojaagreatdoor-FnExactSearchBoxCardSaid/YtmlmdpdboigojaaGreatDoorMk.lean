/- markText of the laws: a text that a number makes. -/
import Derived.Test.YtmlmdpdboigojaaGreatDoorProg
import Derived.WalkKit
import Derived.WalkSpells
import Derived.WalkLawsBesides
import Derived.Handy
import Derived.Lib.Hide
import Derived.Deep.LoopGhost
import Derived.Laws.IdiomStrings
namespace Go.Proofs.YtmlmdpdboigojaaGreatDoor
set_option linter.unusedVariables false
open Go.RowKit

/-- the digits of a number -/
def Mk.digs (k : Nat) : List UInt8 := if h : k = 0 then [] else Mk.digs (k / 10) ++ [UInt8.ofNat (48 + k % 10)]
termination_by k
decreasing_by omega
theorem Mk.digs_zero : Mk.digs 0 = [] := by rw [Mk.digs]; rfl
theorem Mk.digs_pos {k : Nat} (h : 0 < k) : Mk.digs k = Mk.digs (k / 10) ++ [UInt8.ofNat (48 + k % 10)] := by
  rw [Mk.digs, dif_neg (by omega)]
theorem Mk.digs_len (k : Nat) : (Mk.digs k).length ≤ k := by
  induction k using Nat.strongRecOn with
  | _ k ih =>
    by_cases h : k = 0
    · subst h; rw [Mk.digs_zero]; simp
    · rw [Mk.digs_pos (by omega), List.length_append]
      have := ih (k / 10) (by omega)
      simp only [List.length_singleton]; omega
def Mk.text (k : Nat) : ByteArray := ⟨(109 :: Mk.digs k).toArray⟩
theorem Mk.text_size (k : Nat) : (Mk.text k).size ≤ k + 1 := by
  have := Mk.digs_len k
  show (109 :: Mk.digs k).toArray.size ≤ k + 1
  simp; omega
theorem Mk.append (a b : List UInt8) : (ByteArray.mk a.toArray) ++ (ByteArray.mk b.toArray) = ByteArray.mk (a ++ b).toArray := by
  apply ByteArray.ext
  simp

set_option maxRecDepth 100000 in
set_option maxHeartbeats 800000 in
theorem markText_any (k : Nat) (h0 : 0 < k) (hk : k ≤ 1000000000) (w : World) :
    Calls Tryz.prog 53 #[.int .i64 (k : Int)] w fun e w' => e = .returned (.string (Mk.text k)) ∧ Below w.heap.size w w' := by
  have hlen := Mk.digs_len k
  have h0i : ¬ ((k : Int) ≤ 0) := by omega
  have HK := Lib.hid hk
  have HLEN := Lib.hid hlen
  clear hk hlen
  go_enter Tryz.func53, Tryz.ntmps53
  go_wp2_with fail
  go_loopg [0, 3] k (fun g i o wr => ∃ (m : Nat) (l : List UInt8), Hid (g = m) ∧ i = .int .i64 (m : Int) ∧ o = .string ⟨l.toArray⟩ ∧ m ≤ k ∧ l.length ≤ k ∧ Hid (Mk.digs m ++ l = Mk.digs k) ∧ Below w.heap.size w wr)
  case atStart => exact ⟨k, [], Lib.hid rfl, rfl, rfl, Nat.le_refl _, Nat.zero_le _, Lib.hid (by simp), Below.refl _ _⟩
  case round =>
    obtain ⟨m, l, HG, rfl, rfl, hm, hl, HD, hb⟩ := hrel
    by_cases hm0 : 0 < m
    · have hm0i : (0 : Int) < (m : Int) := by omega
      have hmb : (m : Int) ≤ 1000000000 := by have := HK.out; omega
      have E2 : Hid ((m : Int) / 10 = ((m / 10 : Nat) : Int)) := Lib.hid (by omega)
      obtain ⟨d, hd⟩ : ∃ d : UInt8, UInt8.ofNat (48 + m % 10) = d := ⟨_, rfl⟩
      have hdv : (d.toNat : Int) = 48 + (m : Int) % 10 := by
        rw [← hd, UInt8.toNat_ofNat_of_lt' (by show 48 + m % 10 < 256; omega)]
        omega
      have HD2 : Hid (Mk.digs (m / 10) ++ ([d] ++ l) = Mk.digs k) := Lib.hid (by rw [← HD.out, Mk.digs_pos hm0, List.append_assoc, hd])
      have HL2 : Hid (([d] ++ l).length ≤ k) := Lib.hid (by
        have e := congrArg List.length HD2.out
        rw [List.length_append] at e
        have := HLEN.out
        omega)
      have hms : 0 ≤ (m : Int) % 10 := by omega
      have hms2 : (m : Int) % 10 < 10 := by omega
      have hcv : (convert 112 9 (.slice (some ⟨wr.heap.size, 0, none⟩) 1 1)).run Tryz.prog (wr.alloc (.cells #[.int .u8 (48 + (m : Int) % 10)] 5)) = .ok (.string ⟨[d].toArray⟩) (wr.alloc (.cells #[.int .u8 (48 + (m : Int) % 10)] 5)) := by
        refine run_convert_bytes_back _ 112 9 5 ⟨wr.heap.size, 0, none⟩ 1 [d] Tryz.underlying112 Tryz.underlying5 Tryz.underlying9 fun j hj => ?_
        obtain rfl : j = 0 := by simpa using hj
        show (wr.alloc (.cells #[.int .u8 (48 + (m : Int) % 10)] 5)).cell? ⟨wr.heap.size, 0, none⟩ = some (.int .u8 (d.toNat : Int))
        rw [hdv]
        simp only [World.cell?, heap_alloc_new]
        rfl
      have HA := Lib.hid (Mk.append [d] l)
      have hls : (ByteArray.mk l.toArray).size ≤ 1000000000 := by
        show l.toArray.size ≤ 1000000000
        have := HK.out
        simp; omega
      have hos : (ByteArray.mk [d].toArray).size ≤ 1 := Nat.le_refl _
      have hmk : m / 10 ≤ k := by omega
      clear hm hl hd hdv
      go_wp2_with fail
      go_roundg (m / 10)
      case measure => have := HG.out; omega
      case rel => exact ⟨m / 10, [d] ++ l, Lib.hid rfl, by rw [E2.out], by rw [← HA.out], hmk, HL2.out, HD2, hb.alloc hb.size _⟩
    · obtain rfl : m = 0 := by omega
      have HF : Hid (l = Mk.digs k) := Lib.hid (by rw [← HD.out, Mk.digs_zero]; rfl)
      have HA := Lib.hid (Mk.append [109] l)
      have hls : (ByteArray.mk l.toArray).size ≤ 1000000000 := by
        show l.toArray.size ≤ 1000000000
        have := HK.out
        simp; omega
      have h109 : (ByteArray.mk #[109]).size ≤ 1 := Nat.le_refl _
      go_wp2_with fail
      go_ret
      refine ⟨?_, hb⟩
      unfold Mk.text
      rw [← HF.out]
      exact congrArg (fun x => Ending.returned (Value.string x)) HA.out

end Go.Proofs.YtmlmdpdboigojaaGreatDoor
