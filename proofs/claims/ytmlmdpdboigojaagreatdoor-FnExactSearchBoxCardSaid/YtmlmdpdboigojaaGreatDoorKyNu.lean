/- SetNumbers of the program: the numbers of a set. -/
import Derived.Test.YtmlmdpdboigojaaGreatDoorKyIm
import Derived.Test.YtmlmdpdboigojaaGreatDoorItB
import Derived.Test.YtmlmdpdboigojaaGreatDoorOwT
import Derived.Deep.OwnRows
import Derived.Laws.Rows
namespace Go.Proofs.YtmlmdpdboigojaaGreatDoor
set_option linter.unusedVariables false
open Go.RowKit

/-- is n between the ends of one of these spans? -/
def Ky.mark1 (s : Sn) (l n : Int) : Bool := decide (min (Ky.bound s.1 l) (Ky.bound s.2 l) ≤ n) && decide (n ≤ min (max (Ky.bound s.1 l) (Ky.bound s.2 l)) l)
def Ky.marked (ss : List Sn) (l : Int) (n : Nat) : Bool := ss.any fun s => Ky.mark1 s l (n : Int)
/-- the numbers of a set, up to k -/
def Ky.upto (f : Nat → Bool) (k : Nat) : List Int := List.map (fun n : Nat => (n : Int)) ((List.range k).filter f)
def Ky.nums (ss : List Sn) (last : Int) : List Int := if 1 ≤ last then Ky.upto (Ky.marked ss (min last 99)) 100 else []

theorem Ky.upto_yes {f : Nat → Bool} {k : Nat} (h : f k = true) : Ky.upto f (k + 1) = Ky.upto f k ++ [(k : Int)] := by
  unfold Ky.upto
  rw [List.range_succ, List.filter_append, List.map_append]
  simp [h]
theorem Ky.upto_no {f : Nat → Bool} {k : Nat} (h : f k = false) : Ky.upto f (k + 1) = Ky.upto f k := by
  unfold Ky.upto
  rw [List.range_succ, List.filter_append, List.map_append]
  simp [h]
theorem Ky.upto_len (f : Nat → Bool) (k : Nat) : (Ky.upto f k).length ≤ k := by
  unfold Ky.upto
  rw [List.length_map]
  refine Nat.le_trans (List.length_filter_le _ _) ?_
  rw [List.length_range]; exact Nat.le_refl _
/-- a hundred marks -/
def Ky.arr (f : Nat → Bool) : Array Value := (Array.range 100).map fun n => .bool (f n)
theorem Ky.arr_size (f : Nat → Bool) : (Ky.arr f).size = 100 := by simp [Ky.arr]
theorem Ky.arr_get (f : Nat → Bool) {k : Nat} (h : k < 100) : (Ky.arr f)[k]? = some (.bool (f k)) := by
  unfold Ky.arr
  rw [Array.getElem?_map, Array.getElem?_eq_getElem (by simpa using h)]
  simp
theorem Ky.arr_set (f : Nat → Bool) (k : Nat) : (Ky.arr f).setIfInBounds k (.bool true) = Ky.arr (fun j => f j || j == k) := by
  apply Array.ext
  · simp [Ky.arr]
  · intro i h1 h2
    have h3 : i < 100 := by simpa [Ky.arr] using h2
    rw [Array.getElem_setIfInBounds (by simpa [Ky.arr] using h2)]
    by_cases e : k = i
    · subst e
      simp [Ky.arr]
    · have e2 : (i == k) = false := by simp; exact fun h => e h.symm
      simp [Ky.arr, e, e2]
theorem Ky.arr_congr {f g : Nat → Bool} (h : ∀ j, j < 100 → f j = g j) : Ky.arr f = Ky.arr g := by
  apply Array.ext
  · simp [Ky.arr]
  · intro i h1 h2
    have h3 : i < 100 := by simpa [Ky.arr] using h2
    simp [Ky.arr, h i h3]
theorem Ky.arr_zero : Tryz.zeroCells110 = Ky.arr (fun _ => false) := by kernel_rfl
theorem Ky.arr_index (f : Nat → Bool) {k : Nat} (h : k < 100) (W : World) : (Instr.index 110 (.agg (Ky.arr f)) (.int .i64 (k : Int))).run Tryz.prog W = .ok (.bool (f k)) W := by
  have hk : 0 ≤ (k : Int) ∧ (k : Int) < (100 : Nat) := by omega
  simp [Instr.index, run_underlying Tryz.underlying110, asIntOf, hk, go_sem, Tryz.sizeOf4, part, Tryz.isAgg4, Ky.arr_get f h]
  intro h3; omega
set_option maxRecDepth 100000 in
set_option maxHeartbeats 3200000 in
theorem SetNumbers_any (A : Option Addr) (ss : List Sn) (c : Nat) (last : Int) (w : World) (h : AtSet w w.heap.size A ss) (hok : Ky.setOk ss = true) (hl99 : last ≤ 99) :
    Calls Tryz.prog 48 #[.slice A ss.length c, .int .i64 last] w fun e w' => ∃ v, e = .returned v ∧ It.Own w' w.heap.size v (Ky.nums ss last) ∧ Below w.heap.size w w' := by
  have hlen : ss.length ≤ 6 := by
    unfold Ky.setOk at hok
    simp only [Bool.and_eq_true, decide_eq_true_eq] at hok
    exact hok.2.2
  have hall : ∀ u ∈ ss, 0 ≤ u.1 ∧ u.1 ≤ 99 ∧ 0 ≤ u.2 ∧ u.2 ≤ 99 := fun u hu => by
    unfold Ky.setOk at hok
    simp only [Bool.and_eq_true, List.all_eq_true] at hok
    have := hok.1 u hu
    unfold Ky.spanOk Ky.numOk at this
    simp only [Bool.and_eq_true, decide_eq_true_eq] at this
    exact ⟨this.1.1, this.1.2, this.2.1, this.2.2⟩
  have hml : ss.length ≤ maxLen := by unfold maxLen; omega
  have hown0 : It.Own (w.alloc (.cells #[] 3)) w.heap.size (.slice (some ⟨w.heap.size, 0, none⟩) 0 0) [] := ownL_nil w (Nat.le_refl _)
  have hb0 : Below w.heap.size w (w.alloc (.cells #[] 3)) := (Below.refl _ _).alloc (Nat.le_refl _) _
  have HV := Lib.hid (iSetValid_any A ss c _ (At.mono (At.below h hb0) hb0.size) hml)
  have HA : Hid (∀ W, Below w.heap.size w W → AtSet W W.heap.size A ss) := Lib.hid fun W hb => At.mono (At.below h hb) hb.size
  rw [hok] at HV
  have HO := Lib.hid hown0
  have HB := Lib.hid hb0
  have HALL := Lib.hid hall
  clear hown0 hb0 h hall hml hok
  by_cases hl1 : last < 1
  · have HR : Hid (Ky.nums ss last = []) := Lib.hid (if_neg (by omega))
    go_enter Tryz.func48, Tryz.ntmps48
    go_wp2_with fail
    refine Calls.mono HV.out ?_
    rintro e w1 ⟨rfl, hb1⟩
    have HO1 := Lib.hid (OwnL.below HO.out hb1)
    have HB1 := Lib.hid (HB.out.trans (hb1.mono HB.out.size))
    clear hb1
    go_wp2_with fail
    go_ret
    exact ⟨_, rfl, by rw [HR.out]; exact HO1.out, HB1.out⟩
  · have HR : Hid (Ky.nums ss last = Ky.upto (Ky.marked ss (min last 99)) 100) := Lib.hid (if_pos (by omega))
    have HMN : Hid (min last 99 = last) := Lib.hid (by omega)
    go_enter Tryz.func48, Tryz.ntmps48
    go_wp2_with fail
    refine Calls.mono HV.out ?_
    rintro e w1 ⟨rfl, hb1⟩
    have HO1 := Lib.hid (OwnL.below HO.out hb1)
    have HB1 := Lib.hid (HB.out.trans (hb1.mono HB.out.size))
    clear hb1
    go_wp2_with fail
    rw [HMN.out] at HR
    have HMN2 := HMN.out
    rw [Ky.arr_zero, HMN2]
    have hb2 : Below w1.heap.size w1 (w1.alloc (.cells (Ky.arr fun _ => false) 110)) := (Below.refl _ _).alloc (Nat.le_refl _) _
    have hx2 := heap_alloc_new w1 (.cells (Ky.arr fun _ => false) 110)
    generalize w1.alloc (.cells (Ky.arr fun _ => false) 110) = w2 at hb2 hx2 ⊢
    obtain ⟨b, hb⟩ : ∃ b, b = w1.heap.size := ⟨_, rfl⟩
    rw [← hb] at hx2 ⊢
    have hwb : w.heap.size ≤ b := by have := HB1.out.size; omega
    clear hb
    have HO2 := Lib.hid (OwnL.below HO1.out hb2)
    have HB2 := Lib.hid (HB1.out.trans (hb2.mono HB1.out.size))
    have HX2 := Lib.hid hx2
    clear hb2 hx2 HMN2
    go_loopg [27] ss.length (fun g i wr => ∃ k : Nat, k ≤ ss.length ∧ Hid (g = ss.length - k) ∧ i = .int .i64 k ∧ Hid (wr.heap[b]? = some (.cells (Ky.arr (Ky.marked (ss.take k) last)) 110 (0, 0))) ∧ Hid (It.Own wr w.heap.size (.slice (some ⟨w.heap.size, 0, none⟩) 0 0) []) ∧ Below w.heap.size w wr)
    case atStart => exact ⟨0, Nat.zero_le _, Lib.hid rfl, rfl, HX2, HO2, HB2.out⟩
    case round =>
      obtain ⟨k, hk, HG, rfl, HX, HO3, hb⟩ := hrel
      by_cases hlt : k < ss.length
      · have hki : (k : Int) < (ss.length : Int) := by omega
        obtain ⟨g, off, hA, hg, hc⟩ := AtSet.row (HA.out wr hb) (by omega)
        subst hA
        obtain ⟨u, hu⟩ : ∃ u, ss[k]? = some u := ⟨_, List.getElem?_eq_getElem hlt⟩
        obtain ⟨d0, d1⟩ := hc k u hu
        have hu4 := HALL.out u (List.mem_of_getElem? hu)
        have HTK := Lib.hid (Ky.take_snoc hu)
        have hba : Below wr.heap.size wr (wr.alloc (.cells #[.int .i64 u.1, .int .i64 u.2] 81)) := (Below.refl _ _).alloc (Nat.le_refl _) _
        have HBA := Lib.hid hba
        have HXA := Lib.hid ((hba.block b (Array.getElem?_eq_some_iff.1 HX.out).1).trans HX.out)
        have HOA := Lib.hid (OwnL.below HO3.out hba)
        obtain ⟨a, ha⟩ : ∃ a, a = Ky.bound u.1 last := ⟨_, rfl⟩
        obtain ⟨z, hz⟩ : ∃ z, z = Ky.bound u.2 last := ⟨_, rfl⟩
        have ha1 : 1 ≤ a ∧ a ≤ 99 := by rw [ha]; unfold Ky.bound; split <;> omega
        have hz1 : 1 ≤ z ∧ z ≤ 99 := by rw [hz]; unfold Ky.bound; split <;> omega
        have HC1 := Lib.hid (fun W => (setBound_any u.1 last W).mono fun e w' h => (⟨h.1, h.2.symm⟩ : e = .returned (.int .i64 (Ky.bound u.1 last)) ∧ w' = W))
        have HC2 := Lib.hid (fun W => (setBound_any u.2 last W).mono fun e w' h => (⟨h.1, h.2.symm⟩ : e = .returned (.int .i64 (Ky.bound u.2 last)) ∧ w' = W))
        rw [← ha] at HC1
        rw [← hz] at HC2
        have HMK : Hid (∀ n : Nat, Ky.mark1 u last (n : Int) = (decide (min a z ≤ (n : Int)) && decide ((n : Int) ≤ min (max a z) last))) := Lib.hid fun n => by rw [ha, hz]; rfl
        clear hc hu ha hz hba
        go_wp2_with fail
        go_quiet ((go_at_call 63; first | exact Calls.quiet_of_same (HC1.out _) | exact Calls.quiet_of_same (HC2.out _)))
        go_upto_if 41 with fail
        go_cut [9, 10] (fun v9 v10 wx => v9 = .int .i64 (min a z) ∧ v10 = .int .i64 (max a z) ∧ Hid (wx.heap[b]? = some (.cells (Ky.arr (Ky.marked (ss.take k) last)) 110 (0, 0))) ∧ Hid (It.Own wx w.heap.size (.slice (some ⟨w.heap.size, 0, none⟩) 0 0) []) ∧ Below w.heap.size w wx)
        case first =>
          by_cases haz : a > z
          · have E1 : Hid (min a z = z) := Lib.hid (by omega)
            have E2 : Hid (max a z = a) := Lib.hid (by omega)
            go_wp2_with fail
            go_meet
            exact ⟨by rw [E1.out], by rw [E2.out], HXA, HOA, below_drewN (hb.trans (HBA.out.mono hb.size)) _⟩
          · have E1 : Hid (min a z = a) := Lib.hid (by omega)
            have E2 : Hid (max a z = z) := Lib.hid (by omega)
            go_wp2_with fail
            go_meet
            exact ⟨by rw [E1.out], by rw [E2.out], HXA, HOA, below_drewN (hb.trans (HBA.out.mono hb.size)) _⟩
        obtain ⟨rfl, rfl, HXC, HOC, hbc⟩ := hcut
        clear HXA HOA HBA
        obtain ⟨lo, hlo⟩ : ∃ lo, lo = min a z := ⟨_, rfl⟩
        obtain ⟨hi, hhi⟩ : ∃ hi, hi = max a z := ⟨_, rfl⟩
        rw [← hlo, ← hhi]
        rw [← hlo, ← hhi] at HMK
        have hlo1 : 1 ≤ lo ∧ lo ≤ 99 := by omega
        have hhi1 : 1 ≤ hi ∧ hi ≤ 99 := by omega
        have hlh : lo ≤ hi := by omega
        clear hlo hhi ha1 hz1 HC1 HC2
        go_wp2_with fail
        obtain ⟨nlo, hnlo⟩ : ∃ nlo : Nat, lo = (nlo : Int) := ⟨lo.toNat, by omega⟩
        subst hnlo
        go_loopg [11] (101 - nlo) (fun g i wr2 => ∃ n : Nat, nlo ≤ n ∧ n ≤ 100 ∧ Hid ((n : Int) ≤ min hi last + 1 ∨ n = nlo) ∧ Hid (g = 101 - n) ∧ i = .int .i64 n ∧ Hid (wr2.heap[b]? = some (.cells (Ky.arr (fun j => Ky.marked (ss.take k) last j || (decide (nlo ≤ j) && decide (j < n)))) 110 (0, 0))) ∧ Hid (It.Own wr2 w.heap.size (.slice (some ⟨w.heap.size, 0, none⟩) 0 0) []) ∧ Below w.heap.size w wr2)
        case atStart =>
          refine ⟨nlo, Nat.le_refl _, by omega, Lib.hid (.inr rfl), Lib.hid rfl, rfl, Lib.hid (HXC.out.trans ?_), HOC, hbc⟩
          rw [Ky.arr_congr (g := fun j => Ky.marked (ss.take k) last j || (decide (nlo ≤ j) && decide (j < nlo))) (fun j _ => by
            cases h9 : (decide (nlo ≤ j) && decide (j < nlo))
            · rw [Bool.or_false]
            · simp at h9; omega)]
        case round =>
          rename World => wr2
          obtain ⟨n, hn1, hn2, HN3, HG2, rfl, HX2, HO2, hb2⟩ := hrel
          by_cases hcm : (n : Int) ≤ min hi last
          · have hn99 : n < 100 := by omega
            obtain ⟨v0, e0⟩ : ∃ v, wr2.cell? ⟨b, n, none⟩ = some v := ⟨_, cell_at HX2.out n _ (Ky.arr_get _ hn99)⟩
            have f0 := free_at HX2.out n
            have HX3 : Hid ((wr2.setCell ⟨b, n, none⟩ (.bool true)).heap[b]? = some (.cells (Ky.arr (fun j => Ky.marked (ss.take k) last j || (decide (nlo ≤ j) && decide (j < n + 1)))) 110 (0, 0))) := Lib.hid ((ow_setHeap HX2.out).trans (by
              rw [Ky.arr_set, Ky.arr_congr (g := fun j => Ky.marked (ss.take k) last j || (decide (nlo ≤ j) && decide (j < n + 1))) (fun j _ => by
                cases Ky.marked (ss.take k) last j
                · simp only [Bool.false_or]
                  rw [Bool.eq_iff_iff]
                  simp
                  omega
                · simp)]))
            have HO4 := Lib.hid (ow_setTo HO2.out HX2.out (by decide) n (.bool true))
            have HB4 := Lib.hid (hb2.setCell (p := ⟨b, n, none⟩) hwb (.bool true))
            have HN4 : Hid (((n + 1 : Nat) : Int) ≤ min hi last + 1 ∨ n + 1 = nlo) := Lib.hid (.inl (by omega))
            go_wp2_with fail
            go_roundg (101 - (n + 1))
            case measure => have := HG2.out; omega
            case rel => exact ⟨n + 1, by omega, by omega, HN4, Lib.hid rfl, by go_num, HX3, HO4, HB4.out⟩
          · have HX3 : Hid (wr2.heap[b]? = some (.cells (Ky.arr (Ky.marked (ss.take (k + 1)) last)) 110 (0, 0))) := Lib.hid (HX2.out.trans (by
              rw [Ky.arr_congr (g := Ky.marked (ss.take (k + 1)) last) (fun j _ => by
                have h9 : Ky.marked (ss.take (k + 1)) last j = (Ky.marked (ss.take k) last j || Ky.mark1 u last (j : Int)) := by
                  unfold Ky.marked
                  rw [HTK.out, List.any_append]
                  simp
                rw [h9, HMK.out j]
                cases Ky.marked (ss.take k) last j
                · simp only [Bool.false_or]
                  rw [Bool.eq_iff_iff]
                  simp
                  have h8 := HN3.out
                  omega
                · simp)]))
            go_wp2_with fail
            go_roundg (ss.length - (k + 1))
            case measure => have := HG.out; omega
            case rel => exact ⟨k + 1, by omega, Lib.hid rfl, by go_num, HX3, HO2, hb2⟩
      · obtain rfl : k = ss.length := by omega
        have hki : ¬ (ss.length : Int) < (ss.length : Int) := by omega
        have HX9 := Lib.hid HX.out
        rw [List.take_length] at HX9
        obtain ⟨f, hf⟩ : ∃ f, f = Ky.marked ss last := ⟨_, rfl⟩
        rw [← hf] at HX9 HR
        clear hf HX
        go_wp2_with (refine wpList_load_row rfl 110 _ rfl b rfl 110 _ (0, 0) _ HX9.out Tryz.underlying110 rfl (by rw [Ky.arr_size]; kernel_rfl) ?_)
        obtain ⟨i0, hi, hz0, hz1, hz2⟩ := info_parts int_info
        have HARR := Lib.hid (fun (n : Nat) (hn : n < 100) (W : World) => Ky.arr_index f hn W)
        generalize Ky.arr f = ar at HARR ⊢
        go_loopg [5, 56] 100 (fun g v i wr2 => ∃ (n : Nat) (A5 : Option Addr) (l5 c5 : Nat), n ≤ 100 ∧ Hid (g = 100 - n) ∧ i = .int .i64 n ∧ v = .slice A5 l5 c5 ∧ Hid (It.Own wr2 w.heap.size (.slice A5 l5 c5) (Ky.upto f n)) ∧ Below w.heap.size w wr2)
        case atStart => exact ⟨0, _, _, _, by omega, Lib.hid rfl, rfl, rfl, HO3, hb⟩
        case round =>
          rename World => wr2
          obtain ⟨n, A5, l5, c5, hn, HG2, rfl, rfl, HO2, hb2⟩ := hrel
          by_cases hlt2 : n < 100
          · have hn1 : (n : Int) < 100 := by omega
            have hix := HARR.out n hlt2
            have hlen9 := Ky.upto_len f n
            cases hfn : f n
            · rw [hfn] at hix
              have HO5 : Hid (It.Own wr2 w.heap.size (.slice A5 l5 c5) (Ky.upto f (n + 1))) := Lib.hid (by rw [Ky.upto_no hfn]; exact HO2.out)
              clear hfn hlen9
              go_wp2_with fail
              go_roundg (100 - (n + 1))
              case measure => have := HG2.out; omega
              case rel => exact ⟨n + 1, _, _, _, by omega, Lib.hid rfl, by go_num, rfl, HO5, hb2⟩
            · rw [hfn] at hix
              have HUP : Hid (Ky.upto f n ++ [(n : Int)] = Ky.upto f (n + 1)) := Lib.hid (Ky.upto_yes hfn).symm
              obtain ⟨us, hus⟩ : ∃ us, us = Ky.upto f n := ⟨_, rfl⟩
              rw [← hus] at HUP HO2 hlen9
              have HM1 : Hid (us.length + 1 ≤ maxLen) := Lib.hid (by unfold maxLen; omega)
              have HM2 : Hid ((us.length + 1) * 8 ≤ 140737488355328) := Lib.hid (by omega)
              have hbs := hb2.size
              clear hfn hlen9 hus
              go_wp2_with (at_builtin; refine wpList_snoc _ rfl (.tmp 61) (.tmp 63) _ rfl 3 i0 _ 1 8 Tryz.underlying31 hi hz0 hz1 hz2 rfl (by omega) It.cells It.cells_len It.one1 w.heap.size (.slice A5 l5 c5) us (n : Int) rfl (show OwnL 3 1 It.cells wr2 w.heap.size (.slice A5 l5 c5) us from HO2.out) _ rfl rfl HM1.out HM2.out hbs ?_; intro v8 w8 hown8 hb8 hg8; rw [HUP.out] at hown8; obtain ⟨A8, c8, rfl, _, _⟩ := OwnL.form hown8; have HO8 := Lib.hid hown8; have HB8 := Lib.hid hb8; clear hown8 hb8 hg8)
              go_roundg (100 - (n + 1))
              case measure => have := HG2.out; omega
              case rel => exact ⟨n + 1, _, _, _, by omega, Lib.hid rfl, by go_num, rfl, HO8, hb2.trans HB8.out⟩
          · obtain rfl : n = 100 := by omega
            have HR2 : Hid (Ky.nums ss last = Ky.upto f 100) := HR
            go_wp2_with fail
            go_ret
            exact ⟨_, rfl, by rw [HR2.out]; exact HO2.out, hb2⟩
end Go.Proofs.YtmlmdpdboigojaaGreatDoor
