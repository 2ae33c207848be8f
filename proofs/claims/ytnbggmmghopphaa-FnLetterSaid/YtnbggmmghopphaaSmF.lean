/- l21Data of the specification. (Printed by mksme.py.) -/
import Derived.Test.YtnbggmmghopphaaSmC
import Derived.Deep.RegionLaw
namespace Go.Proofs.Ytnbggmmghopphaa
set_option linter.unusedVariables false
open Go.RowKit
open Us (U)

theorem Sm.strip_yes {l : ByteArray} (h : 0 < l.size) (h0 : l[0]'h = 46) : Sm.strip l = l.extract 1 l.size := by
  unfold Sm.strip
  have : l.data.toList.head? = some 46 := by
    rw [List.head?_eq_getElem?, B6.at_size h, h0]
  rw [if_pos this]
theorem Sm.strip_no {l : ByteArray} (h : ∀ k : 0 < l.size, ¬ l[0]'k = 46) : Sm.strip l = l := by
  unfold Sm.strip
  rw [if_neg]
  intro e
  rw [List.head?_eq_getElem?] at e
  have hl : 0 < l.size := by
    have := (List.getElem?_eq_some_iff.1 e).1
    rwa [Array.length_toList] at this
  rw [B6.at_size hl] at e
  injection e with e
  exact h hl e

set_option maxRecDepth 100000 in
set_option maxHeartbeats 1600000 in
theorem l21Data_any (st : Int) (f t : ByteArray) (A : Option Addr) (us : List ByteArray) (c : Nat) (w : World) (h : AtStrs w w.heap.size A us) (hcap : us.length ≤ c) (hcm : c ≤ maxLen) (hst : 2 ≤ st) (ht : t.size ≤ 16777216) (l : ByteArray) (hl : l.size ≤ 16777216) :
    Calls Try.prog 41 #[.agg #[.int .i64 st, .string f, .slice A us.length c, .string t], .string l] w (Sm.Res (Sm.data ⟨st, f, us, t⟩ l) w) := by
  have HW : Hid (∀ w', Below w.heap.size w w' → AtStrs w' w'.heap.size A us) := Lib.hid fun w' hb => (h.below hb).mono hb.size
  obtain ⟨hx1, hx2, hB, hsz⟩ := two_boxes w (.cells #[.int .i64 st, .string f, .slice A us.length c, .string t] 25) (.cells #[.int .i64 0, .string ⟨#[]⟩, .slice none 0 0, .string ⟨#[]⟩] 25)
  go_enter Try.func41, Try.ntmps41
  go_upto_region 1 with fail
  generalize ((w.alloc (.cells #[.int .i64 st, .string f, .slice A us.length c, .string t] 25)).alloc (.cells #[.int .i64 0, .string ⟨#[]⟩, .slice none 0 0, .string ⟨#[]⟩] 25)) = W at hx1 hx2 hB hsz ⊢
  have hs0 : w.heap.size < W.heap.size := by omega
  have hs1 : w.heap.size + 1 < W.heap.size := by omega
  have d0 : W.cell? ⟨w.heap.size, 0, none⟩ = some (.int .i64 st) := cell_at hx1 0 _ rfl
  have d1 : W.cell? ⟨w.heap.size, 1, none⟩ = some (.string f) := cell_at hx1 1 _ rfl
  have d2 : W.cell? ⟨w.heap.size, 2, none⟩ = some (.slice A us.length c) := cell_at hx1 2 _ rfl
  have d3 : W.cell? ⟨w.heap.size, 3, none⟩ = some (.string t) := cell_at hx1 3 _ rfl
  have e0 := free_at hx1 0
  have e1 := free_at hx1 1
  have e2 := free_at hx1 2
  have e3 := free_at hx1 3
  have r0 : W.cell? ⟨w.heap.size + 1, 0, none⟩ = some (.int .i64 0) := cell_at hx2 0 _ rfl
  have r1 : W.cell? ⟨w.heap.size + 1, 1, none⟩ = some (.string ⟨#[]⟩) := cell_at hx2 1 _ rfl
  have r2 : W.cell? ⟨w.heap.size + 1, 2, none⟩ = some (.slice none 0 0) := cell_at hx2 2 _ rfl
  have r3 : W.cell? ⟨w.heap.size + 1, 3, none⟩ = some (.string ⟨#[]⟩) := cell_at hx2 3 _ rfl
  have z0 := free_at hx2 0
  have z1 := free_at hx2 1
  have z2 := free_at hx2 2
  have z3 := free_at hx2 3
  by_cases hd : l = ⟨#[46]⟩
  · have q0 : (l.toList == [46]) = true := lit_yes hd
    by_cases h20 : 20 < t.size
    · have h20i : (20 : Int) < (t.size : Int) := by omega
      have HR : Hid (Sm.data ⟨st, f, us, t⟩ l = (Sm.back ⟨st, f, us, t⟩, 552)) := Lib.hid (by unfold Sm.data; rw [if_pos hd, if_pos h20])
      clear hd
      go_wp2_with fail
      refine Calls.mono (l21Back_any st f t A c us (fun h => absurd h (by omega)) _) ?_
      rintro e w5 ⟨g5, rfl, hb5⟩
      have hs5 := hb5.size
      have hB5 := hB.trans (hb5.mono hB.size)
      have hx5 := (hb5.block (w.heap.size + 1) (by omega)).trans hx2
      have q0 : w5.cell? ⟨w.heap.size + 1, 0, none⟩ = some (.int .i64 0) := cell_at hx5 0 _ rfl
      have q1 : w5.cell? ⟨w.heap.size + 1, 1, none⟩ = some (.string ⟨#[]⟩) := cell_at hx5 1 _ rfl
      have q2 : w5.cell? ⟨w.heap.size + 1, 2, none⟩ = some (.slice none 0 0) := cell_at hx5 2 _ rfl
      have q3 : w5.cell? ⟨w.heap.size + 1, 3, none⟩ = some (.string ⟨#[]⟩) := cell_at hx5 3 _ rfl
      have y0 := free_at hx5 0
      have y1 := free_at hx5 1
      have y2 := free_at hx5 2
      have y3 := free_at hx5 3
      go_wp2_with fail
      refine bodyPost_ret (v := .tuple #[.agg #[.int .i64 (Sm.back ⟨st, f, us, t⟩).st, .string (Sm.back ⟨st, f, us, t⟩).user, .slice (some ⟨g5, 0, none⟩) 0 0, .string ⟨#[]⟩], .int .i64 552]) (by simp [results, Try.results41, go_sem, q0, q1, q2, q3]) rfl ?_
      exact Sm.res_back HR.out (set4 hB5 (by omega) _ _ _ _)
    · have h20i : ¬ (20 : Int) < (t.size : Int) := by omega
      have HR : Hid (Sm.data ⟨st, f, us, t⟩ l = (Sm.back ⟨st, f, us, t⟩, 250)) := Lib.hid (by unfold Sm.data; rw [if_pos hd, if_neg h20])
      clear hd
      go_wp2_with fail
      refine Calls.mono (l21Back_any st f t A c us (fun h => absurd h (by omega)) _) ?_
      rintro e w5 ⟨g5, rfl, hb5⟩
      have hs5 := hb5.size
      have hB5 := hB.trans (hb5.mono hB.size)
      have hx5 := (hb5.block (w.heap.size + 1) (by omega)).trans hx2
      have q0 : w5.cell? ⟨w.heap.size + 1, 0, none⟩ = some (.int .i64 0) := cell_at hx5 0 _ rfl
      have q1 : w5.cell? ⟨w.heap.size + 1, 1, none⟩ = some (.string ⟨#[]⟩) := cell_at hx5 1 _ rfl
      have q2 : w5.cell? ⟨w.heap.size + 1, 2, none⟩ = some (.slice none 0 0) := cell_at hx5 2 _ rfl
      have q3 : w5.cell? ⟨w.heap.size + 1, 3, none⟩ = some (.string ⟨#[]⟩) := cell_at hx5 3 _ rfl
      have y0 := free_at hx5 0
      have y1 := free_at hx5 1
      have y2 := free_at hx5 2
      have y3 := free_at hx5 3
      go_wp2_with fail
      refine bodyPost_ret (v := .tuple #[.agg #[.int .i64 (Sm.back ⟨st, f, us, t⟩).st, .string (Sm.back ⟨st, f, us, t⟩).user, .slice (some ⟨g5, 0, none⟩) 0 0, .string ⟨#[]⟩], .int .i64 250]) (by simp [results, Try.results41, go_sem, q0, q1, q2, q3]) rfl ?_
      exact Sm.res_back HR.out (set4 hB5 (by omega) _ _ _ _)
  · have q0 : (l.toList == [46]) = false := lit_no hd
    have HD : Hid (Sm.data ⟨st, f, us, t⟩ l = (⟨st, f, us, Sm.cut21 (t ++ Sm.strip l ++ ⟨#[10]⟩)⟩, 0)) := Lib.hid (by unfold Sm.data; rw [if_neg hd])
    clear hd
    by_cases h0 : 0 < l.size
    · have hne : l.toList.isEmpty = false := by
        have hl1 : l.data.toList.length = l.size := Array.length_toList
        rw [Go.ByteArray.toList_eq]
        cases hq : l.data.toList with
        | nil => rw [hq] at hl1; simp at hl1; omega
        | cons a r => rfl
      have hne2 : (!l.toList.isEmpty) = true := by rw [hne]; rfl
      by_cases h46 : l[0]'h0 = 46
      · have b0 : (((l[0]'h0).toNat : Int) == 46) = true := by rw [h46]; rfl
        have b1 : ((l[0]'h0).toNat : Int) = 46 := by rw [h46]; rfl
        have HST := Lib.hid (Sm.strip_yes h0 h46)
        clear h46
        have hz1 : (1 : Int) ≤ (l.size : Int) := by omega
        have HR : Hid (Sm.data ⟨st, f, us, t⟩ l = (⟨st, f, us, Sm.cut21 (t ++ l.extract 1 l.size ++ ⟨#[10]⟩)⟩, 0)) := Lib.hid (by rw [HD.out, HST.out])
        have HXS : Hid ((t ++ l.extract 1 l.size ++ ⟨#[10]⟩).size = t.size + (l.size - 1) + 1) := Lib.hid (by rw [ByteArray.size_append, ByteArray.size_append, ByteArray.size_extract]; show _ + 1 = _; omega)
        have HE : Hid (∀ k : Nat, k = min (t ++ l.extract 1 l.size ++ ⟨#[10]⟩).size 21 → (t ++ l.extract 1 l.size ++ ⟨#[10]⟩).extract 0 k = Sm.cut21 (t ++ l.extract 1 l.size ++ ⟨#[10]⟩)) := Lib.hid (by intro k hk; unfold Sm.cut21; rw [hk])
        have HBX : Hid (∀ v0 v1 v2 v3 v4, Below w.heap.size w (((((W.setCell ⟨w.heap.size, 3, none⟩ v4).setCell ⟨w.heap.size + 1, 0, none⟩ v0).setCell ⟨w.heap.size + 1, 1, none⟩ v1).setCell ⟨w.heap.size + 1, 2, none⟩ v2).setCell ⟨w.heap.size + 1, 3, none⟩ v3)) := Lib.hid fun v0 v1 v2 v3 v4 => set4 (hB.setCell (p := ⟨w.heap.size, 3, none⟩) (Nat.le_refl _) _) (by omega) _ _ _ _
        go_wp2_with fail
        all_goals
          rw [HE.out _ (by rw [HXS.out]; omega)]
          refine bodyPost_ret (v := .tuple #[.agg #[.int .i64 st, .string f, .slice A us.length c, .string (Sm.cut21 (t ++ l.extract 1 l.size ++ ⟨#[10]⟩))], .int .i64 0]) (by simp [results, Try.results41, go_sem, r0, r1, r2, r3]) rfl ?_
          generalize Sm.cut21 (t ++ l.extract 1 l.size ++ ⟨#[10]⟩) = z at HR ⊢
          exact Sm.res_self (s := ⟨st, f, us, z⟩) HR.out (HW.out _ (HBX.out _ _ _ _ _)) hcap hcm (HBX.out _ _ _ _ _)
      · have b1 : ¬ ((l[0]'h0).toNat : Int) = 46 := fun e => h46 (UInt8.toNat_inj.1 (by have : (46 : UInt8).toNat = 46 := rfl; omega))
        have b0 : (((l[0]'h0).toNat : Int) == 46) = false := by simpa using b1
        have HST : Hid (Sm.strip l = l) := Lib.hid (Sm.strip_no (fun k => h46))
        clear h46
        have HR : Hid (Sm.data ⟨st, f, us, t⟩ l = (⟨st, f, us, Sm.cut21 (t ++ l ++ ⟨#[10]⟩)⟩, 0)) := Lib.hid (by rw [HD.out, HST.out])
        have HXS : Hid ((t ++ l ++ ⟨#[10]⟩).size = t.size + (l.size) + 1) := Lib.hid (by rw [ByteArray.size_append, ByteArray.size_append]; show _ + 1 = _; omega)
        have HE : Hid (∀ k : Nat, k = min (t ++ l ++ ⟨#[10]⟩).size 21 → (t ++ l ++ ⟨#[10]⟩).extract 0 k = Sm.cut21 (t ++ l ++ ⟨#[10]⟩)) := Lib.hid (by intro k hk; unfold Sm.cut21; rw [hk])
        have HBX : Hid (∀ v0 v1 v2 v3 v4, Below w.heap.size w (((((W.setCell ⟨w.heap.size, 3, none⟩ v4).setCell ⟨w.heap.size + 1, 0, none⟩ v0).setCell ⟨w.heap.size + 1, 1, none⟩ v1).setCell ⟨w.heap.size + 1, 2, none⟩ v2).setCell ⟨w.heap.size + 1, 3, none⟩ v3)) := Lib.hid fun v0 v1 v2 v3 v4 => set4 (hB.setCell (p := ⟨w.heap.size, 3, none⟩) (Nat.le_refl _) _) (by omega) _ _ _ _
        go_wp2_with fail
        all_goals
          rw [HE.out _ (by rw [HXS.out]; omega)]
          refine bodyPost_ret (v := .tuple #[.agg #[.int .i64 st, .string f, .slice A us.length c, .string (Sm.cut21 (t ++ l ++ ⟨#[10]⟩))], .int .i64 0]) (by simp [results, Try.results41, go_sem, r0, r1, r2, r3]) rfl ?_
          generalize Sm.cut21 (t ++ l ++ ⟨#[10]⟩) = z at HR ⊢
          exact Sm.res_self (s := ⟨st, f, us, z⟩) HR.out (HW.out _ (HBX.out _ _ _ _ _)) hcap hcm (HBX.out _ _ _ _ _)
    · have hne : l.toList.isEmpty = true := by
        have hl1 : l.data.toList.length = l.size := Array.length_toList
        rw [Go.ByteArray.toList_eq, List.isEmpty_iff]
        exact List.eq_nil_of_length_eq_zero (by omega)
      have hne2 : (!l.toList.isEmpty) = false := by rw [hne]; rfl
      have HST : Hid (Sm.strip l = l) := Lib.hid (Sm.strip_no (fun k => absurd k h0))
      have HR : Hid (Sm.data ⟨st, f, us, t⟩ l = (⟨st, f, us, Sm.cut21 (t ++ l ++ ⟨#[10]⟩)⟩, 0)) := Lib.hid (by rw [HD.out, HST.out])
      have HXS : Hid ((t ++ l ++ ⟨#[10]⟩).size = t.size + (l.size) + 1) := Lib.hid (by rw [ByteArray.size_append, ByteArray.size_append]; show _ + 1 = _; omega)
      have HE : Hid (∀ k : Nat, k = min (t ++ l ++ ⟨#[10]⟩).size 21 → (t ++ l ++ ⟨#[10]⟩).extract 0 k = Sm.cut21 (t ++ l ++ ⟨#[10]⟩)) := Lib.hid (by intro k hk; unfold Sm.cut21; rw [hk])
      have HBX : Hid (∀ v0 v1 v2 v3 v4, Below w.heap.size w (((((W.setCell ⟨w.heap.size, 3, none⟩ v4).setCell ⟨w.heap.size + 1, 0, none⟩ v0).setCell ⟨w.heap.size + 1, 1, none⟩ v1).setCell ⟨w.heap.size + 1, 2, none⟩ v2).setCell ⟨w.heap.size + 1, 3, none⟩ v3)) := Lib.hid fun v0 v1 v2 v3 v4 => set4 (hB.setCell (p := ⟨w.heap.size, 3, none⟩) (Nat.le_refl _) _) (by omega) _ _ _ _
      go_wp2_with fail
      all_goals
        rw [HE.out _ (by rw [HXS.out]; omega)]
        refine bodyPost_ret (v := .tuple #[.agg #[.int .i64 st, .string f, .slice A us.length c, .string (Sm.cut21 (t ++ l ++ ⟨#[10]⟩))], .int .i64 0]) (by simp [results, Try.results41, go_sem, r0, r1, r2, r3]) rfl ?_
        generalize Sm.cut21 (t ++ l ++ ⟨#[10]⟩) = z at HR ⊢
        exact Sm.res_self (s := ⟨st, f, us, z⟩) HR.out (HW.out _ (HBX.out _ _ _ _ _)) hcap hcm (HBX.out _ _ _ _ _)
end Go.Proofs.Ytnbggmmghopphaa
