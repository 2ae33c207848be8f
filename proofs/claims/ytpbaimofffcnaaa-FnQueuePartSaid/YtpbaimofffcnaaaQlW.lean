/- QueueLeft of the specification; itemClone of the program. -/
import Derived.Test.YtpbaimofffcnaaaQvI
import Derived.Test.YtpbaimofffcnaaaStX
namespace Go.Proofs.Ytpbaimofffcnaaa
set_option linter.unusedVariables false
open Go.RowKit

theorem Qi.one_str (u : ByteArray) : ∀ v ∈ St.cells u, v.oneCell' = true := by intro v hv; simp [St.cells] at hv; subst hv; rfl
theorem At.strs_of {w : World} {B : Nat} {A : Option Addr} {us : List ByteArray} (h : AtStrs w B A us) : At w B 1 St.cells A us := fun hl => by
  obtain ⟨g, off, ha, hlt, hc⟩ := h.1 hl
  refine ⟨g, off, ha, hlt, fun i u hu j v hv => ?_⟩
  match j, hv with
  | 0, hv => injection hv with hv; subst hv; have := hc i u hu; simpa using this
  | j + 1, hv => simp [St.cells] at hv
namespace Qu
/-- for how many items somebody waits -/
def count (nm : ByteArray) : List V → Nat
  | [] => 0
  | x :: r => (if St.has x.us nm = true then 1 else 0) + count nm r
def left (nx : Int) (vs : List V) (nm : ByteArray) : Int := if ok nx vs = true then (count nm vs : Int) else -1
theorem count_snoc (nm : ByteArray) : ∀ (a : List V) (x : V), count nm (a ++ [x]) = count nm a + (if St.has x.us nm = true then 1 else 0)
  | [], x => by simp [count]
  | y :: r, x => by rw [List.cons_append]; unfold count; rw [count_snoc nm r x]; omega
theorem count_le (nm : ByteArray) : ∀ (a : List V), count nm a ≤ a.length
  | [] => Nat.le_refl _
  | x :: r => by unfold count; have := count_le nm r; rw [List.length_cons]; split <;> omega
theorem take_v {ls : List Qi.L} {k : Nat} {x : Qi.L} (h : ls[k]? = some x) : (ls.map Qi.v).take (k + 1) = (ls.map Qi.v).take k ++ [Qi.v x] := by
  rw [List.take_add_one, List.getElem?_map, h]; rfl
end Qu

set_option maxHeartbeats 1600000 in
theorem sQueueLeft_any (nx : Int) (A : Option Addr) (ls : List Qi.L) (c : Nat) (nm : ByteArray) (w : World) (h : AtItems w w.heap.size A ls) (hn : ls.length ≤ maxLen) :
    Calls Try.prog 13 #[.agg #[.int .i64 nx, .slice A ls.length c], .string nm] w fun e w' => e = .returned (.int .i64 (Qu.left nx (ls.map Qi.v) nm)) ∧ Below w.heap.size w w' := by
  have hn0 := hn
  unfold maxLen at hn0
  have hB0 : Below w.heap.size w (w.alloc (.cells #[.int .i64 nx, .slice A ls.length c] 29)) := (Below.refl _ _).alloc (Nat.le_refl _) _
  have hx0 := heap_alloc_new w (.cells #[.int .i64 nx, .slice A ls.length c] 29)
  obtain ⟨vs, hvs⟩ : ∃ vs, vs = ls.map Qi.v := ⟨_, rfl⟩
  have HVS := Lib.hid hvs
  have HVL : Hid (vs.length = ls.length) := Lib.hid (by rw [hvs, List.length_map])
  rw [← hvs]
  clear hvs
  go_enter Try.func13, Try.ntmps13
  go_upto_region 1 with fail
  generalize w.alloc (.cells #[.int .i64 nx, .slice A ls.length c] 29) = w1 at hB0 hx0 ⊢
  obtain ⟨b, hb⟩ : ∃ b, b = w.heap.size := ⟨_, rfl⟩
  rw [← hb] at hx0 ⊢
  clear hb
  have hbl := (Array.getElem?_eq_some_iff.1 hx0).1
  have H1 : Hid (∀ w', Below w1.heap.size w1 w' → Below w.heap.size w w' ∧ w'.cell? ⟨b, 0, none⟩ = some (.int .i64 nx) ∧ w'.cell? ⟨b, 1, none⟩ = some (.slice A ls.length c)) := Lib.hid fun w' hb' => by
    have hx := (hb'.block b hbl).trans hx0
    exact ⟨hB0.trans (hb'.mono hB0.size), cell_at hx 0 _ rfl, cell_at hx 1 _ rfl⟩
  have HA : Hid (∀ w', Below w.heap.size w w' → AtItems w' w'.heap.size A ls) := Lib.hid fun w' hb' => (h.below hb').mono hb'.size
  clear hB0 hx0 h
  go_wp2_with fail
  go_loopg [5, 6] ls.length (fun g n i wr => ∃ (k m : Nat), k ≤ ls.length ∧ Hid (g = ls.length - k) ∧ i = .int .i64 k ∧ n = .int .i64 (m : Int) ∧ m ≤ k ∧ Hid (m = Qu.count nm (vs.take k)) ∧ Below w1.heap.size w1 wr)
  case atStart => exact ⟨0, 0, Nat.zero_le _, Lib.hid rfl, rfl, rfl, Nat.le_refl _, Lib.hid rfl, Below.refl _ _⟩
  case round =>
    obtain ⟨k, m, hk, HG, rfl, rfl, hmk, HM, hb⟩ := hrel
    have b0 := (H1.out wr hb).2.1
    have b1 := (H1.out wr hb).2.2
    by_cases hlt : k < ls.length
    · have hki : (k : Int) < (ls.length : Int) := by omega
      have HI := Lib.hid (HA.out wr (H1.out wr hb).1)
      obtain ⟨g, off, hA, hg, hc⟩ := HI.out.row (by omega)
      obtain ⟨u, hu⟩ : ∃ u, ls[k]? = some u := ⟨_, List.getElem?_eq_getElem hlt⟩
      obtain ⟨d0, d1, d2, d3⟩ := hc k u hu
      have HTV := Lib.hid (Qu.take_v hu)
      rw [← HVS.out] at HTV
      have HU := Lib.hid (HI.out.2 u (List.mem_of_getElem? hu))
      subst hA
      clear hc hu d0 d1 d2
      obtain ⟨id, f, t, A1, us, c1⟩ := u
      dsimp only at d3
      have HH := Lib.hid (l21Has_any A1 us us.length c1 nm wr _ HU.out.1 rfl (Nat.le_trans HU.out.2.1 HU.out.2.2.1))
      have hm1 : ((m + 1 : Nat) : Int) = (m : Int) + 1 := by omega
      cases hh : St.has us nm
      · rw [hh] at HH
        have HM2 : Hid (m = Qu.count nm (vs.take (k + 1))) := Lib.hid (by rw [HTV.out, Qu.count_snoc, ← HM.out, if_neg (by show ¬ St.has us nm = true; rw [hh]; simp)]; rfl)
        go_wp2_with fail
        refine Calls.mono HH.out ?_
        rintro e w2 ⟨rfl, rfl⟩
        go_wp2_with fail
        go_roundg (ls.length - (k + 1))
        case measure => have := HG.out; omega
        case rel => exact ⟨k + 1, m, by omega, Lib.hid rfl, by go_num, rfl, by omega, HM2, hb⟩
      · rw [hh] at HH
        have HM2 : Hid (m + 1 = Qu.count nm (vs.take (k + 1))) := Lib.hid (by rw [HTV.out, Qu.count_snoc, ← HM.out, if_pos (show St.has (Qi.v ⟨id, f, t, A1, us, c1⟩).us nm = true from hh)])
        go_wp2_with fail
        refine Calls.mono HH.out ?_
        rintro e w2 ⟨rfl, rfl⟩
        go_wp2_with fail
        go_roundg (ls.length - (k + 1))
        case measure => have := HG.out; omega
        case rel => exact ⟨k + 1, m + 1, by omega, Lib.hid rfl, by go_num, by go_num, by omega, HM2, hb⟩
    · obtain rfl : k = ls.length := by omega
      have hki : ¬ (ls.length : Int) < (ls.length : Int) := by omega
      have HMV : Hid (m = Qu.count nm vs) := Lib.hid (by have := HM.out; rwa [← HVL.out, List.take_length] at this)
      have HQ := Lib.hid (sQueueValid_any nx A ls c wr (HA.out wr (H1.out wr hb).1) hn)
      rw [← HVS.out] at HQ
      have HL : Hid (Qu.left nx vs nm = if Qu.ok nx vs = true then (m : Int) else -1) := Lib.hid (by rw [HMV.out]; rfl)
      cases hok : Qu.ok nx vs
      · rw [hok] at HQ HL
        go_wp2_with fail
        refine Calls.mono HQ.out ?_
        rintro e w2 ⟨rfl, hb2⟩
        go_wp2_with fail
        go_ret
        rw [HL.out]
        exact ⟨rfl, (H1.out _ (hb.trans (hb2.mono hb.size))).1⟩
      · rw [hok] at HQ HL
        go_wp2_with fail
        refine Calls.mono HQ.out ?_
        rintro e w2 ⟨rfl, hb2⟩
        go_wp2_with fail
        go_ret
        rw [HL.out]
        exact ⟨rfl, (H1.out _ (hb.trans (hb2.mono hb.size))).1⟩

set_option maxRecDepth 100000 in
set_option maxHeartbeats 1600000 in
theorem itemClone_any (x : Qi.L) (w : World) (h : Qi.At1 w w.heap.size x) (hul : x.us.length ≤ 1048576) :
    Calls Try.prog 45 #[.agg #[.int .i64 x.id, .string x.f, .string x.t, .slice x.A x.us.length x.c]] w fun e w' => ∃ A' c', e = .returned (.agg #[.int .i64 x.id, .string x.f, .string x.t, .slice A' x.us.length c']) ∧ St.Own w' w.heap.size (.slice A' x.us.length c') x.us ∧ Below w.heap.size w w' := by
  obtain ⟨id, f, t, A, us, c⟩ := x
  obtain ⟨ha, hcap, hcm, hf, ht⟩ := h
  dsimp only at ha hcap hf ht hcm hul ⊢
  obtain ⟨i0, hi, hz0, hz1, hz2⟩ := info_parts str_info
  have hb0 : Below w.heap.size w ((w.alloc (.cells #[.int .i64 id, .string f, .string t, .slice A us.length c] 43)).alloc (.cells #[.int .i64 0, .string ⟨#[]⟩, .string ⟨#[]⟩, .slice none 0 0] 43)) := ((Below.refl _ _).alloc (Nat.le_refl _) _).alloc (by simp) _
  have hx0 := (Below.heap_alloc (w.alloc (.cells #[.int .i64 id, .string f, .string t, .slice A us.length c] 43)) (.cells #[.int .i64 0, .string ⟨#[]⟩, .string ⟨#[]⟩, .slice none 0 0] 43) w.heap.size (by simp)).trans (heap_alloc_new w _)
  have hx1 := heap_alloc_new (w.alloc (.cells #[.int .i64 id, .string f, .string t, .slice A us.length c] 43)) (.cells #[.int .i64 0, .string ⟨#[]⟩, .string ⟨#[]⟩, .slice none 0 0] 43)
  have hs1 : (w.alloc (.cells #[.int .i64 id, .string f, .string t, .slice A us.length c] 43)).heap.size = w.heap.size + 1 := by simp
  rw [hs1] at hx1
  have hs2 : ((w.alloc (.cells #[.int .i64 id, .string f, .string t, .slice A us.length c] 43)).alloc (.cells #[.int .i64 0, .string ⟨#[]⟩, .string ⟨#[]⟩, .slice none 0 0] 43)).heap.size = w.heap.size + 2 := by simp
  go_enter Try.func45, Try.ntmps45
  go_upto_region 1 with fail
  generalize (w.alloc (.cells #[.int .i64 id, .string f, .string t, .slice A us.length c] 43)).alloc (.cells #[.int .i64 0, .string ⟨#[]⟩, .string ⟨#[]⟩, .slice none 0 0] 43) = w1 at hb0 hx0 hx1 hs2 ⊢
  have hB1 : w.heap.size + 2 ≤ w1.heap.size := by omega
  have hbl1 : w.heap.size < w1.heap.size := by omega
  have hE := Below.alloc (Below.refl w1.heap.size w1) (Nat.le_refl _) (.cells #[] 9)
  have HO : Hid (St.Own (w1.alloc (.cells #[] 9)) w.heap.size (.slice (some ⟨w1.heap.size, 0, none⟩) 0 0) ([] : List ByteArray)) := Lib.hid (ownL_nil w1 hb0.size)
  have HAT := Lib.hid (At.strs_of ((ha.below (hb0.trans (hE.mono hb0.size))).mono (hb0.trans (hE.mono hb0.size)).size))
  have HBW := Lib.hid (hb0.trans (hE.mono hb0.size))
  have HX0 := Lib.hid ((hE.block w.heap.size (by omega)).trans hx0)
  have HX1 := Lib.hid ((hE.block (w.heap.size + 1) (by omega)).trans hx1)
  have a3 : w1.cell? ⟨w.heap.size, 3, none⟩ = some (.slice A us.length c) := cell_at hx0 3 _ rfl
  have HM1 : Hid (([] : List ByteArray).length + us.length ≤ maxLen) := Lib.hid (by unfold maxLen; simp; omega)
  have HM2 : Hid ((([] : List ByteArray).length + us.length) * 16 ≤ 140737488355328) := Lib.hid (by simp; omega)
  have hs3 : w.heap.size + 2 ≤ (w1.alloc (.cells #[] 9)).heap.size := by simp; omega
  have HS3 : Hid (w.heap.size ≤ (w1.alloc (.cells #[] 9)).heap.size) := Lib.hid (by omega)
  clear hb0 hx0 hx1 hE hs1 hs2
  go_wp2_with (first | (at_builtin; refine wpList_join _ rfl (.tmp 3) (.tmp 5) _ rfl 9 i0 _ 1 16 Try.underlying41 hi hz0 hz1 hz2 rfl (by omega) St.cells St.cells_len Qi.one_str w.heap.size _ [] rfl HO.out _ A us us.length c rfl rfl HAT.out HM1.out HM2.out HS3.out ?_; intro v5 w5 hown5 hb5 hg5; obtain ⟨A5, c5, rfl, _, _⟩ := OwnL.form hown5; have HO5 := Lib.hid hown5; have HY0 := Lib.hid ((ow_block HO.out HX0.out (by decide) hg5).trans HX0.out); have HY1 := Lib.hid ((ow_block HO.out HX1.out (by decide) hg5).trans HX1.out); have HB5 := Lib.hid (HBW.out.trans hb5); have y0 := cell_at HY0.out 0 _ rfl; have y1 := cell_at HY0.out 1 _ rfl; have y2 := cell_at HY0.out 2 _ rfl; have y3 := cell_at HY0.out 3 _ rfl; have z0 := cell_at HY1.out 0 _ rfl; have z1 := cell_at HY1.out 1 _ rfl; have z2 := cell_at HY1.out 2 _ rfl; have z3 := cell_at HY1.out 3 _ rfl; have f3 := free_at HY0.out 3; have g0 := free_at HY1.out 0; have g1 := free_at HY1.out 1; have g2 := free_at HY1.out 2; have g3 := free_at HY1.out 3; clear hown5 hb5 hg5))
  refine bodyPost_ret (v := .agg #[.int .i64 id, .string f, .string t, .slice A5 us.length c5]) (by simp [results, Try.results45, go_sem, z0, z1, z2, z3]) rfl ⟨A5, c5, rfl, ?_, ?_⟩
  · have n1 : w.heap.size ≠ w.heap.size + 1 := by omega
    have k1 := ow_setOther (i := 3) (v := .slice A5 us.length c5) HY1.out n1
    exact ow_setTo (ow_setTo (ow_setTo (ow_setTo (ow_setTo HO5.out HY0.out (by decide) 3 _) k1 (by decide) 0 _) (ow_setHeap k1) (by decide) 1 _) (ow_setHeap (ow_setHeap k1)) (by decide) 2 _) (ow_setHeap (ow_setHeap (ow_setHeap k1))) (by decide) 3 _
  · exact ((((HB5.out.setCell (p := ⟨w.heap.size, 3, none⟩) (Nat.le_refl _) _).setCell (p := ⟨w.heap.size + 1, 0, none⟩) (by simp) _).setCell (p := ⟨w.heap.size + 1, 1, none⟩) (by simp) _).setCell (p := ⟨w.heap.size + 1, 2, none⟩) (by simp) _).setCell (p := ⟨w.heap.size + 1, 3, none⟩) (by simp) _
end Go.Proofs.Ytpbaimofffcnaaa
