/- Base64Decode of the program. -/
import Derived.Test.YtjoohmokjliecaaB6C
namespace Go.Proofs.Ytjoohmokjliecaa
set_option linter.unusedVariables false
open Go.RowKit Go.Shelf
attribute [local go_sem] Oper.semAt_some

def Gs.rds (pre : List (Gs.G 4)) : List UInt8 := pre.flatMap fun g => B6.readG g.1.data.toList
theorem Gs.rds_snoc (pre : List (Gs.G 4)) (x : Gs.G 4) : Gs.rds (pre ++ [x]) = Gs.rds pre ++ B6.readG x.1.data.toList := by simp [Gs.rds]
theorem Gs.rd_len (x : Gs.G 4) : (B6.readG x.1.data.toList).length ≤ 3 := by
  have hl : x.1.data.toList.length = x.1.size := Array.length_toList
  exact B6.readG_len _ (by have := x.2; omega)
theorem Gs.rds_len (pre : List (Gs.G 4)) : (Gs.rds pre).length ≤ 3 * pre.length := by
  induction pre with
  | nil => simp [Gs.rds]
  | cons x r ih =>
    have h1 := Gs.rd_len x
    simp only [Gs.rds, List.flatMap_cons, List.length_append, List.length_cons] at ih ⊢
    omega
theorem Gs.rds_all (s : ByteArray) : Gs.rds (Gs.upto (Gs.at_ s 4 (by decide)) (Gs.n s 4)) = B6.read s.data.toList := by
  rw [← Gs.gs_read, ← Gs.groups s 4 (by decide)]
  unfold Gs.rds Gs.n
  rw [List.flatMap_map]
theorem Gs.cells (x : Gs.G 4) : Lib.strCells (Ct.mk (B6.readG x.1.data.toList)) = Lib.byteCells (B6.readG x.1.data.toList) := by
  simp [Lib.strCells, Lib.byteCells, Ct.mk]

set_option maxRecDepth 100000 in
set_option maxHeartbeats 2000000 in
theorem iB64Decode_no (s : ByteArray) (hs : 40 < s.size) (w : World) :
    Calls Try.prog 95 #[.string s] w fun e w' => e = .returned (B6.out (B6.decode s.data.toList)) ∧ Below w.heap.size w w' := by
  have hi : (40 : Int) < (s.size : Int) := by omega
  have HN : Hid (B6.decode s.data.toList = none) := Lib.hid (by
    have : s.data.toList.length = s.size := Array.length_toList
    unfold B6.decode; rw [if_neg]; intro h; omega)
  go_enter Try.func95, Try.ntmps95
  go_wp2_with fail
  go_ret2
  rw [HN.out]
  exact ⟨rfl, Below.refl _ _⟩

def Gs.ID (w : World) (s : ByteArray) (pre : List (Gs.G 4)) (W : World) : Prop :=
  (Lib.IsBuilder 144 5 w.heap.size w.heap.size (Lib.byteCells (Gs.rds pre)) W ∧ W.heap[w.heap.size + 1]? = some (.cells #[.string s] 9 (0, 0)) ∧ W.heap[w.heap.size + 1 + 1]? = some (.cells #[.int .i64 4] 3 (0, 0))) ∧ Below w.heap.size w W

set_option maxRecDepth 100000 in
set_option maxHeartbeats 2000000 in
theorem iB64Decode_yes (s : ByteArray) (hs : s.size ≤ 40) (w : World) :
    Calls Try.prog 95 #[.string s] w fun e w' => e = .returned (B6.out (B6.decode s.data.toList)) ∧ Below w.heap.size w w' := by
  have hi : ¬ (40 : Int) < (s.size : Int) := by omega
  have HSL : Hid (s.data.toList.length = s.size) := Lib.hid Array.length_toList
  refine (callsIn_wide (n := 6)).1 ?_
  refine callsIn_of_wp_marks Try.func95 rfl trivial ?_ rfl
  simp only [Try.ntmps95, List.size_toArray, List.length_cons, List.length_nil, Nat.reduceAdd, Nat.reduceSub, Array.replicate_succ, Array.replicate_zero, List.push_toArray, List.append_toArray, List.nil_append, List.cons_append]
  gi_wp2_with (refine ⟨trivial, ?_⟩; gi_at_call 100; refine (groups_in Fence.wide _ trivial rfl s 4 _).mono ?_; rintro e w' ⟨rfl, rfl⟩)
  have hx0 : Lib.IsBuilder 144 5 w.heap.size w.heap.size [] (((w.alloc (.cells #[.pointer none, .slice none 0 0] 144)).alloc (.cells #[.string s] 9)).alloc (.cells #[.int .i64 4] 3)) :=
    bld_kept (bld_kept (Lib.fresh_isBuilder 144 5 w) (World.grownBy_alloc _ _ none) (fun r e => by cases e)) (World.grownBy_alloc _ _ none) (fun r e => by cases e)
  have hx1 : (((w.alloc (.cells #[.pointer none, .slice none 0 0] 144)).alloc (.cells #[.string s] 9)).alloc (.cells #[.int .i64 4] 3)).heap[w.heap.size + 1]? = some (.cells #[.string s] 9 (0, 0)) := by
    refine (Below.heap_alloc _ _ _ (by simp)).trans ?_
    simpa using heap_alloc_new (w.alloc (.cells #[.pointer none, .slice none 0 0] 144)) (.cells #[.string s] 9)
  have hx2 : (((w.alloc (.cells #[.pointer none, .slice none 0 0] 144)).alloc (.cells #[.string s] 9)).alloc (.cells #[.int .i64 4] 3)).heap[w.heap.size + 1 + 1]? = some (.cells #[.int .i64 4] 3 (0, 0)) := by
    simpa using heap_alloc_new ((w.alloc (.cells #[.pointer none, .slice none 0 0] 144)).alloc (.cells #[.string s] 9)) (.cells #[.int .i64 4] 3)
  have hB0 : Below w.heap.size w (((w.alloc (.cells #[.pointer none, .slice none 0 0] 144)).alloc (.cells #[.string s] 9)).alloc (.cells #[.int .i64 4] 3)) := (((Below.refl _ w).alloc (Nat.le_refl _) _).alloc (by simp) _).alloc (by simp; omega) _
  have hz : (((w.alloc (.cells #[.pointer none, .slice none 0 0] 144)).alloc (.cells #[.string s] 9)).alloc (.cells #[.int .i64 4] 3)).heap.size = w.heap.size + 3 := by simp
  generalize (((w.alloc (.cells #[.pointer none, .slice none 0 0] 144)).alloc (.cells #[.string s] 9)).alloc (.cells #[.int .i64 4] 3)) = W0 at hx0 hx1 hx2 hB0 hz ⊢
  refine wpIn_rangeFunc_ownF rfl (by omega) (gf := 121) (lb := #[.pointer (some ⟨w.heap.size + 1, 0, none⟩), .pointer (some ⟨w.heap.size + 1 + 1, 0, none⟩)]) rfl trivial (enters_of Try.func121 (by kernel_rfl) rfl)
    (groups4_stops Fence.wide _ trivial rfl (by omega) (w.heap.size + 1) (w.heap.size + 1 + 1) s (by omega) W0 (by omega) (by omega) (cell_at hx1 0 _ rfl) (cell_at hx2 0 _ rfl)) (fun h k => h.trans k) (fun W l o o' hl _ _ _ => Gs.Kp.putObj W o' (by omega) (by omega)) (Below.refl _ _) (fun _ => rfl)
    (Gs.ID w s) (fun _ _ _ => False)
    (OwnFrom.and (Own.from (fun s A B row hs hg hr => ⟨bld_kept hs.1 hg hr, obj_kept hs.2.1 rfl hg hr, obj_kept hs.2.2 rfl hg hr⟩) _) (ownFrom_below (Nat.le_refl _) (by omega)))
    (fun _ _ _ _ _ hs _ _ => hs)
    ⟨⟨hx0, hx1, hx2⟩, hB0⟩
    (fun x => { tmps := #[.string s, undef, .string ⟨#[]⟩, .bool false, .pointer (some ⟨w.heap.size, 0, none⟩), .string x.1, undef, .string s, .int .i64 s.size, .bool false, .string s, .func (.func 121) #[] #[.pointer (some ⟨w.heap.size + 1, 0, none⟩), .pointer (some ⟨w.heap.size + 1 + 1, 0, none⟩)], .string x.1, undef, undef, undef, undef, undef, undef, undef, undef, undef], defers := [] }) ?assign ?body ?done ?stop
  case assign =>
    intro l x W K hK
    gi_wp2
    exact hK
  case body =>
    rintro l pre x W ⟨⟨hb, h1, h2⟩, hB⟩ hlen
    have hsz := hB.size
    have hl : (Gs.rds pre).length ≤ 1000 := by
      have := Gs.rds_len pre
      unfold Gs.n at hlen
      omega
    have HR := Lib.hid (base64Read_any x.1 x.2.2 W)
    have HBD := Lib.hid hb
    clear hb
    gi_wp2_with (refine ⟨trivial, ?_⟩; gi_at_call 117; refine (CallsIn.inRound l (callsIn_wide.2 HR.out)).mono ?_; rintro e W1 ⟨rfl, hbl1⟩)
    have hk1 := Bk.of_below (b := w.heap.size) hbl1
    have hb1 : Lib.IsBuilder 144 5 w.heap.size w.heap.size (Lib.byteCells (Gs.rds pre)) W1 := bld_kept (row := none) HBD.out ⟨hbl1.os, hbl1.tape, hbl1.output, hbl1.size, fun i hi _ => hbl1.block i hi⟩ (fun r e => by cases e)
    have hs1 := hbl1.size
    have HW := Lib.hid (writeString_k w.heap.size w.heap.size (Lib.byteCells (Gs.rds pre)) (Ct.mk (B6.readG x.1.data.toList)) W1 hb1 (by
      have h3 := Gs.rd_len x
      have h4 : (Ct.mk (B6.readG x.1.data.toList)).size = (B6.readG x.1.data.toList).length := by show (B6.readG x.1.data.toList).toArray.size = _; simp
      rw [h4]
      simp only [Lib.byteCells, List.length_map]; omega) (by omega))
    clear hb1
    gi_wp2_with (refine ⟨trivial, ?_⟩; gi_at_call 116; refine (CallsIn.inRound l (callsIn_wide.2 HW.out)).mono ?_; rintro e W2 ⟨rfl, hb2, hbl2, hk2⟩)
    have hk := hk1.trans hk2
    have hkp := Gs.kp_bk hk h1 h2 (by omega) (by omega)
    refine ⟨hk.1, hkp, ⟨?_, hkp.1.trans h1, hkp.2.trans h2⟩, hB.trans ((hbl1.mono hsz).trans hbl2)⟩
    rw [Gs.rds_snoc]
    rw [Gs.cells] at hb2
    refine Or.inr ?_
    simpa [Lib.byteCells] using hb2
  case done =>
    rintro D ys W hD rfl ⟨⟨hb, h1, h2⟩, hB⟩ hK
    have hsz := hB.size
    rw [Gs.rds_all] at hb
    have HH := Lib.hid (Try.Builder_String_any_k w.heap.size w.heap.size (B6.read s.data.toList) W (Lib.IsBuilderF.of hb) hsz)
    have hbD : w.heap.size ≠ D := by omega
    clear hb
    gi_wp2_with (refine ⟨trivial, ?_⟩; gi_at_call 102; refine (callsIn_wide.2 HH.out).mono ?_; rintro e W2 ⟨rfl, _, hbl2, hk2⟩)
    have hK2 := hk2 D _ hK (by simpa using hbD.symm) (by intro c fz e; cases e)
    have hB2 := hB.trans hbl2
    clear hk2 hK h1 h2
    have hr30 : (B6.read s.data.toList).length ≤ 30 := by have := B6.read_len s.data.toList; have := HSL.out; omega
    obtain ⟨x, HX⟩ : ∃ x : ByteArray, Hid (x = ⟨(B6.read s.data.toList).toArray⟩) := ⟨_, Lib.hid rfl⟩
    have hxs : x.size ≤ 30 := by rw [HX.out]; show (B6.read s.data.toList).toArray.size ≤ 30; simpa using hr30
    rw [← HX.out]
    have HXL : Hid (x.data.toList = B6.read s.data.toList) := Lib.hid (by rw [HX.out])
    obtain ⟨y, HY⟩ : ∃ y : ByteArray, Hid (y = B6.encode x) := ⟨_, Lib.hid rfl⟩
    have HYL : Hid (y.toList = B6.enc (B6.read s.data.toList)) := Lib.hid (by
      rw [HY.out, Go.ByteArray.toList_eq]; unfold B6.encode; rw [if_neg (by omega)]; rw [HXL.out])
    have HE : Hid (Calls Try.prog 66 #[.string x] W2 fun e w' => e = .returned (.string y) ∧ Below W2.heap.size W2 w') := Lib.hid (by rw [HY.out]; exact iB64Encode_any x W2)
    by_cases heq : y.toList = s.toList
    · have hbq : (y.toList == s.toList) = true := by simpa using heq
      have HD : Hid (B6.decode s.data.toList = some (B6.read s.data.toList)) := Lib.hid (by
        unfold B6.decode
        rw [if_pos]
        refine ⟨by have := HSL.out; omega, ?_⟩
        rw [← HYL.out, heq, Go.ByteArray.toList_eq])
      clear heq
      gi_wp2_with (refine ⟨trivial, ?_⟩; gi_at_call 66; refine (callsIn_wide.2 HE.out).mono ?_; rintro e W3 ⟨rfl, hbl3⟩)
      have hK3 := (hbl3.block D (Array.getElem?_eq_some_iff.1 hK2).1).trans hK2
      have hB3 := hB2.trans (hbl3.mono hB2.size)
      refine ⟨by simp, .inl ⟨_, _, rfl, run_takeDeferred hK3, ?_⟩⟩
      refine ⟨.tuple #[.string x, .bool true], by simp [results, Try.f95, go_sem], ?_, hB3.trans (belowK_b (w := w) (Nat.le_refl _) W3 D _ _ (by omega) hK3 rfl rfl)⟩
      rw [HD.out]
      unfold B6.out
      dsimp only
      rw [← HX.out]
    · have hbq : (y.toList == s.toList) = false := by simpa using heq
      have HD : Hid (B6.decode s.data.toList = none) := Lib.hid (by
        unfold B6.decode
        rw [if_neg]
        rintro ⟨_, e⟩
        apply heq
        rw [HYL.out, e, Go.ByteArray.toList_eq])
      clear heq
      gi_wp2_with (refine ⟨trivial, ?_⟩; gi_at_call 66; refine (callsIn_wide.2 HE.out).mono ?_; rintro e W3 ⟨rfl, hbl3⟩)
      have hK3 := (hbl3.block D (Array.getElem?_eq_some_iff.1 hK2).1).trans hK2
      have hB3 := hB2.trans (hbl3.mono hB2.size)
      refine ⟨by simp, .inl ⟨_, _, rfl, run_takeDeferred hK3, ?_⟩⟩
      refine ⟨.tuple #[.string ⟨#[]⟩, .bool false], by simp [results, Try.f95, go_sem], ?_, hB3.trans (belowK_b (w := w) (Nat.le_refl _) W3 D _ _ (by omega) hK3 rfl rfl)⟩
      rw [HD.out]
      rfl
  case stop =>
    rintro D c pre W _ _ h _
    exact h.elim
theorem iB64Decode_any (s : ByteArray) (w : World) :
    Calls Try.prog 95 #[.string s] w fun e w' => e = .returned (B6.out (B6.decode s.data.toList)) ∧ Below w.heap.size w w' := by
  rcases Nat.lt_or_ge 40 s.size with h | h
  · exact iB64Decode_no s h w
  · exact iB64Decode_yes s h w
end Go.Proofs.Ytjoohmokjliecaa
