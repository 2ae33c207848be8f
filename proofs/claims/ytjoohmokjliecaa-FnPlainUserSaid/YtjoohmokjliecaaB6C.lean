/- Base64Encode of the program. -/
import Derived.Test.YtjoohmokjliecaaB6G
import Derived.Test.YtjoohmokjliecaaB6R
import Derived.Test.YtjoohmokjliecaaB6Sd
namespace Go.Proofs.Ytjoohmokjliecaa
set_option linter.unusedVariables false
open Go.RowKit Go.Shelf
attribute [local go_sem] Oper.semAt_some

theorem bld_kept {T e : TypeId} {B b : Nat} {bs : List Value} {W W' : World} {row : Option Nat} (h : Lib.IsBuilder T e B b bs W) (hg : W.grownBy W' row) (hr : ∀ r, row = some r → ∃ o : Obj, W.heap[r]? = some o ∧ o.isCells = false) : Lib.IsBuilder T e B b bs W' := by
  have hne : ∀ {q : Nat} {o : Obj}, W.heap[q]? = some o → o.isCells = true → some q ≠ row := by
    intro q o hq ho e
    obtain ⟨o', h1, h2⟩ := hr q e.symm
    rw [hq] at h1; injection h1 with h1; subst h1
    rw [ho] at h2; cases h2
  have key : ∀ p, Lib.BuilderAt T e B b p bs W → Lib.BuilderAt T e B b p bs W' := by
    rintro p ⟨hB, v, hb, hown, hv⟩
    refine ⟨hB, v, (hg.block b (Array.getElem?_eq_some_iff.1 hb).1 (hne hb rfl)).trans hb, hown.kept hg ?_, hv⟩
    cases hq : v.ownBlock with
    | none => exact .inl rfl
    | some q =>
      have hlt := (hown.lt q hq).2
      exact .inr (hne (Array.getElem?_eq_getElem hlt) (row_cells hown hq (Array.getElem?_eq_getElem hlt)))
  rcases h with h | h
  · exact .inl (key _ h)
  · exact .inr (key _ h)
theorem Gs.kp_bk {b Bt Bs : Nat} {s : ByteArray} {k : Int} {W W' : World} (h : Bk b W W') (ht : W.heap[Bt]? = some (.cells #[.string s] 9 (0, 0))) (hs : W.heap[Bs]? = some (.cells #[.int .i64 k] 3 (0, 0))) (hbt : Bt ≠ b) (hbs : Bs ≠ b) : Gs.Kp Bt Bs W W' :=
  ⟨(h.2 Bt _ ht (by simpa using hbt) (by intro c fz e; cases e)).trans ht.symm, (h.2 Bs _ hs (by simpa using hbs) (by intro c fz e; cases e)).trans hs.symm⟩

theorem obj_kept {W W' : World} {row : Option Nat} {q : Nat} {o : Obj} (h : W.heap[q]? = some o) (ho : o.isCells = true) (hg : W.grownBy W' row) (hr : ∀ r, row = some r → ∃ o : Obj, W.heap[r]? = some o ∧ o.isCells = false) : W'.heap[q]? = some o := by
  refine (hg.block q (Array.getElem?_eq_some_iff.1 h).1 ?_).trans h
  intro e
  obtain ⟨o', h1, h2⟩ := hr q e.symm
  rw [h] at h1; injection h1 with h1; subst h1
  rw [ho] at h2; cases h2
def Gs.encs (pre : List (Gs.G 3)) : List UInt8 := pre.flatMap fun g => B6.enc g.1.data.toList
theorem Gs.encs_snoc (pre : List (Gs.G 3)) (x : Gs.G 3) : Gs.encs (pre ++ [x]) = Gs.encs pre ++ B6.enc x.1.data.toList := by simp [Gs.encs]
theorem Gs.encs_len (pre : List (Gs.G 3)) : (Gs.encs pre).length ≤ 4 * pre.length := by
  induction pre with
  | nil => simp [Gs.encs]
  | cons x r ih =>
    have h1 : (B6.enc x.1.data.toList).length ≤ 4 := by
      have hl : x.1.data.toList.length = x.1.size := Array.length_toList
      rw [B6.enc_len]; have := x.2; omega
    simp only [Gs.encs, List.flatMap_cons, List.length_append, List.length_cons] at ih ⊢
    omega
theorem Gs.encs_all (s : ByteArray) : Gs.encs (Gs.upto (Gs.at_ s 3 (by decide)) (Gs.n s 3)) = B6.enc s.data.toList := by
  rw [← Gs.gs_enc, ← Gs.groups s 3 (by decide)]
  unfold Gs.encs Gs.n
  rw [List.flatMap_map]

set_option maxRecDepth 100000 in
set_option maxHeartbeats 2000000 in
theorem iB64Encode_no (s : ByteArray) (hs : 30 < s.size) (w : World) :
    Calls Try.prog 66 #[.string s] w fun e w' => e = .returned (.string (B6.encode s)) ∧ Below w.heap.size w w' := by
  have hi : (30 : Int) < (s.size : Int) := by omega
  have HV : Hid (B6.encode s = ⟨#[]⟩) := Lib.hid (by unfold B6.encode; rw [if_pos hs])
  go_enter Try.func66, Try.ntmps66
  go_wp2_with fail
  go_ret
  rw [HV.out]
  exact ⟨rfl, Below.refl _ _⟩

def Gs.IE (w : World) (s : ByteArray) (pre : List (Gs.G 3)) (W : World) : Prop :=
  (Lib.IsBuilder 144 5 w.heap.size w.heap.size (Lib.byteCells (Gs.encs pre)) W ∧ W.heap[w.heap.size + 1]? = some (.cells #[.string s] 9 (0, 0)) ∧ W.heap[w.heap.size + 1 + 1]? = some (.cells #[.int .i64 3] 3 (0, 0))) ∧ Below w.heap.size w W

set_option maxRecDepth 100000 in
set_option maxHeartbeats 2000000 in
theorem iB64Encode_yes (s : ByteArray) (hs : s.size ≤ 30) (w : World) :
    Calls Try.prog 66 #[.string s] w fun e w' => e = .returned (.string (B6.encode s)) ∧ Below w.heap.size w w' := by
  have hi : ¬ (30 : Int) < (s.size : Int) := by omega
  refine (callsIn_wide (n := 6)).1 ?_
  refine callsIn_of_wp_marks Try.func66 rfl trivial ?_ rfl
  simp only [Try.ntmps66, List.size_toArray, List.length_cons, List.length_nil, Nat.reduceAdd, Nat.reduceSub, Array.replicate_succ, Array.replicate_zero, List.push_toArray, List.append_toArray, List.nil_append, List.cons_append]
  gi_wp2_with (refine ⟨trivial, ?_⟩; gi_at_call 100; refine (groups_in Fence.wide _ trivial rfl s 3 _).mono ?_; rintro e w' ⟨rfl, rfl⟩)
  have hx0 : Lib.IsBuilder 144 5 w.heap.size w.heap.size [] (((w.alloc (.cells #[.pointer none, .slice none 0 0] 144)).alloc (.cells #[.string s] 9)).alloc (.cells #[.int .i64 3] 3)) :=
    bld_kept (bld_kept (Lib.fresh_isBuilder 144 5 w) (World.grownBy_alloc _ _ none) (fun r e => by cases e)) (World.grownBy_alloc _ _ none) (fun r e => by cases e)
  have hx1 : (((w.alloc (.cells #[.pointer none, .slice none 0 0] 144)).alloc (.cells #[.string s] 9)).alloc (.cells #[.int .i64 3] 3)).heap[w.heap.size + 1]? = some (.cells #[.string s] 9 (0, 0)) := by
    refine (Below.heap_alloc _ _ _ (by simp)).trans ?_
    simpa using heap_alloc_new (w.alloc (.cells #[.pointer none, .slice none 0 0] 144)) (.cells #[.string s] 9)
  have hx2 : (((w.alloc (.cells #[.pointer none, .slice none 0 0] 144)).alloc (.cells #[.string s] 9)).alloc (.cells #[.int .i64 3] 3)).heap[w.heap.size + 1 + 1]? = some (.cells #[.int .i64 3] 3 (0, 0)) := by
    simpa using heap_alloc_new ((w.alloc (.cells #[.pointer none, .slice none 0 0] 144)).alloc (.cells #[.string s] 9)) (.cells #[.int .i64 3] 3)
  have hB0 : Below w.heap.size w (((w.alloc (.cells #[.pointer none, .slice none 0 0] 144)).alloc (.cells #[.string s] 9)).alloc (.cells #[.int .i64 3] 3)) := (((Below.refl _ w).alloc (Nat.le_refl _) _).alloc (by simp) _).alloc (by simp; omega) _
  have hz : (((w.alloc (.cells #[.pointer none, .slice none 0 0] 144)).alloc (.cells #[.string s] 9)).alloc (.cells #[.int .i64 3] 3)).heap.size = w.heap.size + 3 := by simp
  generalize (((w.alloc (.cells #[.pointer none, .slice none 0 0] 144)).alloc (.cells #[.string s] 9)).alloc (.cells #[.int .i64 3] 3)) = W0 at hx0 hx1 hx2 hB0 hz ⊢
  refine wpIn_rangeFunc_ownF rfl (by omega) (gf := 121) (lb := #[.pointer (some ⟨w.heap.size + 1, 0, none⟩), .pointer (some ⟨w.heap.size + 1 + 1, 0, none⟩)]) rfl trivial (enters_of Try.func121 (by kernel_rfl) rfl)
    (groups3_stops Fence.wide _ trivial rfl (by omega) (w.heap.size + 1) (w.heap.size + 1 + 1) s (by omega) W0 (by omega) (by omega) (cell_at hx1 0 _ rfl) (cell_at hx2 0 _ rfl)) (fun h k => h.trans k) (fun W l o o' hl _ _ _ => Gs.Kp.putObj W o' (by omega) (by omega)) (Below.refl _ _) (fun _ => rfl)
    (Gs.IE w s) (fun _ _ _ => False)
    (OwnFrom.and (Own.from (fun s A B row hs hg hr => ⟨bld_kept hs.1 hg hr, obj_kept hs.2.1 rfl hg hr, obj_kept hs.2.2 rfl hg hr⟩) _) (ownFrom_below (Nat.le_refl _) (by omega)))
    (fun _ _ _ _ _ hs _ _ => hs)
    ⟨⟨hx0, hx1, hx2⟩, hB0⟩
    (fun x => { tmps := #[.string s, undef, .string ⟨#[]⟩, .pointer (some ⟨w.heap.size, 0, none⟩), .string x.1, .string s, .int .i64 s.size, .bool false, .string s, .func (.func 121) #[] #[.pointer (some ⟨w.heap.size + 1, 0, none⟩), .pointer (some ⟨w.heap.size + 1 + 1, 0, none⟩)], .string x.1, undef, undef, undef], defers := [] }) ?assign ?body ?done ?stop
  case assign =>
    intro l x W K hK
    gi_wp2
    exact hK
  case body =>
    rintro l pre x W ⟨⟨hb, h1, h2⟩, hB⟩ hlen
    have hl : (Gs.encs pre).length ≤ 1000 := by
      have := Gs.encs_len pre
      unfold Gs.n at hlen
      omega
    have hsz := hB.size
    have HH := Lib.hid (base64Write_any w.heap.size w.heap.size (Gs.encs pre) x.1 W x.2.1 x.2.2 hb hl hsz)
    clear hb
    gi_wp2_with (refine ⟨trivial, ?_⟩; gi_at_call 101; refine (CallsIn.inRound l (callsIn_wide.2 HH.out)).mono ?_; rintro e W2 ⟨rfl, hb2, hbl2, hk2⟩)
    exact ⟨hk2.1, Gs.kp_bk hk2 h1 h2 (by omega) (by omega), ⟨by rw [Gs.encs_snoc]; exact hb2, (Gs.kp_bk hk2 h1 h2 (by omega) (by omega)).1.trans h1, (Gs.kp_bk hk2 h1 h2 (by omega) (by omega)).2.trans h2⟩, hB.trans hbl2⟩
  case done =>
    rintro D ys W hD rfl ⟨⟨hb, h1, h2⟩, hB⟩ hK
    have hsz := hB.size
    rw [Gs.encs_all] at hb
    have HH := Lib.hid (Try.Builder_String_any_k w.heap.size w.heap.size (B6.enc s.data.toList) W (Lib.IsBuilderF.of hb) hsz)
    have hbD : w.heap.size ≠ D := by omega
    clear hb
    gi_wp2_with (refine ⟨trivial, ?_⟩; gi_at_call 102; refine (callsIn_wide.2 HH.out).mono ?_; rintro e W2 ⟨rfl, _, hbl2, hk2⟩)
    have hK2 := hk2 D _ hK (by simpa using hbD.symm) (by intro c fz e; cases e)
    refine ⟨by simp, .inl ⟨_, _, rfl, run_takeDeferred hK2, ?_⟩⟩
    refine ⟨_, results_tmp rfl _ _ _, ?_, (hB.trans hbl2).trans (belowK_b (w := w) (Nat.le_refl _) W2 D _ _ (by omega) hK2 rfl rfl)⟩
    unfold B6.encode
    rw [if_neg (by omega)]
    rfl
  case stop =>
    rintro D c pre W _ _ h _
    exact h.elim
theorem iB64Encode_any (s : ByteArray) (w : World) :
    Calls Try.prog 66 #[.string s] w fun e w' => e = .returned (.string (B6.encode s)) ∧ Below w.heap.size w w' := by
  rcases Nat.lt_or_ge 30 s.size with h | h
  · exact iB64Encode_no s h w
  · exact iB64Encode_yes s h w
end Go.Proofs.Ytjoohmokjliecaa
