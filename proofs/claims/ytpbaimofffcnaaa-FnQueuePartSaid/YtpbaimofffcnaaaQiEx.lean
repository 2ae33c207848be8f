/- Items of a queue: how they lie in memory; sizes, copies, comparison. -/
import Derived.Test.YtpbaimofffcnaaaLtW
import Derived.Test.YtpbaimofffcnaaaOwT
import Derived.Test.YtpbaimofffcnaaaQuPlain
import Derived.Deep.DeepCutAuto
namespace Go.Proofs.Ytpbaimofffcnaaa
set_option linter.unusedVariables false
open Go.RowKit Go.ChangeShapes Go.WideShapes Go.Deep

/-- an item that lies in a row: its list lies elsewhere -/
structure Qi.L where
  id : Int
  f : ByteArray
  t : ByteArray
  A : Option Addr
  us : List ByteArray
  c : Nat
def Qi.cells (x : Qi.L) : List Value := [.int .i64 x.id, .string x.f, .string x.t, .slice x.A x.us.length x.c]
theorem Qi.cells_len (x : Qi.L) : (Qi.cells x).length = 4 := rfl
theorem Qi.one1 (x : Qi.L) : ∀ v ∈ Qi.cells x, v.oneCell' = true := by
  intro v hv
  simp [Qi.cells] at hv
  rcases hv with rfl | rfl | rfl | rfl <;> rfl
def Qi.v (x : Qi.L) : Qu.V := ⟨x.id, x.f, x.t, x.us⟩
theorem Lx.is (f : ByteArray) (us : List ByteArray) (t : ByteArray) : Lx.ok f us t = Lt.ok f us t := rfl
theorem item_info : (Try.prog.info? 43).map (fun i => (i.zero, i.size, i.bytes)) = some (some (.agg #[.int .i64 0, .string ⟨#[]⟩, .string ⟨#[]⟩, .slice none 0 0]), 4, 64) := by kernel_rfl
def Qi.At1 (w : World) (B : Nat) (x : Qi.L) : Prop := AtStrs w B x.A x.us ∧ x.us.length ≤ x.c ∧ x.c ≤ maxLen ∧ x.f.size ≤ maxLen ∧ x.t.size ≤ maxLen
def AtItems (w : World) (B : Nat) (A : Option Addr) (ls : List Qi.L) : Prop := At w B 4 Qi.cells A ls ∧ ∀ x ∈ ls, Qi.At1 w B x
theorem Qi.At1.below {w w' : World} {B : Nat} {x : Qi.L} (h : Qi.At1 w B x) (hb : Below B w w') : Qi.At1 w' B x := ⟨h.1.below hb, h.2⟩
theorem Qi.At1.mono {w : World} {B B' : Nat} {x : Qi.L} (h : Qi.At1 w B x) (hb : B ≤ B') : Qi.At1 w B' x := ⟨h.1.mono hb, h.2⟩
theorem AtItems.below {w w' : World} {B : Nat} {A : Option Addr} {ls : List Qi.L} (h : AtItems w B A ls) (hb : Below B w w') : AtItems w' B A ls :=
  ⟨h.1.below hb, fun x hx => (h.2 x hx).below hb⟩
theorem AtItems.mono {w : World} {B B' : Nat} {A : Option Addr} {ls : List Qi.L} (h : AtItems w B A ls) (hb : B ≤ B') : AtItems w B' A ls :=
  ⟨h.1.mono hb, fun x hx => (h.2 x hx).mono hb⟩
/-- the cells of one item -/
theorem AtItems.row {w : World} {B : Nat} {A : Option Addr} {ls : List Qi.L} (h : AtItems w B A ls) (hl : 0 < ls.length) : ∃ g off, A = some ⟨g, off, none⟩ ∧ g < B ∧ ∀ (k : Nat) (x : Qi.L), ls[k]? = some x →
    w.cell? ⟨g, off + k * 4, none⟩ = some (.int .i64 x.id) ∧ w.cell? ⟨g, off + k * 4 + 1, none⟩ = some (.string x.f) ∧ w.cell? ⟨g, off + k * 4 + 2, none⟩ = some (.string x.t) ∧ w.cell? ⟨g, off + k * 4 + 3, none⟩ = some (.slice x.A x.us.length x.c) := by
  obtain ⟨g, off, ha, hg, hc⟩ := h.1 hl
  exact ⟨g, off, ha, hg, fun k x hx => ⟨hc k x hx 0 _ rfl, hc k x hx 1 _ rfl, hc k x hx 2 _ rfl, hc k x hx 3 _ rfl⟩⟩

set_option maxHeartbeats 1600000 in
theorem szItem_any (x : Qi.L) (left : Int) (w : World) (h : Qi.At1 w w.heap.size x) (h0 : 0 ≤ left) (h1 : left ≤ 1048576) :
    Calls Try.prog 30 #[.agg #[.int .i64 x.id, .string x.f, .string x.t, .slice x.A x.us.length x.c], .int .i64 left] w (Szd left (x.us.length ≤ 1048576) w) := by
  obtain ⟨id, f, t, A, us, c⟩ := x
  obtain ⟨ha, hcap, hcm, hf, ht⟩ := h
  dsimp only at ha hcap hf ht hcm ⊢
  have hn : us.length ≤ maxLen := Nat.le_trans hcap hcm
  have hfl := hf
  have htl := ht
  unfold maxLen at hfl htl
  have hB : Below w.heap.size w (w.alloc (.cells #[.int .i64 id, .string f, .string t, .slice A us.length c] 62)) := (Below.refl _ _).alloc (Nat.le_refl _) _
  have HA := Lib.hid ((ha.below hB).mono hB.size)
  have HB := Lib.hid hB
  clear hB
  by_cases c1 : left - (f.size : Int) < 0
  · go_enter Try.func30, Try.ntmps30
    go_wp2
    go_ret
    exact ⟨-1, rfl, by omega, by omega, fun h => absurd h (by omega), HB.out⟩
  · by_cases c2 : left - (f.size : Int) - (t.size : Int) < 0
    · go_enter Try.func30, Try.ntmps30
      go_wp2
      go_ret
      exact ⟨-1, rfl, by omega, by omega, fun h => absurd h (by omega), HB.out⟩
    · go_enter Try.func30, Try.ntmps30
      go_wp2_with fail
      refine (szStringS_any A us c (left - (f.size : Int) - (t.size : Int)) _ HA.out hn (by omega) (by omega)).mono ?_
      rintro e w1 ⟨r, rfl, hm, hle, hq, hb1⟩
      have HQ := Lib.hid hq
      have hB1 := HB.out.trans (hb1.mono HB.out.size)
      clear hq
      by_cases hneg : r < 0
      · go_wp2_with fail
        go_ret
        exact ⟨-1, rfl, by omega, by omega, fun h => absurd h (by omega), hB1⟩
      · go_wp2_with fail
        go_ret
        exact ⟨r, rfl, by omega, by omega, fun _ => (HQ.out (by omega)).1, hB1⟩

set_option maxHeartbeats 1600000 in
theorem szItemS_any (A : Option Addr) (ls : List Qi.L) (c : Nat) (left : Int) (w : World) (h : AtItems w w.heap.size A ls) (hn : ls.length ≤ maxLen) (h0 : 0 ≤ left) (h1 : left ≤ 1048576) :
    Calls Try.prog 17 #[.slice A ls.length c, .int .i64 left] w (Szd left (ls.length ≤ 1048576 ∧ ∀ x ∈ ls, x.us.length ≤ 1048576) w) := by
  unfold maxLen at hn
  by_cases c1 : left - (ls.length : Int) < 0
  · go_enter Try.func17, Try.ntmps17
    go_wp2
    go_ret
    exact ⟨-1, rfl, by omega, by omega, fun h => absurd h (by omega), Below.refl _ _⟩
  · go_enter Try.func17, Try.ntmps17
    go_wp2_with fail
    go_loopg [1, 5] ls.length (fun g lf i wr => ∃ (k : Nat) (r : Int), k ≤ ls.length ∧ Hid (g = ls.length - k) ∧ i = .int .i64 k ∧ lf = .int .i64 r ∧ 0 ≤ r ∧ r ≤ left ∧ Hid (∀ (j : Nat) (u : Qi.L), j < k → ls[j]? = some u → u.us.length ≤ 1048576) ∧ Below w.heap.size w wr)
    case atStart => exact ⟨0, _, Nat.zero_le _, Lib.hid rfl, rfl, rfl, by omega, by omega, Lib.hid (fun j u hj => absurd hj (by omega)), Below.refl _ _⟩
    case round =>
      obtain ⟨k, r, hk, HG, rfl, rfl, hr0, hr1, HQ, hb⟩ := hrel
      by_cases hlt : k < ls.length
      · obtain ⟨g, off, rfl, hg, hc⟩ := (h.below hb).row (by omega)
        obtain ⟨u, hu⟩ : ∃ u, ls[k]? = some u := ⟨_, List.getElem?_eq_getElem hlt⟩
        obtain ⟨d0, d1, d2, d3⟩ := hc k u hu
        have HU := Lib.hid hu
        have HS := Lib.hid (szItem_any u r wr (((h.below hb).2 u (List.mem_of_getElem? hu)).mono hb.size) hr0 (by omega))
        clear hc hu
        go_wp2_with fail
        refine Calls.mono HS.out ?_
        rintro e w1 ⟨r2, rfl, hm, hle, hq, hb1⟩
        have hb2 := hb.trans (hb1.mono hb.size)
        have HQ2 := Lib.hid hq
        clear hq hb1
        by_cases hneg : r2 < 0
        · go_wp2_with fail
          go_ret
          exact ⟨-1, rfl, by omega, by omega, fun h => absurd h (by omega), hb2⟩
        · go_wp2_with fail
          go_roundg (ls.length - (k + 1))
          case measure => have := HG.out; omega
          case rel =>
            refine ⟨k + 1, r2, by omega, Lib.hid rfl, by go_num, rfl, by omega, by omega, Lib.hid (fun j v hj hv => ?_), hb2⟩
            rcases Nat.lt_or_ge j k with h' | h'
            · exact HQ.out j v h' hv
            · have e : j = k := by omega
              subst e
              rw [HU.out] at hv
              injection hv with hv
              subst hv
              exact HQ2.out (by omega)
      · obtain rfl : k = ls.length := by omega
        go_wp2_with fail
        go_ret
        refine ⟨r, rfl, by omega, hr1, fun _ => ⟨by omega, fun u hu => ?_⟩, hb⟩
        obtain ⟨i, hil, rfl⟩ := List.getElem_of_mem hu
        exact HQ.out i _ hil (List.getElem?_eq_getElem hil)

set_option maxHeartbeats 1600000 in
theorem szQueue_any (nx : Int) (A : Option Addr) (ls : List Qi.L) (c : Nat) (left : Int) (w : World) (h : AtItems w w.heap.size A ls) (hn : ls.length ≤ maxLen) (h0 : 0 ≤ left) (h1 : left ≤ 1048576) :
    Calls Try.prog 7 #[.agg #[.int .i64 nx, .slice A ls.length c], .int .i64 left] w (Szd left (ls.length ≤ 1048576 ∧ ∀ x ∈ ls, x.us.length ≤ 1048576) w) := by
  have hB : Below w.heap.size w (w.alloc (.cells #[.int .i64 nx, .slice A ls.length c] 24)) := (Below.refl _ _).alloc (Nat.le_refl _) _
  have HA := Lib.hid ((h.below hB).mono hB.size)
  have HB := Lib.hid hB
  clear hB
  go_enter Try.func7, Try.ntmps7
  go_wp2_with fail
  refine (szItemS_any A ls c left _ HA.out hn h0 h1).mono ?_
  rintro e w1 ⟨r, rfl, hm, hle, hq, hb1⟩
  have HQ := Lib.hid hq
  have hB1 := HB.out.trans (hb1.mono HB.out.size)
  clear hq
  by_cases hneg : r < 0
  · go_wp2_with fail
    go_ret
    exact ⟨-1, rfl, by omega, by omega, fun h => absurd h (by omega), hB1⟩
  · go_wp2_with fail
    go_ret
    exact ⟨r, rfl, by omega, by omega, fun _ => HQ.out (by omega), hB1⟩

set_option maxHeartbeats 1600000 in
theorem eqItem_any (id : Int) (f t : ByteArray) (A A' : Option Addr) (us : List ByteArray) (c c' : Nat) (w : World) (h : AtStrs w w.heap.size A us) (h' : AtStrs w w.heap.size A' us) (hn : us.length ≤ maxLen) :
    Calls Try.prog 38 #[.agg #[.int .i64 id, .string f, .string t, .slice A us.length c], .agg #[.int .i64 id, .string f, .string t, .slice A' us.length c']] w fun e w' => e = .returned (.bool true) ∧ Below w.heap.size w w' := by
  go_enter Try.func38, Try.ntmps38
  go_wp2_with fail
  refine (eqStringS_any A A' us c c' _ ((h.below (by go_grown)).mono (by simp; omega)) ((h'.below (by go_grown)).mono (by simp; omega)) hn).mono ?_
  rintro e w1 ⟨rfl, hb1⟩
  have hB := Below.trans (B := w.heap.size) (a := w) (by go_grown) (hb1.mono (by simp; omega))
  go_wp2_with fail
  go_ret
  exact ⟨rfl, hB⟩

set_option maxHeartbeats 1600000 in
theorem eqItemS_any (A A' : Option Addr) (ls ls' : List Qi.L) (c c' : Nat) (w : World) (h : AtItems w w.heap.size A ls) (h' : AtItems w w.heap.size A' ls') (he : ls.map Qi.v = ls'.map Qi.v) (hn : ls.length ≤ maxLen) :
    Calls Try.prog 23 #[.slice A ls.length c, .slice A' ls'.length c'] w fun e w' => e = .returned (.bool true) ∧ Below w.heap.size w w' := by
  unfold maxLen at hn
  have hll : ls'.length = ls.length := by have := congrArg List.length he; rw [List.length_map, List.length_map] at this; exact this.symm
  rw [hll]
  have HLL := Lib.hid hll
  have HE := Lib.hid he
  clear hll he
  go_enter Try.func23, Try.ntmps23
  go_wp2_with fail
  go_loopg [5] ls.length (fun g i wr => ∃ k : Nat, k ≤ ls.length ∧ Hid (g = ls.length - k) ∧ i = .int .i64 k ∧ Below w.heap.size w wr)
  case atStart => exact ⟨0, Nat.zero_le _, Lib.hid rfl, rfl, Below.refl _ _⟩
  case round =>
    obtain ⟨k, hk, HG, rfl, hb⟩ := hrel
    by_cases hlt : k < ls.length
    · obtain ⟨g, off, rfl, hg, hc⟩ := (h.below hb).row (by omega)
      obtain ⟨g', off', rfl, hg', hc'⟩ := (h'.below hb).row (by have := HLL.out; omega)
      obtain ⟨u, hu⟩ : ∃ u, ls[k]? = some u := ⟨_, List.getElem?_eq_getElem hlt⟩
      obtain ⟨u', hu'⟩ : ∃ u', ls'[k]? = some u' := ⟨_, List.getElem?_eq_getElem (by have := HLL.out; omega)⟩
      have hv : Qi.v u = Qi.v u' := by
        have h1 : (ls.map Qi.v)[k]? = some (Qi.v u) := by rw [List.getElem?_map, hu]; rfl
        have h2 : (ls'.map Qi.v)[k]? = some (Qi.v u') := by rw [List.getElem?_map, hu']; rfl
        rw [HE.out, h2] at h1
        injection h1 with h1
        exact h1.symm
      have HA := Lib.hid ((h.below hb).2 u (List.mem_of_getElem? hu))
      have HA' := Lib.hid ((h'.below hb).2 u' (List.mem_of_getElem? hu'))
      obtain ⟨d0, d1, d2, d3⟩ := hc k u hu
      obtain ⟨e0, e1, e2, e3⟩ := hc' k u' hu'
      clear hc hc' hu hu'
      obtain ⟨id, f, t, A1, us, c1⟩ := u
      obtain ⟨id', f', t', A2, us', c2⟩ := u'
      injection hv with v1 v2 v3 v4
      dsimp only at v1 v2 v3 v4 d0 d1 d2 d3 e0 e1 e2 e3
      subst v1 v2 v3 v4
      have k1 : (k : Int) < (ls.length : Int) := by omega
      have HW := Lib.hid hb.size
      have HSL := Lib.hid (fun (W : World) (hW : W.heap = wr.heap) => eqItem_any id f t A1 A2 us c1 c2 W (((HA.out.1.keep (w' := W) (fun i _ => by rw [hW])).mono (by rw [hW]; exact HW.out))) (((HA'.out.1.keep (w' := W) (fun i _ => by rw [hW])).mono (by rw [hW]; exact HW.out))) (Nat.le_trans HA.out.2.1 HA.out.2.2.1))
      go_upto_region 6 with fail
      go_region_with (go_at_call 38; refine Calls.mono (HSL.out _ rfl) ?_; rintro e w1 ⟨rfl, hb1⟩)
      all_goals
        go_wp2_with fail
        go_roundg (ls.length - (k + 1))
        case measure => have := HG.out; omega
        case rel => exact ⟨k + 1, by omega, Lib.hid rfl, by go_num, (below_drewN hb 1).trans (hb1.mono hb.size)⟩
    · obtain rfl : k = ls.length := by omega
      go_wp2_with fail
      go_ret
      exact ⟨rfl, hb⟩

set_option maxHeartbeats 1600000 in
theorem eqQueue_any (nx : Int) (A A' : Option Addr) (ls ls' : List Qi.L) (c c' : Nat) (w : World) (h : AtItems w w.heap.size A ls) (h' : AtItems w w.heap.size A' ls') (he : ls.map Qi.v = ls'.map Qi.v) (hn : ls.length ≤ maxLen) :
    Calls Try.prog 11 #[.agg #[.int .i64 nx, .slice A ls.length c], .agg #[.int .i64 nx, .slice A' ls'.length c']] w fun e w' => e = .returned (.bool true) ∧ Below w.heap.size w w' := by
  go_enter Try.func11, Try.ntmps11
  go_wp2_with fail
  refine (eqItemS_any A A' ls ls' c c' _ ((h.below (by go_grown)).mono (by simp; omega)) ((h'.below (by go_grown)).mono (by simp; omega)) he hn).mono ?_
  rintro e w1 ⟨rfl, hb1⟩
  have hB := Below.trans (B := w.heap.size) (a := w) (by go_grown) (hb1.mono (by simp; omega))
  go_wp2_with fail
  go_ret
  exact ⟨rfl, hB⟩

set_option maxHeartbeats 1600000 in
theorem toItem_any (x : Qi.L) (w : World) (h : Qi.At1 w w.heap.size x) (hn : x.us.length ≤ 1048576) :
    Calls Try.prog 33 #[.agg #[.int .i64 x.id, .string x.f, .string x.t, .slice x.A x.us.length x.c]] w fun e w' => ∃ A' c', e = .returned (.agg #[.int .i64 x.id, .string x.f, .string x.t, .slice A' x.us.length c']) ∧ Qi.At1 w' w'.heap.size ⟨x.id, x.f, x.t, A', x.us, c'⟩ ∧ (∀ g off, A' = some ⟨g, off, none⟩ → w.heap.size ≤ g) ∧ Below w.heap.size w w' := by
  obtain ⟨id, f, t, A, us, c⟩ := x
  obtain ⟨ha, hcap, hcm, hf, ht⟩ := h
  dsimp only at ha hcap hf ht hcm hn ⊢
  go_enter Try.func33, Try.ntmps33
  go_wp2_with fail
  refine (toStringS_any A us c _ ((ha.below (by go_grown)).mono (by simp; omega)) hn).mono ?_
  rintro e w1 ⟨A', c', rfl, hc1, hc2, h1, hfr, hb1⟩
  have hB := Below.trans (B := w.heap.size) (a := w) (by go_grown) (hb1.mono (by simp; omega))
  have hx3 : w1.heap[w.heap.size + 1 + 1]? = some (.cells #[.int .i64 id, .string f, .string t, .slice none 0 0] 43 (0, 0)) := (hb1.block _ (by simp)).trans (by simpa using heap_alloc_new ((w.alloc _).alloc _) (.cells #[.int .i64 id, .string f, .string t, .slice none 0 0] 43 (0, 0)))
  have hx2 : w1.heap[w.heap.size + 1]? = some (.cells #[.int .i64 0, .string ⟨#[]⟩, .string ⟨#[]⟩, .slice none 0 0] 43 (0, 0)) := (hb1.block _ (by simp)).trans ((((Below.refl _ ((w.alloc (.cells #[.int .i64 id, .string f, .string t, .slice A us.length c] 62 (0, 0))).alloc (.cells #[.int .i64 0, .string ⟨#[]⟩, .string ⟨#[]⟩, .slice none 0 0] 43 (0, 0)))).alloc (Nat.le_refl _) _).block _ (by simp)).trans (by simpa using heap_alloc_new (w.alloc _) (.cells #[.int .i64 0, .string ⟨#[]⟩, .string ⟨#[]⟩, .slice none 0 0] 43 (0, 0))))
  have p0 : w1.cell? ⟨w.heap.size + 1, 0, none⟩ = some (.int .i64 0) := cell_at hx2 0 _ rfl
  have p1 : w1.cell? ⟨w.heap.size + 1, 1, none⟩ = some (.string ⟨#[]⟩) := cell_at hx2 1 _ rfl
  have p2 : w1.cell? ⟨w.heap.size + 1, 2, none⟩ = some (.string ⟨#[]⟩) := cell_at hx2 2 _ rfl
  have p3 : w1.cell? ⟨w.heap.size + 1, 3, none⟩ = some (.slice none 0 0) := cell_at hx2 3 _ rfl
  have q0 : w1.cell? ⟨w.heap.size + 1 + 1, 0, none⟩ = some (.int .i64 id) := cell_at hx3 0 _ rfl
  have q1 : w1.cell? ⟨w.heap.size + 1 + 1, 1, none⟩ = some (.string f) := cell_at hx3 1 _ rfl
  have q2 : w1.cell? ⟨w.heap.size + 1 + 1, 2, none⟩ = some (.string t) := cell_at hx3 2 _ rfl
  have q3 : w1.cell? ⟨w.heap.size + 1 + 1, 3, none⟩ = some (.slice none 0 0) := cell_at hx3 3 _ rfl
  have fp0 := free_at hx2 0
  have fp1 := free_at hx2 1
  have fp2 := free_at hx2 2
  have fp3 := free_at hx2 3
  have fq0 := free_at hx3 0
  have fq1 := free_at hx3 1
  have fq2 := free_at hx3 2
  have fq3 := free_at hx3 3
  have H1 := Lib.hid h1
  clear hx2 hx3 h1
  go_wp2_with fail
  have hf1 : ∀ g off, A' = some ⟨g, off, none⟩ → w.heap.size + 1 ≠ g := fun g off e => by have := hfr g off e; simp at this; omega
  have hf2 : ∀ g off, A' = some ⟨g, off, none⟩ → w.heap.size + 1 + 1 ≠ g := fun g off e => by have := hfr g off e; simp at this; omega
  refine bodyPost_ret (v := .agg #[.int .i64 id, .string f, .string t, .slice A' us.length c']) (by simp [results, Try.results33, go_sem, p0, p1, p2, p3]) rfl ⟨A', c', rfl, ⟨?_, hc1, hc2, hf, ht⟩, fun g off e => by have := hfr g off e; simp at this; omega, ?_⟩
  · exact AtStrs.mono (AtStrs.setCell (AtStrs.setCell (AtStrs.setCell (AtStrs.setCell (AtStrs.setCell H1.out hf2 _) hf1 _) hf1 _) hf1 _) hf1 _) (by simp)
  · exact ((((hB.setCell (p := ⟨w.heap.size + 1 + 1, 3, none⟩) (by simp; omega) _).setCell (p := ⟨w.heap.size + 1, 0, none⟩) (by simp) _).setCell (p := ⟨w.heap.size + 1, 1, none⟩) (by simp) _).setCell (p := ⟨w.heap.size + 1, 2, none⟩) (by simp) _).setCell (p := ⟨w.heap.size + 1, 3, none⟩) (by simp) _

def Qi.zero : Qi.L := ⟨0, ⟨#[]⟩, ⟨#[]⟩, none, [], 0⟩
/-- the rows after some rounds of copying: these, then empty ones -/
def Qi.part (ms : List Qi.L) (n : Nat) : List Qi.L := ms ++ List.replicate (n - ms.length) Qi.zero
theorem Qi.part_len (ms : List Qi.L) (n : Nat) (h : ms.length ≤ n) : (Qi.part ms n).length = n := by unfold Qi.part; rw [List.length_append, List.length_replicate]; omega
theorem Qi.part_get (ms : List Qi.L) (n k : Nat) (hk : ms.length = k) (h : k < n) : (Qi.part ms n)[k]? = some Qi.zero := by
  unfold Qi.part
  rw [List.getElem?_append_right (by omega), List.getElem?_replicate, if_pos (by omega)]
theorem Qi.part_set (ms : List Qi.L) (n k : Nat) (x : Qi.L) (hk : ms.length = k) (h : k < n) : (Qi.part ms n).set k x = Qi.part (ms ++ [x]) n := by
  unfold Qi.part
  rw [List.set_append_right _ _ (by omega), hk, Nat.sub_self, List.length_append, List.length_singleton, hk]
  obtain ⟨m, hm⟩ : ∃ m, n - k = m + 1 := ⟨n - k - 1, by omega⟩
  rw [hm, List.replicate_succ, List.set_cons_zero, show n - (k + 1) = m by omega, List.append_assoc]; rfl
theorem Qi.part_zero (n : Nat) : Qi.part [] n = List.replicate n Qi.zero := by unfold Qi.part; simp
theorem Qi.part_all (ms : List Qi.L) : Qi.part ms ms.length = ms := by unfold Qi.part; simp
theorem Qi.v_take {ls : List Qi.L} {k : Nat} {u : Qi.L} (h : ls[k]? = some u) : (ls.take (k + 1)).map Qi.v = (ls.take k).map Qi.v ++ [Qi.v u] := by rw [List.take_add_one, h, List.map_append]; rfl
/-- a list that lies apart from a block -/
def Qi.off (b : Nat) (x : Qi.L) : Prop := ∀ g off, x.A = some ⟨g, off, none⟩ → b < g
theorem Qi.off.ne {b : Nat} {x : Qi.L} (h : Qi.off b x) : ∀ g off, x.A = some ⟨g, off, none⟩ → b ≠ g := fun g off e => Nat.ne_of_lt (h g off e)
theorem AtItems.setCell {w : World} {B : Nat} {A : Option Addr} {ls : List Qi.L} {p : Addr} (h : AtItems w B A ls) (hp : ∀ g off, A = some ⟨g, off, none⟩ → p.block ≠ g) (hx : ∀ x ∈ ls, ∀ g off, x.A = some ⟨g, off, none⟩ → p.block ≠ g) (v : Value) : AtItems (w.setCell p v) B A ls := by
  refine ⟨fun hl => ?_, fun x hxm => ⟨AtStrs.setCell (h.2 x hxm).1 (hx x hxm) v, (h.2 x hxm).2⟩⟩
  obtain ⟨g, off, ha, hlt, hc⟩ := h.1 hl
  exact ⟨g, off, ha, hlt, fun i u hu j y hy => by rw [World.cell?_setCell_other w p _ v (fun e => hp g off ha (by rw [e]))]; exact hc i u hu j y hy⟩

set_option maxRecDepth 100000 in
set_option maxHeartbeats 1600000 in
theorem toItemS_any (A : Option Addr) (ls : List Qi.L) (c : Nat) (w : World) (h : AtItems w w.heap.size A ls) (hn : ls.length ≤ 1048576 ∧ ∀ x ∈ ls, x.us.length ≤ 1048576) :
    Calls Try.prog 20 #[.slice A ls.length c] w fun e w' => ∃ A' ms c', e = .returned (.slice A' ms.length c') ∧ ms.map Qi.v = ls.map Qi.v ∧ ms.length ≤ c' ∧ c' ≤ maxLen ∧ AtItems w' w'.heap.size A' ms ∧ (∀ g off, A' = some ⟨g, off, none⟩ → w.heap.size ≤ g) ∧ (∀ x ∈ ms, Qi.off w.heap.size x) ∧ Below w.heap.size w w' := by
  obtain ⟨hn, hnx⟩ := hn
  obtain ⟨i0, hi, hz0, hz1, hz2⟩ := info_parts item_info
  have hmk := fun W => run_make_rowN (P := Try.prog) 27 43 i0 _ Try.underlying27 hi hz0 .i64 .i64 ls.length ls.length (Nat.le_refl _) (by rw [hz2]; omega) (by omega) W
  rw [hz1] at hmk
  have hml : (madeCells (Value.agg #[.int .i64 0, .string ⟨#[]⟩, .string ⟨#[]⟩, .slice none 0 0]).cells (ls.length * 4)).toList = (Qi.part [] ls.length).flatMap Qi.cells := by
    rw [Qi.part_zero]
    exact made_flat (by omega) Qi.cells_len rfl
  have HML := Lib.hid hml
  clear hml
  have hown0 : (w.alloc (.cells (madeCells (Value.agg #[.int .i64 0, .string ⟨#[]⟩, .string ⟨#[]⟩, .slice none 0 0]).cells (ls.length * 4)) 43)).ownsRow w.heap.size 43 4 (.slice (some ⟨w.heap.size, 0, none⟩) ls.length ls.length) ls.length ((Qi.part [] ls.length).flatMap Qi.cells) := by
    rw [← HML.out]
    exact World.ownsRow_lit w _ ls.length (Nat.le_refl _) (by unfold maxLen; omega) (size_madeCells _ _)
  have H0 := Lib.hid hown0
  clear hown0
  have HNX := Lib.hid hnx
  clear hnx
  go_enter Try.func20, Try.ntmps20
  go_wp2_with fail
  go_loopg [4] ls.length (fun g i wr => ∃ (k : Nat) (ms : List Qi.L), k ≤ ls.length ∧ Hid (g = ls.length - k) ∧ i = .int .i64 k ∧ Hid (ms.length = k) ∧ Hid (ms.map Qi.v = (ls.take k).map Qi.v) ∧ Hid (wr.ownsRow w.heap.size 43 4 (.slice (some ⟨w.heap.size, 0, none⟩) ls.length ls.length) ls.length ((Qi.part ms ls.length).flatMap Qi.cells)) ∧ Hid (∀ x ∈ ms, Qi.At1 wr wr.heap.size x ∧ Qi.off w.heap.size x) ∧ Below w.heap.size w wr)
  case atStart => exact ⟨0, [], Nat.zero_le _, Lib.hid rfl, rfl, Lib.hid rfl, Lib.hid (by simp), H0, Lib.hid (fun x hx => by cases hx), by go_grown⟩
  case round =>
    obtain ⟨k, ms, hk, HG, rfl, HML2, HV, HO, HS, hb⟩ := hrel
    by_cases hlt : k < ls.length
    · obtain ⟨g, off, rfl, hg, hc⟩ := (h.below hb).row (by omega)
      obtain ⟨u, hu⟩ : ∃ u, ls[k]? = some u := ⟨_, List.getElem?_eq_getElem hlt⟩
      obtain ⟨d0, d1, d2, d3⟩ := hc k u hu
      have HT := Lib.hid (toItem_any u wr (((h.below hb).2 u (List.mem_of_getElem? hu)).mono hb.size) (HNX.out u (List.mem_of_getElem? hu)))
      have HVT := Lib.hid (Qi.v_take hu)
      clear hc hu
      go_wp2_with fail
      refine Calls.mono HT.out ?_
      rintro e w1 ⟨A', c', rfl, ha1, hfr, hb1⟩
      have hlt1 := (HO.out.lt _ rfl).2
      have hown1 := own_below HO.out hb1 hlt1
      have hlt2 : w.heap.size < w1.heap.size := Nat.lt_of_lt_of_le hlt1 hb1.size
      have hpg := Qi.part_get ms ls.length k HML2.out hlt
      have e0 : w1.cell? ⟨w.heap.size, k * 4, none⟩ = some (.int .i64 0) := own_cell (j := 0) Qi.cells_len hown1 hpg rfl
      have e1 : w1.cell? ⟨w.heap.size, k * 4 + 1, none⟩ = some (.string ⟨#[]⟩) := own_cell (j := 1) Qi.cells_len hown1 hpg rfl
      have e2 : w1.cell? ⟨w.heap.size, k * 4 + 2, none⟩ = some (.string ⟨#[]⟩) := own_cell (j := 2) Qi.cells_len hown1 hpg rfl
      have e3 : w1.cell? ⟨w.heap.size, k * 4 + 3, none⟩ = some (.slice none 0 0) := own_cell (j := 3) Qi.cells_len hown1 hpg rfl
      have f0 : w1.frozen? ⟨w.heap.size, k * 4, none⟩ = false := hown1.frozenAt _
      have f1 : w1.frozen? ⟨w.heap.size, k * 4 + 1, none⟩ = false := hown1.frozenAt _
      have f2 : w1.frozen? ⟨w.heap.size, k * 4 + 2, none⟩ = false := hown1.frozenAt _
      have f3 : w1.frozen? ⟨w.heap.size, k * 4 + 3, none⟩ = false := hown1.frozenAt _
      have hpl : k < (Qi.part ms ls.length).length := by rw [Qi.part_len _ _ (by have := HML2.out; omega)]; exact hlt
      have hs1 := own_set (j := 0) (u' := ⟨u.id, ⟨#[]⟩, ⟨#[]⟩, none, [], 0⟩) (v := .int .i64 u.id) Qi.cells_len hown1 hpg (by omega) rfl
      have hs2 := own_set (j := 1) (u' := ⟨u.id, u.f, ⟨#[]⟩, none, [], 0⟩) (v := .string u.f) Qi.cells_len hs1 (List.getElem?_set_self hpl) (by omega) rfl
      have hs3 := own_set (j := 2) (u' := ⟨u.id, u.f, u.t, none, [], 0⟩) (v := .string u.t) Qi.cells_len hs2 (List.getElem?_set_self (by rw [List.length_set]; exact hpl)) (by omega) rfl
      have hs4 := own_set (j := 3) (u' := ⟨u.id, u.f, u.t, A', u.us, c'⟩) (v := .slice A' u.us.length c') Qi.cells_len hs3 (List.getElem?_set_self (by rw [List.length_set, List.length_set]; exact hpl)) (by omega) rfl
      rw [List.set_set, List.set_set, List.set_set, Qi.part_set ms ls.length k _ HML2.out hlt] at hs4
      have HS4 := Lib.hid hs4
      clear hs1 hs2 hs3 hs4 hpl hpg hown1 d0 d1 d2 d3
      have hsz : ∀ v0 v1 v2 v3 : Value, ((((w1.setCell ⟨w.heap.size, k * 4, none⟩ v0).setCell ⟨w.heap.size, k * 4 + 1, none⟩ v1).setCell ⟨w.heap.size, k * 4 + 2, none⟩ v2).setCell ⟨w.heap.size, k * 4 + 3, none⟩ v3).heap.size = w1.heap.size := fun _ _ _ _ => by simp
      have hat : ∀ (v0 v1 v2 v3 : Value) (x : Qi.L), Qi.At1 w1 w1.heap.size x → Qi.off w.heap.size x → Qi.At1 ((((w1.setCell ⟨w.heap.size, k * 4, none⟩ v0).setCell ⟨w.heap.size, k * 4 + 1, none⟩ v1).setCell ⟨w.heap.size, k * 4 + 2, none⟩ v2).setCell ⟨w.heap.size, k * 4 + 3, none⟩ v3) ((((w1.setCell ⟨w.heap.size, k * 4, none⟩ v0).setCell ⟨w.heap.size, k * 4 + 1, none⟩ v1).setCell ⟨w.heap.size, k * 4 + 2, none⟩ v2).setCell ⟨w.heap.size, k * 4 + 3, none⟩ v3).heap.size x := fun v0 v1 v2 v3 x hx ho => by
        rw [hsz]
        exact ⟨AtStrs.setCell (p := ⟨w.heap.size, k * 4 + 3, none⟩) (AtStrs.setCell (p := ⟨w.heap.size, k * 4 + 2, none⟩) (AtStrs.setCell (p := ⟨w.heap.size, k * 4 + 1, none⟩) (AtStrs.setCell (p := ⟨w.heap.size, k * 4, none⟩) hx.1 ho.ne _) ho.ne _) ho.ne _) ho.ne _, hx.2⟩
      have HAT := Lib.hid hat
      have HS5 : Hid (∀ x ∈ ms ++ [(⟨u.id, u.f, u.t, A', u.us, c'⟩ : Qi.L)], Qi.At1 w1 w1.heap.size x ∧ Qi.off w.heap.size x) := Lib.hid fun x hx => by
        rcases List.mem_append.1 hx with hx | hx
        · exact ⟨((HS.out x hx).1.below hb1).mono hb1.size, (HS.out x hx).2⟩
        · rw [List.mem_singleton] at hx
          subst hx
          exact ⟨ha1, fun g off e => by have h1 := hfr g off e; have h2 : w.heap.size < wr.heap.size := hlt1; omega⟩
      have hb2 := hb.trans (hb1.mono hb.size)
      clear hat hsz hb1 ha1 hfr hlt1
      go_wp2_with fail
      go_roundg (ls.length - (k + 1))
      case measure => have := HG.out; omega
      case rel =>
        exact ⟨k + 1, ms ++ [⟨u.id, u.f, u.t, A', u.us, c'⟩], by omega, Lib.hid rfl, by go_num, Lib.hid (by rw [List.length_append, HML2.out]; rfl), Lib.hid (by rw [HVT.out, List.map_append, HV.out]; rfl), HS4, Lib.hid (fun x hx => ⟨HAT.out _ _ _ _ x (HS5.out x hx).1 (HS5.out x hx).2, (HS5.out x hx).2⟩), (((hb2.setCell (p := ⟨w.heap.size, k * 4, none⟩) (Nat.le_refl _) _).setCell (p := ⟨w.heap.size, k * 4 + 1, none⟩) (Nat.le_refl _) _).setCell (p := ⟨w.heap.size, k * 4 + 2, none⟩) (Nat.le_refl _) _).setCell (p := ⟨w.heap.size, k * 4 + 3, none⟩) (Nat.le_refl _) _⟩
    · obtain rfl : k = ls.length := by omega
      have hml := HML2.out
      have hown := HO.out
      rw [← hml, Qi.part_all] at hown
      have HAT : Hid (AtItems wr wr.heap.size (some ⟨w.heap.size, 0, none⟩) ms) := Lib.hid ⟨at_of_own Qi.cells_len hown rfl, fun x hx => (HS.out x hx).1⟩
      have HV2 := Lib.hid HV.out
      rw [List.take_length] at HV2
      clear hown
      go_wp2_with fail
      rw [← hml]
      go_ret
      exact ⟨_, ms, _, rfl, HV2.out, Nat.le_refl _, by unfold maxLen; omega, HAT.out, fun g off e => by injection e with e; injection e with e; omega, fun x hx => (HS.out x hx).2, hb⟩

set_option maxHeartbeats 1600000 in
theorem toQueue_any (nx : Int) (A : Option Addr) (ls : List Qi.L) (c : Nat) (w : World) (h : AtItems w w.heap.size A ls) (hn : ls.length ≤ 1048576 ∧ ∀ x ∈ ls, x.us.length ≤ 1048576) :
    Calls Try.prog 9 #[.agg #[.int .i64 nx, .slice A ls.length c]] w fun e w' => ∃ A' ms c', e = .returned (.agg #[.int .i64 nx, .slice A' ms.length c']) ∧ ms.map Qi.v = ls.map Qi.v ∧ ms.length ≤ c' ∧ c' ≤ maxLen ∧ AtItems w' w'.heap.size A' ms ∧ Below w.heap.size w w' := by
  go_enter Try.func9, Try.ntmps9
  go_wp2_with fail
  refine (toItemS_any A ls c _ ((h.below (by go_grown)).mono (by simp; omega)) hn).mono ?_
  rintro e w1 ⟨A', ms, c', rfl, hv, hc1, hc2, h1, hfr, hof, hb1⟩
  have hB := Below.trans (B := w.heap.size) (a := w) (by go_grown) (hb1.mono (by simp; omega))
  have hx3 : w1.heap[w.heap.size + 1 + 1]? = some (.cells #[.int .i64 nx, .slice none 0 0] 29 (0, 0)) := (hb1.block _ (by simp)).trans (by simpa using heap_alloc_new ((w.alloc _).alloc _) (.cells #[.int .i64 nx, .slice none 0 0] 29 (0, 0)))
  have hx2 : w1.heap[w.heap.size + 1]? = some (.cells #[.int .i64 0, .slice none 0 0] 29 (0, 0)) := (hb1.block _ (by simp)).trans ((((Below.refl _ ((w.alloc (.cells #[.int .i64 nx, .slice A ls.length c] 24 (0, 0))).alloc (.cells #[.int .i64 0, .slice none 0 0] 29 (0, 0)))).alloc (Nat.le_refl _) _).block _ (by simp)).trans (by simpa using heap_alloc_new (w.alloc _) (.cells #[.int .i64 0, .slice none 0 0] 29 (0, 0))))
  have p0 : w1.cell? ⟨w.heap.size + 1, 0, none⟩ = some (.int .i64 0) := cell_at hx2 0 _ rfl
  have p1 : w1.cell? ⟨w.heap.size + 1, 1, none⟩ = some (.slice none 0 0) := cell_at hx2 1 _ rfl
  have q0 : w1.cell? ⟨w.heap.size + 1 + 1, 0, none⟩ = some (.int .i64 nx) := cell_at hx3 0 _ rfl
  have q1 : w1.cell? ⟨w.heap.size + 1 + 1, 1, none⟩ = some (.slice none 0 0) := cell_at hx3 1 _ rfl
  have fp0 := free_at hx2 0
  have fp1 := free_at hx2 1
  have fq0 := free_at hx3 0
  have fq1 := free_at hx3 1
  have H1 := Lib.hid h1
  have HV := Lib.hid hv
  clear hx2 hx3 h1 hv
  go_wp2_with fail
  refine bodyPost_ret (v := .agg #[.int .i64 nx, .slice A' ms.length c']) (by simp [results, Try.results9, go_sem, p0, p1]) rfl ⟨A', ms, c', rfl, HV.out, hc1, hc2, ?_, ?_⟩
  · have hr1 : ∀ g off, A' = some ⟨g, off, none⟩ → w.heap.size + 1 ≠ g := fun g off e => by have := hfr g off e; simp at this; omega
    have hr2 : ∀ g off, A' = some ⟨g, off, none⟩ → w.heap.size + 1 + 1 ≠ g := fun g off e => by have := hfr g off e; simp at this; omega
    have hx1 : ∀ x ∈ ms, ∀ g off, x.A = some ⟨g, off, none⟩ → w.heap.size + 1 ≠ g := fun x hx g off e => by have := hof x hx g off e; simp at this; omega
    have hx2 : ∀ x ∈ ms, ∀ g off, x.A = some ⟨g, off, none⟩ → w.heap.size + 1 + 1 ≠ g := fun x hx g off e => by have := hof x hx g off e; simp at this; omega
    exact (((H1.out.setCell (p := ⟨w.heap.size + 1 + 1, 1, none⟩) hr2 hx2 _).setCell (p := ⟨w.heap.size + 1, 0, none⟩) hr1 hx1 _).setCell (p := ⟨w.heap.size + 1, 1, none⟩) hr1 hx1 _).mono (by simp)
  · exact (((hB.setCell (p := ⟨w.heap.size + 1 + 1, 1, none⟩) (by simp; omega) _).setCell (p := ⟨w.heap.size + 1, 0, none⟩) (by simp) _).setCell (p := ⟨w.heap.size + 1, 1, none⟩) (by simp) _)
end Go.Proofs.Ytpbaimofffcnaaa
