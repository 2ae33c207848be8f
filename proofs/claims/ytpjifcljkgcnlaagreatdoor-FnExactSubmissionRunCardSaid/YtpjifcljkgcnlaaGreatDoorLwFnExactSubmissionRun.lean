/- FnExactSubmissionRun: the walk. (Printed by mkxr.py.) -/
import Derived.Test.YtpjifcljkgcnlaaGreatDoorRnDv
import Derived.Test.YtpjifcljkgcnlaaGreatDoorRnMk
import Derived.Test.YtpjifcljkgcnlaaGreatDoorSmUu
import Derived.Test.YtpjifcljkgcnlaaGreatDoorLwOw
import Derived.Test.YtpjifcljkgcnlaaGreatDoorSbY
import Derived.Test.YtpjifcljkgcnlaaGreatDoorUsMk
import Derived.Deep.Strs
namespace Go.Proofs.YtpjifcljkgcnlaaGreatDoor
set_option linter.unusedVariables false
open Go.RowKit Go.ChangeShapes Go.WideShapes Go.Deep
open Us (U)

theorem open_names {H : Type} {enc : TypeId × Value → H} {w : World} {spare : Nat → Bool} {held : Bool} {fuel : Nat} {A : Option Addr} {len cap : Nat} {x : DataW H × List MemPlace}
    (h : DataW.trod enc Tryz.prog w 0 spare held fuel 23 [.slice A len cap] = some x) : ∃ us : List ByteArray, us.length = len ∧ len ≤ cap ∧ cap ≤ maxLen ∧ AtStrs w w.heap.size A us := by
  obtain ⟨A', us, c, e, hl, hm, ha⟩ := open_strings h
  injection e with e1 e2 e3
  subst e1 e2 e3
  exact ⟨us, rfl, hl, hm, ha⟩
/-- what lies in memory behind the first run: the copies of the arguments, the replies, the letters -/
structure Xr (w w5 : World) (B6 B7 : Nat) (vx : Value) (xs : List U) (vy : Value) (ys : List ByteArray) (vi : Value) (ns : List Int) (vl : Value) (ls : List Rl.L) (W : World) : Prop where
  b : Below w.heap.size w W
  c : Below w5.heap.size w5 W
  x : Us.Own W w5.heap.size vx xs
  y : St.Own W B6 vy ys
  i : It.Own W B7 vi ns
  l : OwnL 49 3 Rl.cells W B7 vl ls
  s : Rn.Sep W B7 ls
  n : w.heap.size ≤ w5.heap.size ∧ w5.heap.size ≤ B6 ∧ (∀ q, vy.ownBlock = some q → q < B7) ∧ B6 ≤ B7 ∧ B7 ≤ W.heap.size
namespace Xr
variable {w w5 W W' : World} {B6 B7 : Nat} {vx vy vi vl : Value} {xs xs' : List U} {ys ys' : List ByteArray} {ns ns' : List Int} {ls ls' : List Rl.L}
theorem below (h : Xr w w5 B6 B7 vx xs vy ys vi ns vl ls W) (hb : Below W.heap.size W W') : Xr w w5 B6 B7 vx xs vy ys vi ns vl ls W' :=
  ⟨h.b.trans (hb.mono h.b.size), h.c.trans (hb.mono h.c.size), OwnL.below h.x hb, OwnL.below h.y hb, OwnL.below h.i hb, OwnL.below h.l hb, h.s.below hb, h.n.1, h.n.2.1, h.n.2.2.1, h.n.2.2.2.1, Nat.le_trans h.n.2.2.2.2 hb.size⟩
theorem markX (h : Xr w w5 B6 B7 vx xs vy ys vi ns vl ls W) (hg : W.grownBy W' vx.ownBlock) (hx : Us.Own W' w5.heap.size vx xs') : Xr w w5 B6 B7 vx xs' vy ys vi ns vl ls W' :=
  ⟨h.b.grown hg h.b.size (fun q hq => Nat.le_trans h.n.1 (OwnL.blk h.x hq)), h.c.grown hg h.c.size (fun q hq => OwnL.blk h.x hq), hx, OwnL.keptBy h.y h.x (by decide) hg, OwnL.keptBy h.i h.x (by decide) hg, OwnL.keptBy h.l h.x (by decide) hg, h.s.keptBy h.x (by decide) hg, h.n.1, h.n.2.1, h.n.2.2.1, h.n.2.2.2.1, Nat.le_trans h.n.2.2.2.2 hg.size⟩
theorem markY (h : Xr w w5 B6 B7 vx xs vy ys vi ns vl ls W) (hg : W.grownBy W' vy.ownBlock) (hy : St.Own W' B6 vy ys') : Xr w w5 B6 B7 vx xs vy ys' vi ns vl ls W' :=
  ⟨h.b.grown hg h.b.size (fun q hq => Nat.le_trans (Nat.le_trans h.n.1 h.n.2.1) (OwnL.blk h.y hq)), h.c.grown hg h.c.size (fun q hq => Nat.le_trans h.n.2.1 (OwnL.blk h.y hq)), OwnL.keptBy h.x h.y (by decide) hg, hy, OwnL.keptBy h.i h.y (by decide) hg, OwnL.keptBy h.l h.y (by decide) hg, h.s.apartBy h.n.2.2.1 hg, h.n.1, h.n.2.1, h.n.2.2.1, h.n.2.2.2.1, Nat.le_trans h.n.2.2.2.2 hg.size⟩
theorem markI (h : Xr w w5 B6 B7 vx xs vy ys vi ns vl ls W) (hg : W.grownBy W' vi.ownBlock) (hi : It.Own W' B7 vi ns') : Xr w w5 B6 B7 vx xs vy ys vi ns' vl ls W' :=
  ⟨h.b.grown hg h.b.size (fun q hq => Nat.le_trans (Nat.le_trans h.n.1 (Nat.le_trans h.n.2.1 h.n.2.2.2.1)) (OwnL.blk h.i hq)), h.c.grown hg h.c.size (fun q hq => Nat.le_trans (Nat.le_trans h.n.2.1 h.n.2.2.2.1) (OwnL.blk h.i hq)), OwnL.keptBy h.x h.i (by decide) hg, OwnL.keptBy h.y h.i (by decide) hg, hi, OwnL.keptBy h.l h.i (by decide) hg, h.s.keptBy h.i (by decide) hg, h.n.1, h.n.2.1, h.n.2.2.1, h.n.2.2.2.1, Nat.le_trans h.n.2.2.2.2 hg.size⟩
end Xr
/-- what stays behind the marks: the arguments, the specification's answers, the marked replies and letters -/
structure Xm (w w5 : World) (B7 : Nat) (vi : Value) (ns : List Int) (vl : Value) (ls : List Rl.L) (W : World) : Prop where
  b : Below w.heap.size w W
  c : Below w5.heap.size w5 W
  i : It.Own W B7 vi ns
  l : OwnL 49 3 Rl.cells W B7 vl ls
  s : Rn.Sep W B7 ls
theorem Xm.below {w w5 W W' : World} {B7 : Nat} {vi vl : Value} {ns : List Int} {ls : List Rl.L} (h : Xm w w5 B7 vi ns vl ls W) (hb : Below W.heap.size W W') : Xm w w5 B7 vi ns vl ls W' :=
  ⟨h.b.trans (hb.mono h.b.size), h.c.trans (hb.mono h.c.size), OwnL.below h.i hb, OwnL.below h.l hb, h.s.below hb⟩
theorem Xr.markL {w w5 W W' : World} {B6 B7 : Nat} {vx vy vi vl : Value} {xs : List U} {ys : List ByteArray} {ns : List Int} {ls ls' : List Rl.L} (h : Xr w w5 B6 B7 vx xs vy ys vi ns vl ls W) (hl : OwnL 49 3 Rl.cells W' B7 vl ls') (hs : Rn.Sep W' B7 ls') (hb : Below B7 W W') (hk : Rn.IntsKeep B7 W W') : Xm w w5 B7 vi ns vl ls' W' :=
  ⟨h.b.trans (hb.mono (Nat.le_trans h.n.1 (Nat.le_trans h.n.2.1 h.n.2.2.2.1))), h.c.trans (hb.mono (Nat.le_trans h.n.2.1 h.n.2.2.2.1)), hk _ _ h.i, hl, hs⟩
theorem Xr.us_own {w : World} {B : Nat} {A : Option Addr} {us : List U} {c : Nat} (ho : Us.Own w B (.slice A us.length c) us) (hs : ∀ u ∈ us, u.name.size ≤ maxLen ∧ u.pass.size ≤ maxLen) : AtUsers w w.heap.size A us :=
  at_users (OwnL.at_ ho Us.cells_len rfl) hs
theorem Xr.ints_own {w : World} {B : Nat} {A : Option Addr} {ns : List Int} {c n : Nat} (ho : It.Own w B (.slice A n c) ns) (hn : ns.length = n) : At w w.heap.size 1 It.cells A ns := OwnL.at_ ho It.cells_len hn
/-- the letters' lists read as they are -/
theorem Xr.sep_strs {w : World} {B : Nat} {ls : List Rl.L} (h : Rn.Sep w B ls) (hz : ∀ x ∈ ls, ∀ u ∈ x.us, u.size ≤ maxLen) : ∀ x ∈ ls, AtStrs w w.heap.size x.A x.us :=
  fun x hx => Lw.strs_own (h.own x hx) rfl (hz x hx)
theorem Xr.lets_own {w : World} {B : Nat} {A : Option Addr} {ls : List Rl.L} {c n : Nat} (ho : OwnL 49 3 Rl.cells w B (.slice A n c) ls) (hn : ls.length = n) (h : Rn.Sep w B ls) (hz : ∀ x ∈ ls, (∀ u ∈ x.us, u.size ≤ maxLen) ∧ x.us.length ≤ 3 ∧ x.us.length ≤ x.c ∧ x.c ≤ maxLen) : AtLets w w.heap.size A ls :=
  ⟨OwnL.at_ ho Rl.cells_len hn, fun x hx => ⟨Xr.sep_strs h (fun x hx => (hz x hx).1) x hx, (hz x hx).2⟩⟩
theorem Xr.marks_strs {ls : List Rl.L} : ∀ {q : Nat}, q + Rl.cnt ls ≤ 100000000 → ∀ x ∈ Rl.marks q ls, ∀ u ∈ x.us, u.size ≤ maxLen := by
  induction ls with
  | nil => intro q _ x hx; cases hx
  | cons y r ih =>
    intro q hq x hx
    rw [Rl.cnt_cons] at hq
    rw [Rl.marks_cons] at hx
    rcases List.mem_cons.1 hx with rfl | hx
    · exact St.marks_sizes (q + 1) y.us.length (by omega)
    · exact ih (q := q + (2 + y.us.length)) (by omega) x hx
/-- SubmissionRun of the program: replies and letters of the call's own -/
theorem iRunOwn_any (Au : Option Addr) (vs : List U) (cu : Nat) (d : ByteArray) (A : Option Addr) (lines : List ByteArray) (c : Nat) (w : World) (hu : AtUsers w w.heap.size Au vs) (hvl : vs.length ≤ maxLen) (hd : d.size ≤ 16777216) (h : AtStrs w w.heap.size A lines) (hl : lines.length ≤ 1048576) (hls : ∀ l ∈ lines, l.size ≤ 16777216) (m : Int) (hm : w.cell? ⟨0, 0, none⟩ = some (.int .i64 m)) {rs : List Int} {vl : List Rn.V} (hr : rs = Rn.ansR vs d lines) (hv : vl = Rn.ansL vs d lines) :
    Calls Tryz.prog 9 #[.slice Au vs.length cu, .string d, .slice A lines.length c] w fun e w' => ∃ A1 c1 A2 c2 ls, e = .returned (.tuple #[.slice A1 rs.length c1, .slice A2 ls.length c2]) ∧ It.Own w' w.heap.size (.slice A1 rs.length c1) rs ∧ OwnL 49 3 Rl.cells w' w.heap.size (.slice A2 ls.length c2) ls ∧ Rn.Sep w' w.heap.size ls ∧ (∀ x ∈ ls, (∀ u ∈ x.us, u.size ≤ maxLen) ∧ x.us.length ≤ 3 ∧ x.us.length ≤ x.c ∧ x.c ≤ maxLen) ∧ ls.map Rl.v = vl ∧ Below w.heap.size w w' := by
  subst hr hv
  refine (iSubmissionRun_any Au vs cu d A lines c w hu hvl hd h hl hls m hm).mono fun e w' hh => ?_
  obtain ⟨v1, v2, ls, rfl, h1, h2, h3, h4, h5, hb⟩ := hh
  obtain ⟨A1, c1, rfl, _, _⟩ := OwnL.form h1
  obtain ⟨A2, c2, rfl, _, _⟩ := OwnL.form h2
  exact ⟨A1, c1, A2, c2, ls, rfl, h1, h2, h5, fun x hx => ⟨(h3 x hx).1.1.2, (h3 x hx).2⟩, h4, hb⟩

set_option maxRecDepth 100000 in
set_option maxHeartbeats 6400000 in
theorem walkFnExactSubmissionRun (Au : Option Addr) (vs : List U) (cu : Nat) (d : ByteArray) (A : Option Addr) (lines : List ByteArray) (c : Nat) (w : World)
    (hu : AtUsers w w.heap.size Au vs) (hvl : vs.length ≤ maxLen) (hdm : d.size ≤ maxLen) (h : AtStrs w w.heap.size A lines) (hll : lines.length ≤ maxLen) (m : Int) (hm : w.cell? ⟨0, 0, none⟩ = some (.int .i64 m)) :
    Calls Tryz.prog 3 #[.slice Au vs.length cu, .string d, .slice A lines.length c] w fun e w' => e = .returned (.bool true) ∧ Below w.heap.size w w' := by
  by_cases hbig : d.size ≤ 1048576
  · have hbd : ¬ (1048576 : Int) < (d.size : Int) := by omega
    have hpos := Po.base_pos hm
    have hdz : d.size ≤ 16777216 := by omega
    have FM : Hid (∀ w', Below w.heap.size w w' → w'.cell? ⟨0, 0, none⟩ = some (.int .i64 m)) := Lib.hid (fun w' hb => Po.mem hb hm hpos)
    have FU : Hid (∀ w', Below w.heap.size w w' → AtUsers w' w'.heap.size Au vs) := Lib.hid (fun w' hb => (hu.below hb).mono hb.size)
    have FL : Hid (∀ w', Below w.heap.size w w' → AtStrs w' w'.heap.size A lines) := Lib.hid (fun w' hb => (h.below hb).mono hb.size)
    have HVS : Hid (∀ u ∈ vs, u.name.size ≤ maxLen ∧ u.pass.size ≤ maxLen) := Lib.hid hu.2
    have HLZ : Hid (∀ u ∈ lines, u.size ≤ maxLen) := Lib.hid h.2
    clear hm hu h
    go_enter Tryz.func3, Tryz.ntmps3
    go_wp2_with fail
    have HB0 : Hid (Below w.heap.size w w) := Lib.hid (Below.refl _ _)
    refine Calls.mono (szUserS_any Au vs cu 1048576 _ (FU.out _ HB0.out) hvl (by omega) (by omega)) ?_
    rintro e w1 ⟨r, rfl, hmr, hle, hq, hb⟩
    have HQ := Lib.hid hq
    have HB1 := Lib.hid (HB0.out.trans hb)
    clear hq hb HB0
    by_cases hneg : r < 0
    · go_wp2_with fail
      go_ret
      exact ⟨rfl, HB1.out⟩
    · have hvlen : vs.length ≤ 1048576 := (HQ.out (by omega)).1
      clear HQ
      go_wp2_with fail
      refine Calls.mono (szStringS_any A lines c r _ (FL.out _ HB1.out) hll (by omega) (by omega)) ?_
      rintro e w2 ⟨r2, rfl, hmr2, hle2, hq, hb⟩
      have HQ := Lib.hid hq
      have HB2 := Lib.hid (HB1.out.trans (hb.mono HB1.out.size))
      clear hq hb HB1
      by_cases hneg2 : r2 < 0
      · go_wp2_with fail
        go_ret
        exact ⟨rfl, HB2.out⟩
      · have hlen : lines.length ≤ 1048576 := (HQ.out (by omega)).1
        have HLS : Hid (∀ l ∈ lines, l.size ≤ 16777216) := Lib.hid (fun l hl => by have := (HQ.out (by omega)).2 l hl; omega)
        clear HQ
        obtain ⟨rs, hrs⟩ : ∃ rs, rs = Rn.ansR vs d lines := ⟨_, rfl⟩
        have HRS := Lib.hid hrs
        obtain ⟨vl, hvv⟩ : ∃ vl, vl = Rn.ansL vs d lines := ⟨_, rfl⟩
        have HVL := Lib.hid hvv
        have hrl : rs.length ≤ 1048576 := by have := Rn.ansR_len vs d lines; rw [hrs]; omega
        have hvll : vl.length ≤ 1048576 := by have := Rn.ansL_len vs d lines; rw [hvv]; omega
        have hrm : rs.length ≤ maxLen := by unfold maxLen; omega
        clear hrs hvv
        go_wp2_with fail
        refine Calls.mono (toUserS_any Au vs cu _ (FU.out _ HB2.out) hvlen) ?_
        rintro e w3 ⟨A3, c3, rfl, hc3, hc3', h3, hb⟩
        have HB3 := Lib.hid (HB2.out.trans (hb.mono HB2.out.size))
        have H3 : Hid (∀ w', Below w3.heap.size w3 w' → AtUsers w' w'.heap.size A3 vs) := Lib.hid (fun w' hb => (h3.below hb).mono hb.size)
        clear hb HB2 h3
        go_wp2_with fail
        refine Calls.mono (toStringS_any A lines c _ (FL.out _ HB3.out) hlen) ?_
        rintro e w4 ⟨A4, c4, rfl, hc4, hc4', h4, -, hb⟩
        have HB4 := Lib.hid (HB3.out.trans (hb.mono HB3.out.size))
        have H34 := Lib.hid (H3.out _ hb)
        have H4 := Lib.hid h4
        clear hb HB3 H3 h4
        go_wp2_with fail
        refine Calls.mono (sRun_any A3 vs c3 d A4 lines c4 _ H34.out hvl hdz H4.out hlen HLS.out HRS.out HVL.out) ?_
        rintro e w5 ⟨A5, c5, A5', c5', l5, rfl, hi5, ht5, hk1, hk2, hk3, hk4, hv5, hb⟩
        have HB5 := Lib.hid (HB4.out.trans (hb.mono HB4.out.size))
        have HI5 : Hid (∀ w', Below w5.heap.size w5 w' → At w' w'.heap.size 1 It.cells A5 rs) := Lib.hid (fun w' hb => (hi5.below hb).mono hb.size)
        have HT5 : Hid (∀ w', Below w5.heap.size w5 w' → AtLets w' w'.heap.size A5' l5) := Lib.hid (fun w' hb => (ht5.below hb).mono hb.size)
        have HV5 := Lib.hid hv5
        clear hb HB4 H34 H4 hi5 ht5 hv5 hk1 hk2 hk3 hk4
        go_wp2_with fail
        refine Calls.mono (toUserS_own Au vs cu _ (FU.out _ HB5.out) hvlen) ?_
        rintro e w6 ⟨A6, c6, rfl, hc6, hc6', ho6, hb⟩
        have HC6 : Hid (Below w5.heap.size w5 w6) := Lib.hid hb
        have HB6 := Lib.hid (HB5.out.trans (hb.mono HB5.out.size))
        have HX6 : Hid (Us.Own w6 w5.heap.size (.slice A6 vs.length c6) vs) := Lib.hid ho6
        clear hb ho6
        go_wp2_with fail
        refine Calls.mono (toStringS_own A lines c _ (FL.out _ HB6.out) hlen) ?_
        rintro e w7 ⟨A7, c7, rfl, hc7, hc7', ho7, hb⟩
        have HC7 := Lib.hid (HC6.out.trans (hb.mono HC6.out.size))
        have HB7 := Lib.hid (HB6.out.trans (hb.mono HB6.out.size))
        have HX7 : Hid (Us.Own w7 w5.heap.size (.slice A6 vs.length c6) vs) := Lib.hid (OwnL.below HX6.out hb)
        have HY7 : Hid (St.Own w7 w6.heap.size (.slice A7 lines.length c7) lines) := Lib.hid ho7
        have HS67 : Hid (w6.heap.size ≤ w7.heap.size) := Lib.hid hb.size
        clear hb ho7 HX6 HB6
        go_wp2_with fail
        refine Calls.mono (iRunOwn_any A6 vs c6 d A7 lines c7 _ (Xr.us_own HX7.out HVS.out) hvl hdz (Lw.strs_own HY7.out rfl HLZ.out) hlen HLS.out m (FM.out _ HB7.out) HRS.out HVL.out) ?_
        rintro e w8 ⟨A8, c8, A9, c9, ls, rfl, ho8, ho9, hs9, hz9, hv9, hb⟩
        have HZ9 := Lib.hid hz9
        have HV9 := Lib.hid hv9
        have hlsl : ls.length ≤ 1048576 := by have e := congrArg List.length hv9; rw [List.length_map] at e; omega
        have hlsm : ls.length ≤ maxLen := by unfold maxLen; omega
        have H8 : Hid (Xr w w5 w6.heap.size w7.heap.size (.slice A6 vs.length c6) vs (.slice A7 lines.length c7) lines (.slice A8 rs.length c8) rs (.slice A9 ls.length c9) ls w8) := Lib.hid ⟨HB7.out.trans (hb.mono HB7.out.size), HC7.out.trans (hb.mono HC7.out.size), OwnL.below HX7.out hb, OwnL.below HY7.out hb, ho8, ho9, hs9, HB5.out.size, HC6.out.size, fun q hq => OwnL.blt HY7.out hq, HS67.out, hb.size⟩
        have HLL : Hid (ls.map Rl.v = l5.map Rl.v) := Lib.hid (hv9.trans HV5.out.symm)
        have hcnt : Rl.cnt ls ≤ 5242880 := by have := Rl.cnt_le (ls := ls) (fun x hx => (hz9 x hx).2.1); omega
        clear ho8 ho9 hs9 hz9 hv9 hb HB5 HB7 HC6 HC7 HX7 HY7 HS67
        go_wp2_with fail
        refine Calls.mono (eqIntS_any A8 A5 rs c8 c5 _ (Xr.ints_own H8.out.i rfl) (HI5.out _ H8.out.c) hrm) ?_
        rintro e w9 ⟨rfl, hb⟩
        have H9 := Lib.hid (H8.out.below hb)
        clear hb H8
        go_wp2_with fail
        refine Calls.mono (eqLetterS_any A9 A5' ls l5 c9 c5' _ (Xr.lets_own H9.out.l rfl H9.out.s HZ9.out) (HT5.out _ H9.out.c) HLL.out hlsm) ?_
        rintro e w10 ⟨rfl, hb⟩
        have H10 := Lib.hid (H9.out.below hb)
        clear hb H9
        go_wp2_with fail
        refine Calls.mono (toUserS_any Au vs cu _ (FU.out _ H10.out.b) hvlen) ?_
        rintro e w11 ⟨A11, c11, rfl, hc11, hc11', h11, hb⟩
        have H11 := Lib.hid (H10.out.below hb)
        clear hb H10
        have HU11 := Lib.hid h11
        clear h11
        go_wp2_with fail
        refine Calls.mono (eqUserS_any A6 A11 vs c6 c11 _ (Xr.us_own H11.out.x HVS.out) HU11.out hvl) ?_
        rintro e w12 ⟨rfl, hb⟩
        have H12 := Lib.hid (H11.out.below hb)
        clear hb H11
        clear HU11
        go_wp2_with fail
        refine Calls.mono (toStringS_any A lines c _ (FL.out _ H12.out.b) hlen) ?_
        rintro e w13 ⟨A13, c13, rfl, hc13, hc13', h13, -, hb⟩
        have H13 := Lib.hid (H12.out.below hb)
        clear hb H12
        have HU13 := Lib.hid h13
        clear h13
        go_wp2_with fail
        refine Calls.mono (eqStringS_any A7 A13 lines c7 c13 _ (Lw.strs_own H13.out.y rfl HLZ.out) HU13.out hll) ?_
        rintro e w14 ⟨rfl, hb⟩
        have H14 := Lib.hid (H13.out.below hb)
        clear hb H13
        clear HU13
        go_wp2_with fail
        refine Calls.mono (markUserS_any A6 vs c6 _ 1 _ H14.out.x (by omega) (by omega)) ?_
        rintro e w15 ⟨rfl, hx, hg⟩
        have H15 := Lib.hid (H14.out.markX hg hx)
        clear hx hg H14
        obtain ⟨k15, hk15⟩ : ∃ k : Nat, k = 1 + 3 * vs.length := ⟨_, rfl⟩
        rw [← hk15]
        have hk15a : 0 < k15 := by omega
        have hk15b : k15 + lines.length ≤ 100000000 := by omega
        clear hk15
        go_wp2_with fail
        refine Calls.mono (markStringS_any A7 lines c7 _ k15 _ H15.out.y hk15a hk15b) ?_
        rintro e w16 ⟨rfl, hx, hg⟩
        have H16 := Lib.hid (H15.out.markY hg hx)
        clear hx hg H15
        have hk16 : ¬ (((k15 + lines.length : Nat) : Int) < 0) := by omega
        generalize ((k15 + lines.length : Nat) : Int) = k16 at hk16 ⊢
        go_wp2_with fail
        refine Calls.mono (eqIntS_any A8 A5 rs c8 c5 _ (Xr.ints_own H16.out.i rfl) (HI5.out _ H16.out.c) hrm) ?_
        rintro e w17 ⟨rfl, hb⟩
        have H17 := Lib.hid (H16.out.below hb)
        clear hb H16
        go_wp2_with fail
        refine Calls.mono (eqLetterS_any A9 A5' ls l5 c9 c5' _ (Xr.lets_own H17.out.l rfl H17.out.s HZ9.out) (HT5.out _ H17.out.c) HLL.out hlsm) ?_
        rintro e w18 ⟨rfl, hb⟩
        have H18 := Lib.hid (H17.out.below hb)
        clear hb H17
        go_wp2_with fail
        refine Calls.mono (markIntS_any A8 rs c8 _ 1 _ H18.out.i (by omega) (by omega)) ?_
        rintro e w19 ⟨rfl, hx, hg⟩
        have H19 := Lib.hid (H18.out.markI hg hx)
        clear hx hg H18
        obtain ⟨k19, hk19⟩ : ∃ k : Nat, k = 1 + rs.length := ⟨_, rfl⟩
        have HK19 := Lib.hid hk19
        rw [← hk19]
        have hk19a : 0 < k19 := by omega
        have hk19b : k19 + Rl.cnt ls ≤ 100000000 := by omega
        clear hk19
        go_wp2_with fail
        refine Calls.mono (markLetterS_any A9 ls c9 _ k19 _ H19.out.l H19.out.s H19.out.n.2.2.2.2 hk19a hk19b (by omega)) ?_
        rintro e w20 ⟨rfl, hl, hs, hb, hk⟩
        have H20 := Lib.hid (H19.out.markL hl hs hb hk)
        clear hl hs hb hk H19
        obtain ⟨k20, hk20⟩ : ∃ k : Nat, k = k19 + Rl.cnt ls := ⟨_, rfl⟩
        have HK20 := Lib.hid hk20
        rw [← hk20]
        have hk20n : ¬ ((k20 : Int) < 0) := by omega
        have hk19n : ¬ ((k19 : Int) < 0) := by omega
        clear hk20
        have HHI : Hid (∀ W : World, At W W.heap.size 1 It.cells A8 (It.marks 1 rs.length) → Calls Tryz.prog 18 #[.slice A8 rs.length c8, .int .i64 1] W fun e w' => e = .returned (.int .i64 (k19 : Int)) ∧ Below W.heap.size W w') := Lib.hid (fun W hW => by have := heldIntS_any A8 rs.length c8 1 W hW (by omega) (by omega); rw [← HK19.out] at this; exact this)
        have HHL : Hid (∀ W : World, At W W.heap.size 3 Rl.cells A9 (Rl.marks k19 ls) → (∀ x ∈ Rl.marks k19 ls, AtStrs W W.heap.size x.A x.us) → Calls Tryz.prog 19 #[.slice A9 ls.length c9, .int .i64 (k19 : Int)] W fun e w' => e = .returned (.int .i64 (k20 : Int)) ∧ Below W.heap.size W w') := Lib.hid (fun W h1 h2 => by have := heldLetterS_any A9 ls c9 k19 W h1 h2 hk19a hk19b (by omega); rw [← HK20.out] at this; exact this)
        have HMS := Lib.hid (Xr.marks_strs hk19b)
        go_wp2_with fail
        refine Calls.mono (HHI.out _ (Xr.ints_own H20.out.i (It.marks_len _ _))) ?_
        rintro e w21 ⟨rfl, hb⟩
        have H21 := Lib.hid (H20.out.below hb)
        clear hb H20
        go_wp2_with fail
        refine Calls.mono (HHL.out _ (OwnL.at_ H21.out.l Rl.cells_len (Rl.marks_len _ _)) (Xr.sep_strs H21.out.s HMS.out)) ?_
        rintro e w22 ⟨rfl, hb⟩
        have H22 := Lib.hid (H21.out.below hb)
        clear hb H21
        go_wp2_with fail
        refine Calls.mono (toUserS_any Au vs cu _ (FU.out _ H22.out.b) hvlen) ?_
        rintro e w23 ⟨A23, c23, rfl, hc23, hc23', h23, hb⟩
        have H23 := Lib.hid (H22.out.below hb)
        clear hb H22
        have HU23 := Lib.hid h23
        clear h23
        go_wp2_with fail
        refine Calls.mono (toStringS_any A lines c _ (FL.out _ H23.out.b) hlen) ?_
        rintro e w24 ⟨A24, c24, rfl, hc24, hc24', h24, -, hb⟩
        have HU24 := Lib.hid ((HU23.out.below hb).mono hb.size)
        have HL24 := Lib.hid h24
        have H24 := Lib.hid (H23.out.below hb)
        clear h24 hb HU23 H23
        go_wp2_with fail
        refine Calls.mono (iRun_any A23 vs c23 d A24 lines c24 _ HU24.out hvl hdz HL24.out hlen HLS.out m (FM.out _ H24.out.b) HRS.out HVL.out) ?_
        rintro e w25 ⟨A25, c25, A25', c25', l25, rfl, hi25, ht25, hk1, hk2, hk3, hk4, hv25, hb⟩
        have H25 := Lib.hid (H24.out.below hb)
        clear hb H24
        have HI25 := Lib.hid hi25
        have HT25 : Hid (∀ w', Below w25.heap.size w25 w' → AtLets w' w'.heap.size A25' l25) := Lib.hid (fun w' hb => (ht25.below hb).mono hb.size)
        have HLL2 : Hid (l25.map Rl.v = l5.map Rl.v) := Lib.hid (hv25.trans HV5.out.symm)
        have hl25 : l25.length ≤ maxLen := by have e := congrArg List.length hv25; rw [List.length_map] at e; unfold maxLen; omega
        clear hi25 ht25 hk1 hk2 hk3 hk4 hv25 HU24 HL24
        go_wp2_with fail
        refine Calls.mono (eqIntS_any A25 A5 rs c25 c5 _ HI25.out (HI5.out _ H25.out.c) hrm) ?_
        rintro e w26 ⟨rfl, hb⟩
        have HT26 := Lib.hid (HT25.out _ hb)
        have H26 := Lib.hid (H25.out.below hb)
        clear hb H25 HT25 HI25
        go_wp2_with fail
        refine Calls.mono (eqLetterS_any A25' A5' l25 l5 c25' c5' _ HT26.out (HT5.out _ H26.out.c) HLL2.out hl25) ?_
        rintro e w27 ⟨rfl, hb⟩
        have H27 := Lib.hid (H26.out.below hb)
        clear hb H26
        go_wp2_with fail
        refine Calls.mono (HHI.out _ (Xr.ints_own H27.out.i (It.marks_len _ _))) ?_
        rintro e w28 ⟨rfl, hb⟩
        have H28 := Lib.hid (H27.out.below hb)
        clear hb H27
        go_wp2_with fail
        refine Calls.mono (HHL.out _ (OwnL.at_ H28.out.l Rl.cells_len (Rl.marks_len _ _)) (Xr.sep_strs H28.out.s HMS.out)) ?_
        rintro e w29 ⟨rfl, hb⟩
        have H29 := Lib.hid (H28.out.below hb)
        clear hb H28
        go_wp2_with fail
        go_ret
        exact ⟨rfl, H29.out.b⟩
  · have hbd : (1048576 : Int) < (d.size : Int) := by omega
    go_enter Tryz.func3, Tryz.ntmps3
    go_wp2_with fail
    go_ret
    exact ⟨rfl, Below.refl _ _⟩
end Go.Proofs.YtpjifcljkgcnlaaGreatDoor
