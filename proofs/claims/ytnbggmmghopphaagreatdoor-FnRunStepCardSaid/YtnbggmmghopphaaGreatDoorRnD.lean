/- The draw of users, a domain and lines. (Printed by mkrnd.py.) -/
import Derived.Test.YtnbggmmghopphaaGreatDoorRnSt
import Derived.Test.YtnbggmmghopphaaGreatDoorSmJl
import Derived.Deep.CutBlock
namespace Go.Proofs.YtnbggmmghopphaaGreatDoor
set_option linter.unusedVariables false
open Go.RowKit
open Us (U)

theorem AtTy.switch {q q' : Nat} {w w' : World} {B B' : Nat} {A : Option Addr} {us : List ByteArray} (h : AtTy q w B A us) (h' : AtTy q w' B' A us) (hq : B ≤ q') : AtTy q' w' B' A us :=
  ⟨h'.1, fun hl => by
    obtain ⟨g, off, ha, hg, _⟩ := h.1.1 hl
    obtain ⟨g', off', cs, ha', hx, _⟩ := h'.2 hl
    rw [ha] at ha'; injection ha' with ha'; injection ha' with e1 e2
    subst e1; subst e2
    exact ⟨g, off, cs, ha, hx, by omega⟩⟩
theorem AtTy.keepQ {q : Nat} {w w' : World} {A : Option Addr} {ss : List ByteArray} (h : AtTy q w w.heap.size A ss) (hs : w.heap.size ≤ w'.heap.size) (hk : ∀ (g : Nat) (cs : Array Value), w.heap[g]? = some (Obj.cells cs 9 (0, 0)) → g ≠ q → w'.heap[g]? = w.heap[g]?) : AtTy q w' w'.heap.size A ss := by
  refine ⟨⟨fun hl => ?_, h.1.2⟩, fun hl => ?_⟩
  all_goals
    obtain ⟨g, off, ha, hlt, hc⟩ := h.1.1 hl
    obtain ⟨g', off', cs, ha', hx, hne⟩ := h.2 hl
    rw [ha] at ha'; injection ha' with ha'; injection ha' with e1 e2
    subst e1; subst e2
    have hk2 := hk g cs hx hne
  · exact ⟨g, off, ha, Nat.lt_of_lt_of_le hlt hs, fun i u hu => by rw [World.cell?_of_block hk2]; exact hc i u hu⟩
  · exact ⟨g, off, cs, ha, hk2.trans hx, hne⟩
namespace Rn
/-- the state of the draw: the reader, the users, the lines so far, the session's variable -/
structure Dw (w : World) (B b m B2 bs : Nat) (Au : Option Addr) (vs : List U) (v7 : Value) (lines : List ByteArray) (s : Sm.S) : Prop where
  rd : Rd w B b m
  lt : b < B2 ∧ B2 ≤ bs
  us : At w B2 3 Us.cells Au vs
  out : St.Own w B2 v7 lines
  var : ∃ q A c, v7.ownBlock = some q ∧ w.heap[bs]? = some (.cells #[.int .i64 s.st, .string s.user, .slice A s.tos.length c, .string s.text] 36 (0, 0)) ∧ AtTy q w w.heap.size A s.tos ∧ s.tos.length ≤ c ∧ c ≤ maxLen
variable {w w' : World} {B b m m' B2 bs : Nat} {Au : Option Addr} {vs : List U} {v7 : Value} {lines : List ByteArray} {s : Sm.S}
theorem Dw.bs_lt (h : Dw w B b m B2 bs Au vs v7 lines s) : bs < w.heap.size := by
  obtain ⟨q, A, c, _, hx, _⟩ := h.var
  exact (Array.getElem?_eq_some_iff.1 hx).1
/-- the reader reads on -/
theorem Dw.read (h : Dw w B b m B2 bs Au vs v7 lines s) (hr : Rd w' B b m') (hg : w.grownBy w' (some b)) : Dw w' B b m' B2 bs Au vs v7 lines s := by
  have hbs := h.bs_lt
  have hlt := h.lt
  obtain ⟨_, a, len, cap, p, _, hb, _⟩ := h.rd
  refine ⟨hr, h.lt, fun hl => ?_, own_grown h.out hg h.lt.1, ?_⟩
  · obtain ⟨g, off, ha, hgl, hc⟩ := h.us hl
    have hne : g ≠ b := by
      rintro rfl
      have := hc 0 vs[0] (List.getElem?_eq_getElem hl) 0 (.string vs[0].name) rfl
      simp only [World.cell?, hb] at this
      match off, this with
      | 0, this => simp at this
      | 1, this => simp at this
      | o + 2, this => simp at this
    have hgs : g < w.heap.size := by omega
    exact ⟨g, off, ha, hgl, fun i u hu j v hv => by rw [World.cell?_of_block (hg.block g hgs (fun e => hne (by injection e)))]; exact hc i u hu j v hv⟩
  · obtain ⟨q, A, c, hq, hx, ht, h1, h2⟩ := h.var
    refine ⟨q, A, c, hq, (hg.block bs hbs (fun e => by injection e with e; omega)).trans hx, ht.keepQ hg.size fun g cs hc _ => hg.block g (Array.getElem?_eq_some_iff.1 hc).1 (fun e => ?_), h1, h2⟩
    injection e with e; subst e
    rw [hb] at hc
    injection hc with hc; injection hc with _ hc _
    exact absurd hc (by decide)
theorem Dw.below (h : Dw w B b m B2 bs Au vs v7 lines s) (hb : Below w.heap.size w w') : Dw w' B b m B2 bs Au vs v7 lines s := by
  have hbs := h.bs_lt
  have hlt := h.lt
  obtain ⟨q, A, c, hq, hx, ht, h1, h2⟩ := h.var
  exact ⟨h.rd.below hb, h.lt, h.us.below (hb.mono (by omega)), OwnL.below h.out hb, q, A, c, hq, (hb.block bs hbs).trans hx, (ht.below hb).mono hb.size, h1, h2⟩
/-- a line is appended -/
theorem Dw.snoc (h : Dw w B b m B2 bs Au vs v7 lines s) {o : Obj} {v' : Value} {l : ByteArray} (ho : St.Own w' B2 v' (lines ++ [l])) (hb2 : Below B2 w w') (hg : (w.alloc o).grownBy w' v7.ownBlock) (hv : v'.ownBlock = v7.ownBlock ∨ v'.ownBlock = some (w.heap.size + 1)) : Dw w' B b m B2 bs Au vs v' (lines ++ [l]) s := by
  have hbs := h.bs_lt
  have hlt := h.lt
  have hrl := h.rd.lt
  obtain ⟨q, A, c, hq, hx, ht, h1, h2⟩ := h.var
  have hal : ∀ i, i < w.heap.size → (w.alloc o).heap[i]? = w.heap[i]? := fun i hi => Below.heap_alloc w o i hi
  have hsz : w.heap.size ≤ w'.heap.size := Nat.le_trans (by simp) hg.size
  have hx' : w'.heap[bs]? = some (.cells #[.int .i64 s.st, .string s.user, .slice A s.tos.length c, .string s.text] 36 (0, 0)) :=
    (hg.block bs (by simp; omega) (fun e => OwnL.not h.out (by decide) hx e.symm)).trans ((hal bs hbs).trans hx)
  have ht' : AtTy q w' w'.heap.size A s.tos := ht.keepQ hsz fun g cs hc hne => by
    have hgl := (Array.getElem?_eq_some_iff.1 hc).1
    exact (hg.block g (by simp; omega) (fun e => by rw [hq] at e; injection e with e; exact hne e)).trans (hal g hgl)
  refine ⟨h.rd.keep (hb2.block b (by omega)) (fun i hi => hb2.block i (by have := h.rd.1; omega)), h.lt, h.us.below hb2, ho, ?_⟩
  rcases hv with hv | hv
  · exact ⟨q, A, c, hv.trans hq, hx', ht', h1, h2⟩
  · exact ⟨w.heap.size + 1, A, c, hv, hx', ht.switch ht' (Nat.le_succ _), h1, h2⟩
/-- another session is stored -/
theorem Dw.store (h : Dw w B b m B2 bs Au vs v7 lines s) {s2 : Sm.S} {q : Nat} (hq : v7.ownBlock = some q) {A : Option Addr} {c : Nat} (ht : AtTy q w w.heap.size A s2.tos) (h1 : s2.tos.length ≤ c) (h2 : c ≤ maxLen) :
    Dw ((((w.setCell ⟨bs, 0, none⟩ (.int .i64 s2.st)).setCell ⟨bs, 1, none⟩ (.string s2.user)).setCell ⟨bs, 2, none⟩ (.slice A s2.tos.length c)).setCell ⟨bs, 3, none⟩ (.string s2.text)) B b m B2 bs Au vs v7 lines s2 := by
  have hlt := h.lt
  obtain ⟨_, A0, c0, _, hx, _⟩ := h.var
  have hk : ∀ i, i ≠ bs → ((((w.setCell ⟨bs, 0, none⟩ (.int .i64 s2.st)).setCell ⟨bs, 1, none⟩ (.string s2.user)).setCell ⟨bs, 2, none⟩ (.slice A s2.tos.length c)).setCell ⟨bs, 3, none⟩ (.string s2.text)).heap[i]? = w.heap[i]? := fun i hi => res_set4 hi _ _ _ _
  have hb : ((((w.setCell ⟨bs, 0, none⟩ (.int .i64 s2.st)).setCell ⟨bs, 1, none⟩ (.string s2.user)).setCell ⟨bs, 2, none⟩ (.slice A s2.tos.length c)).setCell ⟨bs, 3, none⟩ (.string s2.text)).heap[bs]? = some (.cells #[.int .i64 s2.st, .string s2.user, .slice A s2.tos.length c, .string s2.text] 36 (0, 0)) := by
    rw [set_heap (set_heap (set_heap (set_heap hx)))]; rfl
  have hs : w.heap.size ≤ ((((w.setCell ⟨bs, 0, none⟩ (.int .i64 s2.st)).setCell ⟨bs, 1, none⟩ (.string s2.user)).setCell ⟨bs, 2, none⟩ (.slice A s2.tos.length c)).setCell ⟨bs, 3, none⟩ (.string s2.text)).heap.size := by simp
  have ho := OwnL.set4 h.out hx (by decide) (.int .i64 s2.st) (.string s2.user) (.slice A s2.tos.length c) (.string s2.text)
  generalize (((w.setCell ⟨bs, 0, none⟩ (.int .i64 s2.st)).setCell ⟨bs, 1, none⟩ (.string s2.user)).setCell ⟨bs, 2, none⟩ (.slice A s2.tos.length c)).setCell ⟨bs, 3, none⟩ (.string s2.text) = W at hk hb hs ho ⊢
  refine ⟨h.rd.keep (hk b (by omega)) (fun i hi => hk i (by have := h.rd.1; omega)), h.lt, h.us.keep (fun i hi => hk i (by omega)), ho, q, A, c, hq, hb, ht.keepQ hs (fun g cs hc _ => hk g (fun e => ?_)), h1, h2⟩
  subst e
  rw [hx] at hc
  injection hc with hc; injection hc with _ hc _
  exact absurd hc (by decide)
theorem dstart {w : World} {B b m : Nat} {Au : Option Addr} {vs : List U} (hr : Rd w B b m) (hu : At w w.heap.size 3 Us.cells Au vs) {W : World} (hW : ((w.alloc (.cells #[] 9)).alloc (.cells #[] 9)).alloc (.cells #[.int .i64 0, .string ⟨#[]⟩, .slice (some ⟨w.heap.size + 1, 0, none⟩) 0 0, .string ⟨#[]⟩] 36) = W) :
    Dw W B b m w.heap.size (w.heap.size + 1 + 1) Au vs (.slice (some ⟨w.heap.size, 0, none⟩) 0 0) [] Rn.s0 ∧ Below w.heap.size w W := by
  have hbl := hr.lt
  have hb : Below w.heap.size w W := by rw [← hW]; exact (((Below.refl _ _).alloc (Nat.le_refl _) _).alloc (by simp) _).alloc (by simp; omega) _
  have h3 := heap_alloc_new ((w.alloc (.cells #[] 9)).alloc (.cells #[] 9)) (.cells #[.int .i64 0, .string ⟨#[]⟩, .slice (some ⟨w.heap.size + 1, 0, none⟩) 0 0, .string ⟨#[]⟩] 36)
  rw [hW] at h3
  rw [show ((w.alloc (.cells #[] 9)).alloc (.cells #[] 9)).heap.size = w.heap.size + 1 + 1 by simp] at h3
  refine ⟨⟨hr.below hb, ⟨hbl, by omega⟩, hu.below hb, ?_, w.heap.size, _, 0, rfl, h3, AtTy.nil, Nat.le_refl _, Nat.zero_le _⟩, hb⟩
  rw [← hW]
  exact OwnL.alloc (OwnL.alloc (ownL_nil w (Nat.le_refl _)) _) _
/-- what was drawn -/
def Drawn (w : World) (e : Ending) (w' : World) : Prop :=
  ∃ vs Au cu d A lines c, SmallUsers vs ∧ d.size ≤ 30 ∧ lines.length ≤ 30 ∧ (∀ l ∈ lines, l.size ≤ 200) ∧ lines.length ≤ c ∧ c ≤ maxLen ∧ e = .returned (.tuple #[.slice Au vs.length cu, .string d, .slice A lines.length c]) ∧ At w' w'.heap.size 3 Us.cells Au vs ∧ AtStrs w' w'.heap.size A lines ∧ Below w.heap.size w w'
theorem Dw.drawn (h : Dw w' B b m B2 bs Au vs v7 lines s) (hB : B2 ≤ w'.heap.size) {w : World} {cu : Nat} {d : ByteArray} (hsm : SmallUsers vs) (hd : d.size ≤ 30) (hl : lines.length ≤ 30) (hls : ∀ l ∈ lines, l.size ≤ 200) (hb : Below w.heap.size w w') : ∃ A c, v7 = .slice A lines.length c ∧ Drawn w (.returned (.tuple #[.slice Au vs.length cu, .string d, .slice A lines.length c])) w' := by
  obtain ⟨A, c, rfl, h1, h2⟩ := OwnL.form h.out
  exact ⟨A, c, rfl, vs, Au, cu, d, A, lines, c, hsm, hd, hl, hls, h1, h2, rfl, h.us.mono hB, at_strs (OwnL.at_ h.out St.cells_len rfl) (fun u hu => by have := hls u hu; unfold maxLen; omega), hb⟩
end Rn

set_option maxRecDepth 100000 in
set_option maxHeartbeats 6400000 in
theorem drawSubmissionRun_any (a : Option Addr) (len cap : Nat) (w : World) (h : Bytes w a len cap) :
    Calls Tryz.prog 18 #[.slice a len cap] w (Rn.Drawn w) := by
  obtain ⟨i0, hi, hz0, hz1, hz2⟩ := info_parts str_info
  go_enter Tryz.func18, Tryz.ntmps18
  go_wp2_with fail
  refine Calls.mono (l6Open_any a len cap _ h) ?_
  rintro e w1 ⟨rfl, h1, hb1⟩
  obtain ⟨b, hbe⟩ : ∃ b, b = w.heap.size := ⟨_, rfl⟩
  rw [← hbe] at h1 ⊢
  have hwb : w.heap.size ≤ b := by omega
  clear hbe
  go_wp2_with fail
  refine Calls.mono (l92Users_any w1 b b 0 (by omega) h1) ?_
  rintro e w2 ⟨vs, Au, cu, hsm, _, _, rfl, hat, h2, hg2⟩
  have HB2 := Lib.hid (hb1.trans (grown_to_below hg2 hwb hb1.size))
  go_upto_region 5 with fail
  generalize hW : ((w2.alloc (.cells #[] 9)).alloc (.cells #[] 9)).alloc (.cells #[.int .i64 0, .string ⟨#[]⟩, .slice (some ⟨w2.heap.size + 1, 0, none⟩) 0 0, .string ⟨#[]⟩] 36) = w3
  obtain ⟨hd3, hb3⟩ := Rn.dstart h2 hat hW
  obtain ⟨bs, hbs⟩ : ∃ bs, bs = w2.heap.size + 1 + 1 := ⟨_, rfl⟩
  rw [← hbs] at hd3 ⊢
  have HB3 := Lib.hid (HB2.out.trans (hb3.mono HB2.out.size))
  have h2s := HB2.out.size
  have h3s := hb3.size
  have hrd3 := hd3.rd
  clear hW hbs hb3 h2 hat hg2 h1 hb1 HB2
  obtain ⟨B2, hB2⟩ : ∃ B2, B2 = w2.heap.size := ⟨_, rfl⟩
  replace hd3 : Rn.Dw w3 b b (0 + 10) B2 bs Au vs (.slice (some ⟨w2.heap.size, 0, none⟩) 0 0) [] Rn.s0 := by rw [hB2]; exact hd3
  have hB2b : w.heap.size ≤ B2 := by omega
  clear hB2
  go_wp2_with fail
  refine Calls.mono (pick_any 30 (by omega) w3 b b (0 + 10) (by omega) hrd3) ?_
  rintro e w4 ⟨n, hn, rfl, h4, hg4⟩
  have HD4 := Lib.hid (hd3.read h4 hg4)
  have HB4 := Lib.hid (HB3.out.trans (grown_to_below hg4 hwb HB3.out.size))
  clear hd3 hrd3 h4 hg4 HB3
  go_upto_block 0 with fail
  go_cut [7, 10] (fun v7 i wx => ∃ lines s, lines.length ≤ 30 ∧ Hid (∀ l ∈ lines, l.size ≤ 200) ∧ Hid (Rn.Dw wx b b 1000 B2 bs Au vs v7 lines s) ∧ Hid (Below w.heap.size w wx))
  case first =>
    go_wp2_with fail
    go_loopg [7, 10] n (fun g v7 i wr => ∃ (k : Nat) (lines : List ByteArray) (st : Int) (f : ByteArray) (us : List ByteArray) (t : ByteArray), k ≤ n ∧ Hid (g = n - k) ∧ i = .int .i64 k ∧ lines.length = k ∧ Hid (∀ l ∈ lines, l.size ≤ 200) ∧ Hid (Sm.ok ⟨st, f, us, t⟩ = true) ∧ Hid (Rn.Dw wr b b (11 + 8 * k) B2 bs Au vs v7 lines ⟨st, f, us, t⟩) ∧ Hid (Below w.heap.size w wr))
    case atStart => exact ⟨0, [], 0, Sm.e0, [], Sm.e0, Nat.zero_le _, Lib.hid rfl, rfl, rfl, Lib.hid (fun l hl => by cases hl), Lib.hid Rn.s0_ok, HD4, HB4⟩
    case round =>
      obtain ⟨k, lines, st, f, us, t, hk, HG, rfl, hll, HLS, HOK, HD, HB⟩ := hrel
      by_cases hlt : k < n
      · have hlti : (k : Int) < (n : Int) := by omega
        have hk30 : k < 30 := by omega
        have HFS : Hid (f.size ≤ 30) := Lib.hid (Sm.small_ok HOK.out).1
        obtain ⟨q, A1, c1, hq, hx1, hat1, hc1, hc2⟩ := HD.out.var
        dsimp only at hx1 hat1 hc1
        have d0 : wr.cell? ⟨bs, 0, none⟩ = some (.int .i64 st) := cell_at hx1 0 _ rfl
        have d1 : wr.cell? ⟨bs, 1, none⟩ = some (.string f) := cell_at hx1 1 _ rfl
        have d2 : wr.cell? ⟨bs, 2, none⟩ = some (.slice A1 us.length c1) := cell_at hx1 2 _ rfl
        have d3 : wr.cell? ⟨bs, 3, none⟩ = some (.string t) := cell_at hx1 3 _ rfl
        clear hx1 hat1
        have hrd := HD.out.rd
        have hatu := HD.out.us
        have hbw := HD.out.bs_lt
        have hlt2 := HD.out.lt
        go_wp2_with fail
        refine Calls.mono (l92Command_any wr b b (11 + 8 * k) (by omega) hrd st f t A1 us c1 HFS.out Au vs cu hsm (hatu.mono (by omega))) ?_
        rintro e w5 ⟨l, hl200, rfl, h5, hg5⟩
        have HD5 := Lib.hid (HD.out.read h5 hg5)
        have HB5 := Lib.hid (HB.out.trans (grown_to_below hg5 hwb HB.out.size))
        clear d0 d1 d2 d3 hrd hatu hc1 hc2 h5 hg5 hq
        have HO5 := Lib.hid HD5.out.out
        have hBo : B2 ≤ w5.heap.size := by have := HD5.out.bs_lt; have := HD5.out.lt; omega
        have HM1 : Hid (lines.length + 1 ≤ maxLen) := Lib.hid (by unfold maxLen; omega)
        have HM2 : Hid ((lines.length + 1) * 16 ≤ 140737488355328) := Lib.hid (by omega)
        go_upto_region 11 with (first | (at_builtin; refine wpList_snocAt _ rfl (.tmp 30) (.tmp 32) _ rfl 9 i0 _ 1 16 Tryz.underlying24 hi hz0 hz1 hz2 rfl (by omega) St.cells St.cells_len St.cells_one1 B2 _ lines l rfl HO5.out _ rfl rfl HM1.out HM2.out hBo ?_; intro v7' w6 hown6 hb6 hg6 hv6; have HD6 := Lib.hid (HD5.out.snoc hown6 hb6 hg6 hv6); have HB6 := Lib.hid (HB5.out.trans (hb6.mono hB2b)); clear hown6 hb6 hg6 hv6))
        obtain ⟨q, A1, c1, hq, hx1, hat1, hc1, hc2⟩ := HD6.out.var
        dsimp only at hx1 hat1 hc1
        have d0 : w6.cell? ⟨bs, 0, none⟩ = some (.int .i64 st) := cell_at hx1 0 _ rfl
        have d1 : w6.cell? ⟨bs, 1, none⟩ = some (.string f) := cell_at hx1 1 _ rfl
        have d2 : w6.cell? ⟨bs, 2, none⟩ = some (.slice A1 us.length c1) := cell_at hx1 2 _ rfl
        have d3 : w6.cell? ⟨bs, 3, none⟩ = some (.string t) := cell_at hx1 3 _ rfl
        have z0 := free_at hx1 0
        have z1 := free_at hx1 1
        have z2 := free_at hx1 2
        have z3 := free_at hx1 3
        have hq6 : q < w6.heap.size := OwnL.blt HD6.out.out hq
        have hbw6 := HD6.out.bs_lt
        have hat6 := HD6.out.us
        obtain ⟨R, hR⟩ : ∃ R, R = Sm.line vs ⟨#[104, 111, 115, 116, 46, 111, 114, 103]⟩ ⟨st, f, us, t⟩ l := ⟨_, rfl⟩
        obtain ⟨⟨so, fo, uo, to_⟩, no⟩ := R
        have HL := Lib.hid hR.symm
        clear hR hx1
        have HOK2 : Hid (Sm.ok ⟨so, fo, uo, to_⟩ = true) := Lib.hid (by have := Sm.line_ok HOK.out (us := vs) (d := ⟨#[104, 111, 115, 116, 46, 111, 114, 103]⟩) l; rw [HL.out] at this; exact this)
        go_wp2_with fail
        refine Calls.mono (l21Line_ty q st f t A1 us c1 _ hat1 hq6 hc1 hc2 HOK.out Au vs cu (at_users (hat6.mono (by omega)) (small_sizes hsm)) (small_len hsm) ⟨#[104, 111, 115, 116, 46, 111, 114, 103]⟩ l (by omega)) ?_
        rw [HL.out]
        rintro e w7 ⟨A4, c4, rfl, hat4, hc4, hm4, hb7⟩
        dsimp only [Sm.val] at hat4 hc4 ⊢
        have HD7 := Lib.hid (HD6.out.below hb7)
        have HB7 := Lib.hid (HB6.out.trans (hb7.mono HB6.out.size))
        have HT7 := Lib.hid hat4
        clear d0 d1 d2 d3 z0 z1 z2 z3 hat1 hat4 hb7 hat6
        obtain ⟨_, A5, c5, _, hx7, _⟩ := HD7.out.var
        dsimp only at hx7
        have d0 : w7.cell? ⟨bs, 0, none⟩ = some (.int .i64 st) := cell_at hx7 0 _ rfl
        have d1 : w7.cell? ⟨bs, 1, none⟩ = some (.string f) := cell_at hx7 1 _ rfl
        have d2 : w7.cell? ⟨bs, 2, none⟩ = some (.slice A5 us.length c5) := cell_at hx7 2 _ rfl
        have d3 : w7.cell? ⟨bs, 3, none⟩ = some (.string t) := cell_at hx7 3 _ rfl
        have z0 := free_at hx7 0
        have z1 := free_at hx7 1
        have z2 := free_at hx7 2
        have z3 := free_at hx7 3
        clear hx7
        go_wp2_with fail
        go_roundg (n - (k + 1))
        case measure => have := HG.out; omega
        case rel =>
          have hd8 := HD7.out.store (s2 := ⟨so, fo, uo, to_⟩) hq HT7.out hc4 hm4
          have hbsw : w.heap.size ≤ bs := by omega
          exact ⟨k + 1, lines ++ [l], so, fo, uo, to_, by omega, Lib.hid rfl, by go_num, by simp; omega, Lib.hid (fun x hx => by rcases List.mem_append.1 hx with hx | hx; exact HLS.out x hx; rw [List.mem_singleton] at hx; subst hx; exact hl200), HOK2, Lib.hid (by rw [show 11 + 8 * (k + 1) = 11 + 8 * k + 8 by omega]; exact hd8), Lib.hid (set4 HB7.out hbsw _ _ _ _)⟩
      · have hlti : ¬ (k : Int) < (n : Int) := by omega
        go_wp2_with fail
        go_meet
        exact ⟨lines, ⟨st, f, us, t⟩, by omega, HLS, Lib.hid ⟨HD.out.rd.mono (by omega), HD.out.lt, HD.out.us, HD.out.out, HD.out.var⟩, HB⟩
  obtain ⟨lines, s, hl30, HLS, HD, HB⟩ := hcut
  obtain ⟨w5, hw5⟩ : ∃ w5, w5 = wc := ⟨_, rfl⟩
  subst hw5
  have hrd := HD.out.rd
  go_wp2_with fail
  refine Calls.mono (pick_any 16 (by omega) w5 b b 1000 (by omega) hrd) ?_
  rintro e w6 ⟨r, hr, rfl, h6, hg6⟩
  have HD6 := Lib.hid (HD.out.read h6 hg6)
  have HB6 := Lib.hid (HB.out.trans (grown_to_below hg6 hwb HB.out.size))
  clear hrd h6 hg6 HD HB
  have hrd := HD6.out.rd
  have hbo6 : B2 ≤ w6.heap.size := by have := HD6.out.bs_lt; have := HD6.out.lt; omega
  by_cases hr0 : r = 0
  · subst hr0
    go_wp2_with fail
    refine Calls.mono (l91Domain_any w6 b b (1000 + 1) (by omega) hrd) ?_
    rintro e w7 ⟨d, hd, rfl, h7, hg7⟩
    have hd7 := HD6.out.read h7 hg7
    obtain ⟨A, c, rfl, hdr⟩ := hd7.drawn (Nat.le_trans hbo6 hg7.size) (cu := cu) (d := d) hsm hd hl30 HLS.out (HB6.out.trans (grown_to_below hg7 hwb HB6.out.size))
    go_wp2_with fail
    refine bodyPost_ret (v := .tuple #[.slice Au vs.length cu, .string d, .slice A lines.length c]) (by simp [results, Tryz.results18, go_sem]) rfl hdr
  · have q0 : ((r : Int) == 0) = false := by simp; omega
    obtain ⟨A, c, rfl, hdr⟩ := HD6.out.drawn hbo6 (cu := cu) (d := ⟨#[104, 111, 115, 116, 46, 111, 114, 103]⟩) hsm (by decide) hl30 HLS.out HB6.out
    clear hr0
    go_wp2_with fail
    refine bodyPost_ret (v := .tuple #[.slice Au vs.length cu, .string ⟨#[104, 111, 115, 116, 46, 111, 114, 103]⟩, .slice A lines.length c]) (by simp [results, Tryz.results18, go_sem]) rfl hdr
end Go.Proofs.YtnbggmmghopphaaGreatDoor
