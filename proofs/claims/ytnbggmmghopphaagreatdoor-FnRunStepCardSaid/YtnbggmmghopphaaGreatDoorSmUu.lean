/- SmUu: SmT SmN SmU LtW LwKit, in one text. -/
import Derived.Test.YtnbggmmghopphaaGreatDoorSmJl
import Derived.Test.YtnbggmmghopphaaGreatDoorSmQ
import Derived.Test.YtnbggmmghopphaaGreatDoorLawKit
import Derived.Test.YtnbggmmghopphaaGreatDoorStW2
import Derived.Test.YtnbggmmghopphaaGreatDoorStX
namespace Go.Proofs.YtnbggmmghopphaaGreatDoor
set_option linter.unusedVariables false
open Go.RowKit
open Us (U)

/-- a session, users, a domain and a line were drawn -/
def Sm.DrawnL (w : World) (e : Ending) (w' : World) : Prop :=
  ∃ st f A us c t Au vs cu d l, Sm.small ⟨st, f, us, t⟩ ∧ us.length ≤ c ∧ c ≤ maxLen ∧ SmallUsers vs ∧ d.size ≤ 30 ∧ l.size ≤ 200 ∧ e = .returned (.tuple #[.agg #[.int .i64 st, .string f, .slice A us.length c, .string t], .slice Au vs.length cu, .string d, .string l]) ∧ AtStrs w' w'.heap.size A us ∧ At w' w'.heap.size 3 Us.cells Au vs ∧ Below w.heap.size w w'
theorem At.set4' {W : World} {B b5 : Nat} {Au : Option Addr} {vs : List U} (hat : At W B 3 Us.cells Au vs) {st : Int} {f t : ByteArray} {v : Value} (hv : ∀ s, v ≠ .string s) (hx : W.heap[b5]? = some (.cells #[.int .i64 st, .string f, v, .string t] 36 (0, 0))) (v0 v1 v2 v3 : Value) :
    At ((((W.setCell ⟨b5, 0, none⟩ v0).setCell ⟨b5, 1, none⟩ v1).setCell ⟨b5, 2, none⟩ v2).setCell ⟨b5, 3, none⟩ v3) B 3 Us.cells Au vs := fun hl => by
  obtain ⟨g, off, ha, hlt, hne⟩ := users_ne hat hv hx hl
  exact At.keepAt hat (fun g' off' ha' _ => res_set4 (by rw [ha] at ha'; injection ha' with ha'; injection ha' with h1 h2; omega) v0 v1 v2 v3) hl

set_option maxRecDepth 100000 in
set_option maxHeartbeats 3200000 in
theorem drawSubmissionLine_any (a : Option Addr) (len cap : Nat) (w : World) (h : Bytes w a len cap) :
    Calls Tryz.prog 45 #[.slice a len cap] w (Sm.DrawnL w) := by
  have hbx0 := heap_alloc_new w (.cells #[.int .i64 0, .string ⟨#[]⟩, .slice none 0 0, .string ⟨#[]⟩] 36)
  have h0 := h.laid (.cells #[.int .i64 0, .string ⟨#[]⟩, .slice none 0 0, .string ⟨#[]⟩] 36)
  go_enter Tryz.func45, Tryz.ntmps45
  go_wp2_with fail
  refine Calls.mono (l6Open_any a len cap _ h0) ?_
  rintro e w1 ⟨rfl, h1, hb1⟩
  have HZ1 := Lib.hid ((hb1.block w.heap.size (by simp)).trans hbx0)
  have hB1 := Lib.hid (unbox hb1)
  obtain ⟨b, hb⟩ : ∃ b, b = (w.alloc (.cells #[.int .i64 0, .string ⟨#[]⟩, .slice none 0 0, .string ⟨#[]⟩] 36)).heap.size := ⟨_, rfl⟩
  rw [← hb] at h1 ⊢
  have hwb : w.heap.size < b := by rw [hb]; simp
  have hbl1 := h1.lt
  clear hb hb1 hbx0 h0 h
  go_wp2_with fail
  refine Calls.mono (l92Users_any _ _ _ _ (by omega) h1) ?_
  rintro e w2 ⟨vs, Au, cu, hsm, _, _, rfl, hat, h2, hg2⟩
  have hB2 := Lib.hid (hB1.out.trans (grown_to_below hg2 (Nat.le_of_lt hwb) hB1.out.size))
  have HZ2 := Lib.hid ((hg2.block w.heap.size (by omega) (by intro e; injection e with e; omega)).trans HZ1.out)
  have hbl2 := h2.lt
  clear hg2 h1 hB1 HZ1
  go_wp2_with fail
  refine Calls.mono (l92Sub_any _ _ _ _ (by omega) h2 Au vs cu hsm hat) ?_
  rintro e w3 ⟨st, f, A, us, c, t, hsmall, rfl, hfr, hcap, hcm, h3, hg3⟩
  have hB3 := Lib.hid (hB2.out.trans (grown_to_below hg3 (Nat.le_of_lt hwb) hB2.out.size))
  have HZ3 := Lib.hid ((hg3.block w.heap.size (by omega) (by intro e; injection e with e; omega)).trans HZ2.out)
  have hbl3 := h3.lt
  have hat3 := users_grown hat h2 hg3
  have hx4 := heap_alloc_new w3 (.cells #[.int .i64 st, .string f, .slice A us.length c, .string t] 36)
  have hE := Below.alloc (Below.refl w3.heap.size w3) (Nat.le_refl _) (.cells #[.int .i64 st, .string f, .slice A us.length c, .string t] 36)
  have hs4 : w3.heap.size < (w3.alloc (.cells #[.int .i64 st, .string f, .slice A us.length c, .string t] 36)).heap.size := by simp
  go_upto_region 5 with fail
  generalize w3.alloc (.cells #[.int .i64 st, .string f, .slice A us.length c, .string t] 36) = w4 at hx4 hE hs4 ⊢
  have hR4 := h3.below hE
  have HB4 := Lib.hid (hB3.out.trans (hE.mono hB3.out.size))
  have HZ4 := Lib.hid ((hE.block _ (by omega)).trans HZ3.out)
  have HF4 := Lib.hid ((hfr.below hE).base (B' := b + 1) (by omega))
  have hat4 := (hat3.below hE).mono hE.size
  obtain ⟨b5, hb5⟩ : ∃ b5, b5 = w3.heap.size := ⟨_, rfl⟩
  rw [← hb5] at hx4 hs4 ⊢
  have hbb : b < b5 := by omega
  have HSM := Lib.hid hsmall
  have HX4 := Lib.hid hx4
  clear hE hb5 hg3 h3 h2 hat hat3 hB2 HZ2 hB3 HZ3 hfr hsmall hx4
  go_wp2_with fail
  refine Calls.mono (pick_any 12 (by omega) _ _ _ _ (by omega) hR4) ?_
  rintro e w5 ⟨r, hr, rfl, h5, hg5⟩
  have HB5 := Lib.hid (HB4.out.trans (grown_to_below hg5 (Nat.le_of_lt hwb) HB4.out.size))
  have HZ5 := Lib.hid ((hg5.block w.heap.size (by omega) (by intro e; injection e with e; omega)).trans HZ4.out)
  have HX5 := Lib.hid ((hg5.block b5 hs4 (by intro e; injection e with e; omega)).trans HX4.out)
  have HF5 := Lib.hid (HF4.out.grown hg5 (Nat.lt_succ_self b))
  have hat5 := users_grown hat4 hR4 hg5
  have hs5 : b5 < w5.heap.size := by have := hg5.size; omega
  clear hg5 hat4 HB4 HZ4 HX4 HF4 hR4
  by_cases q0 : r = 0
  · subst q0
    go_wp2_with fail
    refine Calls.mono (l91Domain_any _ _ _ _ (by omega) h5) ?_
    rintro e w6 ⟨d, hd, rfl, h6, hg6⟩
    have HB6 := Lib.hid (HB5.out.trans (grown_to_below hg6 (Nat.le_of_lt hwb) HB5.out.size))
    have HZ6 := Lib.hid ((hg6.block w.heap.size (by omega) (by intro e; injection e with e; omega)).trans HZ5.out)
    have HX6 := Lib.hid ((hg6.block b5 hs5 (by intro e; injection e with e; omega)).trans HX5.out)
    have HF6 := Lib.hid (HF5.out.grown hg6 (Nat.lt_succ_self b))
    have hat6 := users_grown hat5 h5 hg6
    have hs6 : b5 < w6.heap.size := by have := hg6.size; omega
    clear hg6 hat5 HB5 HZ5 HX5 HF5 h5
    have d0 : w6.cell? ⟨b5, 0, none⟩ = some (.int .i64 st) := cell_at HX6.out 0 _ rfl
    have d1 : w6.cell? ⟨b5, 1, none⟩ = some (.string f) := cell_at HX6.out 1 _ rfl
    have d2 : w6.cell? ⟨b5, 2, none⟩ = some (.slice A us.length c) := cell_at HX6.out 2 _ rfl
    have d3 : w6.cell? ⟨b5, 3, none⟩ = some (.string t) := cell_at HX6.out 3 _ rfl
    have r0 : w6.cell? ⟨w.heap.size, 0, none⟩ = some (.int .i64 0) := cell_at HZ6.out 0 _ rfl
    have r1 : w6.cell? ⟨w.heap.size, 1, none⟩ = some (.string ⟨#[]⟩) := cell_at HZ6.out 1 _ rfl
    have r2 : w6.cell? ⟨w.heap.size, 2, none⟩ = some (.slice none 0 0) := cell_at HZ6.out 2 _ rfl
    have r3 : w6.cell? ⟨w.heap.size, 3, none⟩ = some (.string ⟨#[]⟩) := cell_at HZ6.out 3 _ rfl
    have z0 := free_at HZ6.out 0
    have z1 := free_at HZ6.out 1
    have z2 := free_at HZ6.out 2
    have z3 := free_at HZ6.out 3
    have hsd : b5 < w6.drew.heap.size := hs6
    go_upto_region 7 with fail
    have HRD : Hid (Rd w6.drew b b _) := Lib.hid (show Rd w6 b b _ from h6)
    have HATD : Hid (At w6.drew w6.drew.heap.size 3 Us.cells Au vs) := Lib.hid (show At w6 w6.heap.size 3 Us.cells Au vs from hat6)
    have HBD : Hid (Below w.heap.size w w6.drew) := Lib.hid (Sx.below_drew HB6.out)
    have HFD : Hid (Sm.From w6.drew (b + 1) A us) := Lib.hid (show Sm.From w6 (b + 1) A us from HF6.out)
    have HFS : Hid (f.size ≤ 30) := Lib.hid HSM.out.1
    go_region_law ((go_simp; go_at_call 61; refine Calls.mono (l92Command_any _ b b _ (by omega) HRD.out st f t A us c HFS.out Au vs cu hsm HATD.out) ?_; rintro e w8 ⟨l, hl, rfl, h8, hg8⟩; have HX8 := Lib.hid ((hg8.block b5 hs6 (by intro e; injection e with e; omega)).trans HX6.out); have HZ8 := Lib.hid ((hg8.block w.heap.size (by first | omega | (simp; omega)) (by intro e; injection e with e; omega)).trans HZ6.out); have d0 : w8.cell? ⟨b5, 0, none⟩ = some (.int .i64 st) := cell_at HX8.out 0 _ rfl; have d1 : w8.cell? ⟨b5, 1, none⟩ = some (.string f) := cell_at HX8.out 1 _ rfl; have d2 : w8.cell? ⟨b5, 2, none⟩ = some (.slice A us.length c) := cell_at HX8.out 2 _ rfl; have d3 : w8.cell? ⟨b5, 3, none⟩ = some (.string t) := cell_at HX8.out 3 _ rfl; have r0 : w8.cell? ⟨w.heap.size, 0, none⟩ = some (.int .i64 0) := cell_at HZ8.out 0 _ rfl; have r1 : w8.cell? ⟨w.heap.size, 1, none⟩ = some (.string ⟨#[]⟩) := cell_at HZ8.out 1 _ rfl; have r2 : w8.cell? ⟨w.heap.size, 2, none⟩ = some (.slice none 0 0) := cell_at HZ8.out 2 _ rfl; have r3 : w8.cell? ⟨w.heap.size, 3, none⟩ = some (.string ⟨#[]⟩) := cell_at HZ8.out 3 _ rfl; have z0 := free_at HZ8.out 0; have z1 := free_at HZ8.out 1; have z2 := free_at HZ8.out 2; have z3 := free_at HZ8.out 3; have HB8 := Lib.hid (HBD.out.trans (grown_to_below hg8 (Nat.le_of_lt hwb) HBD.out.size)); have HF8 := Lib.hid (HFD.out.grown hg8 (Nat.lt_succ_self b)); have HA8 := Lib.hid (users_grown HATD.out HRD.out hg8); clear hg8 h8))
    all_goals
      go_wp2_with fail
      refine bodyPost_ret (v := .tuple #[.agg #[.int .i64 st, .string f, .slice A us.length c, .string t], .slice Au vs.length cu, .string d, .string l]) (by simp [results, Tryz.results45, go_sem, r0, r1, r2, r3]) rfl ?_
      refine ⟨st, f, A, us, c, t, Au, vs, cu, _, l, HSM.out, hcap, hcm, hsm, hd, hl, rfl, ?_, ?_, ?_⟩
      · exact ((((HF8.out.set (p := ⟨w.heap.size, 0, none⟩) (by simp; omega) _).set (p := ⟨w.heap.size, 1, none⟩) (by simp; omega) _).set (p := ⟨w.heap.size, 2, none⟩) (by simp; omega) _).set (p := ⟨w.heap.size, 3, none⟩) (by simp; omega) _).at_
      · exact (At.set4' HA8.out (fun s e => by cases e) HZ8.out _ _ _ _).mono (by simp)
      · exact set4 HB8.out (Nat.le_refl _) _ _ _ _
  · have q0' : ((r : Int) == 0) = false := by simp; omega
    clear q0
    have d0 : w5.cell? ⟨b5, 0, none⟩ = some (.int .i64 st) := cell_at HX5.out 0 _ rfl
    have d1 : w5.cell? ⟨b5, 1, none⟩ = some (.string f) := cell_at HX5.out 1 _ rfl
    have d2 : w5.cell? ⟨b5, 2, none⟩ = some (.slice A us.length c) := cell_at HX5.out 2 _ rfl
    have d3 : w5.cell? ⟨b5, 3, none⟩ = some (.string t) := cell_at HX5.out 3 _ rfl
    have r0 : w5.cell? ⟨w.heap.size, 0, none⟩ = some (.int .i64 0) := cell_at HZ5.out 0 _ rfl
    have r1 : w5.cell? ⟨w.heap.size, 1, none⟩ = some (.string ⟨#[]⟩) := cell_at HZ5.out 1 _ rfl
    have r2 : w5.cell? ⟨w.heap.size, 2, none⟩ = some (.slice none 0 0) := cell_at HZ5.out 2 _ rfl
    have r3 : w5.cell? ⟨w.heap.size, 3, none⟩ = some (.string ⟨#[]⟩) := cell_at HZ5.out 3 _ rfl
    have z0 := free_at HZ5.out 0
    have z1 := free_at HZ5.out 1
    have z2 := free_at HZ5.out 2
    have z3 := free_at HZ5.out 3
    have hsd : b5 < w5.drew.heap.size := hs5
    go_upto_region 7 with fail
    have HRD : Hid (Rd w5.drew b b _) := Lib.hid (show Rd w5 b b _ from h5)
    have HATD : Hid (At w5.drew w5.drew.heap.size 3 Us.cells Au vs) := Lib.hid (show At w5 w5.heap.size 3 Us.cells Au vs from hat5)
    have HBD : Hid (Below w.heap.size w w5.drew) := Lib.hid (Sx.below_drew HB5.out)
    have HFD : Hid (Sm.From w5.drew (b + 1) A us) := Lib.hid (show Sm.From w5 (b + 1) A us from HF5.out)
    have HFS : Hid (f.size ≤ 30) := Lib.hid HSM.out.1
    go_region_law ((go_simp; go_at_call 61; refine Calls.mono (l92Command_any _ b b _ (by omega) HRD.out st f t A us c HFS.out Au vs cu hsm HATD.out) ?_; rintro e w8 ⟨l, hl, rfl, h8, hg8⟩; have HX8 := Lib.hid ((hg8.block b5 hs5 (by intro e; injection e with e; omega)).trans HX5.out); have HZ8 := Lib.hid ((hg8.block w.heap.size (by first | omega | (simp; omega)) (by intro e; injection e with e; omega)).trans HZ5.out); have d0 : w8.cell? ⟨b5, 0, none⟩ = some (.int .i64 st) := cell_at HX8.out 0 _ rfl; have d1 : w8.cell? ⟨b5, 1, none⟩ = some (.string f) := cell_at HX8.out 1 _ rfl; have d2 : w8.cell? ⟨b5, 2, none⟩ = some (.slice A us.length c) := cell_at HX8.out 2 _ rfl; have d3 : w8.cell? ⟨b5, 3, none⟩ = some (.string t) := cell_at HX8.out 3 _ rfl; have r0 : w8.cell? ⟨w.heap.size, 0, none⟩ = some (.int .i64 0) := cell_at HZ8.out 0 _ rfl; have r1 : w8.cell? ⟨w.heap.size, 1, none⟩ = some (.string ⟨#[]⟩) := cell_at HZ8.out 1 _ rfl; have r2 : w8.cell? ⟨w.heap.size, 2, none⟩ = some (.slice none 0 0) := cell_at HZ8.out 2 _ rfl; have r3 : w8.cell? ⟨w.heap.size, 3, none⟩ = some (.string ⟨#[]⟩) := cell_at HZ8.out 3 _ rfl; have z0 := free_at HZ8.out 0; have z1 := free_at HZ8.out 1; have z2 := free_at HZ8.out 2; have z3 := free_at HZ8.out 3; have HB8 := Lib.hid (HBD.out.trans (grown_to_below hg8 (Nat.le_of_lt hwb) HBD.out.size)); have HF8 := Lib.hid (HFD.out.grown hg8 (Nat.lt_succ_self b)); have HA8 := Lib.hid (users_grown HATD.out HRD.out hg8); clear hg8 h8))
    all_goals
      go_wp2_with fail
      refine bodyPost_ret (v := .tuple #[.agg #[.int .i64 st, .string f, .slice A us.length c, .string t], .slice Au vs.length cu, .string ⟨#[104, 111, 115, 116, 46, 111, 114, 103]⟩, .string l]) (by simp [results, Tryz.results45, go_sem, r0, r1, r2, r3]) rfl ?_
      refine ⟨st, f, A, us, c, t, Au, vs, cu, _, l, HSM.out, hcap, hcm, hsm, (by decide), hl, rfl, ?_, ?_, ?_⟩
      · exact ((((HF8.out.set (p := ⟨w.heap.size, 0, none⟩) (by simp; omega) _).set (p := ⟨w.heap.size, 1, none⟩) (by simp; omega) _).set (p := ⟨w.heap.size, 2, none⟩) (by simp; omega) _).set (p := ⟨w.heap.size, 3, none⟩) (by simp; omega) _).at_
      · exact (At.set4' HA8.out (fun s e => by cases e) HZ8.out _ _ _ _).mono (by simp)
      · exact set4 HB8.out (Nat.le_refl _) _ _ _ _
end Go.Proofs.YtnbggmmghopphaaGreatDoor

namespace Go.Proofs.YtnbggmmghopphaaGreatDoor
set_option linter.unusedVariables false
open Go.RowKit

set_option maxHeartbeats 800000 in
theorem sameNames_any (A A' : Option Addr) (us : List ByteArray) (c c' : Nat) (w : World) (h : AtStrs w w.heap.size A us) (h' : AtStrs w w.heap.size A' us) (hn : us.length ≤ maxLen) :
    Calls Tryz.prog 68 #[.slice A us.length c, .slice A' us.length c'] w fun e w' => e = .returned (.bool true) ∧ Below w.heap.size w w' := by
  unfold maxLen at hn
  go_enter Tryz.func68, Tryz.ntmps68
  go_wp2_with fail
  go_loopg [5] us.length (fun g i wr => ∃ k : Nat, k ≤ us.length ∧ Hid (g = us.length - k) ∧ i = .int .i64 k ∧ Below w.heap.size w wr)
  case atStart => exact ⟨0, Nat.zero_le _, Lib.hid rfl, rfl, Below.refl _ _⟩
  case round =>
    obtain ⟨k, hk, HG, rfl, hb⟩ := hrel
    by_cases hlt : k < us.length
    · obtain ⟨g, off, rfl, hg, hc⟩ := (h.below hb).1 (by omega)
      obtain ⟨g', off', rfl, hg', hc'⟩ := (h'.below hb).1 (by omega)
      obtain ⟨u, hu⟩ : ∃ u, us[k]? = some u := ⟨_, List.getElem?_eq_getElem hlt⟩
      have d1 := hc k u hu
      have e1 := hc' k u hu
      clear hc hc' hu
      have k1 : (k : Int) < (us.length : Int) := by omega
      go_upto_region 6 with fail
      go_quiet (fail)
      go_wp2_with fail
      go_roundg (us.length - (k + 1))
      case measure => have := HG.out; omega
      case rel => exact ⟨k + 1, by omega, Lib.hid rfl, by go_num, below_drewN hb _⟩
    · obtain rfl : k = us.length := by omega
      go_wp2_with fail
      go_ret
      exact ⟨rfl, hb⟩

set_option maxRecDepth 100000 in
set_option maxHeartbeats 1600000 in
theorem sameLetter_any (f t : ByteArray) (A A' : Option Addr) (us : List ByteArray) (c c' : Nat) (w : World) (h : AtStrs w w.heap.size A us) (h' : AtStrs w w.heap.size A' us) (hn : us.length ≤ maxLen) :
    Calls Tryz.prog 26 #[.agg #[.string f, .slice A us.length c, .string t], .agg #[.string f, .slice A' us.length c', .string t]] w fun e w' => e = .returned (.bool true) ∧ Below w.heap.size w w' := by
  obtain ⟨hx1, hx2, hB, hsz⟩ := two_boxes w (.cells #[.string f, .slice A us.length c, .string t] 38) (.cells #[.string f, .slice A' us.length c', .string t] 38)
  go_enter Tryz.func26, Tryz.ntmps26
  go_upto_region 1 with fail
  generalize (w.alloc (.cells #[.string f, .slice A us.length c, .string t] 38)).alloc (.cells #[.string f, .slice A' us.length c', .string t] 38) = W at hx1 hx2 hB hsz ⊢
  have d0 : W.cell? ⟨w.heap.size, 0, none⟩ = some (.string f) := cell_at hx1 0 _ rfl
  have d1 : W.cell? ⟨w.heap.size, 1, none⟩ = some (.slice A us.length c) := cell_at hx1 1 _ rfl
  have d2 : W.cell? ⟨w.heap.size, 2, none⟩ = some (.string t) := cell_at hx1 2 _ rfl
  have e0 : W.cell? ⟨w.heap.size + 1, 0, none⟩ = some (.string f) := cell_at hx2 0 _ rfl
  have e1 : W.cell? ⟨w.heap.size + 1, 1, none⟩ = some (.slice A' us.length c') := cell_at hx2 1 _ rfl
  have e2 : W.cell? ⟨w.heap.size + 1, 2, none⟩ = some (.string t) := cell_at hx2 2 _ rfl
  have ha := (h.below hB).mono hB.size
  have ha' := (h'.below hB).mono hB.size
  clear hx1 hx2 hsz
  go_wp2_with fail
  refine Calls.mono (sameNames_any A A' us c c' _ ha ha' hn) ?_
  rintro e w1 ⟨rfl, hb1⟩
  go_wp2_with fail
  go_ret
  exact ⟨rfl, hB.trans (hb1.mono hB.size)⟩

set_option maxRecDepth 100000 in
set_option maxHeartbeats 1600000 in
theorem sameSub_any (st : Int) (f t : ByteArray) (A A' : Option Addr) (us : List ByteArray) (c c' : Nat) (w : World) (h : AtStrs w w.heap.size A us) (h' : AtStrs w w.heap.size A' us) (hn : us.length ≤ maxLen) :
    Calls Tryz.prog 47 #[.agg #[.int .i64 st, .string f, .slice A us.length c, .string t], .agg #[.int .i64 st, .string f, .slice A' us.length c', .string t]] w fun e w' => e = .returned (.bool true) ∧ Below w.heap.size w w' := by
  obtain ⟨hx1, hx2, hB, hsz⟩ := two_boxes w (.cells #[.int .i64 st, .string f, .slice A us.length c, .string t] 36) (.cells #[.int .i64 st, .string f, .slice A' us.length c', .string t] 36)
  go_enter Tryz.func47, Tryz.ntmps47
  go_upto_region 1 with fail
  generalize (w.alloc (.cells #[.int .i64 st, .string f, .slice A us.length c, .string t] 36)).alloc (.cells #[.int .i64 st, .string f, .slice A' us.length c', .string t] 36) = W at hx1 hx2 hB hsz ⊢
  have d0 : W.cell? ⟨w.heap.size, 0, none⟩ = some (.int .i64 st) := cell_at hx1 0 _ rfl
  have d1 : W.cell? ⟨w.heap.size, 1, none⟩ = some (.string f) := cell_at hx1 1 _ rfl
  have d2 : W.cell? ⟨w.heap.size, 2, none⟩ = some (.slice A us.length c) := cell_at hx1 2 _ rfl
  have d3 : W.cell? ⟨w.heap.size, 3, none⟩ = some (.string t) := cell_at hx1 3 _ rfl
  have e0 : W.cell? ⟨w.heap.size + 1, 0, none⟩ = some (.int .i64 st) := cell_at hx2 0 _ rfl
  have e1 : W.cell? ⟨w.heap.size + 1, 1, none⟩ = some (.string f) := cell_at hx2 1 _ rfl
  have e2 : W.cell? ⟨w.heap.size + 1, 2, none⟩ = some (.slice A' us.length c') := cell_at hx2 2 _ rfl
  have e3 : W.cell? ⟨w.heap.size + 1, 3, none⟩ = some (.string t) := cell_at hx2 3 _ rfl
  have ha := (h.below hB).mono hB.size
  have ha' := (h'.below hB).mono hB.size
  clear hx1 hx2 hsz
  go_wp2_with fail
  refine Calls.mono (sameNames_any A A' us c c' _ ha ha' hn) ?_
  rintro e w1 ⟨rfl, hb1⟩
  go_wp2_with fail
  go_ret
  exact ⟨rfl, hB.trans (hb1.mono hB.size)⟩
end Go.Proofs.YtnbggmmghopphaaGreatDoor

namespace Go.Proofs.YtnbggmmghopphaaGreatDoor
set_option linter.unusedVariables false
open Go.RowKit
open Us (U)

theorem Sm.ans_good {us : List U} {d : ByteArray} {s : Sm.S} {l : ByteArray} (h : Sm.ok s = true ∧ Us.usersOk us = true ∧ Dm.ok d.data.toList = true) : Sm.ans us d s l = Sm.line us d s l := by unfold Sm.ans; rw [if_pos h]
theorem Sm.ans_bad {us : List U} {d : ByteArray} {s : Sm.S} {l : ByteArray} (h : ¬ (Sm.ok s = true ∧ Us.usersOk us = true ∧ Dm.ok d.data.toList = true)) : Sm.ans us d s l = (⟨0, Sm.e0, [], Sm.e0⟩, -1) := by unfold Sm.ans; rw [if_neg h]
theorem Sm.ans_sizes (us : List U) (d : ByteArray) (s : Sm.S) (l : ByteArray) : (Sm.ans us d s l).1.tos.length ≤ 3 ∧ (∀ u ∈ (Sm.ans us d s l).1.tos, u.size ≤ maxLen) ∧ (Sm.ans us d s l).1.user.size ≤ maxLen ∧ (Sm.ans us d s l).1.text.size ≤ maxLen := by
  by_cases h : Sm.ok s = true ∧ Us.usersOk us = true ∧ Dm.ok d.data.toList = true
  · rw [Sm.ans_good h]
    obtain ⟨h1, h2, h3, h4, _⟩ := Sm.ok_sizes (Sm.line_ok h.1 (us := us) (d := d) l)
    unfold maxLen
    exact ⟨h2, fun u hu => by have := h3 u hu; omega, by omega, by omega⟩
  · rw [Sm.ans_bad h]
    exact ⟨by simp, fun u hu => absurd hu (by simp), Nat.zero_le _, Nat.zero_le _⟩
theorem Sm.line_reply (us : List U) (d : ByteArray) (s : Sm.S) (l : ByteArray) : ¬ (Sm.line us d s l).2 < 0 := by
  unfold Sm.line
  split
  · (first | decide | (dsimp only; decide))
  split
  · unfold Sm.data; split
    · dsimp only; split <;> (first | decide | (dsimp only; decide))
    · (first | decide | (dsimp only; decide))
  unfold Sm.word
  split
  · split
    · unfold Sm.hello; split
      · split <;> (first | decide | (dsimp only; decide))
      · (first | decide | (dsimp only; decide))
    split
    · unfold Sm.auth; split
      · (first | decide | (dsimp only; decide))
      · split
        · split
          · split <;> (first | decide | (dsimp only; decide))
          · (first | decide | (dsimp only; decide))
        · (first | decide | (dsimp only; decide))
    split
    · unfold Sm.mail; split
      · (first | decide | (dsimp only; decide))
      split
      · (first | decide | (dsimp only; decide))
      split
      · split <;> (first | decide | (dsimp only; decide))
      · (first | decide | (dsimp only; decide))
    split
    · unfold Sm.rcpt; split
      · (first | decide | (dsimp only; decide))
      split
      · split
        · split
          · (first | decide | (dsimp only; decide))
          split <;> (first | decide | (dsimp only; decide))
        · (first | decide | (dsimp only; decide))
      · (first | decide | (dsimp only; decide))
    · unfold Sm.plain
      split
      · split <;> (first | decide | (dsimp only; decide))
      split
      · (first | decide | (dsimp only; decide))
      split
      · (first | decide | (dsimp only; decide))
      split <;> (first | decide | (dsimp only; decide))
  · (first | decide | (dsimp only; decide))
/-- a session and a reply of a law -/
def Sm.OwnV (so : Int) (fo : ByteArray) (uo : List ByteArray) (t : ByteArray) (no : Int) (w : World) (e : Ending) (w' : World) : Prop :=
  ∃ A c, e = .returned (.tuple #[.agg #[.int .i64 so, .string fo, .slice A uo.length c, .string t], .int .i64 no]) ∧ AtStrs w' w'.heap.size A uo ∧ uo.length ≤ c ∧ c ≤ maxLen ∧ Below w.heap.size w w'
theorem Sm.ownV {us : List U} {d : ByteArray} {s : Sm.S} {l : ByteArray} {so : Int} {fo t : ByteArray} {uo : List ByteArray} {no : Int} (hR : Sm.ans us d s l = (⟨so, fo, uo, t⟩, no)) {w : World} {e : Ending} {w' : World} (h : Sm.Own (Sm.ans us d s l) w e w') : Sm.OwnV so fo uo t no w e w' := by
  have hs := (Sm.ans_sizes us d s l).2.1
  rw [hR] at h hs
  obtain ⟨A, c, rfl, ho, hb⟩ := h
  exact ⟨A, c, rfl, at_strs (OwnL.at_ ho St.cells_len rfl) hs, (own_cap ho).1, (own_cap ho).2, hb⟩
theorem iLine_any (st : Int) (f t : ByteArray) (A : Option Addr) (us : List ByteArray) (c : Nat) (w : World) (h : AtStrs w w.heap.size A us) (hcap : us.length ≤ c) (hcm : c ≤ maxLen) (hfl : f.size ≤ maxLen) (htl : t.size ≤ maxLen) (Au : Option Addr) (vs : List U) (cu : Nat) (hu : AtUsers w w.heap.size Au vs) (hvl : vs.length ≤ maxLen) (d l : ByteArray) (hd : d.size ≤ 16777216) (hl : l.size ≤ 16777216) (m : Int) (hm : w.cell? ⟨0, 0, none⟩ = some (.int .i64 m)) {so : Int} {fo to_ : ByteArray} {uo : List ByteArray} {no : Int} (hR : Sm.ans vs d ⟨st, f, us, t⟩ l = (⟨so, fo, uo, to_⟩, no)) :
    Calls Tryz.prog 27 #[.agg #[.int .i64 st, .string f, .slice A us.length c, .string t], .slice Au vs.length cu, .string d, .string l] w (Sm.OwnV so fo uo to_ no w) :=
  (iSubmissionLine_any st f t A us c w h hcap hcm hfl htl Au vs cu hu hvl d l hd hl m hm).mono fun _ _ hh => Sm.ownV hR hh
theorem sLine_any (st : Int) (f t : ByteArray) (A : Option Addr) (us : List ByteArray) (c : Nat) (w : World) (h : AtStrs w w.heap.size A us) (hcap : us.length ≤ c) (hcm : c ≤ maxLen) (hfl : f.size ≤ maxLen) (htl : t.size ≤ maxLen) (Au : Option Addr) (vs : List U) (cu : Nat) (hu : AtUsers w w.heap.size Au vs) (hvl : vs.length ≤ maxLen) (d l : ByteArray) (hd : d.size ≤ 16777216) (hl : l.size ≤ 16777216) {so : Int} {fo to_ : ByteArray} {uo : List ByteArray} {no : Int} (hR : Sm.ans vs d ⟨st, f, us, t⟩ l = (⟨so, fo, uo, to_⟩, no)) :
    Calls Tryz.prog 46 #[.agg #[.int .i64 st, .string f, .slice A us.length c, .string t], .slice Au vs.length cu, .string d, .string l] w (Sm.OwnV so fo uo to_ no w) :=
  (sSubmissionLine_any st f t A us c w h hcap hcm hfl htl Au vs cu hu hvl d l hd hl).mono fun _ _ hh => Sm.ownV hR hh
theorem Sm.small_len {s : Sm.S} (h : Sm.small s) : s.tos.length ≤ maxLen := by
  have := h.2.1
  unfold maxLen; omega
end Go.Proofs.YtnbggmmghopphaaGreatDoor

namespace Go.Proofs.YtnbggmmghopphaaGreatDoor
set_option linter.unusedVariables false
open Go.RowKit

def Lt.ok (f : ByteArray) (us : List ByteArray) (t : ByteArray) : Bool := Nm.nameOk f.data.toList && (St.namesOk us && decide (0 < us.length)) && decide (t.size ≤ 20)
theorem Lt.no1 {f t : ByteArray} {us : List ByteArray} (h : Nm.nameOk f.data.toList = false) : Lt.ok f us t = false := by unfold Lt.ok; rw [h]; rfl
theorem Lt.no2 {f t : ByteArray} {us : List ByteArray} (h : (St.namesOk us && decide (0 < us.length)) = false) : Lt.ok f us t = false := by unfold Lt.ok; rw [h]; simp
theorem Lt.yes {f t : ByteArray} {us : List ByteArray} (h1 : Nm.nameOk f.data.toList = true) (h : (St.namesOk us && decide (0 < us.length)) = true) : Lt.ok f us t = decide (t.size ≤ 20) := by unfold Lt.ok; rw [h1, h]; rfl

set_option maxHeartbeats 1600000 in
theorem iLetterValid_any (f t : ByteArray) (A : Option Addr) (us : List ByteArray) (c : Nat) (w : World) (h : AtStrs w w.heap.size A us) (hcap : us.length ≤ c) (hn : c ≤ maxLen) (hf : f.size ≤ maxLen) (ht : t.size ≤ maxLen) :
    Calls Tryz.prog 28 #[.agg #[.string f, .slice A us.length c, .string t]] w fun e w' => e = .returned (.bool (Lt.ok f us t)) ∧ Below w.heap.size w w' := by
  have htl := ht
  unfold maxLen at htl
  go_enter Tryz.func28, Tryz.ntmps28
  go_wp2_with fail
  refine (iNameValid_any _ _ hf).mono ?_
  rintro e w1 ⟨rfl, hb1⟩
  have hbx := boxed hb1
  have hB := unbox hb1
  have hs1 := (Array.getElem?_eq_some_iff.1 hbx).1
  cases n1 : Nm.nameOk f.data.toList
  · have HF := Lib.hid (Lt.no1 (us := us) (t := t) n1)
    go_wp2_with fail
    go_ret
    exact ⟨by rw [HF.out]; rfl, hB⟩
  · have d1 : w1.cell? ⟨w.heap.size, 1, none⟩ = some (.slice A us.length c) := cell_at hbx 1 _ rfl
    have HBX := Lib.hid hbx
    have HA := Lib.hid ((h.below hB).mono hB.size)
    clear hbx
    go_wp2_with fail
    refine (receiversValid_any A us c _ HA.out hcap hn).mono ?_
    rintro e w2 ⟨rfl, hb2⟩
    have hB2 := hB.trans (hb2.mono hB.size)
    have d2 : w2.cell? ⟨w.heap.size, 2, none⟩ = some (.string t) := cell_at ((hb2.block _ hs1).trans HBX.out) 2 _ rfl
    cases n2 : (St.namesOk us && decide (0 < us.length))
    · have HF := Lib.hid (Lt.no2 (f := f) (t := t) n2)
      clear n2
      go_wp2_with fail
      go_ret
      exact ⟨by rw [HF.out]; rfl, hB2⟩
    · have HF := Lib.hid (Lt.yes (t := t) n1 n2)
      clear n2
      go_wp2_with fail
      go_ret
      exact ⟨by rw [HF.out]; simp; omega, hB2⟩


end Go.Proofs.YtnbggmmghopphaaGreatDoor

namespace Go.Proofs.YtnbggmmghopphaaGreatDoor
set_option linter.unusedVariables false
open Go.RowKit

theorem Sm.cut21_small {y : ByteArray} (h : y.size ≤ 21) : Sm.cut21 y = y := by
  unfold Sm.cut21
  rw [Nat.min_eq_left h, ByteArray.extract_zero_size]
theorem Sm.cut21_big {y : ByteArray} (h : 21 < y.size) : y.extract 0 21 = Sm.cut21 y := by
  unfold Sm.cut21
  rw [Nat.min_eq_right (by omega)]
theorem Sm.ne_of {l : ByteArray} (h : 0 < l.size) : l.toList.isEmpty = false := by
  have hl : l.data.toList.length = l.size := Array.length_toList
  rw [Go.ByteArray.toList_eq]
  cases hq : l.data.toList with
  | nil => rw [hq] at hl; simp at hl; omega
  | cons a r => rfl
theorem Sm.em_of {l : ByteArray} (h : ¬ 0 < l.size) : l.toList.isEmpty = true := by
  have hl : l.data.toList.length = l.size := Array.length_toList
  rw [Go.ByteArray.toList_eq, List.isEmpty_iff]
  exact List.eq_nil_of_length_eq_zero (by omega)
end Go.Proofs.YtnbggmmghopphaaGreatDoor
