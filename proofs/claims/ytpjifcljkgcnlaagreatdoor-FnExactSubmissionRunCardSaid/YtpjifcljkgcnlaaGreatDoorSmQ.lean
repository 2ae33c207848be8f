/- handle and SubmissionLine of the program. (Printed by mksmq.py.) -/
import Derived.Test.YtpjifcljkgcnlaaGreatDoorSmM4
import Derived.Test.YtpjifcljkgcnlaaGreatDoorSmGi
namespace Go.Proofs.YtpjifcljkgcnlaaGreatDoor
set_option linter.unusedVariables false
open Go.RowKit
open Us (U)

theorem split_any (l : ByteArray) (hl : l.size ≤ 16777216) (m : Int) (w : World) (hm : w.cell? ⟨0, 0, none⟩ = some (.int .i64 m)) :
    Calls Tryz.prog 59 #[.string l, .string ⟨#[32]⟩] w fun e w' => ∃ A, e = .returned (.slice A (Ct.cutB 32 l).length (Ct.cutB 32 l).length) ∧ AtStrs w' w'.heap.size A (Ct.cutB 32 l) ∧ Below w.heap.size w w' := by
  refine (Tryz.strings_Split l ⟨#[32]⟩ m w (by omega) hm (by decide)).mono ?_
  rintro e w' ⟨rfl, rfl⟩
  refine ⟨some ⟨w.heap.size, 0, none⟩, by rw [Sp.len], ⟨fun _ => ⟨w.heap.size, 0, rfl, by simp, fun i u hu => ?_⟩, fun u hu => ?_⟩, (Below.refl _ _).alloc (Nat.le_refl _) _⟩
  · rw [Sp.splitB]
    refine cell_at (heap_alloc_new w _) (0 + i) _ ?_
    rw [Nat.zero_add, List.getElem?_toArray, List.getElem?_map, hu]; rfl
  · have := Ct.cutB_size hu
    unfold maxLen; omega
theorem Po.mem {w w' : World} {B : Nat} (hb : Below B w w') {m : Int} (hm : w.cell? ⟨0, 0, none⟩ = some (.int .i64 m)) (hB : 0 < B) : w'.cell? ⟨0, 0, none⟩ = some (.int .i64 m) := (hb.cell (p := ⟨0, 0, none⟩) hB).trans hm
theorem Po.base_pos {w : World} {m : Int} (hm : w.cell? ⟨0, 0, none⟩ = some (.int .i64 m)) : 0 < w.heap.size := by
  rcases Nat.eq_zero_or_pos w.heap.size with h | h
  · have : w.heap[0]? = none := Array.getElem?_eq_none (by omega)
    simp [World.cell?, this] at hm
  · exact h

set_option maxRecDepth 100000 in
set_option maxHeartbeats 3200000 in
theorem handle_any (b : Nat) (Au : Option Addr) (vs : List U) (cu : Nat) (d : ByteArray) (st : Int) (f t : ByteArray) (us : List ByteArray) (w : World) (h : Po w b Au vs cu d ⟨st, f, us, t⟩) (hok : Sm.ok ⟨st, f, us, t⟩ = true) (hvl : vs.length ≤ maxLen) (hv : Us.usersOk vs = true) (m : Int) (hm : w.cell? ⟨0, 0, none⟩ = some (.int .i64 m)) (l : ByteArray) (hl : l.size ≤ 16777216) :
    Calls Tryz.prog 48 #[.pointer (some ⟨b, 0, none⟩), .string l] w (Po.Res (Sm.line vs d ⟨st, f, us, t⟩ l) b Au vs cu d w) := by
  have hlt := h.lt
  have H := Lib.hid h
  obtain ⟨A, c, hb, ho, hu⟩ := h
  obtain ⟨⟨c0, c1, c2, c3, c4, c5⟩, y0, y1, y2, y3⟩ := Po.cells hb
  clear hb
  dsimp only at c0 c1 c2 c3 ho
  have HL : Hid (Sm.line vs d ⟨st, f, us, t⟩ l = if st = 6 then (Sm.S.mk st f us t, (503 : Int)) else if st = 5 then Sm.data ⟨st, f, us, t⟩ l else Sm.word vs d ⟨st, f, us, t⟩ l (Ct.cutB 32 l)) := Lib.hid rfl
  have HOK := Lib.hid hok
  have HT : Hid (t.size ≤ 16777216) := Lib.hid (Nat.le_trans (Sm.ok_text hok) (by decide))
  clear hok
  by_cases h6 : st = 6
  · have HR : Hid (Sm.line vs d ⟨st, f, us, t⟩ l = (Sm.S.mk st f us t, 503)) := Lib.hid (by rw [HL.out, if_pos h6])
    have h6i : (st == 6) = true := by simpa using h6
    clear h6
    go_enter Tryz.func48, Tryz.ntmps48
    go_wp2_with fail
    go_ret
    exact Po.res HR.out H.out (Below.refl b w)
  · have h6i : (st == 6) = false := by simpa using h6
    by_cases h5 : st = 5
    · have HR : Hid (Sm.line vs d ⟨st, f, us, t⟩ l = Sm.data ⟨st, f, us, t⟩ l) := Lib.hid (by rw [HL.out, if_neg h6, if_pos h5])
      have h5i : (st == 5) = true := by simpa using h5
      clear h5 h6
      go_enter Tryz.func48, Tryz.ntmps48
      go_wp2_with fail
      refine Calls.mono (data_any b Au vs cu d st f t us _ H.out HT.out l hl) ?_
      rintro e w4 ⟨rfl, hp4, hb4⟩
      rw [← HR.out] at hp4 ⊢
      go_wp2_with fail
      go_ret
      exact ⟨rfl, hp4, hb4⟩
    · have h5i : (st == 5) = false := by simpa using h5
      obtain ⟨w0, hw0⟩ := Sm.cut_first l
      have HLW : Hid (Sm.line vs d ⟨st, f, us, t⟩ l = if w0 = ⟨#[69, 72, 76, 79]⟩ then Sm.hello ⟨st, f, us, t⟩ (Ct.cutB 32 l) else if w0 = ⟨#[65, 85, 84, 72]⟩ then Sm.auth vs ⟨st, f, us, t⟩ (Ct.cutB 32 l) else if w0 = ⟨#[77, 65, 73, 76]⟩ then Sm.mail d ⟨st, f, us, t⟩ l else if w0 = ⟨#[82, 67, 80, 84]⟩ then Sm.rcpt vs d ⟨st, f, us, t⟩ l else Sm.plain ⟨st, f, us, t⟩ l) := Lib.hid (by rw [HL.out, if_neg h6, if_neg h5, Sm.word_of hw0])
      clear h5 h6
      have HM := Lib.hid hm
      clear hm
      go_enter Tryz.func48, Tryz.ntmps48
      go_wp2_with fail
      refine Calls.mono (split_any l hl m _ HM.out) ?_
      rintro e w3 ⟨Aw, rfl, haw, hb3⟩
      have H3 := Lib.hid (H.out.below hb3)
      have HB3 := Lib.hid (hb3.mono (Nat.le_of_lt hlt))
      have HAW := Lib.hid haw
      have HWS : Hid (∀ u ∈ Ct.cutB 32 l, u.size ≤ 16777216) := Lib.hid (fun u hu => Nat.le_trans (Ct.cutB_size hu) hl)
      have HWL : Hid ((Ct.cutB 32 l).length ≤ maxLen) := Lib.hid (by have := Ct.cutB_len (c := 32) (s := l); unfold maxLen; omega)
      generalize Ct.cutB 32 l = ws at hw0 HAW HWS HWL HLW ⊢
      have hwl0 : 0 < ws.length := (List.getElem?_eq_some_iff.1 hw0).1
      have hwli : (0 : Int) < (ws.length : Int) := by omega
      obtain ⟨gw, ow, rfl, hgw, hcw⟩ := HAW.out.1 hwl0
      have cw0 : w3.cell? ⟨gw, ow, none⟩ = some (.string w0) := by simpa using hcw 0 w0 hw0
      clear hcw hw0 hb3 haw c0 c1 c2 c3 c4 c5 y0 y1 y2 y3
      by_cases k1 : w0 = ⟨#[69, 72, 76, 79]⟩
      · have k1q : (w0.toList == [69, 72, 76, 79]) = true := lit_yes k1
        have HR : Hid (Sm.line vs d ⟨st, f, us, t⟩ l = Sm.hello ⟨st, f, us, t⟩ ws) := Lib.hid (by rw [HLW.out, if_pos k1])
        clear k1
        go_wp2_with fail
        refine Calls.mono (hello_any b Au vs cu d st f t us _ H3.out _ ws _ HAW.out HWS.out HWL.out) ?_
        rintro e w4 ⟨rfl, hp4, hb4⟩
        rw [← HR.out] at hp4 ⊢
        go_wp2_with fail
        go_ret
        exact ⟨rfl, hp4, HB3.out.trans hb4⟩
      · have k1q : (w0.toList == [69, 72, 76, 79]) = false := lit_no k1
        by_cases k2 : w0 = ⟨#[65, 85, 84, 72]⟩
        · have k2q : (w0.toList == [65, 85, 84, 72]) = true := lit_yes k2
          have HR : Hid (Sm.line vs d ⟨st, f, us, t⟩ l = Sm.auth vs ⟨st, f, us, t⟩ ws) := Lib.hid (by rw [HLW.out, if_neg k1, if_pos k2])
          clear k1 k2
          go_wp2_with fail
          refine Calls.mono (prove_any b Au vs cu d st f t us _ H3.out HOK.out hvl _ ws _ HAW.out HWS.out HWL.out) ?_
          rintro e w4 ⟨rfl, hp4, hb4⟩
          rw [← HR.out] at hp4 ⊢
          go_wp2_with fail
          go_ret
          exact ⟨rfl, hp4, HB3.out.trans hb4⟩
        · have k2q : (w0.toList == [65, 85, 84, 72]) = false := lit_no k2
          by_cases k3 : w0 = ⟨#[77, 65, 73, 76]⟩
          · have k3q : (w0.toList == [77, 65, 73, 76]) = true := lit_yes k3
            have HR : Hid (Sm.line vs d ⟨st, f, us, t⟩ l = Sm.mail d ⟨st, f, us, t⟩ l) := Lib.hid (by rw [HLW.out, if_neg k1, if_neg k2, if_pos k3])
            clear k1 k2 k3
            go_wp2_with fail
            refine Calls.mono (sender_any b Au vs cu d st f t us _ H3.out l hl) ?_
            rintro e w4 ⟨rfl, hp4, hb4⟩
            rw [← HR.out] at hp4 ⊢
            go_wp2_with fail
            go_ret
            exact ⟨rfl, hp4, HB3.out.trans hb4⟩
          · have k3q : (w0.toList == [77, 65, 73, 76]) = false := lit_no k3
            by_cases k4 : w0 = ⟨#[82, 67, 80, 84]⟩
            · have k4q : (w0.toList == [82, 67, 80, 84]) = true := lit_yes k4
              have HR : Hid (Sm.line vs d ⟨st, f, us, t⟩ l = Sm.rcpt vs d ⟨st, f, us, t⟩ l) := Lib.hid (by rw [HLW.out, if_neg k1, if_neg k2, if_neg k3, if_pos k4])
              clear k1 k2 k3 k4
              go_wp2_with fail
              refine Calls.mono (receiver_any b Au vs cu d st f t us _ H3.out HOK.out hvl hv l hl) ?_
              rintro e w4 ⟨rfl, hp4, hb4⟩
              rw [← HR.out] at hp4 ⊢
              go_wp2_with fail
              go_ret
              exact ⟨rfl, hp4, HB3.out.trans hb4⟩
            · have k4q : (w0.toList == [82, 67, 80, 84]) = false := lit_no k4
              have HR : Hid (Sm.line vs d ⟨st, f, us, t⟩ l = Sm.plain ⟨st, f, us, t⟩ l) := Lib.hid (by rw [HLW.out, if_neg k1, if_neg k2, if_neg k3, if_neg k4])
              clear k1 k2 k3 k4
              go_wp2_with fail
              refine Calls.mono (plain_any b Au vs cu d st f t us _ H3.out l) ?_
              rintro e w4 ⟨rfl, hp4, hb4⟩
              rw [← HR.out] at hp4 ⊢
              go_wp2_with fail
              go_ret
              exact ⟨rfl, hp4, HB3.out.trans hb4⟩

set_option maxRecDepth 100000 in
set_option maxHeartbeats 3200000 in
theorem iSubmissionLine_any (st : Int) (f t : ByteArray) (A : Option Addr) (us : List ByteArray) (c : Nat) (w : World) (h : AtStrs w w.heap.size A us) (hcap : us.length ≤ c) (hcm : c ≤ maxLen) (hfl : f.size ≤ maxLen) (htl : t.size ≤ maxLen) (Au : Option Addr) (vs : List U) (cu : Nat) (hu : AtUsers w w.heap.size Au vs) (hvl : vs.length ≤ maxLen) (d l : ByteArray) (hd : d.size ≤ 16777216) (hl : l.size ≤ 16777216) (m : Int) (hm : w.cell? ⟨0, 0, none⟩ = some (.int .i64 m)) :
    Calls Tryz.prog 29 #[.agg #[.int .i64 st, .string f, .slice A us.length c, .string t], .slice Au vs.length cu, .string d, .string l] w (Sm.Own (Sm.ans vs d ⟨st, f, us, t⟩ l) w) := by
  have HW : Hid (∀ w', Below w.heap.size w w' → AtStrs w' w'.heap.size A us) := Lib.hid fun w' hb => (h.below hb).mono hb.size
  have HUW : Hid (∀ w', Below w.heap.size w w' → AtUsers w' w'.heap.size Au vs) := Lib.hid fun w' hb => (hu.below hb).mono hb.size
  have hpos := Po.base_pos hm
  have HM : Hid (∀ w', Below w.heap.size w w' → w'.cell? ⟨0, 0, none⟩ = some (.int .i64 m)) := Lib.hid fun w' hb => Po.mem hb hm hpos
  clear hm
  obtain ⟨hx1, hx2, hB, hsz⟩ := two_boxes w (.cells #[.int .i64 st, .string f, .slice A us.length c, .string t] 45) (.cells #[.int .i64 0, .string ⟨#[]⟩, .slice none 0 0, .string ⟨#[]⟩] 45)
  go_enter Tryz.func29, Tryz.ntmps29
  go_upto_region 1 with fail
  generalize ((w.alloc (.cells #[.int .i64 st, .string f, .slice A us.length c, .string t] 45)).alloc (.cells #[.int .i64 0, .string ⟨#[]⟩, .slice none 0 0, .string ⟨#[]⟩] 45)) = W at hx1 hx2 hB hsz ⊢
  have hs0 : w.heap.size < W.heap.size := by omega
  have hs1 : w.heap.size + 1 < W.heap.size := by omega
  have d0 : W.cell? ⟨w.heap.size, 0, none⟩ = some (.int .i64 st) := cell_at hx1 0 _ rfl
  have d1 : W.cell? ⟨w.heap.size, 1, none⟩ = some (.string f) := cell_at hx1 1 _ rfl
  have d2 : W.cell? ⟨w.heap.size, 2, none⟩ = some (.slice A us.length c) := cell_at hx1 2 _ rfl
  have d3 : W.cell? ⟨w.heap.size, 3, none⟩ = some (.string t) := cell_at hx1 3 _ rfl
  have e0 := free_at hx1 0
  have e1 := free_at hx1 1
  have e2 := free_at hx1 2
  have e3 := free_at hx1 3
  have r0 : W.cell? ⟨w.heap.size + 1, 0, none⟩ = some (.int .i64 0) := cell_at hx2 0 _ rfl
  have r1 : W.cell? ⟨w.heap.size + 1, 1, none⟩ = some (.string ⟨#[]⟩) := cell_at hx2 1 _ rfl
  have r2 : W.cell? ⟨w.heap.size + 1, 2, none⟩ = some (.slice none 0 0) := cell_at hx2 2 _ rfl
  have r3 : W.cell? ⟨w.heap.size + 1, 3, none⟩ = some (.string ⟨#[]⟩) := cell_at hx2 3 _ rfl
  have z0 := free_at hx2 0
  have z1 := free_at hx2 1
  have z2 := free_at hx2 2
  have z3 := free_at hx2 3
  have HXWa := Lib.hid hx1
  have HXWb := Lib.hid hx2
  clear hx1 hx2
  have HAW := Lib.hid (HW.out _ hB)
  have h0W := hs0
  have h1W := hs1
  have hBW := hB
  clear hB hs0 hs1
  have hdm : d.size ≤ maxLen := by unfold maxLen; omega
  cases n1 : Sm.ok ⟨st, f, us, t⟩
  · have HR : Hid (Sm.ans vs d ⟨st, f, us, t⟩ l = (⟨0, Sm.e0, [], Sm.e0⟩, -1)) := Lib.hid (by unfold Sm.ans; rw [if_neg (fun hh => by rw [n1] at hh; exact absurd hh.1 (by decide))])
    have N1 : Hid (Sb.ok st f us t = false) := Lib.hid n1
    clear n1
    go_wp2_with fail
    refine Calls.mono (iSubmissionValid_any st f t A us c _ HAW.out hcap hcm hfl htl) ?_
    rintro e w1 ⟨rfl, hb1⟩
    rw [N1.out]
    clear d0 d1 d2 d3 e0 e1 e2 e3 r0 r1 r2 r3 z0 z1 z2 z3
    have hB1 := hBW.trans (hb1.mono hBW.size)
    have hs1 := hb1.size
    have hx1 := (hb1.block _ h0W).trans HXWa.out
    have hx2 := (hb1.block _ h1W).trans HXWb.out
    have h01 : w.heap.size < w1.heap.size := by omega
    have h11 : w.heap.size + 1 < w1.heap.size := by omega
    have d0 : w1.cell? ⟨w.heap.size, 0, none⟩ = some (.int .i64 st) := cell_at hx1 0 _ rfl
    have d1 : w1.cell? ⟨w.heap.size, 1, none⟩ = some (.string f) := cell_at hx1 1 _ rfl
    have d2 : w1.cell? ⟨w.heap.size, 2, none⟩ = some (.slice A us.length c) := cell_at hx1 2 _ rfl
    have d3 : w1.cell? ⟨w.heap.size, 3, none⟩ = some (.string t) := cell_at hx1 3 _ rfl
    have e0 := free_at hx1 0
    have e1 := free_at hx1 1
    have e2 := free_at hx1 2
    have e3 := free_at hx1 3
    have r0 : w1.cell? ⟨w.heap.size + 1, 0, none⟩ = some (.int .i64 0) := cell_at hx2 0 _ rfl
    have r1 : w1.cell? ⟨w.heap.size + 1, 1, none⟩ = some (.string ⟨#[]⟩) := cell_at hx2 1 _ rfl
    have r2 : w1.cell? ⟨w.heap.size + 1, 2, none⟩ = some (.slice none 0 0) := cell_at hx2 2 _ rfl
    have r3 : w1.cell? ⟨w.heap.size + 1, 3, none⟩ = some (.string ⟨#[]⟩) := cell_at hx2 3 _ rfl
    have z0 := free_at hx2 0
    have z1 := free_at hx2 1
    have z2 := free_at hx2 2
    have z3 := free_at hx2 3
    have HX1a := Lib.hid hx1
    have HX1b := Lib.hid hx2
    clear hx1 hx2
    go_wp2_with fail
    refine bodyPost_ret (v := .tuple #[.agg #[.int .i64 0, .string ⟨#[]⟩, .slice none 0 0, .string ⟨#[]⟩], .int .i64 (-1)]) (by simp [results, Tryz.results29, go_sem, r0, r1, r2, r3]) rfl ?_
    exact Sm.own_bad HR.out (set4 hB1 (by omega) _ _ _ _)
  · have HOK : Hid (Sm.ok ⟨st, f, us, t⟩ = true) := Lib.hid n1
    have N1 : Hid (Sb.ok st f us t = true) := Lib.hid n1
    clear n1
    cases n2 : Us.usersOk vs
    · have HR : Hid (Sm.ans vs d ⟨st, f, us, t⟩ l = (⟨0, Sm.e0, [], Sm.e0⟩, -1)) := Lib.hid (by unfold Sm.ans; rw [if_neg (fun hh => by rw [n2] at hh; exact absurd hh.2.1 (by decide))])
      have N2 := Lib.hid n2
      clear n2
      go_wp2_with fail
      refine Calls.mono (iSubmissionValid_any st f t A us c _ HAW.out hcap hcm hfl htl) ?_
      rintro e w1 ⟨rfl, hb1⟩
      rw [N1.out]
      clear d0 d1 d2 d3 e0 e1 e2 e3 r0 r1 r2 r3 z0 z1 z2 z3
      have hB1 := hBW.trans (hb1.mono hBW.size)
      have hs1 := hb1.size
      have hx1 := (hb1.block _ h0W).trans HXWa.out
      have hx2 := (hb1.block _ h1W).trans HXWb.out
      have h01 : w.heap.size < w1.heap.size := by omega
      have h11 : w.heap.size + 1 < w1.heap.size := by omega
      have d0 : w1.cell? ⟨w.heap.size, 0, none⟩ = some (.int .i64 st) := cell_at hx1 0 _ rfl
      have d1 : w1.cell? ⟨w.heap.size, 1, none⟩ = some (.string f) := cell_at hx1 1 _ rfl
      have d2 : w1.cell? ⟨w.heap.size, 2, none⟩ = some (.slice A us.length c) := cell_at hx1 2 _ rfl
      have d3 : w1.cell? ⟨w.heap.size, 3, none⟩ = some (.string t) := cell_at hx1 3 _ rfl
      have e0 := free_at hx1 0
      have e1 := free_at hx1 1
      have e2 := free_at hx1 2
      have e3 := free_at hx1 3
      have r0 : w1.cell? ⟨w.heap.size + 1, 0, none⟩ = some (.int .i64 0) := cell_at hx2 0 _ rfl
      have r1 : w1.cell? ⟨w.heap.size + 1, 1, none⟩ = some (.string ⟨#[]⟩) := cell_at hx2 1 _ rfl
      have r2 : w1.cell? ⟨w.heap.size + 1, 2, none⟩ = some (.slice none 0 0) := cell_at hx2 2 _ rfl
      have r3 : w1.cell? ⟨w.heap.size + 1, 3, none⟩ = some (.string ⟨#[]⟩) := cell_at hx2 3 _ rfl
      have z0 := free_at hx2 0
      have z1 := free_at hx2 1
      have z2 := free_at hx2 2
      have z3 := free_at hx2 3
      have HX1a := Lib.hid hx1
      have HX1b := Lib.hid hx2
      clear hx1 hx2
      go_wp2_with fail
      refine Calls.mono (iUsersValid_any Au vs cu _ (HUW.out _ hB1) hvl) ?_
      rintro e w2 ⟨rfl, hb2⟩
      rw [N2.out]
      clear d0 d1 d2 d3 e0 e1 e2 e3 r0 r1 r2 r3 z0 z1 z2 z3
      have hB2 := hB1.trans (hb2.mono hB1.size)
      have hs2 := hb2.size
      have hx1 := (hb2.block _ h01).trans HX1a.out
      have hx2 := (hb2.block _ h11).trans HX1b.out
      have h02 : w.heap.size < w2.heap.size := by omega
      have h12 : w.heap.size + 1 < w2.heap.size := by omega
      have d0 : w2.cell? ⟨w.heap.size, 0, none⟩ = some (.int .i64 st) := cell_at hx1 0 _ rfl
      have d1 : w2.cell? ⟨w.heap.size, 1, none⟩ = some (.string f) := cell_at hx1 1 _ rfl
      have d2 : w2.cell? ⟨w.heap.size, 2, none⟩ = some (.slice A us.length c) := cell_at hx1 2 _ rfl
      have d3 : w2.cell? ⟨w.heap.size, 3, none⟩ = some (.string t) := cell_at hx1 3 _ rfl
      have e0 := free_at hx1 0
      have e1 := free_at hx1 1
      have e2 := free_at hx1 2
      have e3 := free_at hx1 3
      have r0 : w2.cell? ⟨w.heap.size + 1, 0, none⟩ = some (.int .i64 0) := cell_at hx2 0 _ rfl
      have r1 : w2.cell? ⟨w.heap.size + 1, 1, none⟩ = some (.string ⟨#[]⟩) := cell_at hx2 1 _ rfl
      have r2 : w2.cell? ⟨w.heap.size + 1, 2, none⟩ = some (.slice none 0 0) := cell_at hx2 2 _ rfl
      have r3 : w2.cell? ⟨w.heap.size + 1, 3, none⟩ = some (.string ⟨#[]⟩) := cell_at hx2 3 _ rfl
      have z0 := free_at hx2 0
      have z1 := free_at hx2 1
      have z2 := free_at hx2 2
      have z3 := free_at hx2 3
      have HX2a := Lib.hid hx1
      have HX2b := Lib.hid hx2
      clear hx1 hx2
      go_wp2_with fail
      refine bodyPost_ret (v := .tuple #[.agg #[.int .i64 0, .string ⟨#[]⟩, .slice none 0 0, .string ⟨#[]⟩], .int .i64 (-1)]) (by simp [results, Tryz.results29, go_sem, r0, r1, r2, r3]) rfl ?_
      exact Sm.own_bad HR.out (set4 hB2 (by omega) _ _ _ _)
    · have N2 := Lib.hid n2
      clear n2
      cases n3 : Dm.ok d.data.toList
      · have HR : Hid (Sm.ans vs d ⟨st, f, us, t⟩ l = (⟨0, Sm.e0, [], Sm.e0⟩, -1)) := Lib.hid (by unfold Sm.ans; rw [if_neg (fun hh => by rw [n3] at hh; exact absurd hh.2.2 (by decide))])
        have N3 := Lib.hid n3
        clear n3
        go_wp2_with fail
        refine Calls.mono (iSubmissionValid_any st f t A us c _ HAW.out hcap hcm hfl htl) ?_
        rintro e w1 ⟨rfl, hb1⟩
        rw [N1.out]
        clear d0 d1 d2 d3 e0 e1 e2 e3 r0 r1 r2 r3 z0 z1 z2 z3
        have hB1 := hBW.trans (hb1.mono hBW.size)
        have hs1 := hb1.size
        have hx1 := (hb1.block _ h0W).trans HXWa.out
        have hx2 := (hb1.block _ h1W).trans HXWb.out
        have h01 : w.heap.size < w1.heap.size := by omega
        have h11 : w.heap.size + 1 < w1.heap.size := by omega
        have d0 : w1.cell? ⟨w.heap.size, 0, none⟩ = some (.int .i64 st) := cell_at hx1 0 _ rfl
        have d1 : w1.cell? ⟨w.heap.size, 1, none⟩ = some (.string f) := cell_at hx1 1 _ rfl
        have d2 : w1.cell? ⟨w.heap.size, 2, none⟩ = some (.slice A us.length c) := cell_at hx1 2 _ rfl
        have d3 : w1.cell? ⟨w.heap.size, 3, none⟩ = some (.string t) := cell_at hx1 3 _ rfl
        have e0 := free_at hx1 0
        have e1 := free_at hx1 1
        have e2 := free_at hx1 2
        have e3 := free_at hx1 3
        have r0 : w1.cell? ⟨w.heap.size + 1, 0, none⟩ = some (.int .i64 0) := cell_at hx2 0 _ rfl
        have r1 : w1.cell? ⟨w.heap.size + 1, 1, none⟩ = some (.string ⟨#[]⟩) := cell_at hx2 1 _ rfl
        have r2 : w1.cell? ⟨w.heap.size + 1, 2, none⟩ = some (.slice none 0 0) := cell_at hx2 2 _ rfl
        have r3 : w1.cell? ⟨w.heap.size + 1, 3, none⟩ = some (.string ⟨#[]⟩) := cell_at hx2 3 _ rfl
        have z0 := free_at hx2 0
        have z1 := free_at hx2 1
        have z2 := free_at hx2 2
        have z3 := free_at hx2 3
        have HX1a := Lib.hid hx1
        have HX1b := Lib.hid hx2
        clear hx1 hx2
        go_wp2_with fail
        refine Calls.mono (iUsersValid_any Au vs cu _ (HUW.out _ hB1) hvl) ?_
        rintro e w2 ⟨rfl, hb2⟩
        rw [N2.out]
        clear d0 d1 d2 d3 e0 e1 e2 e3 r0 r1 r2 r3 z0 z1 z2 z3
        have hB2 := hB1.trans (hb2.mono hB1.size)
        have hs2 := hb2.size
        have hx1 := (hb2.block _ h01).trans HX1a.out
        have hx2 := (hb2.block _ h11).trans HX1b.out
        have h02 : w.heap.size < w2.heap.size := by omega
        have h12 : w.heap.size + 1 < w2.heap.size := by omega
        have d0 : w2.cell? ⟨w.heap.size, 0, none⟩ = some (.int .i64 st) := cell_at hx1 0 _ rfl
        have d1 : w2.cell? ⟨w.heap.size, 1, none⟩ = some (.string f) := cell_at hx1 1 _ rfl
        have d2 : w2.cell? ⟨w.heap.size, 2, none⟩ = some (.slice A us.length c) := cell_at hx1 2 _ rfl
        have d3 : w2.cell? ⟨w.heap.size, 3, none⟩ = some (.string t) := cell_at hx1 3 _ rfl
        have e0 := free_at hx1 0
        have e1 := free_at hx1 1
        have e2 := free_at hx1 2
        have e3 := free_at hx1 3
        have r0 : w2.cell? ⟨w.heap.size + 1, 0, none⟩ = some (.int .i64 0) := cell_at hx2 0 _ rfl
        have r1 : w2.cell? ⟨w.heap.size + 1, 1, none⟩ = some (.string ⟨#[]⟩) := cell_at hx2 1 _ rfl
        have r2 : w2.cell? ⟨w.heap.size + 1, 2, none⟩ = some (.slice none 0 0) := cell_at hx2 2 _ rfl
        have r3 : w2.cell? ⟨w.heap.size + 1, 3, none⟩ = some (.string ⟨#[]⟩) := cell_at hx2 3 _ rfl
        have z0 := free_at hx2 0
        have z1 := free_at hx2 1
        have z2 := free_at hx2 2
        have z3 := free_at hx2 3
        have HX2a := Lib.hid hx1
        have HX2b := Lib.hid hx2
        clear hx1 hx2
        go_wp2_with fail
        refine Calls.mono (iDomainValid_any d _ hdm) ?_
        rintro e w3 ⟨rfl, hb3⟩
        rw [N3.out]
        clear d0 d1 d2 d3 e0 e1 e2 e3 r0 r1 r2 r3 z0 z1 z2 z3
        have hB3 := hB2.trans (hb3.mono hB2.size)
        have hs3 := hb3.size
        have hx1 := (hb3.block _ h02).trans HX2a.out
        have hx2 := (hb3.block _ h12).trans HX2b.out
        have h03 : w.heap.size < w3.heap.size := by omega
        have h13 : w.heap.size + 1 < w3.heap.size := by omega
        have d0 : w3.cell? ⟨w.heap.size, 0, none⟩ = some (.int .i64 st) := cell_at hx1 0 _ rfl
        have d1 : w3.cell? ⟨w.heap.size, 1, none⟩ = some (.string f) := cell_at hx1 1 _ rfl
        have d2 : w3.cell? ⟨w.heap.size, 2, none⟩ = some (.slice A us.length c) := cell_at hx1 2 _ rfl
        have d3 : w3.cell? ⟨w.heap.size, 3, none⟩ = some (.string t) := cell_at hx1 3 _ rfl
        have e0 := free_at hx1 0
        have e1 := free_at hx1 1
        have e2 := free_at hx1 2
        have e3 := free_at hx1 3
        have r0 : w3.cell? ⟨w.heap.size + 1, 0, none⟩ = some (.int .i64 0) := cell_at hx2 0 _ rfl
        have r1 : w3.cell? ⟨w.heap.size + 1, 1, none⟩ = some (.string ⟨#[]⟩) := cell_at hx2 1 _ rfl
        have r2 : w3.cell? ⟨w.heap.size + 1, 2, none⟩ = some (.slice none 0 0) := cell_at hx2 2 _ rfl
        have r3 : w3.cell? ⟨w.heap.size + 1, 3, none⟩ = some (.string ⟨#[]⟩) := cell_at hx2 3 _ rfl
        have z0 := free_at hx2 0
        have z1 := free_at hx2 1
        have z2 := free_at hx2 2
        have z3 := free_at hx2 3
        have HX3a := Lib.hid hx1
        have HX3b := Lib.hid hx2
        clear hx1 hx2
        go_wp2_with fail
        refine bodyPost_ret (v := .tuple #[.agg #[.int .i64 0, .string ⟨#[]⟩, .slice none 0 0, .string ⟨#[]⟩], .int .i64 (-1)]) (by simp [results, Tryz.results29, go_sem, r0, r1, r2, r3]) rfl ?_
        exact Sm.own_bad HR.out (set4 hB3 (by omega) _ _ _ _)
      · have HR : Hid (Sm.ans vs d ⟨st, f, us, t⟩ l = Sm.line vs d ⟨st, f, us, t⟩ l) := Lib.hid (by unfold Sm.ans; rw [if_pos ⟨HOK.out, N2.out, n3⟩])
        have N3 := Lib.hid n3
        clear n3
        go_wp2_with fail
        refine Calls.mono (iSubmissionValid_any st f t A us c _ HAW.out hcap hcm hfl htl) ?_
        rintro e w1 ⟨rfl, hb1⟩
        rw [N1.out]
        clear d0 d1 d2 d3 e0 e1 e2 e3 r0 r1 r2 r3 z0 z1 z2 z3
        have hB1 := hBW.trans (hb1.mono hBW.size)
        have hs1 := hb1.size
        have hx1 := (hb1.block _ h0W).trans HXWa.out
        have hx2 := (hb1.block _ h1W).trans HXWb.out
        have h01 : w.heap.size < w1.heap.size := by omega
        have h11 : w.heap.size + 1 < w1.heap.size := by omega
        have d0 : w1.cell? ⟨w.heap.size, 0, none⟩ = some (.int .i64 st) := cell_at hx1 0 _ rfl
        have d1 : w1.cell? ⟨w.heap.size, 1, none⟩ = some (.string f) := cell_at hx1 1 _ rfl
        have d2 : w1.cell? ⟨w.heap.size, 2, none⟩ = some (.slice A us.length c) := cell_at hx1 2 _ rfl
        have d3 : w1.cell? ⟨w.heap.size, 3, none⟩ = some (.string t) := cell_at hx1 3 _ rfl
        have e0 := free_at hx1 0
        have e1 := free_at hx1 1
        have e2 := free_at hx1 2
        have e3 := free_at hx1 3
        have r0 : w1.cell? ⟨w.heap.size + 1, 0, none⟩ = some (.int .i64 0) := cell_at hx2 0 _ rfl
        have r1 : w1.cell? ⟨w.heap.size + 1, 1, none⟩ = some (.string ⟨#[]⟩) := cell_at hx2 1 _ rfl
        have r2 : w1.cell? ⟨w.heap.size + 1, 2, none⟩ = some (.slice none 0 0) := cell_at hx2 2 _ rfl
        have r3 : w1.cell? ⟨w.heap.size + 1, 3, none⟩ = some (.string ⟨#[]⟩) := cell_at hx2 3 _ rfl
        have z0 := free_at hx2 0
        have z1 := free_at hx2 1
        have z2 := free_at hx2 2
        have z3 := free_at hx2 3
        have HX1a := Lib.hid hx1
        have HX1b := Lib.hid hx2
        clear hx1 hx2
        go_wp2_with fail
        refine Calls.mono (iUsersValid_any Au vs cu _ (HUW.out _ hB1) hvl) ?_
        rintro e w2 ⟨rfl, hb2⟩
        rw [N2.out]
        clear d0 d1 d2 d3 e0 e1 e2 e3 r0 r1 r2 r3 z0 z1 z2 z3
        have hB2 := hB1.trans (hb2.mono hB1.size)
        have hs2 := hb2.size
        have hx1 := (hb2.block _ h01).trans HX1a.out
        have hx2 := (hb2.block _ h11).trans HX1b.out
        have h02 : w.heap.size < w2.heap.size := by omega
        have h12 : w.heap.size + 1 < w2.heap.size := by omega
        have d0 : w2.cell? ⟨w.heap.size, 0, none⟩ = some (.int .i64 st) := cell_at hx1 0 _ rfl
        have d1 : w2.cell? ⟨w.heap.size, 1, none⟩ = some (.string f) := cell_at hx1 1 _ rfl
        have d2 : w2.cell? ⟨w.heap.size, 2, none⟩ = some (.slice A us.length c) := cell_at hx1 2 _ rfl
        have d3 : w2.cell? ⟨w.heap.size, 3, none⟩ = some (.string t) := cell_at hx1 3 _ rfl
        have e0 := free_at hx1 0
        have e1 := free_at hx1 1
        have e2 := free_at hx1 2
        have e3 := free_at hx1 3
        have r0 : w2.cell? ⟨w.heap.size + 1, 0, none⟩ = some (.int .i64 0) := cell_at hx2 0 _ rfl
        have r1 : w2.cell? ⟨w.heap.size + 1, 1, none⟩ = some (.string ⟨#[]⟩) := cell_at hx2 1 _ rfl
        have r2 : w2.cell? ⟨w.heap.size + 1, 2, none⟩ = some (.slice none 0 0) := cell_at hx2 2 _ rfl
        have r3 : w2.cell? ⟨w.heap.size + 1, 3, none⟩ = some (.string ⟨#[]⟩) := cell_at hx2 3 _ rfl
        have z0 := free_at hx2 0
        have z1 := free_at hx2 1
        have z2 := free_at hx2 2
        have z3 := free_at hx2 3
        have HX2a := Lib.hid hx1
        have HX2b := Lib.hid hx2
        clear hx1 hx2
        go_wp2_with fail
        refine Calls.mono (iDomainValid_any d _ hdm) ?_
        rintro e w3 ⟨rfl, hb3⟩
        rw [N3.out]
        clear d0 d1 d2 d3 e0 e1 e2 e3 r0 r1 r2 r3 z0 z1 z2 z3
        have hB3 := hB2.trans (hb3.mono hB2.size)
        have hs3 := hb3.size
        have hx1 := (hb3.block _ h02).trans HX2a.out
        have hx2 := (hb3.block _ h12).trans HX2b.out
        have h03 : w.heap.size < w3.heap.size := by omega
        have h13 : w.heap.size + 1 < w3.heap.size := by omega
        have d0 : w3.cell? ⟨w.heap.size, 0, none⟩ = some (.int .i64 st) := cell_at hx1 0 _ rfl
        have d1 : w3.cell? ⟨w.heap.size, 1, none⟩ = some (.string f) := cell_at hx1 1 _ rfl
        have d2 : w3.cell? ⟨w.heap.size, 2, none⟩ = some (.slice A us.length c) := cell_at hx1 2 _ rfl
        have d3 : w3.cell? ⟨w.heap.size, 3, none⟩ = some (.string t) := cell_at hx1 3 _ rfl
        have e0 := free_at hx1 0
        have e1 := free_at hx1 1
        have e2 := free_at hx1 2
        have e3 := free_at hx1 3
        have r0 : w3.cell? ⟨w.heap.size + 1, 0, none⟩ = some (.int .i64 0) := cell_at hx2 0 _ rfl
        have r1 : w3.cell? ⟨w.heap.size + 1, 1, none⟩ = some (.string ⟨#[]⟩) := cell_at hx2 1 _ rfl
        have r2 : w3.cell? ⟨w.heap.size + 1, 2, none⟩ = some (.slice none 0 0) := cell_at hx2 2 _ rfl
        have r3 : w3.cell? ⟨w.heap.size + 1, 3, none⟩ = some (.string ⟨#[]⟩) := cell_at hx2 3 _ rfl
        have z0 := free_at hx2 0
        have z1 := free_at hx2 1
        have z2 := free_at hx2 2
        have z3 := free_at hx2 3
        have HX3a := Lib.hid hx1
        have HX3b := Lib.hid hx2
        clear hx1 hx2
        have HY0 := Lib.hid (heap_alloc_new w3 (.cells #[.int .i64 st, .string f, .slice A us.length c, .string t, .slice Au vs.length cu, .string d] 75))
        have HE5 := Lib.hid (Below.alloc (Below.refl w3.heap.size w3) (Nat.le_refl _) (.cells #[.int .i64 st, .string f, .slice A us.length c, .string t, .slice Au vs.length cu, .string d] 75))
        have hs5 : (w3.alloc (.cells #[.int .i64 st, .string f, .slice A us.length c, .string t, .slice Au vs.length cu, .string d] 75)).heap.size = w3.heap.size + 1 := by simp
        go_upto_region 4 with fail
        generalize w3.alloc (.cells #[.int .i64 st, .string f, .slice A us.length c, .string t, .slice Au vs.length cu, .string d] 75) = w5 at HY0 HE5 hs5 ⊢
        obtain ⟨b, hb⟩ : ∃ b, b = w3.heap.size := ⟨_, rfl⟩
        rw [← hb] at HY0 hs5 h03 h13 ⊢
        have hB5 := hB3.trans (HE5.out.mono hB3.size)
        have hx1 := (HE5.out.block _ (by omega)).trans HX3a.out
        have hx2 := (HE5.out.block _ (by omega)).trans HX3b.out
        have HUB : Hid (AtUsers w5 b Au vs) := Lib.hid (by rw [hb]; exact (HUW.out _ hB3).below HE5.out)
        have hat5 := Lib.hid (Sx.at_of (HW.out _ hB5))
        have hb5w : b < w5.heap.size := by omega
        have hbw5 : b + 1 ≤ w5.heap.size := by omega
        have h05 : w.heap.size < w5.heap.size := by omega
        clear hb hs5
        clear d0 d1 d2 d3 e0 e1 e2 e3 r0 r1 r2 r3 z0 z1 z2 z3
        have d0 : w5.cell? ⟨w.heap.size, 0, none⟩ = some (.int .i64 st) := cell_at hx1 0 _ rfl
        have d1 : w5.cell? ⟨w.heap.size, 1, none⟩ = some (.string f) := cell_at hx1 1 _ rfl
        have d2 : w5.cell? ⟨w.heap.size, 2, none⟩ = some (.slice A us.length c) := cell_at hx1 2 _ rfl
        have d3 : w5.cell? ⟨w.heap.size, 3, none⟩ = some (.string t) := cell_at hx1 3 _ rfl
        have e0 := free_at hx1 0
        have e1 := free_at hx1 1
        have e2 := free_at hx1 2
        have e3 := free_at hx1 3
        have r0 : w5.cell? ⟨w.heap.size + 1, 0, none⟩ = some (.int .i64 0) := cell_at hx2 0 _ rfl
        have r1 : w5.cell? ⟨w.heap.size + 1, 1, none⟩ = some (.string ⟨#[]⟩) := cell_at hx2 1 _ rfl
        have r2 : w5.cell? ⟨w.heap.size + 1, 2, none⟩ = some (.slice none 0 0) := cell_at hx2 2 _ rfl
        have r3 : w5.cell? ⟨w.heap.size + 1, 3, none⟩ = some (.string ⟨#[]⟩) := cell_at hx2 3 _ rfl
        have z0 := free_at hx2 0
        have z1 := free_at hx2 1
        have z2 := free_at hx2 2
        have z3 := free_at hx2 3
        have HX5a := Lib.hid hx1
        have HX5b := Lib.hid hx2
        clear hx1 hx2
        have k0 : w5.cell? ⟨b, 0, none⟩ = some (.int .i64 st) := cell_at HY0.out 0 _ rfl
        have k1 : w5.cell? ⟨b, 1, none⟩ = some (.string f) := cell_at HY0.out 1 _ rfl
        have k2 : w5.cell? ⟨b, 2, none⟩ = some (.slice A us.length c) := cell_at HY0.out 2 _ rfl
        have k3 : w5.cell? ⟨b, 3, none⟩ = some (.string t) := cell_at HY0.out 3 _ rfl
        have k4 : w5.cell? ⟨b, 4, none⟩ = some (.slice Au vs.length cu) := cell_at HY0.out 4 _ rfl
        have k5 : w5.cell? ⟨b, 5, none⟩ = some (.string d) := cell_at HY0.out 5 _ rfl
        have y0 := free_at HY0.out 0
        have y1 := free_at HY0.out 1
        have y2 := free_at HY0.out 2
        have y3 := free_at HY0.out 3
        obtain ⟨i0, hi, hz0, hz1, hz2⟩ := info_parts str_info
        have hul : us.length ≤ 3 := (Sm.ok_sizes HOK.out).2.1
        have HN : Hid (OwnL 9 1 St.cells (w5.alloc (.cells #[] 9)) w5.heap.size (.slice (some ⟨w5.heap.size, 0, none⟩) 0 0) ([] : List ByteArray)) := Lib.hid (ownL_nil w5 (Nat.le_refl _))
        have HE6 : Hid (Below w5.heap.size w5 (w5.alloc (.cells #[] 9))) := Lib.hid ((Below.refl _ _).alloc (Nat.le_refl _) _)
        have HAT : Hid (At (w5.alloc (.cells #[] 9)) w5.heap.size 1 St.cells A us) := Lib.hid (hat5.out.below HE6.out)
        have HM1 : Hid (([] : List ByteArray).length + us.length ≤ maxLen) := Lib.hid (by unfold maxLen; simp; omega)
        have HM2 : Hid ((([] : List ByteArray).length + us.length) * 16 ≤ 140737488355328) := Lib.hid (by simp; omega)
        have HM3 : Hid (w5.heap.size ≤ (w5.alloc (.cells #[] 9)).heap.size) := Lib.hid (by simp)
        go_wp2_with (at_builtin; refine wpList_join _ rfl (.tmp 30) (.tmp 32) _ rfl 9 i0 _ 1 16 Tryz.underlying23 hi hz0 hz1 hz2 rfl (by omega) St.cells St.cells_len St.cells_one1 w5.heap.size _ [] rfl HN.out _ A us us.length c rfl rfl HAT.out HM1.out HM2.out HM3.out ?_; intro v6 w6 hown6 hb6 hg6; rw [List.nil_append] at hown6; obtain ⟨A6, c6, rfl, hc6, hcm6⟩ := OwnL.form hown6; have HB6 := Lib.hid (HE6.out.trans hb6); have HO6 := Lib.hid hown6; clear hown6 hb6 hg6; have HYb := Lib.hid ((HB6.out.block b hb5w).trans HY0.out); have k2 : w6.cell? ⟨b, 2, none⟩ = some (.slice A us.length c) := cell_at HYb.out 2 _ rfl; have y2 := free_at HYb.out 2)
        have HP : Hid (Po (w6.setCell ⟨b, 2, none⟩ (.slice A6 us.length c6)) b Au vs cu d ⟨st, f, us, t⟩) := Lib.hid ⟨A6, c6, (Po.heap HYb.out).trans rfl, Po.own (HO6.out.base hbw5) 2 _, Po.users (HUB.out.below (HB6.out.mono (Nat.le_of_lt hb5w))) 2 _⟩
        have HB7 : Hid (Below w.heap.size w (w6.setCell ⟨b, 2, none⟩ (.slice A6 us.length c6))) := Lib.hid ((hB5.trans (HB6.out.mono hB5.size)).setCell (p := ⟨b, 2, none⟩) (show w.heap.size ≤ b by omega) _)
        have HX7 : Hid ((w6.setCell ⟨b, 2, none⟩ (.slice A6 us.length c6)).heap[w.heap.size + 1]? = some (.cells #[.int .i64 0, .string ⟨#[]⟩, .slice none 0 0, .string ⟨#[]⟩] 45 (0, 0))) := Lib.hid ((set_heap_ne (by omega)).trans ((HB6.out.block _ (by omega)).trans HX5b.out))
        clear d0 d1 d2 d3 e0 e1 e2 e3 r0 r1 r2 r3 z0 z1 z2 z3
        clear k0 k1 k2 k3 k4 k5 y0 y1 y2 y3
        generalize w6.setCell ⟨b, 2, none⟩ (.slice A6 us.length c6) = w7 at HP HB7 HX7 ⊢
        refine Calls.mono (handle_any b Au vs cu d st f t us _ HP.out HOK.out hvl N2.out m (HM.out _ HB7.out) l hl) ?_
        rintro e w8 ⟨rfl, hp8, hb8⟩
        obtain ⟨R, hR⟩ : ∃ R, R = Sm.line vs d ⟨st, f, us, t⟩ l := ⟨_, rfl⟩
        rw [← hR] at HR hp8 ⊢
        clear hR
        obtain ⟨⟨st4, f4, us4, t4⟩, n4⟩ := R
        obtain ⟨A8, c8, hx8, ho8, hu8⟩ := hp8
        dsimp only at hx8 ho8 ⊢
        have HB8 := Lib.hid (HB7.out.trans (hb8.mono (by omega)))
        have HX8 := Lib.hid ((hb8.block (w.heap.size + 1) (by omega)).trans HX7.out)
        have hb8w := (Array.getElem?_eq_some_iff.1 hx8).1
        have HO8 := Lib.hid ho8
        have k0 : w8.cell? ⟨b, 0, none⟩ = some (.int .i64 st4) := cell_at hx8 0 _ rfl
        have k1 : w8.cell? ⟨b, 1, none⟩ = some (.string f4) := cell_at hx8 1 _ rfl
        have k2 : w8.cell? ⟨b, 2, none⟩ = some (.slice A8 us4.length c8) := cell_at hx8 2 _ rfl
        have k3 : w8.cell? ⟨b, 3, none⟩ = some (.string t4) := cell_at hx8 3 _ rfl
        have r0 : w8.cell? ⟨w.heap.size + 1, 0, none⟩ = some (.int .i64 0) := cell_at HX8.out 0 _ rfl
        have r1 : w8.cell? ⟨w.heap.size + 1, 1, none⟩ = some (.string ⟨#[]⟩) := cell_at HX8.out 1 _ rfl
        have r2 : w8.cell? ⟨w.heap.size + 1, 2, none⟩ = some (.slice none 0 0) := cell_at HX8.out 2 _ rfl
        have r3 : w8.cell? ⟨w.heap.size + 1, 3, none⟩ = some (.string ⟨#[]⟩) := cell_at HX8.out 3 _ rfl
        have z0 := free_at HX8.out 0
        have z1 := free_at HX8.out 1
        have z2 := free_at HX8.out 2
        have z3 := free_at HX8.out 3
        clear hx8 ho8 hu8 hb8
        go_wp2_with fail
        refine bodyPost_ret (v := .tuple #[.agg #[.int .i64 st4, .string f4, .slice A8 us4.length c8, .string t4], .int .i64 n4]) (by simp [results, Tryz.results29, go_sem, r0, r1, r2, r3]) rfl ?_
        have hlt : w.heap.size + 1 < b + 1 := by omega
        refine Sm.own_self (s := ⟨st4, f4, us4, t4⟩) HR.out ?_ (set4 HB8.out (by omega) _ _ _ _)
        exact (own_setNew (p := ⟨w.heap.size + 1, 3, none⟩) (own_setNew (p := ⟨w.heap.size + 1, 2, none⟩) (own_setNew (p := ⟨w.heap.size + 1, 1, none⟩) (own_setNew (p := ⟨w.heap.size + 1, 0, none⟩) HO8.out hlt _) hlt _) hlt _) hlt _).base (by omega)
end Go.Proofs.YtpjifcljkgcnlaaGreatDoor
