/- SmGi: SmG SmI, in one text. -/
import Derived.Test.YtpjifcljkgcnlaaGreatDoorSmEx
import Derived.Test.YtpjifcljkgcnlaaGreatDoorSmA
import Derived.Test.YtpjifcljkgcnlaaGreatDoorSbX
namespace Go.Proofs.YtpjifcljkgcnlaaGreatDoor
set_option linter.unusedVariables false
open Go.RowKit
open Us (U)
theorem Sm.cut_first (l : ByteArray) : ∃ w0, (Ct.cutB 32 l)[0]? = some w0 := by
  unfold Ct.cutB
  cases h : Ct.cut 32 l.data.toList with
  | nil => exact absurd h (Ct.cut_ne _ _)
  | cons a r => exact ⟨Ct.mk a, rfl⟩
theorem Sm.word_of {vs : List U} {d l w0 : ByteArray} {s : Sm.S} {ws : List ByteArray} (h : ws[0]? = some w0) : Sm.word vs d s l ws = if w0 = ⟨#[69, 72, 76, 79]⟩ then Sm.hello s ws else if w0 = ⟨#[65, 85, 84, 72]⟩ then Sm.auth vs s ws else if w0 = ⟨#[77, 65, 73, 76]⟩ then Sm.mail d s l else if w0 = ⟨#[82, 67, 80, 84]⟩ then Sm.rcpt vs d s l else Sm.plain s l := by
  match ws, h with
  | w1 :: r, h => simp at h; subst h; rfl

set_option maxRecDepth 100000 in
set_option maxHeartbeats 6400000 in
theorem l21Line_any (st : Int) (f t : ByteArray) (A : Option Addr) (us : List ByteArray) (c : Nat) (w : World) (h : AtStrs w w.heap.size A us) (hcap : us.length ≤ c) (hcm : c ≤ maxLen) (hok : Sm.ok ⟨st, f, us, t⟩ = true) (Au : Option Addr) (vs : List U) (cu : Nat) (hu : AtUsers w w.heap.size Au vs) (hvl : vs.length ≤ maxLen) (d l : ByteArray) (hl : l.size ≤ 16777216) :
    Calls Tryz.prog 24 #[.agg #[.int .i64 st, .string f, .slice A us.length c, .string t], .slice Au vs.length cu, .string d, .string l] w (Sm.Res (Sm.line vs d ⟨st, f, us, t⟩ l) w) := by
  have HW : Hid (∀ w', Below w.heap.size w w' → AtStrs w' w'.heap.size A us) := Lib.hid fun w' hb => (h.below hb).mono hb.size
  have HUW : Hid (∀ w', Below w.heap.size w w' → AtUsers w' w'.heap.size Au vs) := Lib.hid fun w' hb => (hu.below hb).mono hb.size
  have HF : Hid (st < 2 → f = ⟨#[]⟩) := Lib.hid (Sm.ok_nouser hok)
  have HT : Hid (t.size ≤ 16777216) := Lib.hid (Nat.le_trans (Sm.ok_text hok) (by decide))
  have HOK : Hid (Sm.ok (Sm.line vs d ⟨st, f, us, t⟩ l).1 = true) := Lib.hid (Sm.line_ok hok l)
  clear hok
  obtain ⟨hx1, hx2, hB, hsz⟩ := two_boxes w (.cells #[.int .i64 st, .string f, .slice A us.length c, .string t] 45) (.cells #[.int .i64 0, .string ⟨#[]⟩, .slice none 0 0, .string ⟨#[]⟩] 45)
  go_enter Tryz.func24, Tryz.ntmps24
  go_upto_region 1 with fail
  generalize ((w.alloc (.cells #[.int .i64 st, .string f, .slice A us.length c, .string t] 45)).alloc (.cells #[.int .i64 0, .string ⟨#[]⟩, .slice none 0 0, .string ⟨#[]⟩] 45)) = W at hx1 hx2 hB hsz ⊢
  have hs0 : w.heap.size < W.heap.size := by omega
  have hs1 : w.heap.size + 1 < W.heap.size := by omega
  have HX1 := Lib.hid hx1
  have HX2 := Lib.hid hx2
  clear hx1 hx2
  go_wp2_with fail
  refine Calls.mono (l1Cut_any l 32 hl _) ?_
  rintro e w3 ⟨Aw, cw, rfl, how, hb3⟩
  have hB3 := hB.trans (hb3.mono hB.size)
  have hs3 := hb3.size
  have hx1 := (hb3.block _ hs0).trans HX1.out
  have hx2 := (hb3.block _ hs1).trans HX2.out
  have hs03 : w.heap.size < w3.heap.size := by omega
  have hs13 : w.heap.size + 1 < w3.heap.size := by omega
  have d0 : w3.cell? ⟨w.heap.size, 0, none⟩ = some (.int .i64 st) := cell_at hx1 0 _ rfl
  have d1 : w3.cell? ⟨w.heap.size, 1, none⟩ = some (.string f) := cell_at hx1 1 _ rfl
  have d2 : w3.cell? ⟨w.heap.size, 2, none⟩ = some (.slice A us.length c) := cell_at hx1 2 _ rfl
  have d3 : w3.cell? ⟨w.heap.size, 3, none⟩ = some (.string t) := cell_at hx1 3 _ rfl
  have e0 := free_at hx1 0
  have e1 := free_at hx1 1
  have e2 := free_at hx1 2
  have e3 := free_at hx1 3
  have r0 : w3.cell? ⟨w.heap.size + 1, 0, none⟩ = some (.int .i64 0) := cell_at hx2 0 _ rfl
  have r1 : w3.cell? ⟨w.heap.size + 1, 1, none⟩ = some (.string ⟨#[]⟩) := cell_at hx2 1 _ rfl
  have r2 : w3.cell? ⟨w.heap.size + 1, 2, none⟩ = some (.slice none 0 0) := cell_at hx2 2 _ rfl
  have r3 : w3.cell? ⟨w.heap.size + 1, 3, none⟩ = some (.string ⟨#[]⟩) := cell_at hx2 3 _ rfl
  have z0 := free_at hx2 0
  have z1 := free_at hx2 1
  have z2 := free_at hx2 2
  have z3 := free_at hx2 3
  have HAW := Lib.hid (Pp.strs how rfl (fun u hu => by have := Ct.cutB_size hu; unfold maxLen; omega))
  have HWS : Hid (∀ u ∈ Ct.cutB 32 l, u.size ≤ 16777216) := Lib.hid (fun u hu => Nat.le_trans (Ct.cutB_size hu) hl)
  have HWL : Hid ((Ct.cutB 32 l).length ≤ maxLen) := Lib.hid (by have := Ct.cutB_len (c := 32) (s := l); unfold maxLen; omega)
  clear how
  have HXA := Lib.hid hx1
  have HXB := Lib.hid hx2
  clear hx1 hx2
  have HAT3 := Lib.hid (HW.out _ hB3)
  have HU3 := Lib.hid (HUW.out _ hB3)
  have HL : Hid (Sm.line vs d ⟨st, f, us, t⟩ l = if st = 6 then (⟨st, f, us, t⟩, (503 : Int)) else if st = 5 then Sm.data ⟨st, f, us, t⟩ l else Sm.word vs d ⟨st, f, us, t⟩ l (Ct.cutB 32 l)) := Lib.hid rfl
  have HBT : Hid (∀ v0 v1 v2 v3, Below w.heap.size w ((((w3.setCell ⟨w.heap.size + 1, 0, none⟩ v0).setCell ⟨w.heap.size + 1, 1, none⟩ v1).setCell ⟨w.heap.size + 1, 2, none⟩ v2).setCell ⟨w.heap.size + 1, 3, none⟩ v3)) := Lib.hid fun v0 v1 v2 v3 => set4 hB3 (by omega) _ _ _ _
  by_cases h6 : st = 6
  · have HR : Hid (Sm.line vs d ⟨st, f, us, t⟩ l = (⟨st, f, us, t⟩, 503)) := Lib.hid (by rw [HL.out, if_pos h6])
    have h6i : (st == 6) = true := by simpa using h6
    clear h6
    go_wp2_with fail
    refine bodyPost_ret (v := .tuple #[.agg #[.int .i64 st, .string f, .slice A us.length c, .string t], .int .i64 503]) (by simp [results, Tryz.results24, go_sem, r0, r1, r2, r3]) rfl ?_
    exact Sm.res_self HR.out (HW.out _ (HBT.out _ _ _ _)) hcap hcm (HBT.out _ _ _ _)
  · have h6i : (st == 6) = false := by simpa using h6
    by_cases h5 : st = 5
    · have HR : Hid (Sm.line vs d ⟨st, f, us, t⟩ l = Sm.data ⟨st, f, us, t⟩ l) := Lib.hid (by rw [HL.out, if_neg h6, if_pos h5])
      have h5i : (st == 5) = true := by simpa using h5
      have h2 : 2 ≤ st := by omega
      clear h5 h6
      go_wp2_with fail
      refine Calls.mono (l21Data_any st f t A us c w3 HAT3.out hcap hcm h2 HT.out l hl) ?_
      rintro e w4 ⟨A4, c4, rfl, hat4, hc4, hm4, hb4⟩
      have hB4 := hB3.trans (hb4.mono hB3.size)
      have hs4 := hb4.size
      have hx2 := (hb4.block _ hs13).trans HXB.out
      have hs14 : w.heap.size + 1 < w4.heap.size := by omega
      have q0 : w4.cell? ⟨w.heap.size + 1, 0, none⟩ = some (.int .i64 0) := cell_at hx2 0 _ rfl
      have q1 : w4.cell? ⟨w.heap.size + 1, 1, none⟩ = some (.string ⟨#[]⟩) := cell_at hx2 1 _ rfl
      have q2 : w4.cell? ⟨w.heap.size + 1, 2, none⟩ = some (.slice none 0 0) := cell_at hx2 2 _ rfl
      have q3 : w4.cell? ⟨w.heap.size + 1, 3, none⟩ = some (.string ⟨#[]⟩) := cell_at hx2 3 _ rfl
      have y0 := free_at hx2 0
      have y1 := free_at hx2 1
      have y2 := free_at hx2 2
      have y3 := free_at hx2 3
      have HX4 := Lib.hid hx2
      clear hx2
      obtain ⟨R, hR⟩ : ∃ R, R = Sm.data ⟨st, f, us, t⟩ l := ⟨_, rfl⟩
      rw [← hR] at HR hat4 hc4 ⊢
      clear hR
      obtain ⟨⟨st4, f4, us4, t4⟩, n4⟩ := R
      unfold Sm.val
      dsimp only at HR hat4 hc4 ⊢
      go_wp2_with fail
      refine bodyPost_ret (v := .tuple #[.agg #[.int .i64 st4, .string f4, .slice A4 us4.length c4, .string t4], .int .i64 n4]) (by simp [results, Tryz.results24, go_sem, q0, q1, q2, q3]) rfl ?_
      exact Sm.res_self HR.out (Sm.res_set hat4 (Sm.ok_names (s := ⟨st4, f4, us4, t4⟩) (by have := HOK.out; rw [HR.out] at this; exact this)) HX4.out _ _ _ _) hc4 hm4 (set4 hB4 (by omega) _ _ _ _)
    · have h5i : (st == 5) = false := by simpa using h5
      obtain ⟨w0, hw0⟩ := Sm.cut_first l
      have HLW : Hid (Sm.line vs d ⟨st, f, us, t⟩ l = if w0 = ⟨#[69, 72, 76, 79]⟩ then Sm.hello ⟨st, f, us, t⟩ (Ct.cutB 32 l) else if w0 = ⟨#[65, 85, 84, 72]⟩ then Sm.auth vs ⟨st, f, us, t⟩ (Ct.cutB 32 l) else if w0 = ⟨#[77, 65, 73, 76]⟩ then Sm.mail d ⟨st, f, us, t⟩ l else if w0 = ⟨#[82, 67, 80, 84]⟩ then Sm.rcpt vs d ⟨st, f, us, t⟩ l else Sm.plain ⟨st, f, us, t⟩ l) := Lib.hid (by rw [HL.out, if_neg h6, if_neg h5, Sm.word_of hw0])
      clear h5 h6 HL
      generalize Ct.cutB 32 l = ws at hw0 HAW HWS HWL HLW ⊢
      have hwl0 : 0 < ws.length := (List.getElem?_eq_some_iff.1 hw0).1
      have hwli : (0 : Int) < (ws.length : Int) := by omega
      obtain ⟨gw, ow, rfl, hgw, hcw⟩ := HAW.out.1 hwl0
      have cw0 : w3.cell? ⟨gw, ow, none⟩ = some (.string w0) := by simpa using hcw 0 w0 hw0
      clear hcw hw0
      by_cases k1 : w0 = ⟨#[69, 72, 76, 79]⟩
      · have k1q : (w0.toList == [69, 72, 76, 79]) = true := lit_yes k1
        have HR : Hid (Sm.line vs d ⟨st, f, us, t⟩ l = Sm.hello ⟨st, f, us, t⟩ ws) := Lib.hid (by rw [HLW.out, if_pos k1])
        clear k1
        go_wp2_with fail
        refine Calls.mono (l21Hello_any st f t A us c w3 HAT3.out hcap hcm HF.out _ ws cw HAW.out HWS.out HWL.out) ?_
        rintro e w4 ⟨A4, c4, rfl, hat4, hc4, hm4, hb4⟩
        have hB4 := hB3.trans (hb4.mono hB3.size)
        have hs4 := hb4.size
        have hx2 := (hb4.block _ hs13).trans HXB.out
        have hs14 : w.heap.size + 1 < w4.heap.size := by omega
        have q0 : w4.cell? ⟨w.heap.size + 1, 0, none⟩ = some (.int .i64 0) := cell_at hx2 0 _ rfl
        have q1 : w4.cell? ⟨w.heap.size + 1, 1, none⟩ = some (.string ⟨#[]⟩) := cell_at hx2 1 _ rfl
        have q2 : w4.cell? ⟨w.heap.size + 1, 2, none⟩ = some (.slice none 0 0) := cell_at hx2 2 _ rfl
        have q3 : w4.cell? ⟨w.heap.size + 1, 3, none⟩ = some (.string ⟨#[]⟩) := cell_at hx2 3 _ rfl
        have y0 := free_at hx2 0
        have y1 := free_at hx2 1
        have y2 := free_at hx2 2
        have y3 := free_at hx2 3
        have HX4 := Lib.hid hx2
        clear hx2
        obtain ⟨R, hR⟩ : ∃ R, R = Sm.hello ⟨st, f, us, t⟩ ws := ⟨_, rfl⟩
        rw [← hR] at HR hat4 hc4 ⊢
        clear hR
        obtain ⟨⟨st4, f4, us4, t4⟩, n4⟩ := R
        unfold Sm.val
        dsimp only at HR hat4 hc4 ⊢
        go_wp2_with fail
        refine bodyPost_ret (v := .tuple #[.agg #[.int .i64 st4, .string f4, .slice A4 us4.length c4, .string t4], .int .i64 n4]) (by simp [results, Tryz.results24, go_sem, q0, q1, q2, q3]) rfl ?_
        exact Sm.res_self HR.out (Sm.res_set hat4 (Sm.ok_names (s := ⟨st4, f4, us4, t4⟩) (by have := HOK.out; rw [HR.out] at this; exact this)) HX4.out _ _ _ _) hc4 hm4 (set4 hB4 (by omega) _ _ _ _)
      · have k1q : (w0.toList == [69, 72, 76, 79]) = false := lit_no k1
        by_cases k2 : w0 = ⟨#[65, 85, 84, 72]⟩
        · have k2q : (w0.toList == [65, 85, 84, 72]) = true := lit_yes k2
          have HR : Hid (Sm.line vs d ⟨st, f, us, t⟩ l = Sm.auth vs ⟨st, f, us, t⟩ ws) := Lib.hid (by rw [HLW.out, if_neg k1, if_pos k2])
          clear k1 k2
          go_wp2_with fail
          refine Calls.mono (l21Auth_any st f t A us c w3 HAT3.out hcap hcm Au vs cu HU3.out hvl _ ws cw HAW.out HWL.out) ?_
          rintro e w4 ⟨A4, c4, rfl, hat4, hc4, hm4, hb4⟩
          have hB4 := hB3.trans (hb4.mono hB3.size)
          have hs4 := hb4.size
          have hx2 := (hb4.block _ hs13).trans HXB.out
          have hs14 : w.heap.size + 1 < w4.heap.size := by omega
          have q0 : w4.cell? ⟨w.heap.size + 1, 0, none⟩ = some (.int .i64 0) := cell_at hx2 0 _ rfl
          have q1 : w4.cell? ⟨w.heap.size + 1, 1, none⟩ = some (.string ⟨#[]⟩) := cell_at hx2 1 _ rfl
          have q2 : w4.cell? ⟨w.heap.size + 1, 2, none⟩ = some (.slice none 0 0) := cell_at hx2 2 _ rfl
          have q3 : w4.cell? ⟨w.heap.size + 1, 3, none⟩ = some (.string ⟨#[]⟩) := cell_at hx2 3 _ rfl
          have y0 := free_at hx2 0
          have y1 := free_at hx2 1
          have y2 := free_at hx2 2
          have y3 := free_at hx2 3
          have HX4 := Lib.hid hx2
          clear hx2
          obtain ⟨R, hR⟩ : ∃ R, R = Sm.auth vs ⟨st, f, us, t⟩ ws := ⟨_, rfl⟩
          rw [← hR] at HR hat4 hc4 ⊢
          clear hR
          obtain ⟨⟨st4, f4, us4, t4⟩, n4⟩ := R
          unfold Sm.val
          dsimp only at HR hat4 hc4 ⊢
          go_wp2_with fail
          refine bodyPost_ret (v := .tuple #[.agg #[.int .i64 st4, .string f4, .slice A4 us4.length c4, .string t4], .int .i64 n4]) (by simp [results, Tryz.results24, go_sem, q0, q1, q2, q3]) rfl ?_
          exact Sm.res_self HR.out (Sm.res_set hat4 (Sm.ok_names (s := ⟨st4, f4, us4, t4⟩) (by have := HOK.out; rw [HR.out] at this; exact this)) HX4.out _ _ _ _) hc4 hm4 (set4 hB4 (by omega) _ _ _ _)
        · have k2q : (w0.toList == [65, 85, 84, 72]) = false := lit_no k2
          by_cases k3 : w0 = ⟨#[77, 65, 73, 76]⟩
          · have k3q : (w0.toList == [77, 65, 73, 76]) = true := lit_yes k3
            have HR : Hid (Sm.line vs d ⟨st, f, us, t⟩ l = Sm.mail d ⟨st, f, us, t⟩ l) := Lib.hid (by rw [HLW.out, if_neg k1, if_neg k2, if_pos k3])
            clear k1 k2 k3
            go_wp2_with fail
            refine Calls.mono (l21Mail_any st f t A us c w3 HAT3.out hcap hcm d l hl) ?_
            rintro e w4 ⟨A4, c4, rfl, hat4, hc4, hm4, hb4⟩
            have hB4 := hB3.trans (hb4.mono hB3.size)
            have hs4 := hb4.size
            have hx2 := (hb4.block _ hs13).trans HXB.out
            have hs14 : w.heap.size + 1 < w4.heap.size := by omega
            have q0 : w4.cell? ⟨w.heap.size + 1, 0, none⟩ = some (.int .i64 0) := cell_at hx2 0 _ rfl
            have q1 : w4.cell? ⟨w.heap.size + 1, 1, none⟩ = some (.string ⟨#[]⟩) := cell_at hx2 1 _ rfl
            have q2 : w4.cell? ⟨w.heap.size + 1, 2, none⟩ = some (.slice none 0 0) := cell_at hx2 2 _ rfl
            have q3 : w4.cell? ⟨w.heap.size + 1, 3, none⟩ = some (.string ⟨#[]⟩) := cell_at hx2 3 _ rfl
            have y0 := free_at hx2 0
            have y1 := free_at hx2 1
            have y2 := free_at hx2 2
            have y3 := free_at hx2 3
            have HX4 := Lib.hid hx2
            clear hx2
            obtain ⟨R, hR⟩ : ∃ R, R = Sm.mail d ⟨st, f, us, t⟩ l := ⟨_, rfl⟩
            rw [← hR] at HR hat4 hc4 ⊢
            clear hR
            obtain ⟨⟨st4, f4, us4, t4⟩, n4⟩ := R
            unfold Sm.val
            dsimp only at HR hat4 hc4 ⊢
            go_wp2_with fail
            refine bodyPost_ret (v := .tuple #[.agg #[.int .i64 st4, .string f4, .slice A4 us4.length c4, .string t4], .int .i64 n4]) (by simp [results, Tryz.results24, go_sem, q0, q1, q2, q3]) rfl ?_
            exact Sm.res_self HR.out (Sm.res_set hat4 (Sm.ok_names (s := ⟨st4, f4, us4, t4⟩) (by have := HOK.out; rw [HR.out] at this; exact this)) HX4.out _ _ _ _) hc4 hm4 (set4 hB4 (by omega) _ _ _ _)
          · have k3q : (w0.toList == [77, 65, 73, 76]) = false := lit_no k3
            by_cases k4 : w0 = ⟨#[82, 67, 80, 84]⟩
            · have k4q : (w0.toList == [82, 67, 80, 84]) = true := lit_yes k4
              have HR : Hid (Sm.line vs d ⟨st, f, us, t⟩ l = Sm.rcpt vs d ⟨st, f, us, t⟩ l) := Lib.hid (by rw [HLW.out, if_neg k1, if_neg k2, if_neg k3, if_pos k4])
              clear k1 k2 k3 k4
              go_wp2_with fail
              refine Calls.mono (l21To_any st f t A us c w3 HAT3.out hcap hcm Au vs cu HU3.out hvl d l hl) ?_
              rintro e w4 ⟨A4, c4, rfl, hat4, hc4, hm4, hb4⟩
              have hB4 := hB3.trans (hb4.mono hB3.size)
              have hs4 := hb4.size
              have hx2 := (hb4.block _ hs13).trans HXB.out
              have hs14 : w.heap.size + 1 < w4.heap.size := by omega
              have q0 : w4.cell? ⟨w.heap.size + 1, 0, none⟩ = some (.int .i64 0) := cell_at hx2 0 _ rfl
              have q1 : w4.cell? ⟨w.heap.size + 1, 1, none⟩ = some (.string ⟨#[]⟩) := cell_at hx2 1 _ rfl
              have q2 : w4.cell? ⟨w.heap.size + 1, 2, none⟩ = some (.slice none 0 0) := cell_at hx2 2 _ rfl
              have q3 : w4.cell? ⟨w.heap.size + 1, 3, none⟩ = some (.string ⟨#[]⟩) := cell_at hx2 3 _ rfl
              have y0 := free_at hx2 0
              have y1 := free_at hx2 1
              have y2 := free_at hx2 2
              have y3 := free_at hx2 3
              have HX4 := Lib.hid hx2
              clear hx2
              obtain ⟨R, hR⟩ : ∃ R, R = Sm.rcpt vs d ⟨st, f, us, t⟩ l := ⟨_, rfl⟩
              rw [← hR] at HR hat4 hc4 ⊢
              clear hR
              obtain ⟨⟨st4, f4, us4, t4⟩, n4⟩ := R
              unfold Sm.val
              dsimp only at HR hat4 hc4 ⊢
              go_wp2_with fail
              refine bodyPost_ret (v := .tuple #[.agg #[.int .i64 st4, .string f4, .slice A4 us4.length c4, .string t4], .int .i64 n4]) (by simp [results, Tryz.results24, go_sem, q0, q1, q2, q3]) rfl ?_
              exact Sm.res_self HR.out (Sm.res_set hat4 (Sm.ok_names (s := ⟨st4, f4, us4, t4⟩) (by have := HOK.out; rw [HR.out] at this; exact this)) HX4.out _ _ _ _) hc4 hm4 (set4 hB4 (by omega) _ _ _ _)
            · have k4q : (w0.toList == [82, 67, 80, 84]) = false := lit_no k4
              have HLP : Hid (Sm.line vs d ⟨st, f, us, t⟩ l = if l = ⟨#[68, 65, 84, 65]⟩ then (if st = 4 then (⟨5, f, us, t⟩, (354 : Int)) else (⟨st, f, us, t⟩, 503)) else if l = ⟨#[82, 83, 69, 84]⟩ then (Sm.back ⟨st, f, us, t⟩, 250) else if l = ⟨#[78, 79, 79, 80]⟩ then (⟨st, f, us, t⟩, 250) else if l = ⟨#[81, 85, 73, 84]⟩ then (⟨6, Sm.e0, [], Sm.e0⟩, 221) else (⟨st, f, us, t⟩, 500)) := Lib.hid (by rw [HLW.out, if_neg k1, if_neg k2, if_neg k3, if_neg k4]; rfl)
              clear k1 k2 k3 k4
              by_cases m1 : l = ⟨#[68, 65, 84, 65]⟩
              · have m1q : (l.toList == [68, 65, 84, 65]) = true := lit_yes m1
                by_cases h4 : st = 4
                · have HR : Hid (Sm.line vs d ⟨st, f, us, t⟩ l = (⟨5, f, us, t⟩, 354)) := Lib.hid (by rw [HLP.out, if_pos m1, if_pos h4])
                  have h4i : (st == 4) = true := by simpa using h4
                  clear m1 h4
                  have HBX : Hid (∀ v0 v1 v2 v3 v4, Below w.heap.size w (((((w3.setCell ⟨w.heap.size, 0, none⟩ v4).setCell ⟨w.heap.size + 1, 0, none⟩ v0).setCell ⟨w.heap.size + 1, 1, none⟩ v1).setCell ⟨w.heap.size + 1, 2, none⟩ v2).setCell ⟨w.heap.size + 1, 3, none⟩ v3)) := Lib.hid fun v0 v1 v2 v3 v4 => set4 (hB3.setCell (p := ⟨w.heap.size, 0, none⟩) (Nat.le_refl _) _) (by omega) _ _ _ _
                  go_wp2_with fail
                  refine bodyPost_ret (v := .tuple #[.agg #[.int .i64 5, .string f, .slice A us.length c, .string t], .int .i64 354]) (by simp [results, Tryz.results24, go_sem, r0, r1, r2, r3]) rfl ?_
                  exact Sm.res_self (s := ⟨5, f, us, t⟩) HR.out (HW.out _ (HBX.out _ _ _ _ _)) hcap hcm (HBX.out _ _ _ _ _)
                · have HR : Hid (Sm.line vs d ⟨st, f, us, t⟩ l = (⟨st, f, us, t⟩, 503)) := Lib.hid (by rw [HLP.out, if_pos m1, if_neg h4])
                  have h4i : (st == 4) = false := by simpa using h4
                  clear m1 h4
                  go_wp2_with fail
                  refine bodyPost_ret (v := .tuple #[.agg #[.int .i64 st, .string f, .slice A us.length c, .string t], .int .i64 503]) (by simp [results, Tryz.results24, go_sem, r0, r1, r2, r3]) rfl ?_
                  exact Sm.res_self HR.out (HW.out _ (HBT.out _ _ _ _)) hcap hcm (HBT.out _ _ _ _)
              · have m1q : (l.toList == [68, 65, 84, 65]) = false := lit_no m1
                by_cases m2 : l = ⟨#[82, 83, 69, 84]⟩
                · have m2q : (l.toList == [82, 83, 69, 84]) = true := lit_yes m2
                  have HR : Hid (Sm.line vs d ⟨st, f, us, t⟩ l = (Sm.back ⟨st, f, us, t⟩, 250)) := Lib.hid (by rw [HLP.out, if_neg m1, if_pos m2])
                  clear m1 m2
                  go_wp2_with fail
                  refine Calls.mono (l21Back_any st f t A c us HF.out _) ?_
                  rintro e w5 ⟨g5, rfl, hb5⟩
                  have hs5 := hb5.size
                  have hB5 := hB3.trans (hb5.mono hB3.size)
                  have hx5 := (hb5.block (w.heap.size + 1) (by omega)).trans HXB.out
                  have q0 : w5.cell? ⟨w.heap.size + 1, 0, none⟩ = some (.int .i64 0) := cell_at hx5 0 _ rfl
                  have q1 : w5.cell? ⟨w.heap.size + 1, 1, none⟩ = some (.string ⟨#[]⟩) := cell_at hx5 1 _ rfl
                  have q2 : w5.cell? ⟨w.heap.size + 1, 2, none⟩ = some (.slice none 0 0) := cell_at hx5 2 _ rfl
                  have q3 : w5.cell? ⟨w.heap.size + 1, 3, none⟩ = some (.string ⟨#[]⟩) := cell_at hx5 3 _ rfl
                  have y0 := free_at hx5 0
                  have y1 := free_at hx5 1
                  have y2 := free_at hx5 2
                  have y3 := free_at hx5 3
                  go_wp2_with fail
                  refine bodyPost_ret (v := .tuple #[.agg #[.int .i64 (Sm.back ⟨st, f, us, t⟩).st, .string (Sm.back ⟨st, f, us, t⟩).user, .slice (some ⟨g5, 0, none⟩) 0 0, .string ⟨#[]⟩], .int .i64 250]) (by simp [results, Tryz.results24, go_sem, q0, q1, q2, q3]) rfl ?_
                  exact Sm.res_back HR.out (set4 hB5 (by omega) _ _ _ _)
                · have m2q : (l.toList == [82, 83, 69, 84]) = false := lit_no m2
                  by_cases m3 : l = ⟨#[78, 79, 79, 80]⟩
                  · have m3q : (l.toList == [78, 79, 79, 80]) = true := lit_yes m3
                    have HR : Hid (Sm.line vs d ⟨st, f, us, t⟩ l = (⟨st, f, us, t⟩, 250)) := Lib.hid (by rw [HLP.out, if_neg m1, if_neg m2, if_pos m3])
                    clear m1 m2 m3
                    go_wp2_with fail
                    refine bodyPost_ret (v := .tuple #[.agg #[.int .i64 st, .string f, .slice A us.length c, .string t], .int .i64 250]) (by simp [results, Tryz.results24, go_sem, r0, r1, r2, r3]) rfl ?_
                    exact Sm.res_self HR.out (HW.out _ (HBT.out _ _ _ _)) hcap hcm (HBT.out _ _ _ _)
                  · have m3q : (l.toList == [78, 79, 79, 80]) = false := lit_no m3
                    by_cases m4 : l = ⟨#[81, 85, 73, 84]⟩
                    · have m4q : (l.toList == [81, 85, 73, 84]) = true := lit_yes m4
                      have HR : Hid (Sm.line vs d ⟨st, f, us, t⟩ l = (⟨6, Sm.e0, [], Sm.e0⟩, 221)) := Lib.hid (by rw [HLP.out, if_neg m1, if_neg m2, if_neg m3, if_pos m4])
                      clear m1 m2 m3 m4
                      go_wp2_with fail
                      refine bodyPost_ret (v := .tuple #[.agg #[.int .i64 6, .string ⟨#[]⟩, .slice (some ⟨w3.heap.size, 0, none⟩) 0 0, .string ⟨#[]⟩], .int .i64 221]) (by simp [results, Tryz.results24, go_sem, r0, r1, r2, r3, hs13]) rfl ?_
                      rw [HR.out]
                      exact ⟨some ⟨w3.heap.size, 0, none⟩, 0, rfl, at_none, Nat.le_refl _, Nat.zero_le _, (set4 hB3 (by omega) _ _ _ _).alloc (by simp; omega) _⟩
                    · have m4q : (l.toList == [81, 85, 73, 84]) = false := lit_no m4
                      have HR : Hid (Sm.line vs d ⟨st, f, us, t⟩ l = (⟨st, f, us, t⟩, 500)) := Lib.hid (by rw [HLP.out, if_neg m1, if_neg m2, if_neg m3, if_neg m4])
                      clear m1 m2 m3 m4
                      go_wp2_with fail
                      refine bodyPost_ret (v := .tuple #[.agg #[.int .i64 st, .string f, .slice A us.length c, .string t], .int .i64 500]) (by simp [results, Tryz.results24, go_sem, r0, r1, r2, r3]) rfl ?_
                      exact Sm.res_self HR.out (HW.out _ (HBT.out _ _ _ _)) hcap hcm (HBT.out _ _ _ _)
end Go.Proofs.YtpjifcljkgcnlaaGreatDoor

namespace Go.Proofs.YtpjifcljkgcnlaaGreatDoor
set_option linter.unusedVariables false
open Go.RowKit
open Us (U)

/-- what SubmissionLine answers -/
def Sm.ans (us : List U) (d : ByteArray) (s : Sm.S) (l : ByteArray) : Sm.S × Int :=
  if Sm.ok s = true ∧ Us.usersOk us = true ∧ Dm.ok d.data.toList = true then Sm.line us d s l else (⟨0, Sm.e0, [], Sm.e0⟩, -1)
/-- a session of the call's own, and a reply -/
def Sm.Own (r : Sm.S × Int) (w : World) (e : Ending) (w' : World) : Prop :=
  ∃ A c, e = .returned (.tuple #[Sm.val A c r.1, .int .i64 r.2]) ∧ St.Own w' w.heap.size (.slice A r.1.tos.length c) r.1.tos ∧ Below w.heap.size w w'
theorem Sm.own_bad {r : Sm.S × Int} (h : r = (⟨0, Sm.e0, [], Sm.e0⟩, -1)) {w w' : World} (hB : Below w.heap.size w w') : Sm.Own r w (.returned (.tuple #[.agg #[.int .i64 0, .string ⟨#[]⟩, .slice none 0 0, .string ⟨#[]⟩], .int .i64 (-1)])) w' := by
  subst h; exact ⟨none, 0, rfl, World.ownsRow_nil _ _ _ _, hB⟩
theorem Sm.own_self {r : Sm.S × Int} {s : Sm.S} {n : Int} (h : r = (s, n)) {w w' : World} {A : Option Addr} {c : Nat} (ho : St.Own w' w.heap.size (.slice A s.tos.length c) s.tos) (hB : Below w.heap.size w w') : Sm.Own r w (.returned (.tuple #[Sm.val A c s, .int .i64 n])) w' := by
  subst h; exact ⟨A, c, rfl, ho, hB⟩

end Go.Proofs.YtpjifcljkgcnlaaGreatDoor
