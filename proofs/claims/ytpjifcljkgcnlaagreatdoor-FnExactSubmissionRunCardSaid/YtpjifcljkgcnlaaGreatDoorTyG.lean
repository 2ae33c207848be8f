/- l21Line with lists that lie in blocks of strings. (Printed by mkty.py.) -/
import Derived.Test.YtpjifcljkgcnlaaGreatDoorTyE
namespace Go.Proofs.YtpjifcljkgcnlaaGreatDoor
set_option linter.unusedVariables false
open Go.RowKit
open Us (U)

theorem Sm.res_setT {q : Nat} {b : Nat} {w4 : World} {A : Option Addr} {us : List ByteArray} (hat : AtTy q w4 w4.heap.size A us) (hn : ∀ u ∈ us, Nm.nameOk u.data.toList = true) (hb : w4.heap[b]? = some (.cells #[.int .i64 0, .string ⟨#[]⟩, .slice none 0 0, .string ⟨#[]⟩] 45 (0, 0))) (v0 v1 v2 v3 : Value) :
    AtTy q ((((w4.setCell ⟨b, 0, none⟩ v0).setCell ⟨b, 1, none⟩ v1).setCell ⟨b, 2, none⟩ v2).setCell ⟨b, 3, none⟩ v3) ((((w4.setCell ⟨b, 0, none⟩ v0).setCell ⟨b, 1, none⟩ v1).setCell ⟨b, 2, none⟩ v2).setCell ⟨b, 3, none⟩ v3).heap.size A us :=
  ⟨Sm.res_set hat.1 hn hb v0 v1 v2 v3, hat.2.set4 hb v0 v1 v2 v3⟩
set_option maxRecDepth 100000 in
set_option maxHeartbeats 6400000 in
theorem l21Line_ty (q : Nat) (st : Int) (f t : ByteArray) (A : Option Addr) (us : List ByteArray) (c : Nat) (w : World) (h : AtTy q w w.heap.size A us) (hqq : q < w.heap.size) (hcap : us.length ≤ c) (hcm : c ≤ maxLen) (hok : Sm.ok ⟨st, f, us, t⟩ = true) (Au : Option Addr) (vs : List U) (cu : Nat) (hu : AtUsers w w.heap.size Au vs) (hvl : vs.length ≤ maxLen) (d l : ByteArray) (hl : l.size ≤ 16777216) :
    Calls Tryz.prog 24 #[.agg #[.int .i64 st, .string f, .slice A us.length c, .string t], .slice Au vs.length cu, .string d, .string l] w (Sm.ResT q (Sm.line vs d ⟨st, f, us, t⟩ l) w) := by
  have HW : Hid (∀ w', Below w.heap.size w w' → AtTy q w' w'.heap.size A us) := Lib.hid fun w' hb => (h.below hb).mono hb.size
  have HUW : Hid (∀ w', Below w.heap.size w w' → AtUsers w' w'.heap.size Au vs) := Lib.hid fun w' hb => (hu.below hb).mono hb.size
  have HF : Hid (st < 2 → f = ⟨#[]⟩) := Lib.hid (Sm.ok_nouser hok)
  have HT : Hid (t.size ≤ 16777216) := Lib.hid (Nat.le_trans (Sm.ok_text hok) (by decide))
  have HOK : Hid (Sm.ok (Sm.line vs d ⟨st, f, us, t⟩ l).1 = true) := Lib.hid (Sm.line_ok hok l)
  clear hok
  obtain ⟨hx1, hx2, hB, hsz⟩ := two_boxes w (.cells #[.int .i64 st, .string f, .slice A us.length c, .string t] 45) (.cells #[.int .i64 0, .string ⟨#[]⟩, .slice none 0 0, .string ⟨#[]⟩] 45)
  go_enter Tryz.func24, Tryz.ntmps24
  go_upto_region 1 with fail
  generalize ((w.alloc (.cells #[.int .i64 st, .string f, .slice A us.length c, .string t] 45)).alloc (.cells #[.int .i64 0, .string ⟨#[]⟩, .slice none 0 0, .string ⟨#[]⟩] 45)) = W at hx1 hx2 hB hsz ⊢
  have hs0 : w.heap.size < W.heap.size := by omega
  have hs1 : w.heap.size + 1 < W.heap.size := by omega
  have HX1 := Lib.hid hx1
  have HX2 := Lib.hid hx2
  clear hx1 hx2
  go_wp2_with fail
  refine Calls.mono (l1Cut_any l 32 hl _) ?_
  rintro e w3 ⟨Aw, cw, rfl, how, hb3⟩
  have hB3 := hB.trans (hb3.mono hB.size)
  have hs3 := hb3.size
  have hx1 := (hb3.block _ hs0).trans HX1.out
  have hx2 := (hb3.block _ hs1).trans HX2.out
  have hs03 : w.heap.size < w3.heap.size := by omega
  have hs13 : w.heap.size + 1 < w3.heap.size := by omega
  have d0 : w3.cell? ⟨w.heap.size, 0, none⟩ = some (.int .i64 st) := cell_at hx1 0 _ rfl
  have d1 : w3.cell? ⟨w.heap.size, 1, none⟩ = some (.string f) := cell_at hx1 1 _ rfl
  have d2 : w3.cell? ⟨w.heap.size, 2, none⟩ = some (.slice A us.length c) := cell_at hx1 2 _ rfl
  have d3 : w3.cell? ⟨w.heap.size, 3, none⟩ = some (.string t) := cell_at hx1 3 _ rfl
  have e0 := free_at hx1 0
  have e1 := free_at hx1 1
  have e2 := free_at hx1 2
  have e3 := free_at hx1 3
  have r0 : w3.cell? ⟨w.heap.size + 1, 0, none⟩ = some (.int .i64 0) := cell_at hx2 0 _ rfl
  have r1 : w3.cell? ⟨w.heap.size + 1, 1, none⟩ = some (.string ⟨#[]⟩) := cell_at hx2 1 _ rfl
  have r2 : w3.cell? ⟨w.heap.size + 1, 2, none⟩ = some (.slice none 0 0) := cell_at hx2 2 _ rfl
  have r3 : w3.cell? ⟨w.heap.size + 1, 3, none⟩ = some (.string ⟨#[]⟩) := cell_at hx2 3 _ rfl
  have z0 := free_at hx2 0
  have z1 := free_at hx2 1
  have z2 := free_at hx2 2
  have z3 := free_at hx2 3
  have HAW := Lib.hid (Pp.strs how rfl (fun u hu => by have := Ct.cutB_size hu; unfold maxLen; omega))
  have HWS : Hid (∀ u ∈ Ct.cutB 32 l, u.size ≤ 16777216) := Lib.hid (fun u hu => Nat.le_trans (Ct.cutB_size hu) hl)
  have HWL : Hid ((Ct.cutB 32 l).length ≤ maxLen) := Lib.hid (by have := Ct.cutB_len (c := 32) (s := l); unfold maxLen; omega)
  clear how
  have HXA := Lib.hid hx1
  have HXB := Lib.hid hx2
  clear hx1 hx2
  have HAT3 := Lib.hid (HW.out _ hB3)
  have HU3 := Lib.hid (HUW.out _ hB3)
  have HL : Hid (Sm.line vs d ⟨st, f, us, t⟩ l = if st = 6 then (⟨st, f, us, t⟩, (503 : Int)) else if st = 5 then Sm.data ⟨st, f, us, t⟩ l else Sm.word vs d ⟨st, f, us, t⟩ l (Ct.cutB 32 l)) := Lib.hid rfl
  have HBT : Hid (∀ v0 v1 v2 v3, Below w.heap.size w ((((w3.setCell ⟨w.heap.size + 1, 0, none⟩ v0).setCell ⟨w.heap.size + 1, 1, none⟩ v1).setCell ⟨w.heap.size + 1, 2, none⟩ v2).setCell ⟨w.heap.size + 1, 3, none⟩ v3)) := Lib.hid fun v0 v1 v2 v3 => set4 hB3 (by omega) _ _ _ _
  by_cases h6 : st = 6
  · have HR : Hid (Sm.line vs d ⟨st, f, us, t⟩ l = (⟨st, f, us, t⟩, 503)) := Lib.hid (by rw [HL.out, if_pos h6])
    have h6i : (st == 6) = true := by simpa using h6
    clear h6
    go_wp2_with fail
    refine bodyPost_ret (v := .tuple #[.agg #[.int .i64 st, .string f, .slice A us.length c, .string t], .int .i64 503]) (by simp [results, Tryz.results24, go_sem, r0, r1, r2, r3]) rfl ?_
    exact Sm.res_selfT HR.out (HW.out _ (HBT.out _ _ _ _)) hcap hcm (HBT.out _ _ _ _)
  · have h6i : (st == 6) = false := by simpa using h6
    by_cases h5 : st = 5
    · have HR : Hid (Sm.line vs d ⟨st, f, us, t⟩ l = Sm.data ⟨st, f, us, t⟩ l) := Lib.hid (by rw [HL.out, if_neg h6, if_pos h5])
      have h5i : (st == 5) = true := by simpa using h5
      have h2 : 2 ≤ st := by omega
      clear h5 h6
      go_wp2_with fail
      refine Calls.mono (l21Data_ty q st f t A us c w3 HAT3.out hcap hcm h2 HT.out l hl) ?_
      rintro e w4 ⟨A4, c4, rfl, hat4, hc4, hm4, hb4⟩
      have hB4 := hB3.trans (hb4.mono hB3.size)
      have hs4 := hb4.size
      have hx2 := (hb4.block _ hs13).trans HXB.out
      have hs14 : w.heap.size + 1 < w4.heap.size := by omega
      have q0 : w4.cell? ⟨w.heap.size + 1, 0, none⟩ = some (.int .i64 0) := cell_at hx2 0 _ rfl
      have q1 : w4.cell? ⟨w.heap.size + 1, 1, none⟩ = some (.string ⟨#[]⟩) := cell_at hx2 1 _ rfl
      have q2 : w4.cell? ⟨w.heap.size + 1, 2, none⟩ = some (.slice none 0 0) := cell_at hx2 2 _ rfl
      have q3 : w4.cell? ⟨w.heap.size + 1, 3, none⟩ = some (.string ⟨#[]⟩) := cell_at hx2 3 _ rfl
      have y0 := free_at hx2 0
      have y1 := free_at hx2 1
      have y2 := free_at hx2 2
      have y3 := free_at hx2 3
      have HX4 := Lib.hid hx2
      clear hx2
      obtain ⟨R, hR⟩ : ∃ R, R = Sm.data ⟨st, f, us, t⟩ l := ⟨_, rfl⟩
      rw [← hR] at HR hat4 hc4 ⊢
      clear hR
      obtain ⟨⟨st4, f4, us4, t4⟩, n4⟩ := R
      unfold Sm.val
      dsimp only at HR hat4 hc4 ⊢
      go_wp2_with fail
      refine bodyPost_ret (v := .tuple #[.agg #[.int .i64 st4, .string f4, .slice A4 us4.length c4, .string t4], .int .i64 n4]) (by simp [results, Tryz.results24, go_sem, q0, q1, q2, q3]) rfl ?_
      exact Sm.res_selfT HR.out (Sm.res_setT hat4 (Sm.ok_names (s := ⟨st4, f4, us4, t4⟩) (by have := HOK.out; rw [HR.out] at this; exact this)) HX4.out _ _ _ _) hc4 hm4 (set4 hB4 (by omega) _ _ _ _)
    · have h5i : (st == 5) = false := by simpa using h5
      obtain ⟨w0, hw0⟩ := Sm.cut_first l
      have HLW : Hid (Sm.line vs d ⟨st, f, us, t⟩ l = if w0 = ⟨#[69, 72, 76, 79]⟩ then Sm.hello ⟨st, f, us, t⟩ (Ct.cutB 32 l) else if w0 = ⟨#[65, 85, 84, 72]⟩ then Sm.auth vs ⟨st, f, us, t⟩ (Ct.cutB 32 l) else if w0 = ⟨#[77, 65, 73, 76]⟩ then Sm.mail d ⟨st, f, us, t⟩ l else if w0 = ⟨#[82, 67, 80, 84]⟩ then Sm.rcpt vs d ⟨st, f, us, t⟩ l else Sm.plain ⟨st, f, us, t⟩ l) := Lib.hid (by rw [HL.out, if_neg h6, if_neg h5, Sm.word_of hw0])
      clear h5 h6 HL
      generalize Ct.cutB 32 l = ws at hw0 HAW HWS HWL HLW ⊢
      have hwl0 : 0 < ws.length := (List.getElem?_eq_some_iff.1 hw0).1
      have hwli : (0 : Int) < (ws.length : Int) := by omega
      obtain ⟨gw, ow, rfl, hgw, hcw⟩ := HAW.out.1 hwl0
      have cw0 : w3.cell? ⟨gw, ow, none⟩ = some (.string w0) := by simpa using hcw 0 w0 hw0
      clear hcw hw0
      by_cases k1 : w0 = ⟨#[69, 72, 76, 79]⟩
      · have k1q : (w0.toList == [69, 72, 76, 79]) = true := lit_yes k1
        have HR : Hid (Sm.line vs d ⟨st, f, us, t⟩ l = Sm.hello ⟨st, f, us, t⟩ ws) := Lib.hid (by rw [HLW.out, if_pos k1])
        clear k1
        go_wp2_with fail
        refine Calls.mono (l21Hello_ty q st f t A us c w3 HAT3.out hcap hcm HF.out _ ws cw HAW.out HWS.out HWL.out) ?_
        rintro e w4 ⟨A4, c4, rfl, hat4, hc4, hm4, hb4⟩
        have hB4 := hB3.trans (hb4.mono hB3.size)
        have hs4 := hb4.size
        have hx2 := (hb4.block _ hs13).trans HXB.out
        have hs14 : w.heap.size + 1 < w4.heap.size := by omega
        have q0 : w4.cell? ⟨w.heap.size + 1, 0, none⟩ = some (.int .i64 0) := cell_at hx2 0 _ rfl
        have q1 : w4.cell? ⟨w.heap.size + 1, 1, none⟩ = some (.string ⟨#[]⟩) := cell_at hx2 1 _ rfl
        have q2 : w4.cell? ⟨w.heap.size + 1, 2, none⟩ = some (.slice none 0 0) := cell_at hx2 2 _ rfl
        have q3 : w4.cell? ⟨w.heap.size + 1, 3, none⟩ = some (.string ⟨#[]⟩) := cell_at hx2 3 _ rfl
        have y0 := free_at hx2 0
        have y1 := free_at hx2 1
        have y2 := free_at hx2 2
        have y3 := free_at hx2 3
        have HX4 := Lib.hid hx2
        clear hx2
        obtain ⟨R, hR⟩ : ∃ R, R = Sm.hello ⟨st, f, us, t⟩ ws := ⟨_, rfl⟩
        rw [← hR] at HR hat4 hc4 ⊢
        clear hR
        obtain ⟨⟨st4, f4, us4, t4⟩, n4⟩ := R
        unfold Sm.val
        dsimp only at HR hat4 hc4 ⊢
        go_wp2_with fail
        refine bodyPost_ret (v := .tuple #[.agg #[.int .i64 st4, .string f4, .slice A4 us4.length c4, .string t4], .int .i64 n4]) (by simp [results, Tryz.results24, go_sem, q0, q1, q2, q3]) rfl ?_
        exact Sm.res_selfT HR.out (Sm.res_setT hat4 (Sm.ok_names (s := ⟨st4, f4, us4, t4⟩) (by have := HOK.out; rw [HR.out] at this; exact this)) HX4.out _ _ _ _) hc4 hm4 (set4 hB4 (by omega) _ _ _ _)
      · have k1q : (w0.toList == [69, 72, 76, 79]) = false := lit_no k1
        by_cases k2 : w0 = ⟨#[65, 85, 84, 72]⟩
        · have k2q : (w0.toList == [65, 85, 84, 72]) = true := lit_yes k2
          have HR : Hid (Sm.line vs d ⟨st, f, us, t⟩ l = Sm.auth vs ⟨st, f, us, t⟩ ws) := Lib.hid (by rw [HLW.out, if_neg k1, if_pos k2])
          clear k1 k2
          go_wp2_with fail
          refine Calls.mono (l21Auth_ty q st f t A us c w3 HAT3.out hcap hcm Au vs cu HU3.out hvl _ ws cw HAW.out HWL.out) ?_
          rintro e w4 ⟨A4, c4, rfl, hat4, hc4, hm4, hb4⟩
          have hB4 := hB3.trans (hb4.mono hB3.size)
          have hs4 := hb4.size
          have hx2 := (hb4.block _ hs13).trans HXB.out
          have hs14 : w.heap.size + 1 < w4.heap.size := by omega
          have q0 : w4.cell? ⟨w.heap.size + 1, 0, none⟩ = some (.int .i64 0) := cell_at hx2 0 _ rfl
          have q1 : w4.cell? ⟨w.heap.size + 1, 1, none⟩ = some (.string ⟨#[]⟩) := cell_at hx2 1 _ rfl
          have q2 : w4.cell? ⟨w.heap.size + 1, 2, none⟩ = some (.slice none 0 0) := cell_at hx2 2 _ rfl
          have q3 : w4.cell? ⟨w.heap.size + 1, 3, none⟩ = some (.string ⟨#[]⟩) := cell_at hx2 3 _ rfl
          have y0 := free_at hx2 0
          have y1 := free_at hx2 1
          have y2 := free_at hx2 2
          have y3 := free_at hx2 3
          have HX4 := Lib.hid hx2
          clear hx2
          obtain ⟨R, hR⟩ : ∃ R, R = Sm.auth vs ⟨st, f, us, t⟩ ws := ⟨_, rfl⟩
          rw [← hR] at HR hat4 hc4 ⊢
          clear hR
          obtain ⟨⟨st4, f4, us4, t4⟩, n4⟩ := R
          unfold Sm.val
          dsimp only at HR hat4 hc4 ⊢
          go_wp2_with fail
          refine bodyPost_ret (v := .tuple #[.agg #[.int .i64 st4, .string f4, .slice A4 us4.length c4, .string t4], .int .i64 n4]) (by simp [results, Tryz.results24, go_sem, q0, q1, q2, q3]) rfl ?_
          exact Sm.res_selfT HR.out (Sm.res_setT hat4 (Sm.ok_names (s := ⟨st4, f4, us4, t4⟩) (by have := HOK.out; rw [HR.out] at this; exact this)) HX4.out _ _ _ _) hc4 hm4 (set4 hB4 (by omega) _ _ _ _)
        · have k2q : (w0.toList == [65, 85, 84, 72]) = false := lit_no k2
          by_cases k3 : w0 = ⟨#[77, 65, 73, 76]⟩
          · have k3q : (w0.toList == [77, 65, 73, 76]) = true := lit_yes k3
            have HR : Hid (Sm.line vs d ⟨st, f, us, t⟩ l = Sm.mail d ⟨st, f, us, t⟩ l) := Lib.hid (by rw [HLW.out, if_neg k1, if_neg k2, if_pos k3])
            clear k1 k2 k3
            go_wp2_with fail
            refine Calls.mono (l21Mail_ty q st f t A us c w3 HAT3.out hcap hcm d l hl) ?_
            rintro e w4 ⟨A4, c4, rfl, hat4, hc4, hm4, hb4⟩
            have hB4 := hB3.trans (hb4.mono hB3.size)
            have hs4 := hb4.size
            have hx2 := (hb4.block _ hs13).trans HXB.out
            have hs14 : w.heap.size + 1 < w4.heap.size := by omega
            have q0 : w4.cell? ⟨w.heap.size + 1, 0, none⟩ = some (.int .i64 0) := cell_at hx2 0 _ rfl
            have q1 : w4.cell? ⟨w.heap.size + 1, 1, none⟩ = some (.string ⟨#[]⟩) := cell_at hx2 1 _ rfl
            have q2 : w4.cell? ⟨w.heap.size + 1, 2, none⟩ = some (.slice none 0 0) := cell_at hx2 2 _ rfl
            have q3 : w4.cell? ⟨w.heap.size + 1, 3, none⟩ = some (.string ⟨#[]⟩) := cell_at hx2 3 _ rfl
            have y0 := free_at hx2 0
            have y1 := free_at hx2 1
            have y2 := free_at hx2 2
            have y3 := free_at hx2 3
            have HX4 := Lib.hid hx2
            clear hx2
            obtain ⟨R, hR⟩ : ∃ R, R = Sm.mail d ⟨st, f, us, t⟩ l := ⟨_, rfl⟩
            rw [← hR] at HR hat4 hc4 ⊢
            clear hR
            obtain ⟨⟨st4, f4, us4, t4⟩, n4⟩ := R
            unfold Sm.val
            dsimp only at HR hat4 hc4 ⊢
            go_wp2_with fail
            refine bodyPost_ret (v := .tuple #[.agg #[.int .i64 st4, .string f4, .slice A4 us4.length c4, .string t4], .int .i64 n4]) (by simp [results, Tryz.results24, go_sem, q0, q1, q2, q3]) rfl ?_
            exact Sm.res_selfT HR.out (Sm.res_setT hat4 (Sm.ok_names (s := ⟨st4, f4, us4, t4⟩) (by have := HOK.out; rw [HR.out] at this; exact this)) HX4.out _ _ _ _) hc4 hm4 (set4 hB4 (by omega) _ _ _ _)
          · have k3q : (w0.toList == [77, 65, 73, 76]) = false := lit_no k3
            by_cases k4 : w0 = ⟨#[82, 67, 80, 84]⟩
            · have k4q : (w0.toList == [82, 67, 80, 84]) = true := lit_yes k4
              have HR : Hid (Sm.line vs d ⟨st, f, us, t⟩ l = Sm.rcpt vs d ⟨st, f, us, t⟩ l) := Lib.hid (by rw [HLW.out, if_neg k1, if_neg k2, if_neg k3, if_pos k4])
              clear k1 k2 k3 k4
              go_wp2_with fail
              refine Calls.mono (l21To_ty (hqq := Nat.lt_of_lt_of_le hqq hB3.size) q st f t A us c w3 HAT3.out hcap hcm Au vs cu HU3.out hvl d l hl) ?_
              rintro e w4 ⟨A4, c4, rfl, hat4, hc4, hm4, hb4⟩
              have hB4 := hB3.trans (hb4.mono hB3.size)
              have hs4 := hb4.size
              have hx2 := (hb4.block _ hs13).trans HXB.out
              have hs14 : w.heap.size + 1 < w4.heap.size := by omega
              have q0 : w4.cell? ⟨w.heap.size + 1, 0, none⟩ = some (.int .i64 0) := cell_at hx2 0 _ rfl
              have q1 : w4.cell? ⟨w.heap.size + 1, 1, none⟩ = some (.string ⟨#[]⟩) := cell_at hx2 1 _ rfl
              have q2 : w4.cell? ⟨w.heap.size + 1, 2, none⟩ = some (.slice none 0 0) := cell_at hx2 2 _ rfl
              have q3 : w4.cell? ⟨w.heap.size + 1, 3, none⟩ = some (.string ⟨#[]⟩) := cell_at hx2 3 _ rfl
              have y0 := free_at hx2 0
              have y1 := free_at hx2 1
              have y2 := free_at hx2 2
              have y3 := free_at hx2 3
              have HX4 := Lib.hid hx2
              clear hx2
              obtain ⟨R, hR⟩ : ∃ R, R = Sm.rcpt vs d ⟨st, f, us, t⟩ l := ⟨_, rfl⟩
              rw [← hR] at HR hat4 hc4 ⊢
              clear hR
              obtain ⟨⟨st4, f4, us4, t4⟩, n4⟩ := R
              unfold Sm.val
              dsimp only at HR hat4 hc4 ⊢
              go_wp2_with fail
              refine bodyPost_ret (v := .tuple #[.agg #[.int .i64 st4, .string f4, .slice A4 us4.length c4, .string t4], .int .i64 n4]) (by simp [results, Tryz.results24, go_sem, q0, q1, q2, q3]) rfl ?_
              exact Sm.res_selfT HR.out (Sm.res_setT hat4 (Sm.ok_names (s := ⟨st4, f4, us4, t4⟩) (by have := HOK.out; rw [HR.out] at this; exact this)) HX4.out _ _ _ _) hc4 hm4 (set4 hB4 (by omega) _ _ _ _)
            · have k4q : (w0.toList == [82, 67, 80, 84]) = false := lit_no k4
              have HLP : Hid (Sm.line vs d ⟨st, f, us, t⟩ l = if l = ⟨#[68, 65, 84, 65]⟩ then (if st = 4 then (⟨5, f, us, t⟩, (354 : Int)) else (⟨st, f, us, t⟩, 503)) else if l = ⟨#[82, 83, 69, 84]⟩ then (Sm.back ⟨st, f, us, t⟩, 250) else if l = ⟨#[78, 79, 79, 80]⟩ then (⟨st, f, us, t⟩, 250) else if l = ⟨#[81, 85, 73, 84]⟩ then (⟨6, Sm.e0, [], Sm.e0⟩, 221) else (⟨st, f, us, t⟩, 500)) := Lib.hid (by rw [HLW.out, if_neg k1, if_neg k2, if_neg k3, if_neg k4]; rfl)
              clear k1 k2 k3 k4
              by_cases m1 : l = ⟨#[68, 65, 84, 65]⟩
              · have m1q : (l.toList == [68, 65, 84, 65]) = true := lit_yes m1
                by_cases h4 : st = 4
                · have HR : Hid (Sm.line vs d ⟨st, f, us, t⟩ l = (⟨5, f, us, t⟩, 354)) := Lib.hid (by rw [HLP.out, if_pos m1, if_pos h4])
                  have h4i : (st == 4) = true := by simpa using h4
                  clear m1 h4
                  have HBX : Hid (∀ v0 v1 v2 v3 v4, Below w.heap.size w (((((w3.setCell ⟨w.heap.size, 0, none⟩ v4).setCell ⟨w.heap.size + 1, 0, none⟩ v0).setCell ⟨w.heap.size + 1, 1, none⟩ v1).setCell ⟨w.heap.size + 1, 2, none⟩ v2).setCell ⟨w.heap.size + 1, 3, none⟩ v3)) := Lib.hid fun v0 v1 v2 v3 v4 => set4 (hB3.setCell (p := ⟨w.heap.size, 0, none⟩) (Nat.le_refl _) _) (by omega) _ _ _ _
                  go_wp2_with fail
                  refine bodyPost_ret (v := .tuple #[.agg #[.int .i64 5, .string f, .slice A us.length c, .string t], .int .i64 354]) (by simp [results, Tryz.results24, go_sem, r0, r1, r2, r3]) rfl ?_
                  exact Sm.res_selfT (s := ⟨5, f, us, t⟩) HR.out (HW.out _ (HBX.out _ _ _ _ _)) hcap hcm (HBX.out _ _ _ _ _)
                · have HR : Hid (Sm.line vs d ⟨st, f, us, t⟩ l = (⟨st, f, us, t⟩, 503)) := Lib.hid (by rw [HLP.out, if_pos m1, if_neg h4])
                  have h4i : (st == 4) = false := by simpa using h4
                  clear m1 h4
                  go_wp2_with fail
                  refine bodyPost_ret (v := .tuple #[.agg #[.int .i64 st, .string f, .slice A us.length c, .string t], .int .i64 503]) (by simp [results, Tryz.results24, go_sem, r0, r1, r2, r3]) rfl ?_
                  exact Sm.res_selfT HR.out (HW.out _ (HBT.out _ _ _ _)) hcap hcm (HBT.out _ _ _ _)
              · have m1q : (l.toList == [68, 65, 84, 65]) = false := lit_no m1
                by_cases m2 : l = ⟨#[82, 83, 69, 84]⟩
                · have m2q : (l.toList == [82, 83, 69, 84]) = true := lit_yes m2
                  have HR : Hid (Sm.line vs d ⟨st, f, us, t⟩ l = (Sm.back ⟨st, f, us, t⟩, 250)) := Lib.hid (by rw [HLP.out, if_neg m1, if_pos m2])
                  clear m1 m2
                  go_wp2_with fail
                  refine Calls.mono (l21Back_any st f t A c us HF.out _) ?_
                  rintro e w5 ⟨g5, rfl, hb5⟩
                  have hs5 := hb5.size
                  have hB5 := hB3.trans (hb5.mono hB3.size)
                  have hx5 := (hb5.block (w.heap.size + 1) (by omega)).trans HXB.out
                  have q0 : w5.cell? ⟨w.heap.size + 1, 0, none⟩ = some (.int .i64 0) := cell_at hx5 0 _ rfl
                  have q1 : w5.cell? ⟨w.heap.size + 1, 1, none⟩ = some (.string ⟨#[]⟩) := cell_at hx5 1 _ rfl
                  have q2 : w5.cell? ⟨w.heap.size + 1, 2, none⟩ = some (.slice none 0 0) := cell_at hx5 2 _ rfl
                  have q3 : w5.cell? ⟨w.heap.size + 1, 3, none⟩ = some (.string ⟨#[]⟩) := cell_at hx5 3 _ rfl
                  have y0 := free_at hx5 0
                  have y1 := free_at hx5 1
                  have y2 := free_at hx5 2
                  have y3 := free_at hx5 3
                  go_wp2_with fail
                  refine bodyPost_ret (v := .tuple #[.agg #[.int .i64 (Sm.back ⟨st, f, us, t⟩).st, .string (Sm.back ⟨st, f, us, t⟩).user, .slice (some ⟨g5, 0, none⟩) 0 0, .string ⟨#[]⟩], .int .i64 250]) (by simp [results, Tryz.results24, go_sem, q0, q1, q2, q3]) rfl ?_
                  exact Sm.res_backT HR.out (set4 hB5 (by omega) _ _ _ _)
                · have m2q : (l.toList == [82, 83, 69, 84]) = false := lit_no m2
                  by_cases m3 : l = ⟨#[78, 79, 79, 80]⟩
                  · have m3q : (l.toList == [78, 79, 79, 80]) = true := lit_yes m3
                    have HR : Hid (Sm.line vs d ⟨st, f, us, t⟩ l = (⟨st, f, us, t⟩, 250)) := Lib.hid (by rw [HLP.out, if_neg m1, if_neg m2, if_pos m3])
                    clear m1 m2 m3
                    go_wp2_with fail
                    refine bodyPost_ret (v := .tuple #[.agg #[.int .i64 st, .string f, .slice A us.length c, .string t], .int .i64 250]) (by simp [results, Tryz.results24, go_sem, r0, r1, r2, r3]) rfl ?_
                    exact Sm.res_selfT HR.out (HW.out _ (HBT.out _ _ _ _)) hcap hcm (HBT.out _ _ _ _)
                  · have m3q : (l.toList == [78, 79, 79, 80]) = false := lit_no m3
                    by_cases m4 : l = ⟨#[81, 85, 73, 84]⟩
                    · have m4q : (l.toList == [81, 85, 73, 84]) = true := lit_yes m4
                      have HR : Hid (Sm.line vs d ⟨st, f, us, t⟩ l = (⟨6, Sm.e0, [], Sm.e0⟩, 221)) := Lib.hid (by rw [HLP.out, if_neg m1, if_neg m2, if_neg m3, if_pos m4])
                      clear m1 m2 m3 m4
                      go_wp2_with fail
                      refine bodyPost_ret (v := .tuple #[.agg #[.int .i64 6, .string ⟨#[]⟩, .slice (some ⟨w3.heap.size, 0, none⟩) 0 0, .string ⟨#[]⟩], .int .i64 221]) (by simp [results, Tryz.results24, go_sem, r0, r1, r2, r3, hs13]) rfl ?_
                      rw [HR.out]
                      exact ⟨some ⟨w3.heap.size, 0, none⟩, 0, rfl, AtTy.nil, Nat.le_refl _, Nat.zero_le _, (set4 hB3 (by omega) _ _ _ _).alloc (by simp; omega) _⟩
                    · have m4q : (l.toList == [81, 85, 73, 84]) = false := lit_no m4
                      have HR : Hid (Sm.line vs d ⟨st, f, us, t⟩ l = (⟨st, f, us, t⟩, 500)) := Lib.hid (by rw [HLP.out, if_neg m1, if_neg m2, if_neg m3, if_neg m4])
                      clear m1 m2 m3 m4
                      go_wp2_with fail
                      refine bodyPost_ret (v := .tuple #[.agg #[.int .i64 st, .string f, .slice A us.length c, .string t], .int .i64 500]) (by simp [results, Tryz.results24, go_sem, r0, r1, r2, r3]) rfl ?_
                      exact Sm.res_selfT HR.out (HW.out _ (HBT.out _ _ _ _)) hcap hcm (HBT.out _ _ _ _)
end Go.Proofs.YtpjifcljkgcnlaaGreatDoor
