/- l21Mail of the specification. (Printed by mksmc.py.) -/
import Derived.Test.YtnbggmmghopphaaSmC
namespace Go.Proofs.Ytnbggmmghopphaa
set_option linter.unusedVariables false
open Go.RowKit
open Us (U)

set_option maxRecDepth 100000 in
set_option maxHeartbeats 1600000 in
theorem l21Mail_any (st : Int) (f t : ByteArray) (A : Option Addr) (us : List ByteArray) (c : Nat) (w : World) (h : AtStrs w w.heap.size A us) (hcap : us.length ≤ c) (hcm : c ≤ maxLen) (d l : ByteArray) (hl : l.size ≤ 16777216) :
    Calls Try.prog 44 #[.agg #[.int .i64 st, .string f, .slice A us.length c, .string t], .string d, .string l] w (Sm.Res (Sm.mail d ⟨st, f, us, t⟩ l) w) := by
  have HW : Hid (∀ w', Below w.heap.size w w' → AtStrs w' w'.heap.size A us) := Lib.hid fun w' hb => (h.below hb).mono hb.size
  have HM : Hid (Sm.mail d ⟨st, f, us, t⟩ l = if st < 2 then (Sm.S.mk st f us t, (530 : Int)) else if ¬ st = 2 then (Sm.S.mk st f us t, (503 : Int)) else match Pa.behind Sm.begF l.data.toList with | some (a, b) => if Ct.mk a = f ∧ Ct.mk b = d then (Sm.S.mk 3 f us t, (250 : Int)) else (Sm.S.mk st f us t, (550 : Int)) | none => (Sm.S.mk st f us t, (501 : Int))) := Lib.hid rfl
  obtain ⟨hx1, hx2, hB, hsz⟩ := two_boxes w (.cells #[.int .i64 st, .string f, .slice A us.length c, .string t] 25) (.cells #[.int .i64 0, .string ⟨#[]⟩, .slice none 0 0, .string ⟨#[]⟩] 25)
  go_enter Try.func44, Try.ntmps44
  go_upto_region 1 with fail
  generalize ((w.alloc (.cells #[.int .i64 st, .string f, .slice A us.length c, .string t] 25)).alloc (.cells #[.int .i64 0, .string ⟨#[]⟩, .slice none 0 0, .string ⟨#[]⟩] 25)) = W at hx1 hx2 hB hsz ⊢
  have hs0 : w.heap.size < W.heap.size := by omega
  have hs1 : w.heap.size + 1 < W.heap.size := by omega
  have HX1 := Lib.hid hx1
  have HX2 := Lib.hid hx2
  clear hx1 hx2
  go_wp2_with fail
  refine Calls.mono (l21Path_any l ⟨#[77, 65, 73, 76, 32, 70, 82, 79, 77, 58]⟩ hl (by decide) _) ?_
  rintro e w3 ⟨rfl, hb3⟩
  have hB3 := hB.trans (hb3.mono hB.size)
  have hs3 := hb3.size
  have hx1 := (hb3.block _ hs0).trans HX1.out
  have hx2 := (hb3.block _ hs1).trans HX2.out
  have hs03 : w.heap.size < w3.heap.size := by omega
  have hs13 : w.heap.size + 1 < w3.heap.size := by omega
  have d0 : w3.cell? ⟨w.heap.size, 0, none⟩ = some (.int .i64 st) := cell_at hx1 0 _ rfl
  have d1 : w3.cell? ⟨w.heap.size, 1, none⟩ = some (.string f) := cell_at hx1 1 _ rfl
  have d2 : w3.cell? ⟨w.heap.size, 2, none⟩ = some (.slice A us.length c) := cell_at hx1 2 _ rfl
  have d3 : w3.cell? ⟨w.heap.size, 3, none⟩ = some (.string t) := cell_at hx1 3 _ rfl
  have e0 := free_at hx1 0
  have e1 := free_at hx1 1
  have e2 := free_at hx1 2
  have e3 := free_at hx1 3
  have r0 : w3.cell? ⟨w.heap.size + 1, 0, none⟩ = some (.int .i64 0) := cell_at hx2 0 _ rfl
  have r1 : w3.cell? ⟨w.heap.size + 1, 1, none⟩ = some (.string ⟨#[]⟩) := cell_at hx2 1 _ rfl
  have r2 : w3.cell? ⟨w.heap.size + 1, 2, none⟩ = some (.slice none 0 0) := cell_at hx2 2 _ rfl
  have r3 : w3.cell? ⟨w.heap.size + 1, 3, none⟩ = some (.string ⟨#[]⟩) := cell_at hx2 3 _ rfl
  have z0 := free_at hx2 0
  have z1 := free_at hx2 1
  have z2 := free_at hx2 2
  have z3 := free_at hx2 3
  have HVB : Hid (Pa.behind (ByteArray.mk #[77, 65, 73, 76, 32, 70, 82, 79, 77, 58]).data.toList l.data.toList = Pa.behind Sm.begF l.data.toList) := Lib.hid rfl
  rw [HVB.out]
  have HBS : Hid (∀ v0 v1 v2 v3 o, Below w.heap.size w (((((w3.setCell ⟨w.heap.size + 1, 0, none⟩ v0).setCell ⟨w.heap.size + 1, 1, none⟩ v1).setCell ⟨w.heap.size + 1, 2, none⟩ v2).setCell ⟨w.heap.size + 1, 3, none⟩ v3).alloc o)) := Lib.hid fun v0 v1 v2 v3 o => (set4 hB3 (by omega) _ _ _ _).alloc (by simp; omega) _
  cases hp : Pa.behind Sm.begF l.data.toList with
  | none =>
    have HPV : Hid (Pa.val none = .tuple #[.agg #[.string ⟨#[]⟩, .string ⟨#[]⟩], .bool false]) := Lib.hid rfl
    rw [HPV.out]
    by_cases h2 : st < 2
    · have HR : Hid (Sm.mail d ⟨st, f, us, t⟩ l = (⟨st, f, us, t⟩, 530)) := Lib.hid (by rw [HM.out, if_pos h2])
      clear hp
      go_wp2_with fail
      refine bodyPost_ret (v := .tuple #[.agg #[.int .i64 st, .string f, .slice A us.length c, .string t], .int .i64 530]) (by simp [results, Try.results44, go_sem, r0, r1, r2, r3, hs13]) rfl ?_
      exact Sm.res_self HR.out (HW.out _ (HBS.out _ _ _ _ _)) hcap hcm (HBS.out _ _ _ _ _)
    · by_cases h22 : st = 2
      · have HR : Hid (Sm.mail d ⟨st, f, us, t⟩ l = (⟨st, f, us, t⟩, 501)) := Lib.hid (by rw [HM.out, if_neg h2, if_neg (by simpa using h22), hp])
        clear hp h2
        subst h22
        go_wp2_with fail
        refine bodyPost_ret (v := .tuple #[.agg #[.int .i64 2, .string f, .slice A us.length c, .string t], .int .i64 501]) (by simp [results, Try.results44, go_sem, r0, r1, r2, r3, hs13]) rfl ?_
        exact Sm.res_self HR.out (HW.out _ (HBS.out _ _ _ _ _)) hcap hcm (HBS.out _ _ _ _ _)
      · have h22i : (st == 2) = false := by simpa using h22
        have HR : Hid (Sm.mail d ⟨st, f, us, t⟩ l = (⟨st, f, us, t⟩, 503)) := Lib.hid (by rw [HM.out, if_neg h2, if_pos h22])
        clear hp
        go_wp2_with fail
        refine bodyPost_ret (v := .tuple #[.agg #[.int .i64 st, .string f, .slice A us.length c, .string t], .int .i64 503]) (by simp [results, Try.results44, go_sem, r0, r1, r2, r3, hs13]) rfl ?_
        exact Sm.res_self HR.out (HW.out _ (HBS.out _ _ _ _ _)) hcap hcm (HBS.out _ _ _ _ _)
  | some ab =>
    obtain ⟨a, b⟩ := ab
    obtain ⟨x, HX⟩ : ∃ x : ByteArray, Hid (Ct.mk a = x) := ⟨_, Lib.hid rfl⟩
    obtain ⟨y, HY⟩ : ∃ y : ByteArray, Hid (Ct.mk b = y) := ⟨_, Lib.hid rfl⟩
    have HPV : Hid (Pa.val (some (a, b)) = .tuple #[.agg #[.string x, .string y], .bool true]) := Lib.hid (by rw [← HX.out, ← HY.out]; rfl)
    rw [HPV.out]
    by_cases h2 : st < 2
    · have HR : Hid (Sm.mail d ⟨st, f, us, t⟩ l = (⟨st, f, us, t⟩, 530)) := Lib.hid (by rw [HM.out, if_pos h2])
      clear hp
      go_wp2_with fail
      refine bodyPost_ret (v := .tuple #[.agg #[.int .i64 st, .string f, .slice A us.length c, .string t], .int .i64 530]) (by simp [results, Try.results44, go_sem, r0, r1, r2, r3, hs13]) rfl ?_
      exact Sm.res_self HR.out (HW.out _ (HBS.out _ _ _ _ _)) hcap hcm (HBS.out _ _ _ _ _)
    · by_cases h22 : st = 2
      · have HC : Hid (Sm.mail d ⟨st, f, us, t⟩ l = if x = f ∧ y = d then (Sm.S.mk 3 f us t, (250 : Int)) else (Sm.S.mk st f us t, (550 : Int))) := Lib.hid (by rw [HM.out, if_neg h2, if_neg (by simpa using h22), hp]; dsimp only; rw [HX.out, HY.out])
        clear hp h2
        subst h22
        by_cases hxf : x = f
        · by_cases hyd : y = d
          · have HR := Lib.hid (HC.out.trans (if_pos ⟨hxf, hyd⟩))
            have q1 := two_yes hxf
            have q2 := two_yes hyd
            clear hxf hyd
            go_wp2_with fail
            refine bodyPost_ret (v := .tuple #[.agg #[.int .i64 3, .string f, .slice A us.length c, .string t], .int .i64 250]) (by simp [results, Try.results44, go_sem, r0, r1, r2, r3, hs13]) rfl ?_
            have HBX : ∀ v0 v1 v2 v3 v4 o, Below w.heap.size w ((((((w3.setCell ⟨w.heap.size, 0, none⟩ v4).setCell ⟨w.heap.size + 1, 0, none⟩ v0).setCell ⟨w.heap.size + 1, 1, none⟩ v1).setCell ⟨w.heap.size + 1, 2, none⟩ v2).setCell ⟨w.heap.size + 1, 3, none⟩ v3).alloc o) := fun v0 v1 v2 v3 v4 o => (set4 (hB3.setCell (p := ⟨w.heap.size, 0, none⟩) (Nat.le_refl _) _) (by omega) _ _ _ _).alloc (by simp; omega) _
            exact Sm.res_self (s := ⟨3, f, us, t⟩) HR.out (HW.out _ (HBX _ _ _ _ _ _)) hcap hcm (HBX _ _ _ _ _ _)
          · have HR := Lib.hid (HC.out.trans (if_neg (fun h => hyd h.2)))
            have q1 := two_yes hxf
            have q2 := two_no hyd
            clear hxf hyd
            go_wp2_with fail
            refine bodyPost_ret (v := .tuple #[.agg #[.int .i64 2, .string f, .slice A us.length c, .string t], .int .i64 550]) (by simp [results, Try.results44, go_sem, r0, r1, r2, r3, hs13]) rfl ?_
            exact Sm.res_self HR.out (HW.out _ (HBS.out _ _ _ _ _)) hcap hcm (HBS.out _ _ _ _ _)
        · have HR := Lib.hid (HC.out.trans (if_neg (fun h => hxf h.1)))
          have q1 := two_no hxf
          clear hxf
          go_wp2_with fail
          refine bodyPost_ret (v := .tuple #[.agg #[.int .i64 2, .string f, .slice A us.length c, .string t], .int .i64 550]) (by simp [results, Try.results44, go_sem, r0, r1, r2, r3, hs13]) rfl ?_
          exact Sm.res_self HR.out (HW.out _ (HBS.out _ _ _ _ _)) hcap hcm (HBS.out _ _ _ _ _)
      · have h22i : (st == 2) = false := by simpa using h22
        have HR : Hid (Sm.mail d ⟨st, f, us, t⟩ l = (⟨st, f, us, t⟩, 503)) := Lib.hid (by rw [HM.out, if_neg h2, if_pos h22])
        clear hp
        go_wp2_with fail
        refine bodyPost_ret (v := .tuple #[.agg #[.int .i64 st, .string f, .slice A us.length c, .string t], .int .i64 503]) (by simp [results, Try.results44, go_sem, r0, r1, r2, r3, hs13]) rfl ?_
        exact Sm.res_self HR.out (HW.out _ (HBS.out _ _ _ _ _)) hcap hcm (HBS.out _ _ _ _ _)
end Go.Proofs.Ytnbggmmghopphaa
