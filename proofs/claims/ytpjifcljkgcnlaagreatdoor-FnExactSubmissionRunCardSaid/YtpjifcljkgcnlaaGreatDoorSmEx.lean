/- SmEx: SmD SmE SmH, in one text. -/
import Derived.Test.YtpjifcljkgcnlaaGreatDoorSmA
import Derived.Deep.RegionLaw
import Derived.Test.YtpjifcljkgcnlaaGreatDoorSmX
import Derived.Test.YtpjifcljkgcnlaaGreatDoorSmP
namespace Go.Proofs.YtpjifcljkgcnlaaGreatDoor
set_option linter.unusedVariables false
open Go.RowKit
open Us (U)

set_option maxRecDepth 100000 in
set_option maxHeartbeats 1600000 in
theorem l21Mail_any (st : Int) (f t : ByteArray) (A : Option Addr) (us : List ByteArray) (c : Nat) (w : World) (h : AtStrs w w.heap.size A us) (hcap : us.length ≤ c) (hcm : c ≤ maxLen) (d l : ByteArray) (hl : l.size ≤ 16777216) :
    Calls Tryz.prog 41 #[.agg #[.int .i64 st, .string f, .slice A us.length c, .string t], .string d, .string l] w (Sm.Res (Sm.mail d ⟨st, f, us, t⟩ l) w) := by
  have HW : Hid (∀ w', Below w.heap.size w w' → AtStrs w' w'.heap.size A us) := Lib.hid fun w' hb => (h.below hb).mono hb.size
  have HM : Hid (Sm.mail d ⟨st, f, us, t⟩ l = if st < 2 then (Sm.S.mk st f us t, (530 : Int)) else if ¬ st = 2 then (Sm.S.mk st f us t, (503 : Int)) else match Pa.behind Sm.begF l.data.toList with | some (a, b) => if Ct.mk a = f ∧ Ct.mk b = d then (Sm.S.mk 3 f us t, (250 : Int)) else (Sm.S.mk st f us t, (550 : Int)) | none => (Sm.S.mk st f us t, (501 : Int))) := Lib.hid rfl
  obtain ⟨hx1, hx2, hB, hsz⟩ := two_boxes w (.cells #[.int .i64 st, .string f, .slice A us.length c, .string t] 45) (.cells #[.int .i64 0, .string ⟨#[]⟩, .slice none 0 0, .string ⟨#[]⟩] 45)
  go_enter Tryz.func41, Tryz.ntmps41
  go_upto_region 1 with fail
  generalize ((w.alloc (.cells #[.int .i64 st, .string f, .slice A us.length c, .string t] 45)).alloc (.cells #[.int .i64 0, .string ⟨#[]⟩, .slice none 0 0, .string ⟨#[]⟩] 45)) = W at hx1 hx2 hB hsz ⊢
  have hs0 : w.heap.size < W.heap.size := by omega
  have hs1 : w.heap.size + 1 < W.heap.size := by omega
  have HX1 := Lib.hid hx1
  have HX2 := Lib.hid hx2
  clear hx1 hx2
  go_wp2_with fail
  refine Calls.mono (l21Path_any l ⟨#[77, 65, 73, 76, 32, 70, 82, 79, 77, 58]⟩ hl (by decide) _) ?_
  rintro e w3 ⟨rfl, hb3⟩
  have hB3 := hB.trans (hb3.mono hB.size)
  have hs3 := hb3.size
  have hx1 := (hb3.block _ hs0).trans HX1.out
  have hx2 := (hb3.block _ hs1).trans HX2.out
  have hs03 : w.heap.size < w3.heap.size := by omega
  have hs13 : w.heap.size + 1 < w3.heap.size := by omega
  have d0 : w3.cell? ⟨w.heap.size, 0, none⟩ = some (.int .i64 st) := cell_at hx1 0 _ rfl
  have d1 : w3.cell? ⟨w.heap.size, 1, none⟩ = some (.string f) := cell_at hx1 1 _ rfl
  have d2 : w3.cell? ⟨w.heap.size, 2, none⟩ = some (.slice A us.length c) := cell_at hx1 2 _ rfl
  have d3 : w3.cell? ⟨w.heap.size, 3, none⟩ = some (.string t) := cell_at hx1 3 _ rfl
  have e0 := free_at hx1 0
  have e1 := free_at hx1 1
  have e2 := free_at hx1 2
  have e3 := free_at hx1 3
  have r0 : w3.cell? ⟨w.heap.size + 1, 0, none⟩ = some (.int .i64 0) := cell_at hx2 0 _ rfl
  have r1 : w3.cell? ⟨w.heap.size + 1, 1, none⟩ = some (.string ⟨#[]⟩) := cell_at hx2 1 _ rfl
  have r2 : w3.cell? ⟨w.heap.size + 1, 2, none⟩ = some (.slice none 0 0) := cell_at hx2 2 _ rfl
  have r3 : w3.cell? ⟨w.heap.size + 1, 3, none⟩ = some (.string ⟨#[]⟩) := cell_at hx2 3 _ rfl
  have z0 := free_at hx2 0
  have z1 := free_at hx2 1
  have z2 := free_at hx2 2
  have z3 := free_at hx2 3
  have HVB : Hid (Pa.behind (ByteArray.mk #[77, 65, 73, 76, 32, 70, 82, 79, 77, 58]).data.toList l.data.toList = Pa.behind Sm.begF l.data.toList) := Lib.hid rfl
  rw [HVB.out]
  have HBS : Hid (∀ v0 v1 v2 v3 o, Below w.heap.size w (((((w3.setCell ⟨w.heap.size + 1, 0, none⟩ v0).setCell ⟨w.heap.size + 1, 1, none⟩ v1).setCell ⟨w.heap.size + 1, 2, none⟩ v2).setCell ⟨w.heap.size + 1, 3, none⟩ v3).alloc o)) := Lib.hid fun v0 v1 v2 v3 o => (set4 hB3 (by omega) _ _ _ _).alloc (by simp; omega) _
  cases hp : Pa.behind Sm.begF l.data.toList with
  | none =>
    have HPV : Hid (Pa.val none = .tuple #[.agg #[.string ⟨#[]⟩, .string ⟨#[]⟩], .bool false]) := Lib.hid rfl
    rw [HPV.out]
    by_cases h2 : st < 2
    · have HR : Hid (Sm.mail d ⟨st, f, us, t⟩ l = (⟨st, f, us, t⟩, 530)) := Lib.hid (by rw [HM.out, if_pos h2])
      clear hp
      go_wp2_with fail
      refine bodyPost_ret (v := .tuple #[.agg #[.int .i64 st, .string f, .slice A us.length c, .string t], .int .i64 530]) (by simp [results, Tryz.results41, go_sem, r0, r1, r2, r3, hs13]) rfl ?_
      exact Sm.res_self HR.out (HW.out _ (HBS.out _ _ _ _ _)) hcap hcm (HBS.out _ _ _ _ _)
    · by_cases h22 : st = 2
      · have HR : Hid (Sm.mail d ⟨st, f, us, t⟩ l = (⟨st, f, us, t⟩, 501)) := Lib.hid (by rw [HM.out, if_neg h2, if_neg (by simpa using h22), hp])
        clear hp h2
        subst h22
        go_wp2_with fail
        refine bodyPost_ret (v := .tuple #[.agg #[.int .i64 2, .string f, .slice A us.length c, .string t], .int .i64 501]) (by simp [results, Tryz.results41, go_sem, r0, r1, r2, r3, hs13]) rfl ?_
        exact Sm.res_self HR.out (HW.out _ (HBS.out _ _ _ _ _)) hcap hcm (HBS.out _ _ _ _ _)
      · have h22i : (st == 2) = false := by simpa using h22
        have HR : Hid (Sm.mail d ⟨st, f, us, t⟩ l = (⟨st, f, us, t⟩, 503)) := Lib.hid (by rw [HM.out, if_neg h2, if_pos h22])
        clear hp
        go_wp2_with fail
        refine bodyPost_ret (v := .tuple #[.agg #[.int .i64 st, .string f, .slice A us.length c, .string t], .int .i64 503]) (by simp [results, Tryz.results41, go_sem, r0, r1, r2, r3, hs13]) rfl ?_
        exact Sm.res_self HR.out (HW.out _ (HBS.out _ _ _ _ _)) hcap hcm (HBS.out _ _ _ _ _)
  | some ab =>
    obtain ⟨a, b⟩ := ab
    obtain ⟨x, HX⟩ : ∃ x : ByteArray, Hid (Ct.mk a = x) := ⟨_, Lib.hid rfl⟩
    obtain ⟨y, HY⟩ : ∃ y : ByteArray, Hid (Ct.mk b = y) := ⟨_, Lib.hid rfl⟩
    have HPV : Hid (Pa.val (some (a, b)) = .tuple #[.agg #[.string x, .string y], .bool true]) := Lib.hid (by rw [← HX.out, ← HY.out]; rfl)
    rw [HPV.out]
    by_cases h2 : st < 2
    · have HR : Hid (Sm.mail d ⟨st, f, us, t⟩ l = (⟨st, f, us, t⟩, 530)) := Lib.hid (by rw [HM.out, if_pos h2])
      clear hp
      go_wp2_with fail
      refine bodyPost_ret (v := .tuple #[.agg #[.int .i64 st, .string f, .slice A us.length c, .string t], .int .i64 530]) (by simp [results, Tryz.results41, go_sem, r0, r1, r2, r3, hs13]) rfl ?_
      exact Sm.res_self HR.out (HW.out _ (HBS.out _ _ _ _ _)) hcap hcm (HBS.out _ _ _ _ _)
    · by_cases h22 : st = 2
      · have HC : Hid (Sm.mail d ⟨st, f, us, t⟩ l = if x = f ∧ y = d then (Sm.S.mk 3 f us t, (250 : Int)) else (Sm.S.mk st f us t, (550 : Int))) := Lib.hid (by rw [HM.out, if_neg h2, if_neg (by simpa using h22), hp]; dsimp only; rw [HX.out, HY.out])
        clear hp h2
        subst h22
        by_cases hxf : x = f
        · by_cases hyd : y = d
          · have HR := Lib.hid (HC.out.trans (if_pos ⟨hxf, hyd⟩))
            have q1 := two_yes hxf
            have q2 := two_yes hyd
            clear hxf hyd
            go_wp2_with fail
            refine bodyPost_ret (v := .tuple #[.agg #[.int .i64 3, .string f, .slice A us.length c, .string t], .int .i64 250]) (by simp [results, Tryz.results41, go_sem, r0, r1, r2, r3, hs13]) rfl ?_
            have HBX : ∀ v0 v1 v2 v3 v4 o, Below w.heap.size w ((((((w3.setCell ⟨w.heap.size, 0, none⟩ v4).setCell ⟨w.heap.size + 1, 0, none⟩ v0).setCell ⟨w.heap.size + 1, 1, none⟩ v1).setCell ⟨w.heap.size + 1, 2, none⟩ v2).setCell ⟨w.heap.size + 1, 3, none⟩ v3).alloc o) := fun v0 v1 v2 v3 v4 o => (set4 (hB3.setCell (p := ⟨w.heap.size, 0, none⟩) (Nat.le_refl _) _) (by omega) _ _ _ _).alloc (by simp; omega) _
            exact Sm.res_self (s := ⟨3, f, us, t⟩) HR.out (HW.out _ (HBX _ _ _ _ _ _)) hcap hcm (HBX _ _ _ _ _ _)
          · have HR := Lib.hid (HC.out.trans (if_neg (fun h => hyd h.2)))
            have q1 := two_yes hxf
            have q2 := two_no hyd
            clear hxf hyd
            go_wp2_with fail
            refine bodyPost_ret (v := .tuple #[.agg #[.int .i64 2, .string f, .slice A us.length c, .string t], .int .i64 550]) (by simp [results, Tryz.results41, go_sem, r0, r1, r2, r3, hs13]) rfl ?_
            exact Sm.res_self HR.out (HW.out _ (HBS.out _ _ _ _ _)) hcap hcm (HBS.out _ _ _ _ _)
        · have HR := Lib.hid (HC.out.trans (if_neg (fun h => hxf h.1)))
          have q1 := two_no hxf
          clear hxf
          go_wp2_with fail
          refine bodyPost_ret (v := .tuple #[.agg #[.int .i64 2, .string f, .slice A us.length c, .string t], .int .i64 550]) (by simp [results, Tryz.results41, go_sem, r0, r1, r2, r3, hs13]) rfl ?_
          exact Sm.res_self HR.out (HW.out _ (HBS.out _ _ _ _ _)) hcap hcm (HBS.out _ _ _ _ _)
      · have h22i : (st == 2) = false := by simpa using h22
        have HR : Hid (Sm.mail d ⟨st, f, us, t⟩ l = (⟨st, f, us, t⟩, 503)) := Lib.hid (by rw [HM.out, if_neg h2, if_pos h22])
        clear hp
        go_wp2_with fail
        refine bodyPost_ret (v := .tuple #[.agg #[.int .i64 st, .string f, .slice A us.length c, .string t], .int .i64 503]) (by simp [results, Tryz.results41, go_sem, r0, r1, r2, r3, hs13]) rfl ?_
        exact Sm.res_self HR.out (HW.out _ (HBS.out _ _ _ _ _)) hcap hcm (HBS.out _ _ _ _ _)
end Go.Proofs.YtpjifcljkgcnlaaGreatDoor

namespace Go.Proofs.YtpjifcljkgcnlaaGreatDoor
set_option linter.unusedVariables false
open Go.RowKit
open Us (U)
theorem Sm.own_end {w w6 wb : World} {A2 : Option Addr} {c2 : Nat} {us : List ByteArray} {x : ByteArray} (hown : wb.ownsRow w6.heap.size 9 1 (.slice A2 (0 + us.length + 1) c2) (0 + us.length + 1) ([] ++ us.flatMap St.cells ++ [.string x])) (hs : w.heap.size + 1 < w6.heap.size) (hx : x.size ≤ 8) (hus : ∀ u ∈ us, u.size ≤ maxLen) (v0 v1 v2 v3 : Value) :
    AtStrs ((((wb.setCell ⟨w.heap.size + 1, 0, none⟩ v0).setCell ⟨w.heap.size + 1, 1, none⟩ v1).setCell ⟨w.heap.size + 1, 2, none⟩ v2).setCell ⟨w.heap.size + 1, 3, none⟩ v3) ((((wb.setCell ⟨w.heap.size + 1, 0, none⟩ v0).setCell ⟨w.heap.size + 1, 1, none⟩ v1).setCell ⟨w.heap.size + 1, 2, none⟩ v2).setCell ⟨w.heap.size + 1, 3, none⟩ v3).heap.size A2 (us ++ [x]) ∧ (us ++ [x]).length ≤ c2 ∧ c2 ≤ maxLen := by
  have e : [] ++ us.flatMap St.cells ++ [.string x] = (us ++ [x]).flatMap St.cells := by simp [St.cells]
  rw [e] at hown
  have hn : (us ++ [x]).length = 0 + us.length + 1 := by simp
  have hat := at_strs (at_of_own St.cells_len hown hn) (by
    intro u hu
    rcases List.mem_append.1 hu with h | h
    · exact hus u h
    · simp at h; subst h; unfold maxLen; omega)
  have hc := own_cap hown
  have hne : ∀ g off, A2 = some ⟨g, off, none⟩ → w.heap.size + 1 ≠ g := by
    intro g off h e; have := (hown.lt g (by rw [h]; rfl)).1; omega
  refine ⟨?_, by rw [hn]; exact hc.1, hc.2⟩
  exact ((((hat.setCell (p := ⟨w.heap.size + 1, 0, none⟩) hne v0).setCell (p := ⟨w.heap.size + 1, 1, none⟩) hne v1).setCell (p := ⟨w.heap.size + 1, 2, none⟩) hne v2).setCell (p := ⟨w.heap.size + 1, 3, none⟩) hne v3).mono (by simp)
theorem Sm.res_to {r : Sm.S × Int} {f x : ByteArray} {us : List ByteArray} (h : r = (⟨4, f, us ++ [x], Sm.e0⟩, 250)) {w w' : World} {A : Option Addr} {c : Nat} (hat : AtStrs w' w'.heap.size A (us ++ [x]) ∧ (us ++ [x]).length ≤ c ∧ c ≤ maxLen) (hB : Below w.heap.size w w') :
    Sm.Res r w (.returned (.tuple #[.agg #[.int .i64 4, .string f, .slice A (us.length + 1) c, .string ⟨#[]⟩], .int .i64 250])) w' := by
  subst h
  exact ⟨A, c, by simp [Sm.val, Sm.e0], hat.1, hat.2.1, hat.2.2, hB⟩

theorem at_world {P : Program} {ops : Array Oper} {o : Oper} {a : Act} {K : Act → World → Prop} {Q : Exit → Act → World → Prop} {E : Prop} (W : World) (h : if Region.wanted o (yielded ops a.tmps) = true then Oper.wp P o a W K Q else E) : if Region.wanted o (yielded ops a.tmps) = true then Oper.wp P o a W K Q else E := h
set_option maxRecDepth 100000 in
set_option maxHeartbeats 6400000 in
theorem l21To_any (st : Int) (f t : ByteArray) (A : Option Addr) (us : List ByteArray) (c : Nat) (w : World) (h : AtStrs w w.heap.size A us) (hcap : us.length ≤ c) (hcm : c ≤ maxLen) (Au : Option Addr) (vs : List U) (cu : Nat) (hu : AtUsers w w.heap.size Au vs) (hvl : vs.length ≤ maxLen) (d l : ByteArray) (hl : l.size ≤ 16777216) :
    Calls Tryz.prog 42 #[.agg #[.int .i64 st, .string f, .slice A us.length c, .string t], .slice Au vs.length cu, .string d, .string l] w (Sm.Res (Sm.rcpt vs d ⟨st, f, us, t⟩ l) w) := by
  have HW : Hid (∀ w', Below w.heap.size w w' → AtStrs w' w'.heap.size A us) := Lib.hid fun w' hb => (h.below hb).mono hb.size
  have HM : Hid (Sm.rcpt vs d ⟨st, f, us, t⟩ l = if ¬ (st = 3 ∨ st = 4) then (Sm.S.mk st f us t, (503 : Int)) else match Pa.behind Sm.begT l.data.toList with | some (a, b) => if Ct.mk b = d ∧ Sm.knows vs (Ct.mk a) = true then (if St.has us (Ct.mk a) = true then (Sm.S.mk st f us t, (250 : Int)) else if 3 ≤ us.length then (Sm.S.mk st f us t, (452 : Int)) else (Sm.S.mk 4 f (us ++ [Ct.mk a]) Sm.e0, (250 : Int))) else (Sm.S.mk st f us t, (550 : Int)) | none => (Sm.S.mk st f us t, (501 : Int))) := Lib.hid rfl
  have HUW : Hid (∀ w', Below w.heap.size w w' → AtUsers w' w'.heap.size Au vs) := Lib.hid fun w' hb => (hu.below hb).mono hb.size
  obtain ⟨hx1, hx2, hB, hsz⟩ := two_boxes w (.cells #[.int .i64 st, .string f, .slice A us.length c, .string t] 45) (.cells #[.int .i64 0, .string ⟨#[]⟩, .slice none 0 0, .string ⟨#[]⟩] 45)
  go_enter Tryz.func42, Tryz.ntmps42
  go_upto_region 1 with fail
  generalize ((w.alloc (.cells #[.int .i64 st, .string f, .slice A us.length c, .string t] 45)).alloc (.cells #[.int .i64 0, .string ⟨#[]⟩, .slice none 0 0, .string ⟨#[]⟩] 45)) = W at hx1 hx2 hB hsz ⊢
  have hs0 : w.heap.size < W.heap.size := by omega
  have hs1 : w.heap.size + 1 < W.heap.size := by omega
  have HX1 := Lib.hid hx1
  have HX2 := Lib.hid hx2
  clear hx1 hx2
  go_wp2_with fail
  refine Calls.mono (l21Path_any l ⟨#[82, 67, 80, 84, 32, 84, 79, 58]⟩ hl (by decide) _) ?_
  rintro e w3 ⟨rfl, hb3⟩
  have hB3 := hB.trans (hb3.mono hB.size)
  have hs3 := hb3.size
  have hx1 := (hb3.block _ hs0).trans HX1.out
  have hx2 := (hb3.block _ hs1).trans HX2.out
  have hs03 : w.heap.size < w3.heap.size := by omega
  have hs13 : w.heap.size + 1 < w3.heap.size := by omega
  have d0 : w3.cell? ⟨w.heap.size, 0, none⟩ = some (.int .i64 st) := cell_at hx1 0 _ rfl
  have d1 : w3.cell? ⟨w.heap.size, 1, none⟩ = some (.string f) := cell_at hx1 1 _ rfl
  have d2 : w3.cell? ⟨w.heap.size, 2, none⟩ = some (.slice A us.length c) := cell_at hx1 2 _ rfl
  have d3 : w3.cell? ⟨w.heap.size, 3, none⟩ = some (.string t) := cell_at hx1 3 _ rfl
  have e0 := free_at hx1 0
  have e1 := free_at hx1 1
  have e2 := free_at hx1 2
  have e3 := free_at hx1 3
  have r0 : w3.cell? ⟨w.heap.size + 1, 0, none⟩ = some (.int .i64 0) := cell_at hx2 0 _ rfl
  have r1 : w3.cell? ⟨w.heap.size + 1, 1, none⟩ = some (.string ⟨#[]⟩) := cell_at hx2 1 _ rfl
  have r2 : w3.cell? ⟨w.heap.size + 1, 2, none⟩ = some (.slice none 0 0) := cell_at hx2 2 _ rfl
  have r3 : w3.cell? ⟨w.heap.size + 1, 3, none⟩ = some (.string ⟨#[]⟩) := cell_at hx2 3 _ rfl
  have z0 := free_at hx2 0
  have z1 := free_at hx2 1
  have z2 := free_at hx2 2
  have z3 := free_at hx2 3
  have HVB : Hid (Pa.behind (ByteArray.mk #[82, 67, 80, 84, 32, 84, 79, 58]).data.toList l.data.toList = Pa.behind Sm.begT l.data.toList) := Lib.hid rfl
  rw [HVB.out]
  have HX31 := Lib.hid hx1
  have HX32 := Lib.hid hx2
  clear hx1 hx2
  have HBS : Hid (∀ v0 v1 v2 v3 o, Below w.heap.size w (((((w3.setCell ⟨w.heap.size + 1, 0, none⟩ v0).setCell ⟨w.heap.size + 1, 1, none⟩ v1).setCell ⟨w.heap.size + 1, 2, none⟩ v2).setCell ⟨w.heap.size + 1, 3, none⟩ v3).alloc o)) := Lib.hid fun v0 v1 v2 v3 o => (set4 hB3 (by omega) _ _ _ _).alloc (by simp; omega) _
  cases hp : Pa.behind Sm.begT l.data.toList with
  | none =>
    have HPV : Hid (Pa.val none = .tuple #[.agg #[.string ⟨#[]⟩, .string ⟨#[]⟩], .bool false]) := Lib.hid rfl
    rw [HPV.out]
    by_cases hst : st = 3 ∨ st = 4
    · have HR : Hid (Sm.rcpt vs d ⟨st, f, us, t⟩ l = (⟨st, f, us, t⟩, 501)) := Lib.hid (by rw [HM.out, if_neg (fun h => h hst), hp])
      clear hp
      rcases hst with rfl | rfl
      · go_wp2_with fail
        refine bodyPost_ret (v := .tuple #[.agg #[.int .i64 3, .string f, .slice A us.length c, .string t], .int .i64 501]) (by simp [results, Tryz.results42, go_sem, r0, r1, r2, r3, hs13]) rfl ?_
        exact Sm.res_self HR.out (HW.out _ (HBS.out _ _ _ _ _)) hcap hcm (HBS.out _ _ _ _ _)
      · go_wp2_with fail
        refine bodyPost_ret (v := .tuple #[.agg #[.int .i64 4, .string f, .slice A us.length c, .string t], .int .i64 501]) (by simp [results, Tryz.results42, go_sem, r0, r1, r2, r3, hs13]) rfl ?_
        exact Sm.res_self HR.out (HW.out _ (HBS.out _ _ _ _ _)) hcap hcm (HBS.out _ _ _ _ _)
    · have h3 : ¬ st = 3 := fun h => hst (.inl h)
      have h4 : ¬ st = 4 := fun h => hst (.inr h)
      have h3i : (st != 3) = true := by simpa using h3
      have h4i : (st != 4) = true := by simpa using h4
      have HR : Hid (Sm.rcpt vs d ⟨st, f, us, t⟩ l = (⟨st, f, us, t⟩, 503)) := Lib.hid (by rw [HM.out, if_pos hst])
      clear hp hst h3 h4
      go_wp2_with fail
      refine bodyPost_ret (v := .tuple #[.agg #[.int .i64 st, .string f, .slice A us.length c, .string t], .int .i64 503]) (by simp [results, Tryz.results42, go_sem, r0, r1, r2, r3, hs13]) rfl ?_
      exact Sm.res_self HR.out (HW.out _ (HBS.out _ _ _ _ _)) hcap hcm (HBS.out _ _ _ _ _)
  | some ab =>
    obtain ⟨a, b⟩ := ab
    have hx8 := (Pa.behind_some hp).1
    obtain ⟨x, HX⟩ : ∃ x : ByteArray, Hid (Ct.mk a = x) := ⟨_, Lib.hid rfl⟩
    obtain ⟨y, HY⟩ : ∃ y : ByteArray, Hid (Ct.mk b = y) := ⟨_, Lib.hid rfl⟩
    have hxs : x.size ≤ 8 := by rw [← HX.out]; have := (Nm.nameOk_len hx8).2; show a.toArray.size ≤ 8; simpa using this
    clear hx8
    have HPV : Hid (Pa.val (some (a, b)) = .tuple #[.agg #[.string x, .string y], .bool true]) := Lib.hid (by rw [← HX.out, ← HY.out]; rfl)
    rw [HPV.out]
    by_cases hst : st = 3 ∨ st = 4
    · have HC : Hid (Sm.rcpt vs d ⟨st, f, us, t⟩ l = if y = d ∧ Sm.knows vs x = true then (if St.has us x = true then (Sm.S.mk st f us t, (250 : Int)) else if 3 ≤ us.length then (Sm.S.mk st f us t, (452 : Int)) else (Sm.S.mk 4 f (us ++ [x]) Sm.e0, (250 : Int))) else (Sm.S.mk st f us t, (550 : Int))) := Lib.hid (by rw [HM.out, if_neg (fun h => h hst), hp]; dsimp only; rw [HX.out, HY.out])
      clear hp HM
      have HST := Lib.hid hst
      clear hst
      by_cases hyd : y = d
      · have q1 := two_yes hyd
        have HYD := Lib.hid hyd
        clear hyd
        have h34 : (st != 3) = false ∨ (st != 3) = true ∧ (st != 4) = false := by rcases HST.out with h | h <;> simp [h]
        have hw4 : Hid (AtUsers (w3.alloc (.cells #[.string x, .string y] 81)) (w3.alloc (.cells #[.string x, .string y] 81)).heap.size Au vs) := Lib.hid (HUW.out _ (hB3.alloc hB3.size _))
        have hB4 := hB3.alloc hB3.size (.cells #[.string x, .string y] 81)
        have hx41 := (Below.heap_alloc w3 (.cells #[.string x, .string y] 81) _ hs03).trans HX31.out
        have hx42 := (Below.heap_alloc w3 (.cells #[.string x, .string y] 81) _ hs13).trans HX32.out
        have hx43 := heap_alloc_new w3 (.cells #[.string x, .string y] 81)
        have hs4 : (w3.alloc (.cells #[.string x, .string y] 81)).heap.size = w3.heap.size + 1 := by simp
        rcases h34 with h3i | ⟨h3i, h4i⟩
        all_goals
          go_wp2_with fail
          refine Calls.mono (l14Find_any Au vs cu x _ hw4.out hvl) ?_
          rintro e w5 ⟨r, hr, rfl, hb5⟩
          have hB5 := hB4.trans (hb5.mono hB4.size)
          have hx1 := (hb5.block _ (by omega)).trans hx41
          have hx2 := (hb5.block _ (by omega)).trans hx42
          have hx3 := (hb5.block w3.heap.size (by omega)).trans hx43
          have hs5 := hb5.size
          have hs05 : w.heap.size < w5.heap.size := by omega
          have hs15 : w.heap.size + 1 < w5.heap.size := by omega
          have hs35 : w3.heap.size < w5.heap.size := by omega
          clear d0 d1 d2 d3 e0 e1 e2 e3 r0 r1 r2 r3 z0 z1 z2 z3
          have d0 : w5.cell? ⟨w.heap.size, 0, none⟩ = some (.int .i64 st) := cell_at hx1 0 _ rfl
          have d1 : w5.cell? ⟨w.heap.size, 1, none⟩ = some (.string f) := cell_at hx1 1 _ rfl
          have d2 : w5.cell? ⟨w.heap.size, 2, none⟩ = some (.slice A us.length c) := cell_at hx1 2 _ rfl
          have d3 : w5.cell? ⟨w.heap.size, 3, none⟩ = some (.string t) := cell_at hx1 3 _ rfl
          have e0 := free_at hx1 0
          have e1 := free_at hx1 1
          have e2 := free_at hx1 2
          have e3 := free_at hx1 3
          have r0 : w5.cell? ⟨w.heap.size + 1, 0, none⟩ = some (.int .i64 0) := cell_at hx2 0 _ rfl
          have r1 : w5.cell? ⟨w.heap.size + 1, 1, none⟩ = some (.string ⟨#[]⟩) := cell_at hx2 1 _ rfl
          have r2 : w5.cell? ⟨w.heap.size + 1, 2, none⟩ = some (.slice none 0 0) := cell_at hx2 2 _ rfl
          have r3 : w5.cell? ⟨w.heap.size + 1, 3, none⟩ = some (.string ⟨#[]⟩) := cell_at hx2 3 _ rfl
          have z0 := free_at hx2 0
          have z1 := free_at hx2 1
          have z2 := free_at hx2 2
          have z3 := free_at hx2 3
          have g0 : w5.cell? ⟨w3.heap.size, 0, none⟩ = some (.string x) := cell_at hx3 0 _ rfl
          have g1 : w5.cell? ⟨w3.heap.size, 1, none⟩ = some (.string y) := cell_at hx3 1 _ rfl
          clear hx41 hx42 hx43 hs4 hb5 hw4
          have HBT : Hid (∀ v0 v1 v2 v3, Below w.heap.size w ((((w5.setCell ⟨w.heap.size + 1, 0, none⟩ v0).setCell ⟨w.heap.size + 1, 1, none⟩ v1).setCell ⟨w.heap.size + 1, 2, none⟩ v2).setCell ⟨w.heap.size + 1, 3, none⟩ v3)) := Lib.hid fun v0 v1 v2 v3 => set4 hB5 (by omega) _ _ _ _
          rcases hr with ⟨rfl, hf⟩ | ⟨k, u, rfl, hk, hf⟩
          · have HR : Hid (Sm.rcpt vs d ⟨st, f, us, t⟩ l = (⟨st, f, us, t⟩, 550)) := Lib.hid (by rw [HC.out, if_neg]; rintro ⟨_, h⟩; unfold Sm.knows at h; rw [hf] at h; cases h)
            clear hf
            go_wp2_with fail
            refine bodyPost_ret (v := .tuple #[.agg #[.int .i64 st, .string f, .slice A us.length c, .string t], .int .i64 550]) (by simp [results, Tryz.results42, go_sem, r0, r1, r2, r3]) rfl ?_
            exact Sm.res_self HR.out (HW.out _ (HBT.out _ _ _ _)) hcap hcm (HBT.out _ _ _ _)
          · have HKN : Hid (Sm.rcpt vs d ⟨st, f, us, t⟩ l = if St.has us x = true then (Sm.S.mk st f us t, (250 : Int)) else if 3 ≤ us.length then (Sm.S.mk st f us t, (452 : Int)) else (Sm.S.mk 4 f (us ++ [x]) Sm.e0, (250 : Int))) := Lib.hid (by rw [HC.out, if_pos ⟨HYD.out, by unfold Sm.knows; rw [hf]; rfl⟩])
            clear hf hk
            have hki : ¬ (k : Int) < 0 := by omega
            have HAT := Lib.hid (HW.out _ hB5)
            have hulm : us.length ≤ maxLen := Nat.le_trans hcap hcm
            cases hh : St.has us x
            · have HK2 := Lib.hid (HKN.out.trans (by rw [hh, if_neg (by decide)]))
              have HH := Lib.hid hh
              clear hh
              by_cases h3l : 3 ≤ us.length
              · have h3li : (3 : Int) ≤ (us.length : Int) := by omega
                have HR : Hid (Sm.rcpt vs d ⟨st, f, us, t⟩ l = (⟨st, f, us, t⟩, 452)) := Lib.hid (HK2.out.trans (if_pos h3l))
                go_wp2_with fail
                refine Calls.mono (l21Has_any A us us.length c x _ _ HAT.out rfl hulm) ?_
                rintro e w6 ⟨rfl, rfl⟩
                rw [HH.out]
                go_wp2_with fail
                refine bodyPost_ret (v := .tuple #[.agg #[.int .i64 st, .string f, .slice A us.length c, .string t], .int .i64 452]) (by simp [results, Tryz.results42, go_sem, r0, r1, r2, r3]) rfl ?_
                exact Sm.res_self HR.out (HW.out _ (HBT.out _ _ _ _)) hcap hcm (HBT.out _ _ _ _)
              · have h3li : ¬ (3 : Int) ≤ (us.length : Int) := by omega
                have HR : Hid (Sm.rcpt vs d ⟨st, f, us, t⟩ l = (⟨4, f, us ++ [x], Sm.e0⟩, 250)) := Lib.hid (HK2.out.trans (if_neg h3l))
                go_wp2_with fail
                refine Calls.mono (l21Has_any A us us.length c x _ _ HAT.out rfl hulm) ?_
                rintro e w6 ⟨rfl, rfl⟩
                rw [HH.out]
                obtain ⟨i0, hi, hz0, hz1, hz2⟩ := info_parts str_info
                have hB6a : Below w6.heap.size w6 (w6.alloc (.cells #[] 9)).drew := Sx.below_drew ((Below.refl w6.heap.size w6).alloc (Nat.le_refl _) _)
                have H0a : Hid ((w6.alloc (.cells #[] 9)).drew.ownsRow w6.heap.size 9 1 (.slice (some ⟨w6.heap.size, 0, none⟩) 0 0) 0 []) := Lib.hid (World.ownsRow_lit (base := w6.heap.size) (e := 9) (size := 1) w6 #[] 0 (Nat.le_refl _) (Nat.zero_le _) rfl)
                have HR1a := Lib.hid (reads_of_at (by omega) St.cells_len ((Sx.at_of HAT.out).below hB6a))
                have K5a : Hid (w6.heap.size ≤ (w6.alloc (.cells #[] 9)).drew.heap.size) := Lib.hid hB6a.size
                have HB6a := Lib.hid hB6a
                clear hB6a
                have hB6b : Below w6.heap.size w6 ((w6.alloc (.cells #[] 9)).alloc (.cells #[.string x] 9)).drew := Sx.below_drew (((Below.refl w6.heap.size w6).alloc (Nat.le_refl _) _).alloc (by simp) _)
                have H0b : Hid (((w6.alloc (.cells #[] 9)).alloc (.cells #[.string x] 9)).drew.ownsRow w6.heap.size 9 1 (.slice (some ⟨w6.heap.size, 0, none⟩) 0 0) 0 []) := Lib.hid ((World.ownsRow_lit (base := w6.heap.size) (e := 9) (size := 1) w6 #[] 0 (Nat.le_refl _) (Nat.zero_le _) rfl).alloc (.cells #[.string x] 9))
                have HR1b := Lib.hid (reads_of_at (by omega) St.cells_len ((Sx.at_of HAT.out).below hB6b))
                have K5b : Hid (w6.heap.size ≤ ((w6.alloc (.cells #[] 9)).alloc (.cells #[.string x] 9)).drew.heap.size) := Lib.hid hB6b.size
                have HB6b := Lib.hid hB6b
                clear hB6b
                have HXXb : Hid (((w6.alloc (.cells #[] 9)).alloc (.cells #[.string x] 9)).drew.heap[w6.heap.size + 1]? = some (.cells #[.string x] 9 (0, 0))) := Lib.hid ((two_boxes w6 _ _).2.1)
                have KSb : Hid (((w6.alloc (.cells #[] 9)).alloc (.cells #[.string x] 9)).drew.heap.size = w6.heap.size + 2) := Lib.hid (two_boxes w6 _ _).2.2.2
                have hB6c : Below w6.heap.size w6 ((w6.alloc (.cells #[.string x] 9)).alloc (.cells #[] 9)).drew := Sx.below_drew (((Below.refl w6.heap.size w6).alloc (Nat.le_refl _) _).alloc (by simp) _)
                have H0c : Hid (((w6.alloc (.cells #[.string x] 9)).alloc (.cells #[] 9)).drew.ownsRow w6.heap.size 9 1 (.slice (some ⟨w6.heap.size + 1, 0, none⟩) 0 0) 0 []) := Lib.hid (by have := World.ownsRow_lit (base := w6.heap.size) (e := 9) (size := 1) (w6.alloc (.cells #[.string x] 9)) #[] 0 (by simp) (Nat.zero_le _) rfl; have h2 : ((w6.alloc (.cells #[.string x] 9)).alloc (.cells #[] 9)).ownsRow w6.heap.size 9 1 (.slice (some ⟨w6.heap.size + 1, 0, none⟩) 0 0) 0 [] := (by simpa using this); exact h2)
                have HR1c := Lib.hid (reads_of_at (by omega) St.cells_len ((Sx.at_of HAT.out).below hB6c))
                have K5c : Hid (w6.heap.size ≤ ((w6.alloc (.cells #[.string x] 9)).alloc (.cells #[] 9)).drew.heap.size) := Lib.hid hB6c.size
                have HB6c := Lib.hid hB6c
                clear hB6c
                have HXXc : Hid (((w6.alloc (.cells #[.string x] 9)).alloc (.cells #[] 9)).drew.heap[w6.heap.size]? = some (.cells #[.string x] 9 (0, 0))) := Lib.hid ((two_boxes w6 _ _).1)
                have KSc : Hid (((w6.alloc (.cells #[.string x] 9)).alloc (.cells #[] 9)).drew.heap.size = w6.heap.size + 2) := Lib.hid (two_boxes w6 _ _).2.2.2
                have K1 := Lib.hid (Sx.cells_one us)
                have K3 : Hid (0 + us.length ≤ maxLen) := Lib.hid (by unfold maxLen; omega)
                have K4 : Hid ((0 + us.length) * 16 ≤ 140737488355328) := Lib.hid (by omega)
                have HI : Hid (∀ w', Below w6.heap.size w6 w' → w'.cell? ⟨w.heap.size, 1, none⟩ = some (.string f) ∧ w'.cell? ⟨w.heap.size, 2, none⟩ = some (.slice A us.length c) ∧ w'.cell? ⟨w3.heap.size, 0, none⟩ = some (.string x)) := Lib.hid fun w' hb => ⟨cell_at ((hb.block _ hs05).trans hx1) 1 _ rfl, cell_at ((hb.block _ hs05).trans hx1) 2 _ rfl, cell_at ((hb.block _ hs35).trans hx3) 0 _ rfl⟩
                have HBo : Hid (Below w6.heap.size w6 w6) := Lib.hid (Below.refl _ _)
                have HBd : Hid (Below w6.heap.size w6 w6.drew) := Lib.hid (Sx.below_drew (Below.refl _ _))
                have HBx : Hid (Below w6.heap.size w6 (w6.alloc (.cells #[.string x] 9)).drew) := Lib.hid (Sx.below_drew ((Below.refl w6.heap.size w6).alloc (Nat.le_refl _) _))
                go_upto_region 12 with fail
                have HX2 := Lib.hid hx2
                have HX3 := Lib.hid hx3
                have hs16 : w.heap.size + 1 < w6.heap.size := hs15
                have hs36 : w3.heap.size < w6.heap.size := hs35
                clear hx2 hx3
                go_region_held3 (fun w' => w'.cell? ⟨w.heap.size, 1, none⟩ = some (.string f) ∧ w'.cell? ⟨w.heap.size, 2, none⟩ = some (.slice A us.length c) ∧ w'.cell? ⟨w3.heap.size, 0, none⟩ = some (.string x)) (first | (with_reducible exact HI.out _ HBo.out) | (with_reducible exact HI.out _ HBd.out) | (with_reducible exact HI.out _ HB6a.out) | (with_reducible exact HI.out _ HB6b.out) | (with_reducible exact HI.out _ HB6c.out) | (with_reducible exact HI.out _ HBx.out) | (with_reducible exact HI.out _ HBA.out) | (with_reducible exact HI.out _ HBC.out) | (with_reducible exact HI.out _ HBB.out) | exact ⟨(World.cell?_setCell_other _ _ _ _ (by intro e; injection e with e; omega)).trans ((World.cell?_setCell_other _ _ _ _ (by intro e; injection e with e; omega)).trans ((World.cell?_setCell_other _ _ _ _ (by intro e; injection e with e; omega)).trans ((World.cell?_setCell_other _ _ _ _ (by intro e; injection e with e; omega)).trans (HI.out _ HBB.out).1))), (World.cell?_setCell_other _ _ _ _ (by intro e; injection e with e; omega)).trans ((World.cell?_setCell_other _ _ _ _ (by intro e; injection e with e; omega)).trans ((World.cell?_setCell_other _ _ _ _ (by intro e; injection e with e; omega)).trans ((World.cell?_setCell_other _ _ _ _ (by intro e; injection e with e; omega)).trans (HI.out _ HBB.out).2.1))), (World.cell?_setCell_other _ _ _ _ (by intro e; injection e with e; omega)).trans ((World.cell?_setCell_other _ _ _ _ (by intro e; injection e with e; omega)).trans ((World.cell?_setCell_other _ _ _ _ (by intro e; injection e with e; omega)).trans ((World.cell?_setCell_other _ _ _ _ (by intro e; injection e with e; omega)).trans (HI.out _ HBB.out).2.2)))⟩)
                  (first
                  | ((with_reducible refine at_world ((w6.alloc (.cells #[] 9)).drew) ?_); refine step_append_any _ rfl (.tmp 59) (.tmp 61) _ rfl w6.heap.size 9 i0 _ 1 16 Tryz.underlying23 hi hz0 hz1 hz2 rfl (by omega) _ 0 [] (by simp [Act.eval]) H0a.out w6.heap.size A us.length c _ (by simp [Act.eval]) HR1a.out K1.out K3.out K4.out K5a.out ?_; intro v wa hown hgr hbk; have HBA : Hid (Below w6.heap.size w6 wa) := Lib.hid (HB6a.out.grown hgr HB6a.out.size (by intro q hq; have hq : w6.heap.size = q := Option.some.inj hq; omega)); have HBC : Hid (Below w6.heap.size w6 (wa.alloc (.cells #[.string x] 9))) := Lib.hid (HBA.out.alloc HBA.out.size _); have ga0 : wa.cell? ⟨w3.heap.size, 0, none⟩ = some (.string x) := cell_at ((HBA.out.block _ hs36).trans HX3.out) 0 _ rfl)
                  | ((with_reducible refine at_world (((w6.alloc (.cells #[] 9)).alloc (.cells #[.string x] 9)).drew) ?_); refine step_append_any _ rfl (.tmp 59) (.tmp 61) _ rfl w6.heap.size 9 i0 _ 1 16 Tryz.underlying23 hi hz0 hz1 hz2 rfl (by omega) _ 0 [] (by simp [Act.eval]) H0b.out w6.heap.size A us.length c _ (by simp [Act.eval]) HR1b.out K1.out K3.out K4.out K5b.out ?_; intro v wa hown hgr hbk; have HBA : Hid (Below w6.heap.size w6 wa) := Lib.hid (HB6b.out.grown hgr HB6b.out.size (by intro q hq; have hq : w6.heap.size = q := Option.some.inj hq; omega)); have ga0 : wa.cell? ⟨w3.heap.size, 0, none⟩ = some (.string x) := cell_at ((HBA.out.block _ hs36).trans HX3.out) 0 _ rfl; have HXAb := Lib.hid ((hgr.block (w6.heap.size + 1) (by have := KSb.out; omega) (by intro e; have e : w6.heap.size + 1 = w6.heap.size := Option.some.inj e; omega)).trans HXXb.out))
                  | ((with_reducible refine at_world (((w6.alloc (.cells #[.string x] 9)).alloc (.cells #[] 9)).drew) ?_); refine step_append_any _ rfl (.tmp 59) (.tmp 61) _ rfl w6.heap.size 9 i0 _ 1 16 Tryz.underlying23 hi hz0 hz1 hz2 rfl (by omega) _ 0 [] (by simp [Act.eval]) H0c.out w6.heap.size A us.length c _ (by simp [Act.eval]) HR1c.out K1.out K3.out K4.out K5c.out ?_; intro v wa hown hgr hbk; have HBA : Hid (Below w6.heap.size w6 wa) := Lib.hid (HB6c.out.grown hgr HB6c.out.size (by intro q hq; have hq : w6.heap.size + 1 = q := Option.some.inj hq; omega)); have ga0 : wa.cell? ⟨w3.heap.size, 0, none⟩ = some (.string x) := cell_at ((HBA.out.block _ hs36).trans HX3.out) 0 _ rfl; have HXAc := Lib.hid ((hgr.block (w6.heap.size) (by have := KSc.out; omega) (by intro e; have e : w6.heap.size = w6.heap.size + 1 := Option.some.inj e; omega)).trans HXXc.out))
                  | ((with_reducible refine at_world wa ?_); refine step_append_any _ rfl (.tmp 62) (.tmp 65) _ rfl w6.heap.size 9 i0 _ 1 16 Tryz.underlying23 hi hz0 hz1 hz2 rfl (by omega) _ (0 + us.length) _ (by simp [Act.eval]) hown (w6.heap.size + 1 + 1) (some ⟨w6.heap.size + 1, 0, none⟩) 1 1 [.string x] (by simp [Act.eval]) (Sx.reads_blk HXAb.out) (Sx.one_one x) (by unfold maxLen; omega) (by omega) HBA.out.size ?_; intro v2 wb hown2 hgr2 hbk2; have HBB : Hid (Below w6.heap.size w6 wb) := Lib.hid (HBA.out.grown hgr2 HBA.out.size (fun q hq => (hown.lt q hq).1)); have xb := Lib.hid ((HBB.out.block _ hs16).trans HX2.out); have rb0 : wb.cell? ⟨w.heap.size + 1, 0, none⟩ = some (.int .i64 0) := cell_at xb.out 0 _ rfl; have rb1 : wb.cell? ⟨w.heap.size + 1, 1, none⟩ = some (.string ⟨#[]⟩) := cell_at xb.out 1 _ rfl; have rb2 : wb.cell? ⟨w.heap.size + 1, 2, none⟩ = some (.slice none 0 0) := cell_at xb.out 2 _ rfl; have rb3 : wb.cell? ⟨w.heap.size + 1, 3, none⟩ = some (.string ⟨#[]⟩) := cell_at xb.out 3 _ rfl; have zb0 := free_at xb.out 0; have zb1 := free_at xb.out 1; have zb2 := free_at xb.out 2; have zb3 := free_at xb.out 3; obtain ⟨A2, c2, rfl⟩ := own_form hown2)
                  | ((with_reducible refine at_world wa ?_); refine step_append_any _ rfl (.tmp 62) (.tmp 65) _ rfl w6.heap.size 9 i0 _ 1 16 Tryz.underlying23 hi hz0 hz1 hz2 rfl (by omega) _ (0 + us.length) _ (by simp [Act.eval]) hown (w6.heap.size + 1) (some ⟨w6.heap.size, 0, none⟩) 1 1 [.string x] (by simp [Act.eval]) (Sx.reads_blk HXAc.out) (Sx.one_one x) (by unfold maxLen; omega) (by omega) HBA.out.size ?_; intro v2 wb hown2 hgr2 hbk2; have HBB : Hid (Below w6.heap.size w6 wb) := Lib.hid (HBA.out.grown hgr2 HBA.out.size (fun q hq => (hown.lt q hq).1)); have xb := Lib.hid ((HBB.out.block _ hs16).trans HX2.out); have rb0 : wb.cell? ⟨w.heap.size + 1, 0, none⟩ = some (.int .i64 0) := cell_at xb.out 0 _ rfl; have rb1 : wb.cell? ⟨w.heap.size + 1, 1, none⟩ = some (.string ⟨#[]⟩) := cell_at xb.out 1 _ rfl; have rb2 : wb.cell? ⟨w.heap.size + 1, 2, none⟩ = some (.slice none 0 0) := cell_at xb.out 2 _ rfl; have rb3 : wb.cell? ⟨w.heap.size + 1, 3, none⟩ = some (.string ⟨#[]⟩) := cell_at xb.out 3 _ rfl; have zb0 := free_at xb.out 0; have zb1 := free_at xb.out 1; have zb2 := free_at xb.out 2; have zb3 := free_at xb.out 3; obtain ⟨A2, c2, rfl⟩ := own_form hown2)
                  | ((with_reducible refine at_world (wa.alloc (.cells #[.string x] 9)) ?_); refine step_append_any _ rfl (.tmp 62) (.tmp 65) _ rfl w6.heap.size 9 i0 _ 1 16 Tryz.underlying23 hi hz0 hz1 hz2 rfl (by omega) _ (0 + us.length) _ (by simp [Act.eval]) (hown.alloc _) (wa.heap.size + 1) (some ⟨wa.heap.size, 0, none⟩) 1 1 [.string x] (by simp [Act.eval]) (Sx.reads_one wa x) (Sx.one_one x) (by unfold maxLen; omega) (by omega) (Nat.le_trans HBA.out.size (by simp)) ?_; intro v2 wb hown2 hgr2 hbk2; have HBB : Hid (Below w6.heap.size w6 wb) := Lib.hid (Sx.below_two HBA.out hown hgr2); have xb := Lib.hid ((HBB.out.block _ hs16).trans HX2.out); have rb0 : wb.cell? ⟨w.heap.size + 1, 0, none⟩ = some (.int .i64 0) := cell_at xb.out 0 _ rfl; have rb1 : wb.cell? ⟨w.heap.size + 1, 1, none⟩ = some (.string ⟨#[]⟩) := cell_at xb.out 1 _ rfl; have rb2 : wb.cell? ⟨w.heap.size + 1, 2, none⟩ = some (.slice none 0 0) := cell_at xb.out 2 _ rfl; have rb3 : wb.cell? ⟨w.heap.size + 1, 3, none⟩ = some (.string ⟨#[]⟩) := cell_at xb.out 3 _ rfl; have zb0 := free_at xb.out 0; have zb1 := free_at xb.out 1; have zb2 := free_at xb.out 2; have zb3 := free_at xb.out 3; obtain ⟨A2, c2, rfl⟩ := own_form hown2))
                all_goals
                  go_wp2_with  fail
                  refine bodyPost_ret (v := .tuple #[.agg #[.int .i64 4, .string f, .slice A2 (us.length + 1) c2, .string ⟨#[]⟩], .int .i64 250]) (by simp [results, Tryz.results42, go_sem, rb0, rb1, rb2, rb3]) rfl ?_
                  exact Sm.res_to HR.out (Sm.own_end hown2 hs16 hxs HAT.out.2 _ _ _ _) (set4 (hB5.trans (HBB.out.mono hB5.size)) (by omega) _ _ _ _)
            · have HR : Hid (Sm.rcpt vs d ⟨st, f, us, t⟩ l = (⟨st, f, us, t⟩, 250)) := Lib.hid (by rw [HKN.out, hh]; rfl)
              have HH := Lib.hid hh
              clear hh
              go_wp2_with fail
              refine Calls.mono (l21Has_any A us us.length c x _ _ HAT.out rfl hulm) ?_
              rintro e w6 ⟨rfl, rfl⟩
              rw [HH.out]
              go_wp2_with fail
              refine bodyPost_ret (v := .tuple #[.agg #[.int .i64 st, .string f, .slice A us.length c, .string t], .int .i64 250]) (by simp [results, Tryz.results42, go_sem, r0, r1, r2, r3]) rfl ?_
              exact Sm.res_self HR.out (HW.out _ (HBT.out _ _ _ _)) hcap hcm (HBT.out _ _ _ _)
      · have q1 := two_no hyd
        have HR := Lib.hid (HC.out.trans (if_neg (fun h => hyd h.1)))
        clear hyd
        have h34 : (st != 3) = false ∨ (st != 3) = true ∧ (st != 4) = false := by rcases HST.out with h | h <;> simp [h]
        rcases h34 with h3i | ⟨h3i, h4i⟩
        all_goals
          go_wp2_with fail
          refine bodyPost_ret (v := .tuple #[.agg #[.int .i64 st, .string f, .slice A us.length c, .string t], .int .i64 550]) (by simp [results, Tryz.results42, go_sem, r0, r1, r2, r3, hs13]) rfl ?_
          exact Sm.res_self HR.out (HW.out _ (HBS.out _ _ _ _ _)) hcap hcm (HBS.out _ _ _ _ _)
    · have h3 : ¬ st = 3 := fun h => hst (.inl h)
      have h4 : ¬ st = 4 := fun h => hst (.inr h)
      have h3i : (st != 3) = true := by simpa using h3
      have h4i : (st != 4) = true := by simpa using h4
      have HR : Hid (Sm.rcpt vs d ⟨st, f, us, t⟩ l = (⟨st, f, us, t⟩, 503)) := Lib.hid (by rw [HM.out, if_pos hst])
      clear hp hst h3 h4
      go_wp2_with fail
      refine bodyPost_ret (v := .tuple #[.agg #[.int .i64 st, .string f, .slice A us.length c, .string t], .int .i64 503]) (by simp [results, Tryz.results42, go_sem, r0, r1, r2, r3, hs13]) rfl ?_
      exact Sm.res_self HR.out (HW.out _ (HBS.out _ _ _ _ _)) hcap hcm (HBS.out _ _ _ _ _)
end Go.Proofs.YtpjifcljkgcnlaaGreatDoor

namespace Go.Proofs.YtpjifcljkgcnlaaGreatDoor
set_option linter.unusedVariables false
open Go.RowKit

theorem Sm.ok_names {s : Sm.S} (h : Sm.ok s = true) : ∀ u ∈ s.tos, Nm.nameOk u.data.toList = true := by
  intro u hu
  have hr : Sb.recv s.tos = true → Nm.nameOk u.data.toList = true := fun h => by
    unfold Sb.recv at h
    rw [Bool.and_eq_true] at h
    exact ((St.namesOk_iff s.tos).1 h.1).2.1 u hu
  have hl : s.tos.length = 0 → Nm.nameOk u.data.toList = true := fun h => by
    have := List.length_eq_zero_iff.1 h; rw [this] at hu; cases hu
  unfold Sm.ok Sb.ok at h
  split at h
  · simp at h; exact hl (by simp [h.2.1])
  · split at h
    · simp at h; exact hl (by simp [h.2.1])
    · split at h
      · simp only [Bool.and_eq_true] at h; exact hr h.2.1
      · split at h
        · simp only [Bool.and_eq_true] at h; exact hr h.2.1
        · cases h
theorem Sm.ok_nouser {s : Sm.S} (h : Sm.ok s = true) (h2 : s.st < 2) : s.user = ⟨#[]⟩ := by
  have he : s.user.toList.isEmpty = true → s.user = ⟨#[]⟩ := fun h => by
    have h1 := List.isEmpty_iff.1 h
    rw [Go.ByteArray.toList_eq] at h1
    have h2 : s.user.data = #[] := by simpa using h1
    cases hs : s.user with
    | mk d => rw [hs] at h2; exact congrArg _ h2
  unfold Sm.ok Sb.ok at h
  split at h
  · simp only [Bool.and_eq_true] at h; exact he h.1
  · split at h
    · omega
    · split at h
      · omega
      · split at h
        · omega
        · cases h
theorem Sm.ok_text {s : Sm.S} (h : Sm.ok s = true) : s.text.size ≤ 21 := by
  have he : s.text.toList.isEmpty = true → s.text.size ≤ 21 := fun h => by
    have h1 := List.isEmpty_iff.1 h
    rw [Go.ByteArray.toList_eq] at h1
    have h2 : s.text.data = #[] := by simpa using h1
    show s.text.data.size ≤ 21
    rw [h2]; simp
  unfold Sm.ok Sb.ok at h
  split at h
  · simp only [Bool.and_eq_true] at h; exact he h.2.2
  · split at h
    · simp only [Bool.and_eq_true] at h; exact he h.2.2
    · split at h
      · simp only [Bool.and_eq_true] at h; exact he h.2.2
      · split at h
        · simp only [Bool.and_eq_true, decide_eq_true_eq] at h; exact h.2.2
        · cases h
theorem Sm.res_set {b : Nat} {w4 : World} {A : Option Addr} {us : List ByteArray} {t : TypeId} (hat : AtStrs w4 w4.heap.size A us) (hn : ∀ u ∈ us, Nm.nameOk u.data.toList = true) (hb : w4.heap[b]? = some (.cells #[.int .i64 0, .string ⟨#[]⟩, .slice none 0 0, .string ⟨#[]⟩] t (0, 0))) (v0 v1 v2 v3 : Value) :
    AtStrs ((((w4.setCell ⟨b, 0, none⟩ v0).setCell ⟨b, 1, none⟩ v1).setCell ⟨b, 2, none⟩ v2).setCell ⟨b, 3, none⟩ v3) ((((w4.setCell ⟨b, 0, none⟩ v0).setCell ⟨b, 1, none⟩ v1).setCell ⟨b, 2, none⟩ v2).setCell ⟨b, 3, none⟩ v3).heap.size A us := by
  match us, hat, hn with
  | [], _, _ => exact at_none
  | u :: us', hat, hn =>
    have hne : ∀ g off, A = some ⟨g, off, none⟩ → b ≠ g := by
      rintro g off rfl rfl
      obtain ⟨g', off', hA, hlt, hc⟩ := hat.1 (by simp)
      injection hA with hA
      injection hA with h1 h2
      subst h1; subst h2
      have hu := hc 0 u rfl
      have hk := hn u (by simp)
      have hz : ∀ x : ByteArray, x = ⟨#[]⟩ → Nm.nameOk x.data.toList = true → False := by rintro x rfl h; revert h; decide
      simp [World.cell?, hb] at hu
      match off, hu with
      | 0, hu => cases hu
      | 1, hu => injection hu with hu; injection hu with hu; exact hz u hu.symm hk
      | 2, hu => cases hu
      | 3, hu => injection hu with hu; injection hu with hu; exact hz u hu.symm hk
      | off + 4, hu => cases hu
    exact ((((hat.setCell (p := ⟨b, 0, none⟩) hne v0).setCell (p := ⟨b, 1, none⟩) hne v1).setCell (p := ⟨b, 2, none⟩) hne v2).setCell (p := ⟨b, 3, none⟩) hne v3).mono (by simp)
end Go.Proofs.YtpjifcljkgcnlaaGreatDoor
