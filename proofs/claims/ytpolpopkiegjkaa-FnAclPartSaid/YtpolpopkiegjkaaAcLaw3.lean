/- FnAclPart: the walk. -/
import Derived.Test.YtpolpopkiegjkaaAcDraw
import Derived.Test.YtpolpopkiegjkaaAcMap
import Derived.Deep.RegionLaw
namespace Go.Proofs.Ytpolpopkiegjkaa
set_option linter.unusedVariables false
open Go.RowKit
open Ac (G)

set_option maxHeartbeats 800000 in
theorem drawAclValid_any (a : Option Addr) (len cap : Nat) (w : World) (h : Bytes w a len cap) :
    Calls Try.prog 15 #[.slice a len cap] w fun e w' => ∃ us A c, Ac.Small us ∧ us.length ≤ c ∧ c ≤ maxLen ∧ e = .returned (.slice A us.length c) ∧ At w' w'.heap.size 2 Ac.cells A us ∧ Below w.heap.size w w' := by
  go_enter Try.func15, Try.ntmps15
  go_wp2_with fail
  refine (l6Open_any a len cap _ h).mono ?_
  rintro e w1 ⟨rfl, h1, hb1⟩
  go_wp2_with fail
  refine (l92Acl_any _ _ _ _ (by omega) h1).mono ?_
  rintro e w2 ⟨us, A, c, hsm, hc1, hc2, rfl, ho, h2, hg2⟩
  have hat := OwnL.at_ ho Ac.cells_len rfl
  clear ho
  go_wp2_with fail
  go_ret
  exact ⟨us, A, c, hsm, hc1, hc2, rfl, hat, hb1.trans (grown_to_below hg2 (Nat.le_refl _) hb1.size)⟩

theorem Ac.call' {A : Option Addr} {us zs : List G} {c n : Nat} (w : World) (h : At w w.heap.size 2 Ac.cells A zs) (hn : zs.length = n) (hs : Ac.Small us) (hm : ∀ u ∈ zs, u ∈ us) (hl : n ≤ 10) {v : Bool} (hv : Ac.aclOk zs = v) :
    Calls Try.prog 16 #[.slice A n c] w fun e w' => e = .returned (.bool v) ∧ Below w.heap.size w w' := by
  rw [← hn, ← hv]
  exact iAclValid_any A zs c w (at_grants h fun u hu => hs.sizes u (hm u hu)) (by unfold maxLen; omega)
theorem Ac.below_drew {B : Nat} {a w : World} (h : Below B a w) : Below B a w.drew := ⟨h.os, h.tape, h.output, h.size, h.block⟩
theorem Ac.at_drop {w : World} {B g off c : Nat} {us : List G} (m : Nat) (h : At w B 2 Ac.cells (some ⟨g, off, none⟩) us) (hc : us.length ≤ c) :
    ∃ A2 : Addr, (if c = m then some (⟨g, off, none⟩ : Addr) else some ⟨g, off + m * 2, none⟩) = some A2 ∧ At w B 2 Ac.cells (some A2) (us.drop m) := by
  by_cases hcm : c = m
  · refine ⟨_, if_pos hcm, fun hl => ?_⟩
    rw [List.length_drop] at hl
    omega
  · refine ⟨_, if_neg hcm, fun hl => ?_⟩
    rw [List.length_drop] at hl
    obtain ⟨g', off', ha, hlt, hx⟩ := h (by omega)
    injection ha with ha
    injection ha with ha1 ha2
    subst ha1; subst ha2
    refine ⟨g, off + m * 2, rfl, hlt, fun i u hu j v hv => ?_⟩
    rw [List.getElem?_drop] at hu
    have := hx (m + i) u hu j v hv
    rw [show off + m * 2 + i * 2 + j = off + (m + i) * 2 + j by omega]
    exact this
theorem Ac.reads_drop {w : World} {B : Nat} {A : Option Addr} {us : List G} (m : Nat) (h : At w B 2 Ac.cells A (us.drop m)) : Reads w B 2 A (us.length - m) ((us.drop m).flatMap Ac.cells) := by
  have := reads_of_at (by omega) Ac.cells_len h
  rwa [List.length_drop] at this
theorem Ac.reads_take {w : World} {B : Nat} {A : Option Addr} {us : List G} (m : Nat) (hm : m ≤ us.length) (h : At w B 2 Ac.cells A us) : Reads w B 2 A m ((us.take m).flatMap Ac.cells) := by
  have h2 : At w B 2 Ac.cells A (us.take m) := fun hl => by
    rw [List.length_take] at hl
    obtain ⟨g, off, ha, hlt, hx⟩ := h (by omega)
    refine ⟨g, off, ha, hlt, fun i u hu j v hv => hx i u ?_ j v hv⟩
    rw [List.getElem?_take] at hu
    by_cases him : i < m
    · rwa [if_pos him] at hu
    · rw [if_neg him] at hu; cases hu
  have := reads_of_at (by omega) Ac.cells_len h2
  rwa [List.length_take, Nat.min_eq_left hm] at this

set_option maxRecDepth 100000 in
set_option maxHeartbeats 3200000 in
theorem walkFnAclPart (a : Option Addr) (len cap : Nat) (b : Option Addr) (len1 cap1 : Nat) (w : World) (h : Bytes w a len cap) (h1 : Bytes w b len1 cap1) :
    Calls Try.prog 3 #[.slice a len cap, .slice b len1 cap1] w fun e w' => e = .returned (.bool true) ∧ Below w.heap.size w w' := by
  by_cases hbig : len ≤ 1048576
  · by_cases hbig1 : len1 ≤ 1048576
    · go_enter Try.func3, Try.ntmps3
      go_wp2_with fail
      refine (drawAclValid_any a len cap _ h).mono ?_
      rintro e w1 ⟨us, A, c, hsm, hc1, hc2, rfl, hat, hb1⟩
      have hau := at_grants hat hsm.sizes
      go_wp2_with fail
      refine (iAclValid_any A us c _ hau hsm.len).mono ?_
      rintro e w2 ⟨rfl, hb2⟩
      go_wp2_with fail
      refine (sAclValid_any A us c _ ((hau.below hb2).mono hb2.size) hsm.len).mono ?_
      rintro e w3 ⟨rfl, hb3⟩
      have hB := hb1.trans ((hb2.trans (hb3.mono hb2.size)).mono hb1.size)
      have hat3 := (hat.below (hb2.trans (hb3.mono hb2.size))).mono (Nat.le_trans hb2.size hb3.size)
      clear hat hau hb1 hb2 hb3
      cases hok : Ac.aclOk us
      · go_wp2
        go_ret
        exact ⟨rfl, hB⟩
      · have hl5 := hsm.1
        by_cases hl0 : us.length = 0
        · go_wp2
          go_ret
          exact ⟨rfl, hB⟩
        have hl0b : ((us.length : Int) == 0) = false := by simp; exact fun e => hl0 (by rw [e]; rfl)
        have hl1 : 1 ≤ us.length := by omega
        go_upto_region 9 with fail
        obtain ⟨k, hk, hke⟩ : ∃ k : Nat, k < us.length ∧ (len1 : Int) % us.length = k := ⟨len1 % us.length, Nat.mod_lt _ (by omega), by omega⟩
        rw [hke]
        obtain ⟨g, off, rfl, hg, hc⟩ := hat3 (by omega)
        obtain ⟨i0, hi, hz0, hz1, hz2⟩ := info_parts grant_info
        have hatS : At w3 w3.heap.size 2 Ac.cells (some ⟨g, off, none⟩) us := fun _ => ⟨g, off, rfl, hg, hc⟩
        clear hc hat3
        have hkc : k ≤ c := by omega
        have hkl : k ≤ us.length := by omega
        have hwr : IntKind.i64.wrap ((k : Int) + 1) = (k : Int) + 1 := by rw [IntKind.wrap_i64]; omega
        have hp0 : (0 : Int) ≤ (k : Int) + 1 := by omega
        have hp1 : (k : Int) + 1 ≤ (us.length : Int) := by omega
        have hp3 : (k : Int) + 1 ≤ (c : Int) := by omega
        have hp2 : ((k : Int) + 1).toNat = k + 1 := by omega
        have hB0 : Below w3.heap.size w3 (w3.alloc (.cells #[] 79)).drew := Ac.below_drew ((Below.refl w3.heap.size w3).alloc (Nat.le_refl _) (.cells #[] 79))
        obtain ⟨A2, hA2, hat2⟩ := Ac.at_drop (k + 1) hatS (by omega : us.length ≤ c)
        have H0 : Hid ((w3.alloc (.cells #[] 79)).drew.ownsRow w3.heap.size 79 2 (.slice (some ⟨w3.heap.size, 0, none⟩) 0 0) 0 []) := Lib.hid (World.ownsRow_lit (base := w3.heap.size) (e := 79) (size := 2) w3 #[] 0 (Nat.le_refl _) (Nat.zero_le _) rfl)
        have HR1 := Lib.hid (Ac.reads_take (k) (by omega) (hatS.below hB0))
        have HR2 : Hid (∀ w', (w3.alloc (.cells #[] 79)).drew.grownBy w' (some w3.heap.size) → Reads w' w3.heap.size 2 (some A2) (us.length - (k + 1)) ((us.drop (k + 1)).flatMap Ac.cells)) := Lib.hid fun w' hg => Ac.reads_drop (k + 1) (hat2.below (hB0.grown hg hB0.size (by intro q hq; injection hq with hq; omega)))
        have K1 := Lib.hid (Ac.cells_one (us.take (k)))
        have K2 := Lib.hid (Ac.cells_one (us.drop (k + 1)))
        have K3 : Hid (0 + (k) ≤ maxLen) := Lib.hid (by unfold maxLen; omega)
        have K4 : Hid ((0 + (k)) * 24 ≤ 140737488355328) := Lib.hid (by omega)
        have K5 : Hid (w3.heap.size ≤ (w3.alloc (.cells #[] 79)).drew.heap.size) := Lib.hid hB0.size
        have K6 : Hid (0 + (k) + (us.length - (k + 1)) ≤ maxLen) := Lib.hid (by unfold maxLen; omega)
        have K7 : Hid ((0 + (k) + (us.length - (k + 1))) * 24 ≤ 140737488355328) := Lib.hid (by omega)
        have K8 : Hid (∀ w', (w3.alloc (.cells #[] 79)).drew.grownBy w' (some w3.heap.size) → w3.heap.size ≤ w'.heap.size) := Lib.hid fun w' hg => Nat.le_trans hB0.size hg.size
        have HB0 := Lib.hid hB0
        clear hB0 hat2
        go_region_law ((first
          | (refine step_append_any _ rfl (.tmp 45) (.tmp 48) _ rfl w3.heap.size 79 i0 _ 2 24 Try.underlying23 hi hz0 hz1 hz2 rfl (by omega) _ 0 [] (by simp [Act.eval]) H0.out w3.heap.size (some ⟨g, off, none⟩) (k) c _ (by simp [Act.eval]) HR1.out K1.out K3.out K4.out K5.out ?_; intro v wa hown hgr hbk)
          | (refine step_append_any _ rfl (.tmp 49) (.tmp 53) _ rfl w3.heap.size 79 i0 _ 2 24 Try.underlying23 hi hz0 hz1 hz2 rfl (by omega) _ (0 + (k)) _ (by simp [Act.eval]) hown w3.heap.size (some A2) (us.length - (k + 1)) (c - (k + 1)) _ (by simp [Act.eval]) (HR2.out _ hgr) K2.out K6.out K7.out (K8.out _ hgr) ?_; intro v2 wb hown2 hgr2 hbk2)))
        obtain ⟨A3, c3, rfl⟩ := own_form hown2
        have hzl : (us.take k ++ us.drop (k + 1)).length = k + (us.length - (k + 1)) := by simp; omega
        have hfl : [] ++ (us.take k).flatMap Ac.cells ++ (us.drop (k + 1)).flatMap Ac.cells = (us.take k ++ us.drop (k + 1)).flatMap Ac.cells := by rw [List.flatMap_append]; rfl
        rw [hfl] at hown2
        have hat3 := at_of_own Ac.cells_len hown2 (by omega)
        have hBb : Below w3.heap.size w3 wb := (HB0.out.grown hgr HB0.out.size (by intro q hq; have hq : w3.heap.size = q := Option.some.inj hq; omega)).grown hgr2 (K8.out _ hgr) (by
          intro q hq
          rcases hbk with e | e
          · rw [e] at hq; have hq : w3.heap.size = q := Option.some.inj hq; omega
          · rw [e] at hq; have hq := Option.some.inj hq; have := HB0.out.size; omega)
        have hBall := hB.trans (hBb.mono hB.size)
        have hatS := (hatS.below hBb).mono hBb.size
        have hg := Nat.lt_of_lt_of_le hg hBb.size
        have HAT3 := Lib.hid hat3
        have HZL := Lib.hid hzl
        clear H0 HR1 HR2 K1 K2 K3 K4 K5 K6 K7 K8 HB0 hown hgr hbk hown2 hgr2 hbk2 hfl hzl hBb hA2 hB hat3
        go_upto_region 10 with fail
        have hB0 : Below wb.heap.size wb (wb.alloc (.cells #[] 79)).drew := Ac.below_drew ((Below.refl wb.heap.size wb).alloc (Nat.le_refl _) (.cells #[] 79))
        obtain ⟨A2, hA2, hat2⟩ := Ac.at_drop (k) hatS (by omega : us.length ≤ c)
        have H0 : Hid ((wb.alloc (.cells #[] 79)).drew.ownsRow wb.heap.size 79 2 (.slice (some ⟨wb.heap.size, 0, none⟩) 0 0) 0 []) := Lib.hid (World.ownsRow_lit (base := wb.heap.size) (e := 79) (size := 2) wb #[] 0 (Nat.le_refl _) (Nat.zero_le _) rfl)
        have HR1 := Lib.hid (Ac.reads_take (k + 1) (by omega) (hatS.below hB0))
        have HR2 : Hid (∀ w', (wb.alloc (.cells #[] 79)).drew.grownBy w' (some wb.heap.size) → Reads w' wb.heap.size 2 (some A2) (us.length - (k)) ((us.drop (k)).flatMap Ac.cells)) := Lib.hid fun w' hg => Ac.reads_drop (k) (hat2.below (hB0.grown hg hB0.size (by intro q hq; injection hq with hq; omega)))
        have K1 := Lib.hid (Ac.cells_one (us.take (k + 1)))
        have K2 := Lib.hid (Ac.cells_one (us.drop (k)))
        have K3 : Hid (0 + (k + 1) ≤ maxLen) := Lib.hid (by unfold maxLen; omega)
        have K4 : Hid ((0 + (k + 1)) * 24 ≤ 140737488355328) := Lib.hid (by omega)
        have K5 : Hid (wb.heap.size ≤ (wb.alloc (.cells #[] 79)).drew.heap.size) := Lib.hid hB0.size
        have K6 : Hid (0 + (k + 1) + (us.length - (k)) ≤ maxLen) := Lib.hid (by unfold maxLen; omega)
        have K7 : Hid ((0 + (k + 1) + (us.length - (k))) * 24 ≤ 140737488355328) := Lib.hid (by omega)
        have K8 : Hid (∀ w', (wb.alloc (.cells #[] 79)).drew.grownBy w' (some wb.heap.size) → wb.heap.size ≤ w'.heap.size) := Lib.hid fun w' hg => Nat.le_trans hB0.size hg.size
        have HB0 := Lib.hid hB0
        clear hB0 hat2
        go_region_law ((first
          | (refine step_append_any _ rfl (.tmp 55) (.tmp 59) _ rfl wb.heap.size 79 i0 _ 2 24 Try.underlying23 hi hz0 hz1 hz2 rfl (by omega) _ 0 [] (by simp [Act.eval]) H0.out wb.heap.size (some ⟨g, off, none⟩) (k + 1) c _ (by simp [Act.eval]) HR1.out K1.out K3.out K4.out K5.out ?_; intro v wa hown hgr hbk)
          | (refine step_append_any _ rfl (.tmp 60) (.tmp 63) _ rfl wb.heap.size 79 i0 _ 2 24 Try.underlying23 hi hz0 hz1 hz2 rfl (by omega) _ (0 + (k + 1)) _ (by simp [Act.eval]) hown wb.heap.size (some A2) (us.length - (k)) (c - (k)) _ (by simp [Act.eval]) (HR2.out _ hgr) K2.out K6.out K7.out (K8.out _ hgr) ?_; intro v2 wd hown2 hgr2 hbk2)))
        obtain ⟨A5, c5, rfl⟩ := own_form hown2
        have hzl : (us.take (k + 1) ++ us.drop k).length = k + 1 + (us.length - k) := by simp; omega
        have hfl : [] ++ (us.take (k + 1)).flatMap Ac.cells ++ (us.drop k).flatMap Ac.cells = (us.take (k + 1) ++ us.drop k).flatMap Ac.cells := by rw [List.flatMap_append]; rfl
        rw [hfl] at hown2
        have hat5 := at_of_own Ac.cells_len hown2 (by omega)
        have hBd : Below wb.heap.size wb wd := (HB0.out.grown hgr HB0.out.size (by intro q hq; have hq : wb.heap.size = q := Option.some.inj hq; omega)).grown hgr2 (K8.out _ hgr) (by
          intro q hq
          rcases hbk with e | e
          · rw [e] at hq; have hq : wb.heap.size = q := Option.some.inj hq; omega
          · rw [e] at hq; have hq := Option.some.inj hq; have := HB0.out.size; omega)
        have hBall2 := hBall.trans (hBd.mono hBall.size)
        have hat3 := (HAT3.out.below hBd).mono hBd.size
        have hm3 : ∀ u ∈ us.take k ++ us.drop (k + 1), u ∈ us := fun u hu => by
          rcases List.mem_append.1 hu with h | h
          · exact List.mem_of_mem_take h
          · exact List.mem_of_mem_drop h
        have hm5 : ∀ u ∈ us.take (k + 1) ++ us.drop k, u ∈ us := fun u hu => by
          rcases List.mem_append.1 hu with h | h
          · exact List.mem_of_mem_take h
          · exact List.mem_of_mem_drop h
        have HC1 := Lib.hid (Ac.call' (c := c3) wd hat3 HZL.out hsm hm3 (by omega) (Ac.aclOk_out hok hk))
        have HC2 : Hid (∀ w', Below wd.heap.size wd w' → Calls Try.prog 16 #[.slice A5 (k + 1 + (us.length - k)) c5] w' fun e w'' => e = .returned (.bool false) ∧ Below w'.heap.size w' w'') := Lib.hid fun w' hb => Ac.call' (c := c5) w' ((hat5.below hb).mono hb.size) hzl hsm hm5 (by omega) (Ac.aclOk_twice hk)
        clear H0 HR1 HR2 K1 K2 K3 K4 K5 K6 K7 K8 HB0 hown hgr hbk hown2 hgr2 hbk2 hfl hzl hBd hA2 hat3 hat5 hm3 hm5 HAT3 HZL hBall hatS
        go_wp2_with fail
        refine Calls.mono HC1.out ?_
        rintro e we ⟨rfl, hbe⟩
        go_wp2_with fail
        refine Calls.mono (HC2.out _ hbe) ?_
        rintro e wf ⟨rfl, hbf⟩
        go_wp2_with fail
        go_ret
        exact ⟨by simp, hBall2.trans ((hbe.trans (hbf.mono hbe.size)).mono hBall2.size)⟩
    · go_enter Try.func3, Try.ntmps3
      go_wp2
      go_ret
      exact ⟨rfl, Below.refl _ _⟩
  · go_enter Try.func3, Try.ntmps3
    go_wp2
    go_ret
    exact ⟨rfl, Below.refl _ _⟩

end Go.Proofs.Ytpolpopkiegjkaa
