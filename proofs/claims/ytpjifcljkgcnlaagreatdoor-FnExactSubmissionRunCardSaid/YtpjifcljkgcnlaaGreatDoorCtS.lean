/- l1Cut of the specification. -/
import Derived.Test.YtpjifcljkgcnlaaGreatDoorPl
import Derived.Test.YtpjifcljkgcnlaaGreatDoorB6En
import Derived.Test.YtpjifcljkgcnlaaGreatDoorStX
namespace Go.Proofs.YtpjifcljkgcnlaaGreatDoor
set_option linter.unusedVariables false
open Go.RowKit

theorem Ct.ext {s : ByteArray} {l : List UInt8} (h : s.data.toList = l) : s = Ct.mk l := by
  cases s
  unfold Ct.mk
  congr
  exact Array.toList_inj.1 (by simpa using h)
theorem Ct.extract_mk (s : ByteArray) (a b : Nat) : s.extract a b = Ct.mk ((s.data.toList.drop a).take (b - a)) := Ct.ext (by simp [ByteArray.data_extract])

set_option maxRecDepth 100000 in
set_option maxHeartbeats 3200000 in
theorem l1Cut_any (s : ByteArray) (cc : UInt8) (hs : s.size ≤ 16777216) (w : World) :
    Calls Tryz.prog 36 #[.string s, .int .u8 (cc.toNat : Int)] w fun e w' => ∃ A c, e = .returned (.slice A (Ct.cutB cc s).length c) ∧ St.Own w' w.heap.size (.slice A (Ct.cutB cc s).length c) (Ct.cutB cc s) ∧ Below w.heap.size w w' := by
  obtain ⟨i0, hi, hz0, hz1, hz2⟩ := info_parts str_info
  have HSL : Hid (s.data.toList.length = s.size) := Lib.hid Array.length_toList
  have HCL : Hid ((Ct.cut cc s.data.toList).length ≤ 16777217) := Lib.hid (by have := Ct.cut_len cc s.data.toList; have := HSL.out; omega)
  have H0 : Hid (St.Own (w.alloc (.cells #[] 9)) w.heap.size (.slice (some ⟨w.heap.size, 0, none⟩) 0 0) []) := Lib.hid (ownL_nil w (Nat.le_refl _))
  have hB0 : Below w.heap.size w (w.alloc (.cells #[] 9)) := (Below.refl _ _).alloc (Nat.le_refl _) _
  go_enter Tryz.func36, Tryz.ntmps36
  go_wp2_with fail
  go_loopg [5, 6, 7] (s.size) (fun g o f i wr => ∃ (k from_ : Nat) (A : Option Addr) (c : Nat) (ps : List (List UInt8)) (us : List ByteArray), k ≤ s.size ∧ from_ ≤ k ∧ Hid (g = s.size - k) ∧ i = .int .i64 (k : Int) ∧ f = .int .i64 (from_ : Int) ∧ o = .slice A us.length c ∧ Hid (us = ps.map Ct.mk) ∧ Hid (St.Own wr w.heap.size (.slice A us.length c) us) ∧ Hid (ps ++ Ct.cut cc (s.data.toList.drop from_) = Ct.cut cc s.data.toList) ∧ Hid (∀ x ∈ (s.data.toList.drop from_).take (k - from_), x ≠ cc) ∧ Below w.heap.size w wr)
  case atStart => exact ⟨0, 0, _, _, [], [], by omega, by omega, Lib.hid rfl, rfl, rfl, rfl, Lib.hid rfl, H0, Lib.hid (by simp), Lib.hid (by simp), hB0⟩
  case round =>
    obtain ⟨k, fr, A, c, ps, us, hk, hfk, HG, rfl, rfl, rfl, HU, HO, HE, HN, hb⟩ := hrel
    have hbs := hb.size
    by_cases hlt : k < s.size
    · obtain ⟨a, ha⟩ : ∃ a, s[k]'hlt = a := ⟨_, rfl⟩
      have HDK : Hid (s.data.toList.drop k = a :: s.data.toList.drop (k + 1)) := Lib.hid (by rw [B6.drop_cons hlt, ha])
      have HDF : Hid (s.data.toList.drop fr = (s.data.toList.drop fr).take (k - fr) ++ a :: s.data.toList.drop (k + 1)) := Lib.hid (by
        rw [← HDK.out]
        conv => lhs; rw [← List.take_append_drop (k - fr) (s.data.toList.drop fr)]
        rw [List.drop_drop]
        congr 2
        omega)
      by_cases hac : a = cc
      · have haci : (a.toNat : Int) = (cc.toNat : Int) := by rw [hac]
        have HP : Hid (s.extract fr k = Ct.mk ((s.data.toList.drop fr).take (k - fr))) := Lib.hid (Ct.extract_mk s fr k)
        obtain ⟨us2, HU2⟩ : ∃ us2, Hid (us ++ [s.extract fr k] = us2) := ⟨_, Lib.hid rfl⟩
        have HE2 : Hid ((ps ++ [(s.data.toList.drop fr).take (k - fr)]) ++ Ct.cut cc (s.data.toList.drop (k + 1)) = Ct.cut cc s.data.toList) := Lib.hid (by
          have h1 : Ct.cut cc (s.data.toList.drop fr) = (s.data.toList.drop fr).take (k - fr) :: Ct.cut cc (s.data.toList.drop (k + 1)) := by
            conv => lhs; rw [HDF.out, hac]
            exact Ct.cut_at cc _ _ HN.out
          rw [← HE.out, h1]
          simp)
        have hul : us.length + 1 ≤ 16777217 := by
          have e := congrArg List.length HE2.out
          have e2 := congrArg List.length HU.out
          rw [List.length_map] at e2
          simp only [List.length_append, List.length_cons, List.length_nil] at e
          have := HCL.out
          omega
        have HM1 : Hid (us.length + 1 ≤ maxLen) := Lib.hid (by unfold maxLen; omega)
        have HM2 : Hid ((us.length + 1) * 16 ≤ 140737488355328) := Lib.hid (by omega)
        have hki : (k : Int) ≤ (s.size : Int) := by omega
        have hfki : (fr : Int) ≤ (k : Int) := by omega
        go_wp2_with (at_builtin; refine wpList_snoc _ rfl (.tmp 20) (.tmp 25) _ rfl 9 i0 _ 1 16 Tryz.underlying23 hi hz0 hz1 hz2 rfl (by omega) St.cells St.cells_len St.cells_one1 w.heap.size _ us (s.extract fr k) rfl HO.out _ rfl rfl HM1.out HM2.out hbs ?_; intro v5 w5 hown5 hb5 hg5; rw [HU2.out] at hown5; obtain ⟨A5, c5, rfl, _, _⟩ := OwnL.form hown5; have HO5 := Lib.hid hown5; have HB5 := Lib.hid hb5; clear hown5 hg5 hb5)
        go_roundg (s.size - (k + 1))
        case measure => have := HG.out; omega
        case rel => exact ⟨k + 1, k + 1, _, _, ps ++ [(s.data.toList.drop fr).take (k - fr)], us2, by omega, by omega, Lib.hid rfl, by go_num, by go_num, rfl, Lib.hid (by rw [← HU2.out, HU.out, HP.out]; simp), HO5, HE2, Lib.hid (by simp), hb.trans HB5.out⟩
      · have haci : ¬ (a.toNat : Int) = (cc.toNat : Int) := fun e => hac (UInt8.toNat_inj.1 (by omega))
        have HAC := Lib.hid hac
        clear hac
        go_wp2_with fail
        go_roundg (s.size - (k + 1))
        case measure => have := HG.out; omega
        case rel =>
          refine ⟨k + 1, fr, A, c, ps, us, by omega, by omega, Lib.hid rfl, by go_num, rfl, rfl, HU, HO, HE, Lib.hid (fun x hx => ?_), hb⟩
          have e1 : k + 1 - fr = (k - fr) + 1 := by omega
          have e2 : (s.data.toList.drop fr)[k - fr]? = some a := by
            rw [List.getElem?_drop, show fr + (k - fr) = k by omega, B6.at_size hlt, ha]
          rw [e1, List.take_add_one, e2] at hx
          rcases List.mem_append.1 hx with h | h
          · exact HN.out x h
          · simp at h; subst h; exact HAC.out
    · obtain rfl : k = s.size := by omega
      have HP : Hid (s.extract fr s.size = Ct.mk (s.data.toList.drop fr)) := Lib.hid (by
        rw [Ct.extract_mk, List.take_of_length_le]
        rw [List.length_drop, HSL.out]; exact Nat.le_refl _)
      have HCN : Hid (Ct.cut cc (s.data.toList.drop fr) = [s.data.toList.drop fr]) := Lib.hid (Ct.cut_none cc _ fun x hx => HN.out x (by
        rw [List.take_of_length_le (by rw [List.length_drop, HSL.out]; exact Nat.le_refl _)]; exact hx))
      have HUS : Hid (us ++ [s.extract fr s.size] = Ct.cutB cc s) := Lib.hid (by
        unfold Ct.cutB
        rw [← HE.out, HCN.out, HP.out, HU.out]; simp)
      have hul : us.length + 1 ≤ 16777217 := by
        have e := congrArg List.length HUS.out
        unfold Ct.cutB at e
        rw [List.length_map] at e
        simp only [List.length_append, List.length_cons, List.length_nil] at e
        have := HCL.out
        omega
      have HM1 : Hid (us.length + 1 ≤ maxLen) := Lib.hid (by unfold maxLen; omega)
      have HM2 : Hid ((us.length + 1) * 16 ≤ 140737488355328) := Lib.hid (by omega)
      have hfki : (fr : Int) ≤ (s.size : Int) := by omega
      go_wp2_with (at_builtin; refine wpList_snoc _ rfl (.tmp 29) (.tmp 33) _ rfl 9 i0 _ 1 16 Tryz.underlying23 hi hz0 hz1 hz2 rfl (by omega) St.cells St.cells_len St.cells_one1 w.heap.size _ us (s.extract fr s.size) rfl HO.out _ rfl rfl HM1.out HM2.out hbs ?_; intro v5 w5 hown5 hb5 hg5; rw [HUS.out] at hown5; obtain ⟨A5, c5, rfl, _, _⟩ := OwnL.form hown5; have HO5 := Lib.hid hown5; have HB5 := Lib.hid hb5; clear hown5 hg5 hb5)
      go_ret
      exact ⟨_, _, rfl, HO5.out, hb.trans HB5.out⟩
end Go.Proofs.YtpjifcljkgcnlaaGreatDoor
