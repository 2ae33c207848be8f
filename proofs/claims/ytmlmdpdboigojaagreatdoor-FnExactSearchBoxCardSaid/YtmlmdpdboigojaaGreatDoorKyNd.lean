/- l12Node of the specification: the fields of a node. -/
import Derived.Test.YtmlmdpdboigojaaGreatDoorKySp2
namespace Go.Proofs.YtmlmdpdboigojaaGreatDoor
set_option linter.unusedVariables false
open Go.RowKit


set_option maxHeartbeats 6400000 in
theorem l12Node_any (kind flag : Int) (text : ByteArray) (A : Option Addr) (set : List Sn) (c : Nat) (KA : Option Addr) (n kc : Nat) (w : World) (ht : text.size ≤ maxLen) (hs : AtSet w w.heap.size A set) (hsl : set.length ≤ maxLen) (hn : n ≤ maxLen) :
    Calls Tryz.prog 55 #[.agg #[.int .i64 kind, .int .i64 flag, .string text, .slice A set.length c, .slice KA n kc]] w fun e w' => e = .returned (.bool (Ky.nodeOk kind flag text set n)) ∧ Below w.heap.size w w' := by
  have HT := Lib.hid ht
  have hsl2 := hsl
  unfold maxLen at hsl hn
  have hb0 : Below w.heap.size w (w.alloc (.cells #[.int .i64 kind, .int .i64 flag, .string text, .slice A set.length c, .slice KA n kc] 40)) := (Below.refl _ _).alloc (Nat.le_refl _) _
  have HB := Lib.hid hb0
  have HW := Lib.hid (fun W => l12Word_any text W ht)
  have HV := Lib.hid (sSetValid_any A set c _ (At.mono (At.below hs hb0) hb0.size) hsl2)
  clear ht hb0 hsl2
  obtain ⟨te, HTE⟩ : ∃ te : Bool, Hid (text.toList.isEmpty = te) := ⟨_, Lib.hid rfl⟩
  have HTD : Hid (text.data.toList.isEmpty = te) := Lib.hid (by rw [← Go.ByteArray.toList_eq]; exact HTE.out)
  have hte := HTE.out
  have fail_ : ∀ x, Hid (Ky.nodeOk kind flag text set n = x) → True := fun _ _ => trivial
  clear fail_
  by_cases hk0 : kind = 0
  · subst hk0
    by_cases hfl : ¬ flag = 0
    · have HR : Hid (Ky.nodeOk 0 flag text set n = false) := Lib.hid (Ky.node_flag (by simp) (by simp [hfl]))
      go_enter Tryz.func55, Tryz.ntmps55
      go_wp2_with fail
      go_ret
      exact ⟨by rw [HR.out]; rfl, HB.out⟩
    · obtain rfl : flag = 0 := Classical.not_not.1 hfl
      cases te
      · have HR : Hid (Ky.nodeOk 0 0 text set n = false) := Lib.hid (Ky.node_text (by simp) HTD.out)
        go_enter Tryz.func55, Tryz.ntmps55
        go_wp2_with fail
        go_ret
        exact ⟨by rw [HR.out]; rfl, HB.out⟩
      · have htz := HTD.out
        by_cases hset : 0 < set.length
        · have hset2 : (0 : Int) < (set.length : Int) := by omega
          have HR : Hid (Ky.nodeOk 0 0 text set n = false) := Lib.hid (Ky.node_set (by simp) (by simp) hset)
          go_enter Tryz.func55, Tryz.ntmps55
          go_wp2_with fail
          go_ret
          exact ⟨by rw [HR.out]; rfl, HB.out⟩
        · have hset2 : ¬ (0 : Int) < (set.length : Int) := by omega
          have HR : Hid (Ky.nodeOk 0 0 text set n = ((n : Int) == 0)) := Lib.hid ((Ky.node_in (kind := 0) (text := text) (set := set) (n := n) (.inr rfl) (.inr HTD.out) (.inr (by omega))).trans (by show (n == 0) = _; rw [Ky.nat_beq0]))
          go_enter Tryz.func55, Tryz.ntmps55
          go_wp2_with fail
          go_ret
          exact ⟨by rw [HR.out]; rfl, HB.out⟩
  · have hz0 := True.intro
    by_cases hk1 : kind = 1
    · subst hk1
      cases te
      · have HR : Hid (Ky.nodeOk 1 flag text set n = false) := Lib.hid (Ky.node_text (by simp) HTD.out)
        go_enter Tryz.func55, Tryz.ntmps55
        go_wp2_with fail
        go_ret
        exact ⟨by rw [HR.out]; rfl, HB.out⟩
      · have htz := HTD.out
        by_cases hset : 0 < set.length
        · have hset2 : (0 : Int) < (set.length : Int) := by omega
          have HR : Hid (Ky.nodeOk 1 flag text set n = false) := Lib.hid (Ky.node_set (by simp) (by simp) hset)
          go_enter Tryz.func55, Tryz.ntmps55
          go_wp2_with fail
          go_ret
          exact ⟨by rw [HR.out]; rfl, HB.out⟩
        · have hset2 : ¬ (0 : Int) < (set.length : Int) := by omega
          cases hq : Ky.flagOne flag
          · have HR : Hid (Ky.nodeOk 1 flag text set n = false) := Lib.hid ((Ky.node_in (kind := 1) (text := text) (set := set) (n := n) (.inl rfl) (.inr HTD.out) (.inr (by omega))).trans (by show (Ky.flagOne flag && n == 0) = _; rw [hq]; rfl))
            have HQ := Lib.hid hq
            clear hq
            go_enter Tryz.func55, Tryz.ntmps55
            go_wp2_with fail
            refine Calls.mono (l12Flag_any _ _) ?_
            rw [HQ.out]
            rintro e w1 ⟨rfl, rfl⟩
            go_wp2_with fail
            go_ret
            exact ⟨by rw [HR.out]; rfl, HB.out⟩
          · have HR : Hid (Ky.nodeOk 1 flag text set n = ((n : Int) == 0)) := Lib.hid ((Ky.node_in (kind := 1) (text := text) (set := set) (n := n) (.inl rfl) (.inr HTD.out) (.inr (by omega))).trans (by show (Ky.flagOne flag && n == 0) = _; rw [hq, Ky.nat_beq0]; rfl))
            have HQ := Lib.hid hq
            clear hq
            go_enter Tryz.func55, Tryz.ntmps55
            go_wp2_with fail
            refine Calls.mono (l12Flag_any _ _) ?_
            rw [HQ.out]
            rintro e w1 ⟨rfl, rfl⟩
            go_wp2_with fail
            go_ret
            exact ⟨by rw [HR.out]; rfl, HB.out⟩
    · have hz1 := True.intro
      by_cases hk2 : kind = 2
      · subst hk2
        by_cases hfl : ¬ flag = 0
        · have HR : Hid (Ky.nodeOk 2 flag text set n = false) := Lib.hid (Ky.node_flag (by simp) (by simp [hfl]))
          go_enter Tryz.func55, Tryz.ntmps55
          go_wp2_with fail
          go_ret
          exact ⟨by rw [HR.out]; rfl, HB.out⟩
        · obtain rfl : flag = 0 := Classical.not_not.1 hfl
          by_cases hset : 0 < set.length
          · have hset2 : (0 : Int) < (set.length : Int) := by omega
            have HR : Hid (Ky.nodeOk 2 0 text set n = false) := Lib.hid (Ky.node_set (by simp) (by simp) hset)
            go_enter Tryz.func55, Tryz.ntmps55
            go_wp2_with fail
            go_ret
            exact ⟨by rw [HR.out]; rfl, HB.out⟩
          · have hset2 : ¬ (0 : Int) < (set.length : Int) := by omega
            cases hq : Nm.nameOk text.data.toList
            · have HR : Hid (Ky.nodeOk 2 0 text set n = false) := Lib.hid ((Ky.node_in (kind := 2) (text := text) (set := set) (n := n) (.inr rfl) (.inl rfl) (.inr (by omega))).trans (by show (Nm.nameOk text.data.toList && n == 0) = _; rw [hq]; rfl))
              have HQ := Lib.hid hq
              clear hq
              go_enter Tryz.func55, Tryz.ntmps55
              go_wp2_with fail
              refine Calls.mono (HW.out _) ?_
              rw [HQ.out]
              rintro e w1 ⟨rfl, rfl⟩
              go_wp2_with fail
              go_ret
              exact ⟨by rw [HR.out]; rfl, HB.out⟩
            · have HR : Hid (Ky.nodeOk 2 0 text set n = ((n : Int) == 0)) := Lib.hid ((Ky.node_in (kind := 2) (text := text) (set := set) (n := n) (.inr rfl) (.inl rfl) (.inr (by omega))).trans (by show (Nm.nameOk text.data.toList && n == 0) = _; rw [hq, Ky.nat_beq0]; rfl))
              have HQ := Lib.hid hq
              clear hq
              go_enter Tryz.func55, Tryz.ntmps55
              go_wp2_with fail
              refine Calls.mono (HW.out _) ?_
              rw [HQ.out]
              rintro e w1 ⟨rfl, rfl⟩
              go_wp2_with fail
              go_ret
              exact ⟨by rw [HR.out]; rfl, HB.out⟩
      · have hz2 := True.intro
        by_cases hk3 : kind = 3
        · subst hk3
          by_cases hfl : ¬ flag = 0
          · have HR : Hid (Ky.nodeOk 3 flag text set n = false) := Lib.hid (Ky.node_flag (by simp) (by simp [hfl]))
            go_enter Tryz.func55, Tryz.ntmps55
            go_wp2_with fail
            go_ret
            exact ⟨by rw [HR.out]; rfl, HB.out⟩
          · obtain rfl : flag = 0 := Classical.not_not.1 hfl
            cases te
            · have HR : Hid (Ky.nodeOk 3 0 text set n = false) := Lib.hid (Ky.node_text (by simp) HTD.out)
              go_enter Tryz.func55, Tryz.ntmps55
              go_wp2_with fail
              go_ret
              exact ⟨by rw [HR.out]; rfl, HB.out⟩
            · have htz := HTD.out
              cases hq : Ky.setOk set
              · have HR : Hid (Ky.nodeOk 3 0 text set n = false) := Lib.hid ((Ky.node_in (kind := 3) (text := text) (set := set) (n := n) (.inr rfl) (.inr HTD.out) (.inl (by simp))).trans (by show (Ky.setOk set && n == 0) = _; rw [hq]; rfl))
                have HQ := Lib.hid hq
                clear hq
                go_enter Tryz.func55, Tryz.ntmps55
                go_wp2_with fail
                refine Calls.mono HV.out ?_
                rw [HQ.out]
                rintro e w1 ⟨rfl, rfl⟩
                go_wp2_with fail
                go_ret
                exact ⟨by rw [HR.out]; rfl, HB.out⟩
              · have HR : Hid (Ky.nodeOk 3 0 text set n = ((n : Int) == 0)) := Lib.hid ((Ky.node_in (kind := 3) (text := text) (set := set) (n := n) (.inr rfl) (.inr HTD.out) (.inl (by simp))).trans (by show (Ky.setOk set && n == 0) = _; rw [hq, Ky.nat_beq0]; rfl))
                have HQ := Lib.hid hq
                clear hq
                go_enter Tryz.func55, Tryz.ntmps55
                go_wp2_with fail
                refine Calls.mono HV.out ?_
                rw [HQ.out]
                rintro e w1 ⟨rfl, rfl⟩
                go_wp2_with fail
                go_ret
                exact ⟨by rw [HR.out]; rfl, HB.out⟩
        · have hz3 := True.intro
          by_cases hk4 : kind = 4
          · subst hk4
            by_cases hfl : ¬ flag = 0
            · have HR : Hid (Ky.nodeOk 4 flag text set n = false) := Lib.hid (Ky.node_flag (by simp) (by simp [hfl]))
              go_enter Tryz.func55, Tryz.ntmps55
              go_wp2_with fail
              go_ret
              exact ⟨by rw [HR.out]; rfl, HB.out⟩
            · obtain rfl : flag = 0 := Classical.not_not.1 hfl
              cases te
              · have HR : Hid (Ky.nodeOk 4 0 text set n = false) := Lib.hid (Ky.node_text (by simp) HTD.out)
                go_enter Tryz.func55, Tryz.ntmps55
                go_wp2_with fail
                go_ret
                exact ⟨by rw [HR.out]; rfl, HB.out⟩
              · have htz := HTD.out
                cases hq : Ky.setOk set
                · have HR : Hid (Ky.nodeOk 4 0 text set n = false) := Lib.hid ((Ky.node_in (kind := 4) (text := text) (set := set) (n := n) (.inr rfl) (.inr HTD.out) (.inl (by simp))).trans (by show (Ky.setOk set && n == 0) = _; rw [hq]; rfl))
                  have HQ := Lib.hid hq
                  clear hq
                  go_enter Tryz.func55, Tryz.ntmps55
                  go_wp2_with fail
                  refine Calls.mono HV.out ?_
                  rw [HQ.out]
                  rintro e w1 ⟨rfl, rfl⟩
                  go_wp2_with fail
                  go_ret
                  exact ⟨by rw [HR.out]; rfl, HB.out⟩
                · have HR : Hid (Ky.nodeOk 4 0 text set n = ((n : Int) == 0)) := Lib.hid ((Ky.node_in (kind := 4) (text := text) (set := set) (n := n) (.inr rfl) (.inr HTD.out) (.inl (by simp))).trans (by show (Ky.setOk set && n == 0) = _; rw [hq, Ky.nat_beq0]; rfl))
                  have HQ := Lib.hid hq
                  clear hq
                  go_enter Tryz.func55, Tryz.ntmps55
                  go_wp2_with fail
                  refine Calls.mono HV.out ?_
                  rw [HQ.out]
                  rintro e w1 ⟨rfl, rfl⟩
                  go_wp2_with fail
                  go_ret
                  exact ⟨by rw [HR.out]; rfl, HB.out⟩
          · have hz4 := True.intro
            by_cases hk5 : kind = 5
            · subst hk5
              by_cases hfl : ¬ flag = 0
              · have HR : Hid (Ky.nodeOk 5 flag text set n = false) := Lib.hid (Ky.node_flag (by simp) (by simp [hfl]))
                go_enter Tryz.func55, Tryz.ntmps55
                go_wp2_with fail
                go_ret
                exact ⟨by rw [HR.out]; rfl, HB.out⟩
              · obtain rfl : flag = 0 := Classical.not_not.1 hfl
                cases te
                · have HR : Hid (Ky.nodeOk 5 0 text set n = false) := Lib.hid (Ky.node_text (by simp) HTD.out)
                  go_enter Tryz.func55, Tryz.ntmps55
                  go_wp2_with fail
                  go_ret
                  exact ⟨by rw [HR.out]; rfl, HB.out⟩
                · have htz := HTD.out
                  by_cases hset : 0 < set.length
                  · have hset2 : (0 : Int) < (set.length : Int) := by omega
                    have HR : Hid (Ky.nodeOk 5 0 text set n = false) := Lib.hid (Ky.node_set (by simp) (by simp) hset)
                    go_enter Tryz.func55, Tryz.ntmps55
                    go_wp2_with fail
                    go_ret
                    exact ⟨by rw [HR.out]; rfl, HB.out⟩
                  · have hset2 : ¬ (0 : Int) < (set.length : Int) := by omega
                    have HR : Hid (Ky.nodeOk 5 0 text set n = ((n : Int) == 1)) := Lib.hid ((Ky.node_in (kind := 5) (text := text) (set := set) (n := n) (.inr rfl) (.inr HTD.out) (.inr (by omega))).trans (by show (n == 1) = _; rw [Ky.nat_beq1]))
                    go_enter Tryz.func55, Tryz.ntmps55
                    go_wp2_with fail
                    go_ret
                    exact ⟨by rw [HR.out]; rfl, HB.out⟩
            · have hz5 := True.intro
              by_cases hk6 : kind = 6
              · subst hk6
                by_cases hfl : ¬ flag = 0
                · have HR : Hid (Ky.nodeOk 6 flag text set n = false) := Lib.hid (Ky.node_flag (by simp) (by simp [hfl]))
                  go_enter Tryz.func55, Tryz.ntmps55
                  go_wp2_with fail
                  go_ret
                  exact ⟨by rw [HR.out]; rfl, HB.out⟩
                · obtain rfl : flag = 0 := Classical.not_not.1 hfl
                  cases te
                  · have HR : Hid (Ky.nodeOk 6 0 text set n = false) := Lib.hid (Ky.node_text (by simp) HTD.out)
                    go_enter Tryz.func55, Tryz.ntmps55
                    go_wp2_with fail
                    go_ret
                    exact ⟨by rw [HR.out]; rfl, HB.out⟩
                  · have htz := HTD.out
                    by_cases hset : 0 < set.length
                    · have hset2 : (0 : Int) < (set.length : Int) := by omega
                      have HR : Hid (Ky.nodeOk 6 0 text set n = false) := Lib.hid (Ky.node_set (by simp) (by simp) hset)
                      go_enter Tryz.func55, Tryz.ntmps55
                      go_wp2_with fail
                      go_ret
                      exact ⟨by rw [HR.out]; rfl, HB.out⟩
                    · have hset2 : ¬ (0 : Int) < (set.length : Int) := by omega
                      have HR : Hid (Ky.nodeOk 6 0 text set n = ((n : Int) == 2)) := Lib.hid ((Ky.node_in (kind := 6) (text := text) (set := set) (n := n) (.inr rfl) (.inr HTD.out) (.inr (by omega))).trans (by show (n == 2) = _; rw [Ky.nat_beq2]))
                      go_enter Tryz.func55, Tryz.ntmps55
                      go_wp2_with fail
                      go_ret
                      exact ⟨by rw [HR.out]; rfl, HB.out⟩
              · have hz6 := True.intro
                by_cases hk7 : kind = 7
                · subst hk7
                  by_cases hfl : ¬ flag = 0
                  · have HR : Hid (Ky.nodeOk 7 flag text set n = false) := Lib.hid (Ky.node_flag (by simp) (by simp [hfl]))
                    go_enter Tryz.func55, Tryz.ntmps55
                    go_wp2_with fail
                    go_ret
                    exact ⟨by rw [HR.out]; rfl, HB.out⟩
                  · obtain rfl : flag = 0 := Classical.not_not.1 hfl
                    cases te
                    · have HR : Hid (Ky.nodeOk 7 0 text set n = false) := Lib.hid (Ky.node_text (by simp) HTD.out)
                      go_enter Tryz.func55, Tryz.ntmps55
                      go_wp2_with fail
                      go_ret
                      exact ⟨by rw [HR.out]; rfl, HB.out⟩
                    · have htz := HTD.out
                      by_cases hset : 0 < set.length
                      · have hset2 : (0 : Int) < (set.length : Int) := by omega
                        have HR : Hid (Ky.nodeOk 7 0 text set n = false) := Lib.hid (Ky.node_set (by simp) (by simp) hset)
                        go_enter Tryz.func55, Tryz.ntmps55
                        go_wp2_with fail
                        go_ret
                        exact ⟨by rw [HR.out]; rfl, HB.out⟩
                      · have hset2 : ¬ (0 : Int) < (set.length : Int) := by omega
                        have HR : Hid (Ky.nodeOk 7 0 text set n = ((n : Int) == 2)) := Lib.hid ((Ky.node_in (kind := 7) (text := text) (set := set) (n := n) (.inr rfl) (.inr HTD.out) (.inr (by omega))).trans (by show (n == 2) = _; rw [Ky.nat_beq2]))
                        go_enter Tryz.func55, Tryz.ntmps55
                        go_wp2_with fail
                        go_ret
                        exact ⟨by rw [HR.out]; rfl, HB.out⟩
                · have hz7 := True.intro
                  have hn1 : (kind != 1) = true := by simp [hk1]
                  have hn2 : (kind != 2) = true := by simp [hk2]
                  have hn3 : (kind != 3) = true := by simp [hk3]
                  have hn4 : (kind != 4) = true := by simp [hk4]
                  by_cases hfl : ¬ flag = 0
                  · have HR : Hid (Ky.nodeOk kind flag text set n = false) := Lib.hid (Ky.node_flag (by simp [hk1]) (by simp [hfl]))
                    go_enter Tryz.func55, Tryz.ntmps55
                    go_wp2_with fail
                    go_ret
                    exact ⟨by rw [HR.out]; rfl, HB.out⟩
                  · obtain rfl : flag = 0 := Classical.not_not.1 hfl
                    cases te
                    · have HR : Hid (Ky.nodeOk kind 0 text set n = false) := Lib.hid (Ky.node_text (by simp [hk2]) HTD.out)
                      go_enter Tryz.func55, Tryz.ntmps55
                      go_wp2_with fail
                      go_ret
                      exact ⟨by rw [HR.out]; rfl, HB.out⟩
                    · have htz := HTD.out
                      by_cases hset : 0 < set.length
                      · have hset2 : (0 : Int) < (set.length : Int) := by omega
                        have HR : Hid (Ky.nodeOk kind 0 text set n = false) := Lib.hid (Ky.node_set (by simp [hk3]) (by simp [hk4]) hset)
                        go_enter Tryz.func55, Tryz.ntmps55
                        go_wp2_with fail
                        go_ret
                        exact ⟨by rw [HR.out]; rfl, HB.out⟩
                      · have hset2 : ¬ (0 : Int) < (set.length : Int) := by omega
                        have HR : Hid (Ky.nodeOk kind 0 text set n = false) := Lib.hid (Ky.node_else (by simp [hk0]) (by simp [hk1]) (by simp [hk2]) (by simp [hk3]) (by simp [hk4]) (by simp [hk5]) (by simp [hk6]) (by simp [hk7]))
                        go_enter Tryz.func55, Tryz.ntmps55
                        go_wp2_with fail
                        go_ret
                        exact ⟨by rw [HR.out]; rfl, HB.out⟩
end Go.Proofs.YtmlmdpdboigojaaGreatDoor
