/- The program's lines of a submission: receiver. (Printed by mksmm.py.) -/
import Derived.Test.YtpjifcljkgcnlaaGreatDoorSmMm
import Derived.Test.YtpjifcljkgcnlaaGreatDoorSmX
import Derived.Deep.DeepCutAuto
import Derived.Deep.RegionLaw
namespace Go.Proofs.YtpjifcljkgcnlaaGreatDoor
set_option linter.unusedVariables false
open Go.RowKit
open Us (U)

theorem Po.mk2 {w : World} {b : Nat} {Au : Option Addr} {vs : List U} {cu : Nat} {d : ByteArray} {st : Int} {f t : ByteArray} {v2 : Value} {us : List ByteArray} {A : Option Addr} {c : Nat} (hx : w.heap[b]? = some (.cells #[.int .i64 st, .string f, v2, .string t, .slice Au vs.length cu, .string d] 75 (0, 0))) {k : Nat} (ho : St.Own w (b + 1) (.slice A k c) us) (hk : us.length = k) (hu : AtUsers w b Au vs) (n : Int) :
    Po ((w.setCell ⟨b, 2, none⟩ (.slice A k c)).setCell ⟨b, 0, none⟩ (.int .i64 n)) b Au vs cu d ⟨n, f, us, t⟩ := by
  subst hk
  exact ⟨A, c, (Po.heap (Po.heap hx)).trans rfl, Po.own (Po.own ho 2 _) 0 _, Po.users (Po.users hu 2 _) 0 _⟩
theorem Po.snoc {wa : World} {B : Nat} {us : List ByteArray} {x : ByteArray} {v : Value} (h : wa.ownsRow B 9 1 v (us.length + 1) (us.flatMap St.cells ++ [.string x])) : St.Own wa B v (us ++ [x]) := by
  show wa.ownsRow B 9 1 v (us ++ [x]).length ((us ++ [x]).flatMap St.cells)
  rw [List.length_append, List.flatMap_append]
  simpa [St.cells] using h
theorem Us.answer_find {vs : List U} {n : ByteArray} (hv : Us.usersOk vs = true) : ∃ u : U, Us.answer vs n = .tuple #[.agg #[.string u.name, .string u.pass, .int .i64 u.quota], .bool (Sm.knows vs n)] := by
  refine ⟨(Us.ans vs n).getD Us.none, ?_⟩
  have : Us.ans vs n = Us.find vs n := by unfold Us.ans; rw [hv]; rfl
  unfold Us.answer Sm.knows
  rw [this]; rfl

set_option maxRecDepth 100000 in
set_option maxHeartbeats 6400000 in
theorem receiver_any (b : Nat) (Au : Option Addr) (vs : List U) (cu : Nat) (d : ByteArray) (st : Int) (f t : ByteArray) (us : List ByteArray) (w : World) (h : Po w b Au vs cu d ⟨st, f, us, t⟩) (hok : Sm.ok ⟨st, f, us, t⟩ = true) (hvl : vs.length ≤ maxLen) (hv : Us.usersOk vs = true) (l : ByteArray) (hl : l.size ≤ 16777216) :
    Calls Tryz.prog 63 #[.pointer (some ⟨b, 0, none⟩), .string l] w (Po.Res (Sm.rcpt vs d ⟨st, f, us, t⟩ l) b Au vs cu d w) := by
  have hlt := h.lt
  have H := Lib.hid h
  obtain ⟨A, c, hb, ho, hu⟩ := h
  obtain ⟨⟨c0, c1, c2, c3, c4, c5⟩, y0, y1, y2, y3⟩ := Po.cells hb
  clear hb
  dsimp only at c0 c1 c2 c3 ho
  have HM : Hid (Sm.rcpt vs d ⟨st, f, us, t⟩ l = if ¬ (st = 3 ∨ st = 4) then (Sm.S.mk st f us t, (503 : Int)) else match Pa.behind Sm.begT l.data.toList with | some (a, e) => if Ct.mk e = d ∧ Sm.knows vs (Ct.mk a) = true then (if St.has us (Ct.mk a) = true then (Sm.S.mk st f us t, (250 : Int)) else if 3 ≤ us.length then (Sm.S.mk st f us t, (452 : Int)) else (Sm.S.mk 4 f (us ++ [Ct.mk a]) Sm.e0, (250 : Int))) else (Sm.S.mk st f us t, (550 : Int)) | none => (Sm.S.mk st f us t, (501 : Int))) := Lib.hid rfl
  have HOK := Lib.hid hok
  have hul : us.length ≤ 3 := (Sm.ok_sizes hok).2.1
  have HUS : Hid (∀ u ∈ us, u.size ≤ maxLen) := Lib.hid (fun u hu => by have := (Sm.ok_sizes hok).2.2.1 u hu; unfold maxLen; omega)
  clear hok
  by_cases h34 : st = 3 ∨ st = 4
  · cases hp : Pa.behind Sm.begT l.data.toList with
    | none =>
      have HR : Hid (Sm.rcpt vs d ⟨st, f, us, t⟩ l = (⟨st, f, us, t⟩, 501)) := Lib.hid (by rw [HM.out, if_neg (fun hh => hh h34), hp])
      have HN : Hid (Pa.val none = .tuple #[.agg #[.string ⟨#[]⟩, .string ⟨#[]⟩], .bool false]) := Lib.hid rfl
      have HST := Lib.hid h34
      have h3q : (st != 3) = false ∨ ((st != 3) = true ∧ (st != 4) = false) := by rcases h34 with h | h <;> simp [h]
      clear h34
      rcases h3q with h3i | ⟨h3i, h4i⟩
      all_goals
        go_enter Tryz.func63, Tryz.ntmps63
        go_wp2_with fail
        refine Calls.mono (pathBehind_any l ⟨#[82, 67, 80, 84, 32, 84, 79, 58]⟩ hl (by decide) _) ?_
        rintro e w3 ⟨rfl, hb3⟩
        have HVB : Hid (Pa.behind (ByteArray.mk #[82, 67, 80, 84, 32, 84, 79, 58]).data.toList l.data.toList = Pa.behind Sm.begT l.data.toList) := Lib.hid rfl
        rw [HVB.out]
        have H3 := Lib.hid (H.out.below hb3)
        have HB3 := Lib.hid (hb3.mono (Nat.le_of_lt hlt))
        have hs3 := hb3.size
        clear hb3 c0 c1 c2 c3 c4 c5 y0 y1 y2 y3
        rw [hp, HN.out]
        clear hp
        have hE := Below.alloc (Below.refl w3.heap.size w3) (Nat.le_refl _) (.cells #[.string ⟨#[]⟩, .string ⟨#[]⟩] 81)
        have hx5 := heap_alloc_new w3 (.cells #[.string ⟨#[]⟩, .string ⟨#[]⟩] 81)
        have hs5 : w3.heap.size < (w3.alloc (.cells #[.string ⟨#[]⟩, .string ⟨#[]⟩] 81)).heap.size := by simp
        go_upto_region 4 with fail
        generalize w3.alloc (.cells #[.string ⟨#[]⟩, .string ⟨#[]⟩] 81) = w4 at hE hx5 hs5 ⊢
        have H4 := Lib.hid (H3.out.below hE)
        have HB4 := Lib.hid (HB3.out.trans (hE.mono (Nat.le_of_lt H3.out.lt)))
        obtain ⟨g, hg⟩ : ∃ g, g = w3.heap.size := ⟨_, rfl⟩
        rw [← hg] at hx5 hs5 ⊢
        have hbg : b < g := by omega
        have a0 := cell_at hx5 0 _ rfl
        have a1 := cell_at hx5 1 _ rfl
        have HX5 := Lib.hid hx5
        clear hg hE hx5
        obtain ⟨A4, k4, hx4, ho4, hu4⟩ := H4.out
        obtain ⟨⟨c0, c1, c2, c3, c4, c5⟩, y0, y1, y2, y3⟩ := Po.cells hx4
        have HX4 := Lib.hid hx4
        clear hx4
        dsimp only at c0 c1 c2 c3 ho4
        go_wp2_with fail
        go_ret
        exact Po.res HR.out H4.out HB4.out
    | some ab =>
      obtain ⟨a, e⟩ := ab
      obtain ⟨x, HX⟩ : ∃ x : ByteArray, Hid (Ct.mk a = x) := ⟨_, Lib.hid rfl⟩
      obtain ⟨y, HY⟩ : ∃ y : ByteArray, Hid (Ct.mk e = y) := ⟨_, Lib.hid rfl⟩
      have HN : Hid (Pa.val (some (a, e)) = .tuple #[.agg #[.string x, .string y], .bool true]) := Lib.hid (by rw [← HX.out, ← HY.out]; rfl)
      have HXS : Hid (x.size ≤ 8) := Lib.hid (by have := (Nm.nameOk_len (Pa.behind_some hp).1).2; rw [← HX.out]; show a.toArray.size ≤ 8; rwa [List.size_toArray])
      have HC : Hid (Sm.rcpt vs d ⟨st, f, us, t⟩ l = if y = d ∧ Sm.knows vs x = true then (if St.has us x = true then (Sm.S.mk st f us t, (250 : Int)) else if 3 ≤ us.length then (Sm.S.mk st f us t, (452 : Int)) else (Sm.S.mk 4 f (us ++ [x]) Sm.e0, (250 : Int))) else (Sm.S.mk st f us t, (550 : Int))) := Lib.hid (by rw [HM.out, if_neg (fun hh => hh h34), hp]; dsimp only; rw [HX.out, HY.out])
      have HTE : Hid (t = Sm.e0) := Lib.hid (by rcases Sm.ok_split HOK.out with h | h | h | h; exact h.2.2.2; exact h.2.2.2; exact h.2.2.2; exact absurd h.1 (by dsimp only; omega))
      obtain ⟨u, hu0⟩ := Us.answer_find (n := x) hv
      have HUA := Lib.hid hu0
      clear hu0
      have HST := Lib.hid h34
      have h3q : (st != 3) = false ∨ ((st != 3) = true ∧ (st != 4) = false) := by rcases h34 with h | h <;> simp [h]
      clear h34
      rcases h3q with h3i | ⟨h3i, h4i⟩
      all_goals
        go_enter Tryz.func63, Tryz.ntmps63
        go_wp2_with fail
        refine Calls.mono (pathBehind_any l ⟨#[82, 67, 80, 84, 32, 84, 79, 58]⟩ hl (by decide) _) ?_
        rintro e w3 ⟨rfl, hb3⟩
        have HVB : Hid (Pa.behind (ByteArray.mk #[82, 67, 80, 84, 32, 84, 79, 58]).data.toList l.data.toList = Pa.behind Sm.begT l.data.toList) := Lib.hid rfl
        rw [HVB.out]
        have H3 := Lib.hid (H.out.below hb3)
        have HB3 := Lib.hid (hb3.mono (Nat.le_of_lt hlt))
        have hs3 := hb3.size
        clear hb3 c0 c1 c2 c3 c4 c5 y0 y1 y2 y3
        rw [hp, HN.out]
        clear hp
        have hE := Below.alloc (Below.refl w3.heap.size w3) (Nat.le_refl _) (.cells #[.string x, .string y] 81)
        have hx5 := heap_alloc_new w3 (.cells #[.string x, .string y] 81)
        have hs5 : w3.heap.size < (w3.alloc (.cells #[.string x, .string y] 81)).heap.size := by simp
        go_upto_region 4 with fail
        generalize w3.alloc (.cells #[.string x, .string y] 81) = w4 at hE hx5 hs5 ⊢
        have H4 := Lib.hid (H3.out.below hE)
        have HB4 := Lib.hid (HB3.out.trans (hE.mono (Nat.le_of_lt H3.out.lt)))
        obtain ⟨g, hg⟩ : ∃ g, g = w3.heap.size := ⟨_, rfl⟩
        rw [← hg] at hx5 hs5 ⊢
        have hbg : b < g := by omega
        have a0 := cell_at hx5 0 _ rfl
        have a1 := cell_at hx5 1 _ rfl
        have HX5 := Lib.hid hx5
        clear hg hE hx5
        obtain ⟨A4, k4, hx4, ho4, hu4⟩ := H4.out
        obtain ⟨⟨c0, c1, c2, c3, c4, c5⟩, y0, y1, y2, y3⟩ := Po.cells hx4
        have HX4 := Lib.hid hx4
        clear hx4
        dsimp only at c0 c1 c2 c3 ho4
        have hgw : b < w4.heap.size := H4.out.lt
        have HUF : Hid (∀ W, Below w4.heap.size w4 W → Calls Tryz.prog 75 #[.slice Au vs.length cu, .string x] W (fun e w' => e = .returned (.tuple #[.agg #[.string u.name, .string u.pass, .int .i64 u.quota], .bool (Sm.knows vs x)]) ∧ Below w4.heap.size w4 w' ∧ Below W.heap.size W w')) := Lib.hid (fun W hW => (iUsersFind_any Au vs cu x W ((hu4.mono (Nat.le_of_lt hgw)).below hW |>.mono hW.size) hvl).mono (by rintro e w' ⟨rfl, hb⟩; exact ⟨by rw [HUA.out], hW.trans (hb.mono hW.size), hb⟩))
        have HUB : Hid (AtUsers w4 b Au vs) := Lib.hid hu4
        have HO4 := Lib.hid ho4
        clear hu4 ho4
        have HW1 : Hid (Below w4.heap.size w4 w4.drew) := Lib.hid (Sx.below_drew (Below.refl _ _))
        go_upto_region 6 with fail
        go_cut [8] (fun v wx => v = .bool (Sm.knows vs x) ∧ Hid (Below w4.heap.size w4 wx))
        case first =>
          have HW2 : Hid (Below w4.heap.size w4 (w4.alloc (.cells #[.string ⟨#[]⟩, .string ⟨#[]⟩, .int .i64 0] 54)).drew) := Lib.hid (Sx.below_drew ((Below.refl w4.heap.size w4).alloc (Nat.le_refl _) _))
          have HN2 := Lib.hid (heap_alloc_new w4 (.cells #[.string ⟨#[]⟩, .string ⟨#[]⟩, .int .i64 0] 54))
          have HL2 : Hid (w4.heap.size < (w4.alloc (.cells #[.string ⟨#[]⟩, .string ⟨#[]⟩, .int .i64 0] 54)).drew.heap.size) := Lib.hid (show w4.heap.size < (w4.alloc (.cells #[.string ⟨#[]⟩, .string ⟨#[]⟩, .int .i64 0] 54)).heap.size by simp)
          go_region_law ((first | (go_simp; go_at_call 75; refine Calls.mono (HUF.out _ HW1.out) ?_; rintro e w5 ⟨rfl, hb5, _⟩; have HB5 := Lib.hid hb5; clear hb5) | (go_simp; go_at_call 75; refine Calls.mono (HUF.out _ HW2.out) ?_; rintro e w5 ⟨rfl, hb5, hb6⟩; have HB5 := Lib.hid hb5; have HU5 := Lib.hid ((hb6.block w4.heap.size HL2.out).trans HN2.out); clear hb5 hb6; have v0 := cell_at HU5.out 0 _ rfl; have v1 := cell_at HU5.out 1 _ rfl; have v2 := cell_at HU5.out 2 _ rfl; have u0 := free_at HU5.out 0; have u1 := free_at HU5.out 1; have u2 := free_at HU5.out 2)))
          all_goals
            go_wp2_with fail
            go_meet
            first | exact ⟨rfl, Lib.hid (show Below w4.heap.size w4 _ from HB5.out.alloc HB5.out.size _)⟩ | exact ⟨rfl, Lib.hid (HB5.out.alloc HB5.out.size _)⟩ | exact ⟨rfl, HB5⟩ | exact ⟨rfl, Lib.hid (((HB5.out.setCell (p := ⟨w4.heap.size, 0, none⟩) (Nat.le_refl _) _).setCell (p := ⟨w4.heap.size, 1, none⟩) (Nat.le_refl _) _).setCell (p := ⟨w4.heap.size, 2, none⟩) (Nat.le_refl _) _)⟩
        case rest =>
          obtain ⟨rfl, HBX⟩ := hcut
          obtain ⟨w6, hw6⟩ : ∃ w6, w6 = wc := ⟨_, rfl⟩
          rw [← hw6] at HBX ⊢
          clear hw6 c0 c1 c2 c3 c4 c5 y0 y1 y2 y3 a0 a1
          have HXb := Lib.hid ((HBX.out.block b hgw).trans HX4.out)
          have HXg := Lib.hid ((HBX.out.block g hs5).trans HX5.out)
          obtain ⟨⟨c0, c1, c2, c3, c4, c5⟩, y0, y1, y2, y3⟩ := Po.cells HXb.out
          dsimp only at c0 c1 c2 c3
          have a0 := cell_at HXg.out 0 _ rfl
          have a1 := cell_at HXg.out 1 _ rfl
          cases hk : Sm.knows vs x
          · have HR := Lib.hid (HC.out.trans (if_neg (fun h => absurd (h.2.symm.trans hk) (by decide))))
            clear hk HUF
            go_upto_region 7 with fail
            go_cut [40] (fun v wx => v = .bool true ∧ Hid (Below w4.heap.size w4 wx))
            case first =>
              go_quiet (fail)
              go_wp2_with fail
              go_meet
              exact ⟨rfl, Lib.hid (below_drewN' HBX.out _)⟩
            case rest =>
              obtain ⟨rfl, HBXa⟩ := hcut
              obtain ⟨w6a, hw6⟩ : ∃ w6, w6 = wc := ⟨_, rfl⟩
              rw [← hw6] at HBXa ⊢
              clear hw6
              clear c0 c1 c2 c3 c4 c5 y0 y1 y2 y3 a0 a1
              have HXb := Lib.hid ((HBXa.out.block b hgw).trans HX4.out)
              have HXg := Lib.hid ((HBXa.out.block g hs5).trans HX5.out)
              obtain ⟨⟨c0, c1, c2, c3, c4, c5⟩, y0, y1, y2, y3⟩ := Po.cells HXb.out
              dsimp only at c0 c1 c2 c3
              have a0 := cell_at HXg.out 0 _ rfl
              have a1 := cell_at HXg.out 1 _ rfl
              go_wp2_with fail
              go_ret
              exact Po.res HR.out (H4.out.below HBXa.out) (HB4.out.trans (HBXa.out.mono (Nat.le_of_lt hgw)))
          · by_cases hyd : y = d
            · have HC2 := Lib.hid (HC.out.trans (if_pos ⟨hyd, hk⟩))
              have q2 := two_yes hyd
              have q2b := two_yes' hyd
              clear hyd hk HUF
              go_upto_region 7 with fail
              go_cut [40] (fun v wx => v = .bool false ∧ Hid (Below w4.heap.size w4 wx))
              case first =>
                go_quiet (fail)
                go_wp2_with fail
                go_meet
                exact ⟨rfl, Lib.hid (below_drewN' HBX.out _)⟩
              case rest =>
                obtain ⟨rfl, HBXa⟩ := hcut
                obtain ⟨w6a, hw6⟩ : ∃ w6, w6 = wc := ⟨_, rfl⟩
                rw [← hw6] at HBXa ⊢
                clear hw6
                clear c0 c1 c2 c3 c4 c5 y0 y1 y2 y3 a0 a1
                have HXb := Lib.hid ((HBXa.out.block b hgw).trans HX4.out)
                have HXg := Lib.hid ((HBXa.out.block g hs5).trans HX5.out)
                obtain ⟨⟨c0, c1, c2, c3, c4, c5⟩, y0, y1, y2, y3⟩ := Po.cells HXb.out
                dsimp only at c0 c1 c2 c3
                have a0 := cell_at HXg.out 0 _ rfl
                have a1 := cell_at HXg.out 1 _ rfl
                have HA6 : Hid (AtStrs w6a w6a.heap.size A4 us) := Lib.hid (at_strs (OwnL.at_ (OwnL.below HO4.out HBXa.out) St.cells_len rfl) HUS.out)
                have hulm : us.length ≤ maxLen := by unfold maxLen; omega
                cases hh : St.has us x
                · have HC3 := Lib.hid (HC2.out.trans (if_neg (by rw [hh]; decide)))
                  have HCN : Hid (∀ W : World, W.heap = w6a.heap → Calls Tryz.prog 69 #[.slice A4 us.length k4, .string x] W (fun e w' => e = .returned (.bool false) ∧ w' = W)) := Lib.hid (fun W hW => by have := contains_any A4 us us.length k4 x W w6a.heap.size (HA6.out.keep (fun i _ => by rw [hW])) rfl hulm; rw [hh] at this; exact this)
                  clear hh
                  go_upto_region 9 with fail
                  go_cut [52] (fun v wx => v = .bool false ∧ Hid (Below w4.heap.size w4 wx))
                  case first =>
                    go_quiet ((go_at_call 69; exact Calls.quiet_of_same (HCN.out _ rfl)))
                    go_wp2_with fail
                    go_meet
                    exact ⟨rfl, Lib.hid (below_drewN' HBXa.out _)⟩
                  case rest =>
                    obtain ⟨rfl, HBXb⟩ := hcut
                    obtain ⟨w6b, hw6⟩ : ∃ w6, w6 = wc := ⟨_, rfl⟩
                    rw [← hw6] at HBXb ⊢
                    clear hw6
                    clear c0 c1 c2 c3 c4 c5 y0 y1 y2 y3 a0 a1
                    have HXb := Lib.hid ((HBXb.out.block b hgw).trans HX4.out)
                    have HXg := Lib.hid ((HBXb.out.block g hs5).trans HX5.out)
                    obtain ⟨⟨c0, c1, c2, c3, c4, c5⟩, y0, y1, y2, y3⟩ := Po.cells HXb.out
                    dsimp only at c0 c1 c2 c3
                    have a0 := cell_at HXg.out 0 _ rfl
                    have a1 := cell_at HXg.out 1 _ rfl
                    by_cases h3 : 3 ≤ us.length
                    · have h3i : (us.length : Int) = 3 := by omega
                      have HR := Lib.hid (HC3.out.trans (if_pos h3))
                      clear h3
                      go_wp2_with fail
                      go_ret
                      exact Po.res HR.out (H4.out.below HBXb.out) (HB4.out.trans (HBXb.out.mono (Nat.le_of_lt hgw)))
                    · have h3i : ¬ (us.length : Int) = 3 := by omega
                      have HR : Hid (Sm.rcpt vs d ⟨st, f, us, t⟩ l = (⟨4, f, us ++ [x], t⟩, 250)) := Lib.hid (by rw [HC3.out, if_neg h3, HTE.out])
                      clear h3
                      obtain ⟨i0, hi, hz0, hz1, hz2⟩ := info_parts str_info
                      have HE : Hid (Below w6b.heap.size w6b (w6b.alloc (.cells #[.string x] 9)).drew) := Lib.hid (Sx.below_drew ((Below.refl _ _).alloc (Nat.le_refl _) _))
                      have H0 : Hid ((w6b.alloc (.cells #[.string x] 9)).drew.ownsRow (b + 1) 9 1 (.slice A4 us.length k4) us.length (us.flatMap St.cells)) := Lib.hid (show OwnL 9 1 St.cells _ (b + 1) (.slice A4 us.length k4) us from OwnL.below (OwnL.below HO4.out HBXb.out) HE.out)
                      have HRD : Hid (Reads (w6b.alloc (.cells #[.string x] 9)).drew (w6b.heap.size + 1) 1 (some ⟨w6b.heap.size, 0, none⟩) 1 [.string x]) := Lib.hid (Sx.reads_one w6b x)
                      have hb6 : w4.heap.size ≤ w6b.heap.size := HBXb.out.size
                      have hbw : b < w6b.heap.size := by omega
                      have hgw6 : g < w6b.heap.size := by omega
                      have HK3 : Hid (us.length + 1 ≤ maxLen) := Lib.hid (by unfold maxLen; omega)
                      have HK4 : Hid ((us.length + 1) * 16 ≤ 140737488355328) := Lib.hid (by omega)
                      have HK5 : Hid (b + 1 ≤ (w6b.alloc (.cells #[.string x] 9)).drew.heap.size) := Lib.hid (show b + 1 ≤ (w6b.alloc (.cells #[.string x] 9)).heap.size by simp; omega)
                      go_upto_region 13 with fail
                      go_region_law ((first | (refine step_append_any _ rfl (.tmp 74) (.tmp 77) _ rfl (b + 1) 9 i0 _ 1 16 Tryz.underlying23 hi hz0 hz1 hz2 rfl (by omega) _ us.length _ (by simp [Act.eval]) H0.out (w6b.heap.size + 1) (some ⟨w6b.heap.size, 0, none⟩) 1 1 [.string x] (by simp [Act.eval]) HRD.out (Sx.one_one x) HK3.out HK4.out HK5.out ?_; intro v wa hown hgr hbk; obtain ⟨A7, c7, rfl⟩ := own_form hown; have HBA : Hid (Below (b + 1) (w6b.alloc (.cells #[.string x] 9)).drew wa) := Lib.hid ((Below.refl _ _).grown hgr HK5.out (fun q hq => (H0.out.lt q hq).1)); have HXA := Lib.hid ((HBA.out.block b (Nat.lt_succ_self b)).trans ((HE.out.block b (by omega)).trans HXb.out)); have HOA := Lib.hid (Po.snoc hown); clear hown hgr hbk  c0 c1 c2 c3 c4 c5 y0 y1 y2 y3 a0 a1; obtain ⟨⟨c0, c1, c2, c3, c4, c5⟩, y0, y1, y2, y3⟩ := Po.cells HXA.out; dsimp only at c0 c1 c2 c3)))
                      all_goals
                        go_wp2_with fail
                        go_ret
                        exact Po.res HR.out (Po.mk2 HXA.out HOA.out (by simp) (((HUB.out.below (HBXb.out.mono (Nat.le_of_lt hgw))).below (HE.out.mono (by omega))).below (HBA.out.mono (Nat.le_succ b))) 4) (set_below (set_below ((((HB4.out.trans (HBXb.out.mono (Nat.le_of_lt hgw)))).trans (HE.out.mono (by omega))).trans (HBA.out.mono (Nat.le_succ b))) 2 _) 0 _)
                · have HR := Lib.hid (HC2.out.trans (if_pos hh))
                  have HCN : Hid (∀ W : World, W.heap = w6a.heap → Calls Tryz.prog 69 #[.slice A4 us.length k4, .string x] W (fun e w' => e = .returned (.bool true) ∧ w' = W)) := Lib.hid (fun W hW => by have := contains_any A4 us us.length k4 x W w6a.heap.size (HA6.out.keep (fun i _ => by rw [hW])) rfl hulm; rw [hh] at this; exact this)
                  clear hh
                  go_upto_region 9 with fail
                  go_cut [52] (fun v wx => v = .bool true ∧ Hid (Below w4.heap.size w4 wx))
                  case first =>
                    go_quiet ((go_at_call 69; exact Calls.quiet_of_same (HCN.out _ rfl)))
                    go_wp2_with fail
                    go_meet
                    exact ⟨rfl, Lib.hid (below_drewN' HBXa.out _)⟩
                  case rest =>
                    obtain ⟨rfl, HBXb⟩ := hcut
                    obtain ⟨w6b, hw6⟩ : ∃ w6, w6 = wc := ⟨_, rfl⟩
                    rw [← hw6] at HBXb ⊢
                    clear hw6
                    clear c0 c1 c2 c3 c4 c5 y0 y1 y2 y3 a0 a1
                    have HXb := Lib.hid ((HBXb.out.block b hgw).trans HX4.out)
                    have HXg := Lib.hid ((HBXb.out.block g hs5).trans HX5.out)
                    obtain ⟨⟨c0, c1, c2, c3, c4, c5⟩, y0, y1, y2, y3⟩ := Po.cells HXb.out
                    dsimp only at c0 c1 c2 c3
                    have a0 := cell_at HXg.out 0 _ rfl
                    have a1 := cell_at HXg.out 1 _ rfl
                    go_wp2_with fail
                    go_ret
                    exact Po.res HR.out (H4.out.below HBXb.out) (HB4.out.trans (HBXb.out.mono (Nat.le_of_lt hgw)))
            · have HR := Lib.hid (HC.out.trans (if_neg (fun h => hyd h.1)))
              have q2 := two_no hyd
              have q2b := two_no' hyd
              clear hyd hk HUF
              go_upto_region 7 with fail
              go_cut [40] (fun v wx => v = .bool true ∧ Hid (Below w4.heap.size w4 wx))
              case first =>
                go_quiet (fail)
                go_wp2_with fail
                go_meet
                exact ⟨rfl, Lib.hid (below_drewN' HBX.out _)⟩
              case rest =>
                obtain ⟨rfl, HBXa⟩ := hcut
                obtain ⟨w6a, hw6⟩ : ∃ w6, w6 = wc := ⟨_, rfl⟩
                rw [← hw6] at HBXa ⊢
                clear hw6
                clear c0 c1 c2 c3 c4 c5 y0 y1 y2 y3 a0 a1
                have HXb := Lib.hid ((HBXa.out.block b hgw).trans HX4.out)
                have HXg := Lib.hid ((HBXa.out.block g hs5).trans HX5.out)
                obtain ⟨⟨c0, c1, c2, c3, c4, c5⟩, y0, y1, y2, y3⟩ := Po.cells HXb.out
                dsimp only at c0 c1 c2 c3
                have a0 := cell_at HXg.out 0 _ rfl
                have a1 := cell_at HXg.out 1 _ rfl
                go_wp2_with fail
                go_ret
                exact Po.res HR.out (H4.out.below HBXa.out) (HB4.out.trans (HBXa.out.mono (Nat.le_of_lt hgw)))
  · have h3i : (st != 3) = true := by simp; omega
    have h4i : (st != 4) = true := by simp; omega
    have HR : Hid (Sm.rcpt vs d ⟨st, f, us, t⟩ l = (⟨st, f, us, t⟩, 503)) := Lib.hid (by rw [HM.out, if_pos h34])
    clear h34
    go_enter Tryz.func63, Tryz.ntmps63
    go_wp2_with fail
    go_ret
    exact Po.res HR.out H.out (Below.refl b w)
end Go.Proofs.YtpjifcljkgcnlaaGreatDoor
