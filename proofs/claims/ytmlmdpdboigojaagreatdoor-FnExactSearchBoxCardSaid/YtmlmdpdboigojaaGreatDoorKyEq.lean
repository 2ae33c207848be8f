/- Comparison of mailboxes and keys (eqBox, eqKey of the laws). -/
import Derived.Test.YtmlmdpdboigojaaGreatDoorKyMem
namespace Go.Proofs.YtmlmdpdboigojaaGreatDoor
set_option linter.unusedVariables false
open Go.RowKit

set_option maxHeartbeats 800000 in
theorem eqSpan_any (u : Sn) (w : World) :
    Calls Tryz.prog 52 #[.agg #[.int .i64 u.1, .int .i64 u.2], .agg #[.int .i64 u.1, .int .i64 u.2]] w fun e w' => e = .returned (.bool true) ∧ Below w.heap.size w w' := by
  go_enter Tryz.func52, Tryz.ntmps52
  go_wp2
  go_ret
  exact ⟨rfl, by go_grown⟩

set_option maxHeartbeats 800000 in
theorem eqMail_any (u : Ml) (w : World) :
    Calls Tryz.prog 51 #[.agg #[.int .i64 u.uid, .int .i64 u.flags, .string u.text], .agg #[.int .i64 u.uid, .int .i64 u.flags, .string u.text]] w fun e w' => e = .returned (.bool true) ∧ Below w.heap.size w w' := by
  go_enter Tryz.func51, Tryz.ntmps51
  go_wp2
  go_ret
  exact ⟨rfl, by go_grown⟩

set_option maxHeartbeats 800000 in
theorem eqSpanS_any (A A' : Option Addr) (us : List Sn) (c c' : Nat) (w : World) (h : AtSet w w.heap.size A us) (h' : AtSet w w.heap.size A' us) (hn : us.length ≤ maxLen) :
    Calls Tryz.prog 30 #[.slice A us.length c, .slice A' us.length c'] w fun e w' => e = .returned (.bool true) ∧ Below w.heap.size w w' := by
  unfold maxLen at hn
  go_enter Tryz.func30, Tryz.ntmps30
  go_wp2_with fail
  go_loopg [5] us.length (fun g i wr => ∃ k : Nat, k ≤ us.length ∧ Hid (g = us.length - k) ∧ i = .int .i64 k ∧ Below w.heap.size w wr)
  case atStart => exact ⟨0, Nat.zero_le _, Lib.hid rfl, rfl, Below.refl _ _⟩
  case round =>
    obtain ⟨k, hk, HG, rfl, hb⟩ := hrel
    by_cases hlt : k < us.length
    · obtain ⟨g, off, rfl, hg, hc⟩ := AtSet.row (h.below hb) (by omega)
      obtain ⟨g', off', rfl, hg', hc'⟩ := AtSet.row (h'.below hb) (by omega)
      obtain ⟨u, hu⟩ : ∃ u, us[k]? = some u := ⟨_, List.getElem?_eq_getElem hlt⟩
      obtain ⟨d1, d2⟩ := hc k u hu
      obtain ⟨e1, e2⟩ := hc' k u hu
      clear hc hc' hu
      go_wp2_with fail
      go_region_with (go_at_call 52; refine (eqSpan_any u _).mono ?_; rintro e w1 ⟨rfl, hb1⟩)
      all_goals
        go_wp2_with fail
        go_roundg (us.length - (k + 1))
        case measure => have := HG.out; omega
        case rel => exact ⟨k + 1, by omega, Lib.hid rfl, by go_num, hb.drew.trans (hb1.mono hb.size)⟩
    · obtain rfl : k = us.length := by omega
      go_wp2_with fail
      go_ret
      exact ⟨rfl, hb⟩

set_option maxHeartbeats 800000 in
theorem eqMailS_any (A A' : Option Addr) (us : List Ml) (c c' : Nat) (w : World) (h : AtMails w w.heap.size A us) (h' : AtMails w w.heap.size A' us) (hn : us.length ≤ maxLen) :
    Calls Tryz.prog 29 #[.slice A us.length c, .slice A' us.length c'] w fun e w' => e = .returned (.bool true) ∧ Below w.heap.size w w' := by
  unfold maxLen at hn
  go_enter Tryz.func29, Tryz.ntmps29
  go_wp2_with fail
  go_loopg [5] us.length (fun g i wr => ∃ k : Nat, k ≤ us.length ∧ Hid (g = us.length - k) ∧ i = .int .i64 k ∧ Below w.heap.size w wr)
  case atStart => exact ⟨0, Nat.zero_le _, Lib.hid rfl, rfl, Below.refl _ _⟩
  case round =>
    obtain ⟨k, hk, HG, rfl, hb⟩ := hrel
    by_cases hlt : k < us.length
    · obtain ⟨g, off, rfl, hg, hc⟩ := AtMails.row (h.below hb) (by omega)
      obtain ⟨g', off', rfl, hg', hc'⟩ := AtMails.row (h'.below hb) (by omega)
      obtain ⟨u, hu⟩ : ∃ u, us[k]? = some u := ⟨_, List.getElem?_eq_getElem hlt⟩
      obtain ⟨d1, d2, d3⟩ := hc k u hu
      obtain ⟨e1, e2, e3⟩ := hc' k u hu
      clear hc hc' hu
      go_wp2_with fail
      go_region_with (go_at_call 51; refine (eqMail_any u _).mono ?_; rintro e w1 ⟨rfl, hb1⟩)
      all_goals
        go_wp2_with fail
        go_roundg (us.length - (k + 1))
        case measure => have := HG.out; omega
        case rel => exact ⟨k + 1, by omega, Lib.hid rfl, by go_num, hb.drew.trans (hb1.mono hb.size)⟩
    · obtain rfl : k = us.length := by omega
      go_wp2_with fail
      go_ret
      exact ⟨rfl, hb⟩

set_option maxHeartbeats 1600000 in
theorem eqBox_any (nx : Int) (A A' : Option Addr) (ls : List Ml) (c c' : Nat) (w : World) (h : AtMails w w.heap.size A ls) (h' : AtMails w w.heap.size A' ls) (hn : ls.length ≤ maxLen) :
    Calls Tryz.prog 11 #[.agg #[.int .i64 nx, .slice A ls.length c], .agg #[.int .i64 nx, .slice A' ls.length c']] w fun e w' => e = .returned (.bool true) ∧ Below w.heap.size w w' := by
  go_enter Tryz.func11, Tryz.ntmps11
  go_wp2_with fail
  refine (eqMailS_any A A' ls c c' _ (At.mono (At.below h (by go_grown)) (by simp; omega)) (At.mono (At.below h' (by go_grown)) (by simp; omega)) hn).mono ?_
  rintro e w1 ⟨rfl, hb1⟩
  have hB := Below.trans (B := w.heap.size) (a := w) (by go_grown) (hb1.mono (by simp; omega))
  go_wp2_with fail
  go_ret
  exact ⟨rfl, hB⟩

set_option maxHeartbeats 1600000 in
theorem eqKeyS_of (d : Nat) (ih : ∀ (x y : Kx) (w : World), Kx.In d w w.heap.size x → Kx.In d w w.heap.size y → Kx.v d x = Kx.v d y → Calls Tryz.prog 12 #[x.val, y.val] w fun e w' => e = .returned (.bool true) ∧ Below w.heap.size w w')
    (A A' : Option Addr) (ls ls' : List Kx) (c c' : Nat) (w : World) (h : At w w.heap.size 5 Kx.cells A ls) (h' : At w w.heap.size 5 Kx.cells A' ls') (hin : ∀ y ∈ ls, Kx.In d w w.heap.size y) (hin' : ∀ y ∈ ls', Kx.In d w w.heap.size y) (he : ls.map (Kx.v d) = ls'.map (Kx.v d)) (hn : ls.length ≤ maxLen) :
    Calls Tryz.prog 31 #[.slice A ls.length c, .slice A' ls'.length c'] w fun e w' => e = .returned (.bool true) ∧ Below w.heap.size w w' := by
  unfold maxLen at hn
  have hll : ls'.length = ls.length := by have := congrArg List.length he; rw [List.length_map, List.length_map] at this; exact this.symm
  rw [hll]
  have HLL := Lib.hid hll
  have HE := Lib.hid he
  have HIN := Lib.hid (And.intro hin hin')
  clear hll he hin hin'
  go_enter Tryz.func31, Tryz.ntmps31
  go_wp2_with fail
  go_loopg [5] ls.length (fun g i wr => ∃ k : Nat, k ≤ ls.length ∧ Hid (g = ls.length - k) ∧ i = .int .i64 k ∧ Below w.heap.size w wr)
  case atStart => exact ⟨0, Nat.zero_le _, Lib.hid rfl, rfl, Below.refl _ _⟩
  case round =>
    obtain ⟨k, hk, HG, rfl, hb⟩ := hrel
    by_cases hlt : k < ls.length
    · obtain ⟨g, off, rfl, hg, hc⟩ := keys_row (h.below hb) (by omega)
      obtain ⟨g', off', rfl, hg', hc'⟩ := keys_row (h'.below hb) (by have := HLL.out; omega)
      obtain ⟨u, hu⟩ : ∃ u, ls[k]? = some u := ⟨_, List.getElem?_eq_getElem hlt⟩
      obtain ⟨u', hu'⟩ : ∃ u', ls'[k]? = some u' := ⟨_, List.getElem?_eq_getElem (by have := HLL.out; omega)⟩
      have hv : Kx.v d u = Kx.v d u' := by
        have h1 : (ls.map (Kx.v d))[k]? = some (Kx.v d u) := by rw [List.getElem?_map, hu]; rfl
        have h2 : (ls'.map (Kx.v d))[k]? = some (Kx.v d u') := by rw [List.getElem?_map, hu']; rfl
        rw [HE.out, h2] at h1
        injection h1 with h1
        exact h1.symm
      have HW := Lib.hid hb.size
      have HSL := Lib.hid (fun (W : World) (hW : W.heap = wr.heap) => ih u u' W (((((HIN.out.1 u (List.mem_of_getElem? hu)).below hb).keep (w' := W) (fun i _ => by rw [hW])).mono (by rw [hW]; exact HW.out))) (((((HIN.out.2 u' (List.mem_of_getElem? hu')).below hb).keep (w' := W) (fun i _ => by rw [hW])).mono (by rw [hW]; exact HW.out))) hv)
      obtain ⟨d0, d1, d2, d3, d4⟩ := hc k u hu
      obtain ⟨e0, e1, e2, e3, e4⟩ := hc' k u' hu'
      clear hc hc' hu hu' hv
      have k1 : (k : Int) < (ls.length : Int) := by omega
      go_upto_region 6 with fail
      go_region_with (go_at_call 12; refine Calls.mono (HSL.out _ rfl) ?_; rintro e w1 ⟨rfl, hb1⟩)
      all_goals
        go_wp2_with fail
        go_roundg (ls.length - (k + 1))
        case measure => have := HG.out; omega
        case rel => exact ⟨k + 1, by omega, Lib.hid rfl, by go_num, (below_drewN hb 1).trans (hb1.mono hb.size)⟩
    · obtain rfl : k = ls.length := by omega
      go_wp2_with fail
      go_ret
      exact ⟨rfl, hb⟩

set_option maxHeartbeats 1600000 in
theorem eqKey_any (d : Nat) : ∀ (x y : Kx) (w : World), Kx.In d w w.heap.size x → Kx.In d w w.heap.size y → Kx.v d x = Kx.v d y → Calls Tryz.prog 12 #[x.val, y.val] w fun e w' => e = .returned (.bool true) ∧ Below w.heap.size w w' := by
  induction d with
  | zero => intro x y w h; exact absurd h id
  | succ d ih =>
    intro x y w h h' hv
    obtain ⟨ht, hs, hsc, hcm, hk, hkc, hkm, hin⟩ := h
    obtain ⟨ht', hs', hsc', hcm', hk', hkc', hkm', hin'⟩ := h'
    obtain ⟨kind, flag, text, A, set, c, KA, keys, kc⟩ := x
    obtain ⟨kind', flag', text', A', set', c', KA', keys', kc'⟩ := y
    injection hv with v1 v2 v3 v4 v5
    simp only [Kx.text, Kx.set, Kx.keys, Kx.A, Kx.KA, Kx.c, Kx.kc, Kx.kind, Kx.flag] at ht hs hsc hcm hk hkc hkm hin ht' hs' hsc' hcm' hk' hkc' hkm' hin' v1 v2 v3 v4 v5
    simp only [Kx.val, Kx.kind, Kx.flag, Kx.text, Kx.set, Kx.keys, Kx.A, Kx.KA, Kx.c, Kx.kc]
    subst v1 v2 v3 v4
    have hsl : set.length ≤ maxLen := Nat.le_trans hsc hcm
    have hkl : keys.length ≤ maxLen := Nat.le_trans hkc hkm
    have HK := Lib.hid (And.intro hk hin)
    have HK' := Lib.hid (And.intro hk' hin')
    have HV := Lib.hid v5
    clear hk hin hsc hcm hkc hkm hk' hin' hsc' hcm' hkc' hkm' ht' v5
    go_enter Tryz.func12, Tryz.ntmps12
    go_wp2_with fail
    refine (eqSpanS_any A A' set c c' _ (At.mono (At.below hs (by go_grown)) (by simp; omega)) (At.mono (At.below hs' (by go_grown)) (by simp; omega)) hsl).mono ?_
    rintro e w1 ⟨rfl, hb1⟩
    have hB := Below.trans (B := w.heap.size) (a := w) (by go_grown) (hb1.mono (by simp; omega))
    have HX1 : Hid (w1.heap[w.heap.size]? = some (.cells #[.int .i64 kind, .int .i64 flag, .string text, .slice A set.length c, .slice KA keys.length kc] 40 (0, 0))) := Lib.hid ((hb1.block _ (by simp; omega)).trans ((Below.heap_alloc _ _ _ (by simp)).trans (heap_alloc_new w _)))
    have HX2 : Hid (w1.heap[w.heap.size + 1]? = some (.cells #[.int .i64 kind, .int .i64 flag, .string text, .slice A' set.length c', .slice KA' keys'.length kc'] 40 (0, 0))) := Lib.hid ((hb1.block _ (by simp)).trans (by simpa using heap_alloc_new (w.alloc _) (.cells #[.int .i64 kind, .int .i64 flag, .string text, .slice A' set.length c', .slice KA' keys'.length kc'] 40 (0, 0))))
    have b4 := cell_at HX1.out 4 _ rfl
    have b4' := cell_at HX2.out 4 _ rfl
    go_wp2_with fail
    refine (eqKeyS_of d ih KA KA' keys keys' kc kc' _ (At.mono (At.below HK.out.1 hB) hB.size) (At.mono (At.below HK'.out.1 hB) hB.size) (fun y hy => ((HK.out.2 y hy).below hB).mono hB.size) (fun y hy => ((HK'.out.2 y hy).below hB).mono hB.size) HV.out hkl).mono ?_
    rintro e w2 ⟨rfl, hb2⟩
    have hB2 := hB.trans (hb2.mono hB.size)
    go_wp2_with fail
    go_ret
    exact ⟨rfl, hB2⟩
end Go.Proofs.YtmlmdpdboigojaaGreatDoor
