/- FnLeft: the walk. -/
import Derived.Test.YtpbaimofffcnaaaQoW5
import Derived.Test.YtpbaimofffcnaaaQlI
namespace Go.Proofs.Ytpbaimofffcnaaa
set_option linter.unusedVariables false
open Go.RowKit

theorem any_take {α : Type} {p : α → Bool} {l : List α} {k : Nat} {x : α} (h : l[k]? = some x) : (l.take (k + 1)).any p = ((l.take k).any p || p x) := by
  rw [List.take_add_one, h, List.any_append]; simp

set_option maxHeartbeats 800000 in
theorem hasName_any (A : Option Addr) (us : List ByteArray) (c : Nat) (n : ByteArray) (w : World) (h : AtStrs w w.heap.size A us) (hn : us.length ≤ maxLen) :
    Calls Try.prog 16 #[.slice A us.length c, .string n] w fun e w' => e = .returned (.bool (St.has us n)) ∧ Below w.heap.size w w' := by
  unfold maxLen at hn
  go_enter Try.func16, Try.ntmps16
  go_wp2_with fail
  go_loopg [5] us.length (fun g i wr => ∃ k : Nat, k ≤ us.length ∧ Hid (g = us.length - k) ∧ i = .int .i64 k ∧ Hid ((us.take k).any (fun u => u.toList == n.toList) = false) ∧ Below w.heap.size w wr)
  case atStart => exact ⟨0, Nat.zero_le _, Lib.hid rfl, rfl, Lib.hid rfl, Below.refl _ _⟩
  case round =>
    obtain ⟨k, hk, HG, rfl, HA, hb⟩ := hrel
    by_cases hlt : k < us.length
    · obtain ⟨g, off, rfl, hg, hc⟩ := (h.below hb).1 (by omega)
      obtain ⟨u, hu⟩ : ∃ u, us[k]? = some u := ⟨_, List.getElem?_eq_getElem hlt⟩
      have d1 := hc k u hu
      have HU := Lib.hid hu
      clear hc hu
      have k1 : (k : Int) < (us.length : Int) := by omega
      cases hq : (u.toList == n.toList)
      · have HA2 : Hid ((us.take (k + 1)).any (fun u => u.toList == n.toList) = false) := Lib.hid (by rw [any_take HU.out, HA.out, hq]; rfl)
        go_wp2_with fail
        go_roundg (us.length - (k + 1))
        case measure => have := HG.out; omega
        case rel => exact ⟨k + 1, by omega, Lib.hid rfl, by go_num, HA2, hb⟩
      · have HK : Hid (St.has us n = true) := Lib.hid (by unfold St.has; exact List.any_eq_true.2 ⟨u, List.mem_of_getElem? HU.out, hq⟩)
        go_wp2_with fail
        go_ret
        exact ⟨by rw [HK.out]; rfl, hb⟩
    · obtain rfl : k = us.length := by omega
      have HK : Hid (St.has us n = false) := Lib.hid (by unfold St.has; have := HA.out; rwa [List.take_length] at this)
      go_wp2_with fail
      go_ret
      exact ⟨by rw [HK.out]; rfl, hb⟩

set_option maxRecDepth 100000 in
set_option maxHeartbeats 1600000 in
theorem walkFnLeft (a : Option Addr) (len cap : Nat) (w : World) (h : Bytes w a len cap) :
    Calls Try.prog 6 #[.slice a len cap] w fun e w' => e = .returned (.bool true) ∧ Below w.heap.size w w' := by
  by_cases hbig : len ≤ 1048576
  · have hbi : ¬ (1048576 : Int) < (len : Int) := by omega
    go_enter Try.func6, Try.ntmps6
    go_wp2_with fail
    refine Calls.mono (drawQueueLeft_any a len cap _ h) ?_
    rintro e w1 ⟨nx, A, c, ls, nm, rfl, hnm, hq, hl, hb1⟩
    have hE := Below.alloc (Below.refl w1.heap.size w1) (Nat.le_refl _) (.cells #[.int .i64 nx, .slice A ls.length c] 29)
    have hx := heap_alloc_new w1 (.cells #[.int .i64 nx, .slice A ls.length c] 29)
    go_upto_region 4 with fail
    generalize w1.alloc (.cells #[.int .i64 nx, .slice A ls.length c] 29) = w2 at hE hx ⊢
    obtain ⟨p, hp⟩ : ∃ p, p = w1.heap.size := ⟨_, rfl⟩
    rw [← hp] at hx ⊢
    clear hp
    have hpl := (Array.getElem?_eq_some_iff.1 hx).1
    have HQ := Lib.hid (hq.below hE)
    have HB2 := Lib.hid (hb1.trans (hE.mono hb1.size))
    have H1 : Hid (∀ w', Below w2.heap.size w2 w' → Below w.heap.size w w' ∧ w'.cell? ⟨p, 0, none⟩ = some (.int .i64 nx) ∧ w'.cell? ⟨p, 1, none⟩ = some (.slice A ls.length c)) := Lib.hid fun w' hb' => by
      have hx2 := (hb'.block p hpl).trans hx
      exact ⟨HB2.out.trans (hb'.mono HB2.out.size), cell_at hx2 0 _ rfl, cell_at hx2 1 _ rfl⟩
    have HA : Hid (∀ w', Below w2.heap.size w2 w' → AtItems w' w'.heap.size A ls) := Lib.hid fun w' hb' => (HQ.out.below hb').items rfl
    have hn : ls.length ≤ maxLen := by unfold maxLen; omega
    have b0 := (H1.out w2 (Below.refl _ _)).2.1
    have b1 := (H1.out w2 (Below.refl _ _)).2.2
    have HI := Lib.hid (iQueueLeft_any nx A ls c nm w2 (HA.out _ (Below.refl _ _)) hn)
    have HS : Hid (∀ w', Below w2.heap.size w2 w' → Calls Try.prog 13 #[.agg #[.int .i64 nx, .slice A ls.length c], .string nm] w' fun e w'' => e = .returned (.int .i64 (Qu.left nx (ls.map Qi.v) nm)) ∧ Below w'.heap.size w' w'') := Lib.hid fun w' hb' => sQueueLeft_any nx A ls c nm w' (HA.out _ hb') hn
    have HV : Hid (∀ w', Below w2.heap.size w2 w' → Calls Try.prog 10 #[.agg #[.int .i64 nx, .slice A ls.length c]] w' fun e w'' => e = .returned (.bool (Qu.ok nx (ls.map Qi.v))) ∧ Below w'.heap.size w' w'') := Lib.hid fun w' hb' => iQueueValid_any nx A ls c w' (HA.out _ hb') hn
    generalize hres : Qu.left nx (ls.map Qi.v) nm = res at HI HS
    have HRES := Lib.hid hres
    clear hres hx hE hq hb1
    go_wp2_with fail
    refine Calls.mono HI.out ?_
    rintro e w3 ⟨rfl, hb3⟩
    have HB3 := Lib.hid hb3
    clear b0 b1 hb3 HI
    have b0 := (H1.out w3 HB3.out).2.1
    have b1 := (H1.out w3 HB3.out).2.2
    go_wp2_with fail
    refine Calls.mono (HS.out _ HB3.out) ?_
    rintro e w4 ⟨rfl, hb4⟩
    have HB4 := Lib.hid (HB3.out.trans (hb4.mono HB3.out.size))
    clear b0 b1 hb4
    have b0 := (H1.out w4 HB4.out).2.1
    have b1 := (H1.out w4 HB4.out).2.2
    have HVC := Lib.hid (HV.out _ HB4.out)
    cases hok : Qu.ok nx (ls.map Qi.v)
    · rw [hok] at HVC
      have hrm : res = -1 := by rw [← HRES.out]; unfold Qu.left; rw [hok]; rfl
      subst hrm
      go_wp2_with fail
      refine Calls.mono HVC.out ?_
      rintro e w5 ⟨rfl, hb5⟩
      have HB5 := Lib.hid (HB4.out.trans (hb5.mono HB4.out.size))
      clear hb5
      go_wp2_with fail
      go_ret
      exact ⟨rfl, (H1.out _ HB5.out).1⟩
    · rw [hok] at HVC
      have HRC : Hid (res = ((Qu.count nm (ls.map Qi.v) : Nat) : Int)) := Lib.hid (by rw [← HRES.out]; unfold Qu.left; rw [hok]; rfl)
      clear hok
      go_wp2_with fail
      refine Calls.mono HVC.out ?_
      rintro e w5 ⟨rfl, hb5⟩
      have HB5 := Lib.hid (HB4.out.trans (hb5.mono HB4.out.size))
      clear b0 b1 hb5 HVC
      go_wp2_with fail
      go_loopg [7, 8] ls.length (fun g n i wr => ∃ (k m : Nat), k ≤ ls.length ∧ Hid (g = ls.length - k) ∧ n = .int .i64 (m : Int) ∧ i = .int .i64 (k : Int) ∧ m ≤ k ∧ Hid (m = Qu.count nm ((ls.map Qi.v).take k)) ∧ Hid (Below w2.heap.size w2 wr))
      case atStart => exact ⟨0, 0, Nat.zero_le _, Lib.hid rfl, rfl, rfl, Nat.le_refl _, Lib.hid rfl, HB5⟩
      case round =>
        obtain ⟨k, m, hk, HG, rfl, rfl, hmk, HM, HB⟩ := hrel
        have b1 := (H1.out wr HB.out).2.2
        by_cases hlt : k < ls.length
        · have hki : (k : Int) < (ls.length : Int) := by omega
          have hk0 : (0 : Int) ≤ (k : Int) := by omega
          have HIT := Lib.hid (HA.out wr HB.out)
          obtain ⟨g, off, hA, hg, hc⟩ := HIT.out.row (by omega)
          obtain ⟨u, hu⟩ : ∃ u, ls[k]? = some u := ⟨_, List.getElem?_eq_getElem hlt⟩
          obtain ⟨d0, d1, d2, d3⟩ := hc k u hu
          have HTV := Lib.hid (Qu.take_v hu)
          have HU := Lib.hid (HIT.out.2 u (List.mem_of_getElem? hu))
          subst hA
          clear hc hu d0 d1 d2
          obtain ⟨id, f, t, A1, us, c1⟩ := u
          dsimp only at d3
          have HH := Lib.hid (hasName_any A1 us c1 nm wr HU.out.1 (Nat.le_trans HU.out.2.1 HU.out.2.2.1))
          cases hh : St.has us nm
          · rw [hh] at HH
            have HM2 : Hid (m = Qu.count nm ((ls.map Qi.v).take (k + 1))) := Lib.hid (by rw [HTV.out, Qu.count_snoc, ← HM.out]; simp [Qi.v, hh])
            clear hh
            go_wp2_with fail
            refine Calls.mono HH.out ?_
            rintro e w6 ⟨rfl, hb6⟩
            have HB6 := Lib.hid (HB.out.trans (hb6.mono HB.out.size))
            clear hb6
            go_wp2_with fail
            go_roundg (ls.length - (k + 1))
            case measure => have := HG.out; omega
            case rel => exact ⟨k + 1, m, by omega, Lib.hid rfl, rfl, by go_num, by omega, HM2, HB6⟩
          · rw [hh] at HH
            have HM2 : Hid (m + 1 = Qu.count nm ((ls.map Qi.v).take (k + 1))) := Lib.hid (by rw [HTV.out, Qu.count_snoc, ← HM.out]; simp [Qi.v, hh])
            have hm6 : m ≤ 6 := by omega
            clear hh
            go_wp2_with fail
            refine Calls.mono HH.out ?_
            rintro e w6 ⟨rfl, hb6⟩
            have HB6 := Lib.hid (HB.out.trans (hb6.mono HB.out.size))
            clear hb6
            go_wp2_with fail
            go_roundg (ls.length - (k + 1))
            case measure => have := HG.out; omega
            case rel => exact ⟨k + 1, m + 1, by omega, Lib.hid rfl, by go_num, by go_num, by omega, HM2, HB6⟩
        · obtain rfl : k = ls.length := by omega
          have hki : ¬ (ls.length : Int) < (ls.length : Int) := by omega
          have hrm : res = (m : Int) := by rw [HRC.out, HM.out, List.take_of_length_le (by rw [List.length_map]; exact Nat.le_refl _)]
          subst hrm
          go_wp2_with fail
          go_ret
          exact ⟨rfl, (H1.out _ HB.out).1⟩
  · have hbi : (1048576 : Int) < (len : Int) := by omega
    go_enter Try.func6, Try.ntmps6
    go_wp2_with fail
    go_ret
    exact ⟨rfl, Below.refl _ _⟩
end Go.Proofs.Ytpbaimofffcnaaa
