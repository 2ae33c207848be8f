/- FnFind: the walk. -/
import Derived.Test.YtmjpcfohgldpoaaUsFind2
import Derived.Test.YtmjpcfohgldpoaaUsLaw1
import Derived.Test.YtmjpcfohgldpoaaUsPlain2
import Derived.Deep.QuietTactic
import Derived.BigQuiet
namespace Go.Proofs.Ytmjpcfohgldpoaa
set_option linter.unusedVariables false
open Go.RowKit
open Us (U)

theorem users_grown {A : Option Addr} {us : List U} {B b m : Nat} {w w' : World} (hat : At w w.heap.size 3 Us.cells A us) (h : Rd w B b m) (hg : w.grownBy w' (some b)) : At w' w'.heap.size 3 Us.cells A us := fun hl => by
  obtain ⟨g, off, ha, hlt, hc⟩ := hat hl
  have hne : g ≠ b := by
    rintro rfl
    obtain ⟨_, a, len, cap, p, _, hb, _⟩ := h
    have := hc 0 us[0] (List.getElem?_eq_getElem hl) 0 (.string us[0].name) rfl
    simp only [World.cell?, hb] at this
    match off, this with
    | 0, h => simp at h
    | 1, h => simp at h
    | k + 2, h => simp at h
  exact ⟨g, off, ha, by have := hg.size; omega, fun i u hu j v hv => by rw [World.cell?_of_block (hg.block g hlt (by intro e; injection e with e; exact hne e))]; exact hc i u hu j v hv⟩

set_option maxHeartbeats 800000 in
theorem drawUsersFind_any (a : Option Addr) (len cap : Nat) (w : World) (h : Bytes w a len cap) :
    Calls Try.prog 33 #[.slice a len cap] w fun e w' => ∃ us A c nm, SmallUsers us ∧ us.length ≤ c ∧ c ≤ maxLen ∧ e = .returned (.tuple #[.slice A us.length c, .string nm]) ∧ At w' w'.heap.size 3 Us.cells A us ∧ Below w.heap.size w w' := by
  go_enter Try.func33, Try.ntmps33
  go_wp2_with fail
  refine (l6Open_any a len cap _ h).mono ?_
  rintro e w1 ⟨rfl, h1, hb1⟩
  go_wp2_with fail
  refine (l92Users_any _ _ _ _ (by omega) h1).mono ?_
  rintro e w2 ⟨us, A, c, hsm, hc1, hc2, rfl, hat, h2, hg2⟩
  go_wp2_with fail
  refine (l91Name_any _ _ _ _ (by omega) h2).mono ?_
  rintro e w3 ⟨nm, hnm, rfl, h3, hg3⟩
  go_wp2_with fail
  go_ret2
  exact ⟨us, A, c, nm, hsm, hc1, hc2, rfl, users_grown hat h2 hg3, hb1.trans (grown_to_below (hg2.trans hg3) (Nat.le_refl _) hb1.size)⟩

theorem ne_lists {a b : ByteArray} (h : ¬ a = b) : (a.toList == b.toList) = false := by
  cases hb : (a.toList == b.toList)
  · rfl
  · exact absurd (Us.same_of hb) h
theorem find_step {us : List U} {k : Nat} {x u : U} (hx : us[k]? = some x) (h : false = true ∨ ∃ j, k ≤ j ∧ us[j]? = some u) (hne : x ≠ u) : false = true ∨ ∃ j, k + 1 ≤ j ∧ us[j]? = some u := by
  rcases h with h | ⟨j, hj, hu⟩
  · exact .inl h
  · refine .inr ⟨j, ?_, hu⟩
    rcases Nat.eq_or_lt_of_le hj with e | e
    · subst e
      rw [hx] at hu
      injection hu with hu
      exact absurd hu hne
    · exact e
set_option maxRecDepth 100000 in
set_option maxHeartbeats 3200000 in
theorem walkFnFind (a : Option Addr) (len cap : Nat) (w : World) (h : Bytes w a len cap) :
    Calls Try.prog 14 #[.slice a len cap] w fun e w' => e = .returned (.bool true) ∧ Below w.heap.size w w' := by
  by_cases hbig : len ≤ 1048576
  · go_enter Try.func14, Try.ntmps14
    go_wp2_with fail
    refine (drawUsersFind_any a len cap _ h).mono ?_
    rintro e w1 ⟨us, A, c, nm, hsm, hc1, hc2, rfl, hat, hb1⟩
    have hau := at_users hat (small_sizes hsm)
    go_wp2_with fail
    refine (iUsersFind_any A us c nm _ hau (small_len hsm)).mono ?_
    rintro e w2 ⟨rfl, hb2⟩
    have hau := (hau.below hb2).mono hb2.size
    have hlen := small_len hsm
    clear hat hsm
    obtain ⟨u, b, HE, HF⟩ : ∃ u b, Hid (Us.answer us nm = .tuple #[.agg #[.string u.name, .string u.pass, .int .i64 u.quota], .bool b]) ∧ Hid (b = true → Us.find us nm = some u) := by
      refine ⟨(Us.ans us nm).getD Us.none, (Us.ans us nm).isSome, Lib.hid rfl, Lib.hid fun hs => ?_⟩
      unfold Us.ans at hs ⊢
      cases hok : Us.usersOk us
      · rw [hok] at hs; cases hs
      · rw [hok] at hs
        simp only [if_true] at hs ⊢
        obtain ⟨x, hx⟩ := Option.isSome_iff_exists.1 hs
        rw [hx]; rfl
    rw [HE.out]
    have HAU := Lib.hid hau
    clear hau
    go_wp2_with fail
    refine (sUsersFind_any A us c nm _ ((HAU.out.below ((Below.refl _ _).alloc (Nat.le_refl _) _)).mono (by simp)) hlen).mono ?_
    rintro e w3 ⟨rfl, hb3⟩
    rw [HE.out]
    have hbu : w3.heap[w2.heap.size]? = some (.cells #[.string u.name, .string u.pass, .int .i64 u.quota] 35 (0, 0)) := (hb3.block _ (by simp)).trans (heap_alloc_new w2 _)
    have hsz : w2.heap.size < w3.heap.size := by have := hb3.size; simp at this; omega
    have hB3 : Below w2.heap.size w2 w3 := ((Below.refl _ _).alloc (Nat.le_refl _) _).trans (hb3.mono (by simp))
    go_upto_region 6 with fail
    have hB4 := hB3.alloc hB3.size (.cells #[.string u.name, .string u.pass, .int .i64 u.quota] 35)
    have hbv := heap_alloc_new w3 (.cells #[.string u.name, .string u.pass, .int .i64 u.quota] 35)
    have hbu := ((((Below.refl _ w3).alloc (Nat.le_refl _) (.cells #[.string u.name, .string u.pass, .int .i64 u.quota] 35)).block _ hsz)).trans hbu
    clear hb3 hB3
    generalize w3.alloc (.cells #[.string u.name, .string u.pass, .int .i64 u.quota] 35) = w4 at hB4 hbu hbv ⊢
    have r0 : w4.cell? ⟨w2.heap.size, 0, none⟩ = some (.string u.name) := cell_at hbu 0 _ rfl
    have r1 : w4.cell? ⟨w2.heap.size, 1, none⟩ = some (.string u.pass) := cell_at hbu 1 _ rfl
    have r2 : w4.cell? ⟨w2.heap.size, 2, none⟩ = some (.int .i64 u.quota) := cell_at hbu 2 _ rfl
    have s0 : w4.cell? ⟨w3.heap.size, 0, none⟩ = some (.string u.name) := cell_at hbv 0 _ rfl
    have s1 : w4.cell? ⟨w3.heap.size, 1, none⟩ = some (.string u.pass) := cell_at hbv 1 _ rfl
    have s2 : w4.cell? ⟨w3.heap.size, 2, none⟩ = some (.int .i64 u.quota) := cell_at hbv 2 _ rfl
    have HBU := Lib.hid hbu
    have hBW := hb1.trans ((hb2.trans (hB4.mono hb2.size)).mono hb1.size)
    clear hbu hbv
    cases b
    · clear HBU
      go_wp2_with fail
      go_ret
      exact ⟨by simp, hBW⟩
    · have HS := Lib.hid (HF.out rfl)
      have HAU4 := Lib.hid ((HAU.out.below hB4).mono hB4.size)
      have hlt4 : w2.heap.size < w4.heap.size := (Array.getElem?_eq_some_iff.1 HBU.out).1
      clear HAU hb1 hb2 HE HF
      go_wp2_with fail
      go_loopg [9, 10] us.length (fun g x i wr => ∃ (k : Nat) (s : Bool), k ≤ us.length ∧ Hid (g = us.length - k) ∧ x = .bool s ∧ i = .int .i64 k ∧ Hid (s = true ∨ ∃ j, k ≤ j ∧ us[j]? = some u) ∧ Below w4.heap.size w4 wr)
      case atStart => exact ⟨0, false, Nat.zero_le _, Lib.hid rfl, rfl, rfl, Lib.hid (by obtain ⟨i, hi, e, _⟩ := List.find?_eq_some_iff_getElem.1 HS.out |>.2; exact .inr ⟨i, Nat.zero_le _, by rw [List.getElem?_eq_getElem hi, e]⟩), by go_grown⟩
      case round =>
        obtain ⟨k, s, hk, HG, rfl, rfl, HR, hb⟩ := hrel
        have hau := HAU4.out.below hb
        have r0 := (hb.cell (p := ⟨w2.heap.size, 0, none⟩) hlt4).trans r0
        have r1 := (hb.cell (p := ⟨w2.heap.size, 1, none⟩) hlt4).trans r1
        have r2 := (hb.cell (p := ⟨w2.heap.size, 2, none⟩) hlt4).trans r2
        by_cases hlt2 : k < us.length
        · obtain ⟨g, off, rfl, hg, hc⟩ := hau.1 (by omega)
          obtain ⟨x, hx⟩ : ∃ u, us[k]? = some u := ⟨_, List.getElem?_eq_getElem hlt2⟩
          obtain ⟨d1, d2, d3⟩ := hc k x hx
          have HX := Lib.hid hx
          unfold maxLen at hlen
          clear hc hx hau
          have k1 : (k : Int) < (us.length : Int) := by omega
          cases s
          · by_cases h1 : x.name = u.name
            · by_cases h2 : x.pass = u.pass
              · by_cases h3 : x.quota = u.quota
                · rw [h1] at d1
                  rw [h2] at d2
                  rw [h3] at d3
                  go_upto_region 12 with fail
                  go_quiet (fail)
                  go_wp2_with fail
                  go_roundg (us.length - (k + 1))
                  case measure => have := HG.out; omega
                  case rel => exact ⟨k + 1, true, by omega, Lib.hid rfl, rfl, by go_num, Lib.hid (by exact .inl rfl), below_drewN hb nq⟩
                · rw [h1] at d1
                  rw [h2] at d2
                  have hne : x ≠ u := fun e => h3 (by rw [e])
                  go_upto_region 12 with fail
                  go_quiet (fail)
                  go_wp2_with fail
                  go_roundg (us.length - (k + 1))
                  case measure => have := HG.out; omega
                  case rel => exact ⟨k + 1, false, by omega, Lib.hid rfl, rfl, by go_num, Lib.hid (by exact find_step HX.out HR.out hne), below_drewN hb nq⟩
              · rw [h1] at d1
                have hne : x ≠ u := fun e => h2 (by rw [e])
                have hq2 := ne_lists h2
                go_upto_region 12 with fail
                go_quiet (fail)
                go_wp2_with fail
                go_roundg (us.length - (k + 1))
                case measure => have := HG.out; omega
                case rel => exact ⟨k + 1, false, by omega, Lib.hid rfl, rfl, by go_num, Lib.hid (by exact find_step HX.out HR.out hne), below_drewN hb nq⟩
            · have hne : x ≠ u := fun e => h1 (by rw [e])
              have hq2 := ne_lists h1
              go_upto_region 12 with fail
              go_quiet (fail)
              go_wp2_with fail
              go_roundg (us.length - (k + 1))
              case measure => have := HG.out; omega
              case rel => exact ⟨k + 1, false, by omega, Lib.hid rfl, rfl, by go_num, Lib.hid (by exact find_step HX.out HR.out hne), below_drewN hb nq⟩
          · go_upto_region 12 with fail
            go_quiet (fail)
            go_wp2_with fail
            go_roundg (us.length - (k + 1))
            case measure => have := HG.out; omega
            case rel => exact ⟨k + 1, true, by omega, Lib.hid rfl, rfl, by go_num, Lib.hid (by exact .inl rfl), below_drewN hb nq⟩
        · obtain rfl : k = us.length := by omega
          cases s
          · exfalso
            rcases HR.out with h | ⟨j, hj, hu⟩
            · cases h
            · rw [List.getElem?_eq_none hj] at hu; cases hu
          · have hn3 : (u.name.toList == nm.toList) = true := by have := List.find?_some HS.out; exact this
            go_wp2_with fail
            go_ret
            exact ⟨rfl, hBW.trans (hb.mono hBW.size)⟩
  · go_enter Try.func14, Try.ntmps14
    go_wp2
    go_ret
    exact ⟨rfl, Below.refl _ _⟩

end Go.Proofs.Ytmjpcfohgldpoaa
