/- FnFindAll: the walk. -/
import Derived.Test.YtmjpcfohgldpoaaUsFind2
import Derived.Test.YtmjpcfohgldpoaaUsLaw1
import Derived.Test.YtmjpcfohgldpoaaUsPlain2
import Derived.Deep.QuietTactic
import Derived.BigQuiet
namespace Go.Proofs.Ytmjpcfohgldpoaa
set_option linter.unusedVariables false
open Go.RowKit
open Us (U)

set_option maxRecDepth 100000 in
set_option maxHeartbeats 3200000 in
theorem walkFnFindAll (a : Option Addr) (len cap : Nat) (w : World) (h : Bytes w a len cap) :
    Calls Try.prog 12 #[.slice a len cap] w fun e w' => e = .returned (.bool true) ∧ Below w.heap.size w w' := by
  by_cases hbig : len ≤ 1048576
  · go_enter Try.func12, Try.ntmps12
    go_wp2_with fail
    refine (drawUsersValid_any a len cap _ h).mono ?_
    rintro e w1 ⟨us, A, c, hsm, hc1, hc2, rfl, hat, hb1⟩
    have hau := at_users hat (small_sizes hsm)
    go_wp2_with fail
    refine (iUsersValid_any A us c _ hau (small_len hsm)).mono ?_
    rintro e w2 ⟨rfl, hb2⟩
    go_wp2_with fail
    refine (sUsersValid_any A us c _ ((hau.below hb2).mono hb2.size) (small_len hsm)).mono ?_
    rintro e w3 ⟨rfl, hb3⟩
    have hB := hb1.trans ((hb2.trans (hb3.mono hb2.size)).mono hb1.size)
    have hau := (hau.below (hb2.trans (hb3.mono hb2.size))).mono (Nat.le_trans hb2.size hb3.size)
    have hlen := small_len hsm
    clear hat hb1 hb2 hb3 hsm
    cases hok : Us.usersOk us
    · go_wp2
      go_ret
      exact ⟨rfl, hB⟩
    · have HAU := Lib.hid hau
      clear hau
      go_wp2_with fail
      go_loopg [6] us.length (fun g i wr => ∃ k : Nat, k ≤ us.length ∧ Hid (g = us.length - k) ∧ i = .int .i64 k ∧ Below w3.heap.size w3 wr)
      case atStart => exact ⟨0, Nat.zero_le _, Lib.hid rfl, rfl, by go_grown⟩
      case round =>
        obtain ⟨k, hk, HG, rfl, hb⟩ := hrel
        have hau := HAU.out.below hb
        have HA4 := Lib.hid (hau.mono hb.size)
        by_cases hlt2 : k < us.length
        · obtain ⟨g, off, rfl, hg, hc⟩ := hau.1 (by omega)
          obtain ⟨u, hu⟩ : ∃ u, us[k]? = some u := ⟨_, List.getElem?_eq_getElem hlt2⟩
          obtain ⟨d1, d2, d3⟩ := hc k u hu
          have HU := Lib.hid hu
          unfold maxLen at hlen
          clear hc hu hau
          go_wp2_with fail
          refine Calls.mono (iUsersFind_any _ us c u.name _ HA4.out (by unfold maxLen; omega)) ?_
          rintro e w4 ⟨rfl, hb4⟩
          have HF : Us.answer us u.name = .tuple #[.agg #[.string u.name, .string u.pass, .int .i64 u.quota], .bool true] := by unfold Us.answer Us.ans Us.find; rw [hok]; simp only [if_true]; rw [show Us.named u.name = (fun x => x.name.toList == u.name.toList) from rfl, Us.find_at hok HU.out]; rfl
          rw [HF]
          have d4 := (hb4.cell (p := ⟨g, off + k * 3, none⟩) (Nat.lt_of_lt_of_le hg hb.size)).trans d1
          have d5 := (hb4.cell (p := ⟨g, off + k * 3 + 1, none⟩) (Nat.lt_of_lt_of_le hg hb.size)).trans d2
          have d6 := (hb4.cell (p := ⟨g, off + k * 3 + 2, none⟩) (Nat.lt_of_lt_of_le hg hb.size)).trans d3
          clear HF d1 d2 d3
          go_upto_region 12 with fail
          have hB5 : Below w3.heap.size w3 (w4.alloc (.cells #[.string u.name, .string u.pass, .int .i64 u.quota] 35)) := hb.trans ((hb4.alloc hb4.size _).mono hb.size)
          have hbu := heap_alloc_new w4 (.cells #[.string u.name, .string u.pass, .int .i64 u.quota] 35)
          have hgl : g < w4.heap.size := Nat.lt_of_lt_of_le hg (Nat.le_trans hb.size hb4.size)
          have e4 := (World.cell?_alloc_lt w4 (.cells #[.string u.name, .string u.pass, .int .i64 u.quota] 35) ⟨g, off + k * 3, none⟩ hgl).trans d4
          have e5 := (World.cell?_alloc_lt w4 (.cells #[.string u.name, .string u.pass, .int .i64 u.quota] 35) ⟨g, off + k * 3 + 1, none⟩ hgl).trans d5
          have e6 := (World.cell?_alloc_lt w4 (.cells #[.string u.name, .string u.pass, .int .i64 u.quota] 35) ⟨g, off + k * 3 + 2, none⟩ hgl).trans d6
          generalize w4.alloc (.cells #[.string u.name, .string u.pass, .int .i64 u.quota] 35) = w5 at hB5 hbu e4 e5 e6 ⊢
          have r0 : w5.cell? ⟨w4.heap.size, 0, none⟩ = some (.string u.name) := cell_at hbu 0 _ rfl
          have r1 : w5.cell? ⟨w4.heap.size, 1, none⟩ = some (.string u.pass) := cell_at hbu 1 _ rfl
          have r2 : w5.cell? ⟨w4.heap.size, 2, none⟩ = some (.int .i64 u.quota) := cell_at hbu 2 _ rfl
          have k1 : (k : Int) < (us.length : Int) := by omega
          clear d4 d5 d6 hbu
          go_quiet (fail)
          go_wp2_with fail
          go_roundg (us.length - (k + 1))
          case measure => have := HG.out; omega
          case rel => exact ⟨k + 1, by omega, Lib.hid rfl, by go_num, below_drewN hB5 nq⟩
        · obtain rfl : k = us.length := by omega
          go_wp2_with fail
          refine Calls.mono (iUsersFind_any _ us c _ _ HA4.out hlen) ?_
          rintro e w4 ⟨rfl, hb4⟩
          have HF : Us.answer us ⟨#[97, 110, 121, 111, 110, 101]⟩ = .tuple #[.agg #[.string ⟨#[]⟩, .string ⟨#[]⟩, .int .i64 0], .bool false] := by unfold Us.answer Us.ans Us.find; rw [hok]; simp only [if_true]; rw [show Us.named ⟨#[97, 110, 121, 111, 110, 101]⟩ = (fun x => x.name.toList == (ByteArray.mk #[97, 110, 121, 111, 110, 101]).toList) from rfl, Us.find_anyone hok (eq_of_beq anyone_list)]; rfl
          rw [HF]
          clear HF
          go_wp2_with fail
          go_ret
          exact ⟨rfl, hB.trans ((hb.trans ((hb4.alloc hb4.size _).mono hb.size)).mono hB.size)⟩
  · go_enter Try.func12, Try.ntmps12
    go_wp2
    go_ret
    exact ⟨rfl, Below.refl _ _⟩

end Go.Proofs.Ytmjpcfohgldpoaa
