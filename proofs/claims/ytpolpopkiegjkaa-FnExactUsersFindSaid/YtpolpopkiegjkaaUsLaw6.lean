/- FnExactUsersFind: the walk. -/
import Derived.Test.YtpolpopkiegjkaaUsEx
import Derived.Test.YtpolpopkiegjkaaUsFind2
import Derived.Deep.DeepCutAuto
namespace Go.Proofs.Ytpolpopkiegjkaa
set_option linter.unusedVariables false
open Go.RowKit
open Us (U)

set_option maxHeartbeats 1600000 in
theorem walkFnExactUsersFind (A : Option Addr) (us : List U) (c : Nat) (nm : ByteArray) (w : World) (h : AtUsers w w.heap.size A us) (hn : us.length ≤ maxLen) (_ : nm.size ≤ maxLen) :
    Calls Try.prog 5 #[.slice A us.length c, .string nm] w fun e w' => e = .returned (.bool true) ∧ Below w.heap.size w w' := by
  by_cases hbig : nm.size ≤ 1048576
  · go_enter Try.func5, Try.ntmps5
    go_wp2_with fail
    refine (szUserS_any A us c _ _ h hn (by omega) (by omega)).mono ?_
    rintro e w1 ⟨r, rfl, hm, hle, hq, hb1⟩
    have HQ := Lib.hid hq
    clear hq
    by_cases hneg : r < 0
    · go_wp2_with fail
      go_ret
      exact ⟨rfl, hb1⟩
    · have hlen := (HQ.out (by omega)).1
      obtain ⟨u, b, HE⟩ : ∃ (u : U) (b : Bool), Hid (Us.answer us nm = .tuple #[.agg #[.string u.name, .string u.pass, .int .i64 u.quota], .bool b]) := ⟨(Us.ans us nm).getD Us.none, (Us.ans us nm).isSome, Lib.hid rfl⟩
      have h1 := (h.below hb1).mono hb1.size
      go_wp2_with fail
      refine (toUserS_any A us c _ h1 hlen).mono ?_
      rintro e w2 ⟨A2, c2, rfl, hc2, hc2', h2, hb2⟩
      go_wp2_with fail
      refine (sUsersFind_any A2 us c2 nm _ h2 hn).mono ?_
      rintro e w3 ⟨rfl, hb3⟩
      rw [HE.out]
      have hB3 := hb1.trans ((hb2.trans (hb3.mono hb2.size)).mono hb1.size)
      have hB3' := hB3.alloc hB3.size (.cells #[.string u.name, .string u.pass, .int .i64 u.quota] 39)
      have hb := heap_alloc_new w3 (.cells #[.string u.name, .string u.pass, .int .i64 u.quota] 39)
      have hsz : w3.heap.size < (w3.alloc (.cells #[.string u.name, .string u.pass, .int .i64 u.quota] 39)).heap.size := by simp
      go_upto_region 8 with fail
      generalize w3.alloc (.cells #[.string u.name, .string u.pass, .int .i64 u.quota] 39) = w3' at hB3' hb hsz ⊢
      have h3 := (h.below hB3').mono hB3'.size
      go_wp2_with fail
      refine (toUserS_any A us c _ h3 hlen).mono ?_
      rintro e w4 ⟨A4, c4, rfl, hc4, hc4', h4, hb4⟩
      go_wp2_with fail
      refine (iUsersFind_any A4 us c4 nm _ h4 hn).mono ?_
      rintro e w5 ⟨rfl, hb5⟩
      rw [HE.out]
      have hB5 := hB3'.trans ((hb4.trans (hb5.mono hb4.size)).mono hB3'.size)
      have hB5' := hB5.alloc hB5.size (.cells #[.string u.name, .string u.pass, .int .i64 u.quota] 39)
      have h45 := (h4.below (hb5.alloc hb5.size (.cells #[.string u.name, .string u.pass, .int .i64 u.quota] 39))).mono (by have := hb5.size; simp; omega : w4.heap.size ≤ (w5.alloc (.cells #[.string u.name, .string u.pass, .int .i64 u.quota] 39)).heap.size)
      have hk := (((hb4.trans (hb5.mono hb4.size)).alloc (Nat.le_trans hb4.size hb5.size) (.cells #[.string u.name, .string u.pass, .int .i64 u.quota] 39)).block _ hsz).trans hb
      have hk' := heap_alloc_new w5 (.cells #[.string u.name, .string u.pass, .int .i64 u.quota] 39)
      go_upto_region 10 with fail
      generalize w5.alloc (.cells #[.string u.name, .string u.pass, .int .i64 u.quota] 39) = w5' at hB5' h45 hk hk' ⊢
      have r0 : w5'.cell? ⟨w3.heap.size, 0, none⟩ = some (.string u.name) := cell_at hk 0 _ rfl
      have r1 : w5'.cell? ⟨w3.heap.size, 1, none⟩ = some (.string u.pass) := cell_at hk 1 _ rfl
      have r2 : w5'.cell? ⟨w3.heap.size, 2, none⟩ = some (.int .i64 u.quota) := cell_at hk 2 _ rfl
      have s0 : w5'.cell? ⟨w5.heap.size, 0, none⟩ = some (.string u.name) := cell_at hk' 0 _ rfl
      have s1 : w5'.cell? ⟨w5.heap.size, 1, none⟩ = some (.string u.pass) := cell_at hk' 1 _ rfl
      have s2 : w5'.cell? ⟨w5.heap.size, 2, none⟩ = some (.int .i64 u.quota) := cell_at hk' 2 _ rfl
      have H45 := Lib.hid h45
      have H5 := Lib.hid ((h.below hB5').mono hB5'.size)
      clear hk hk' hb h45 hb4 hb5 hB5 h4 h3 hB3 h1 h2 hb2 hb3
      go_wp2_with fail
      refine (eqUser_any u _).mono ?_
      rintro e w6 ⟨rfl, hb6⟩
      go_wp2_with fail
      refine (toUserS_any A us c _ ((H5.out.below hb6).mono hb6.size) hlen).mono ?_
      rintro e w7 ⟨A7, c7, rfl, hc7, hc7', h7, hb7⟩
      have h47 := (((H45.out.below hb6).mono hb6.size).below hb7).mono hb7.size
      go_wp2_with fail
      refine (eqUserS_any A4 A7 us c4 c7 _ h47 h7 hn).mono ?_
      rintro e w8 ⟨rfl, hb8⟩
      go_wp2_with fail
      go_ret
      exact ⟨rfl, hB5'.trans ((hb6.trans ((hb7.trans (hb8.mono hb7.size)).mono hb6.size)).mono hB5'.size)⟩
  · go_enter Try.func5, Try.ntmps5
    go_wp2_with fail
    go_ret
    exact ⟨rfl, Below.refl _ _⟩

end Go.Proofs.Ytpolpopkiegjkaa
