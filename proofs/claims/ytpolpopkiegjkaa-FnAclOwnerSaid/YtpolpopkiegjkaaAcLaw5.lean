/- FnAclAnyone, FnAclOwner: the walks. -/
import Derived.Test.YtpolpopkiegjkaaAcLaw4
namespace Go.Proofs.Ytpolpopkiegjkaa
set_option linter.unusedVariables false
open Go.RowKit
open Ac (G)

theorem Ac.hasB_bit (y k : Nat) : Rt.hasB y k = y.testBit k := by
  rw [Nat.testBit_eq_decide_div_mod_eq]
  unfold Rt.hasB Rt.pw
  rw [Bool.eq_iff_iff]; simp
theorem Ac.sub_or1 (a b : Nat) : Ac.Sub a (a ||| b) := fun k hk => by
  rw [Ac.hasB_bit] at hk ⊢
  rw [Nat.testBit_or, hk]; rfl
theorem Ac.sub_or2 (a b : Nat) : Ac.Sub b (a ||| b) := fun k hk => by
  rw [Ac.hasB_bit] at hk ⊢
  rw [Nat.testBit_or, hk]; simp
theorem Ac.sub_all (b : Nat) (hb : b < 64) : Ac.Sub b 63 := fun k hk => by
  rw [Ac.hasB_bit] at hk ⊢
  by_cases h : k < 6
  · have : ∀ k, k < 6 → Nat.testBit 63 k = true := by decide
    exact this k h
  · rw [Nat.testBit_lt_two_pow (Nat.lt_of_lt_of_le (show b < 2 ^ 6 from hb) (Nat.pow_le_pow_right (by omega) (by omega : 6 ≤ k)))] at hk
    cases hk
theorem Ac.or_le : ∀ a, a < 64 → ∀ b, b < 64 → a ||| b ≤ a + b := by decide +kernel
theorem Ac.or_lt (a b : Nat) (ha : a < 64) (hb : b < 64) : a ||| b < 64 := Nat.or_lt_two_pow (n := 6) ha hb
theorem Ac.rights_cases {us : List G} {o n : ByteArray} (h : 0 ≤ Ac.rights us o n) :
    Ac.aclOk us = true ∧ Nm.nameOk o.data.toList = true ∧ Nm.nameOk n.data.toList = true ∧ ∃ a b : Nat, a < 64 ∧ b < 64 ∧ Ac.lastR us n us.length = (a : Int) ∧ Ac.lastR us Ac.anyone us.length = (b : Int) ∧
      Ac.rights us o n = if (n.toList == o.toList) = true then 63 else ((a ||| b : Nat) : Int) := by
  cases h1 : (Ac.aclOk us && Nm.nameOk o.data.toList && Nm.nameOk n.data.toList)
  · unfold Ac.rights at h
    rw [h1] at h
    simp at h
  · have h2 := h1
    rw [Bool.and_eq_true, Bool.and_eq_true] at h2
    obtain ⟨⟨h3, h4⟩, h5⟩ := h2
    obtain ⟨_, hv, hp⟩ := (Ac.aclOk_iff us).1 h3
    have r1 := Ac.lastR_range hv n us.length (Nat.le_refl _)
    have r2 := Ac.lastR_range hv Ac.anyone us.length (Nat.le_refl _)
    obtain ⟨a, ha⟩ := Int.eq_ofNat_of_zero_le r1.1
    obtain ⟨b, hb⟩ := Int.eq_ofNat_of_zero_le r2.1
    refine ⟨h3, h4, h5, a, b, by omega, by omega, ha, hb, ?_⟩
    unfold Ac.rights
    rw [h1, if_pos rfl, ha, hb, Ac.i64_or_nat a b (by omega) (by omega)]
theorem Ac.anyone_ok : Nm.nameOk Ac.anyone.data.toList = true := by decide
theorem Ac.rights_anyone {us : List G} {o : ByteArray} {b : Nat} (h1 : Ac.aclOk us = true) (h2 : Nm.nameOk o.data.toList = true) (h3 : (o.toList == [97, 110, 121, 111, 110, 101]) = false) (hb : b < 64) (he : Ac.lastR us Ac.anyone us.length = (b : Int)) :
    Ac.rights us o Ac.anyone = (b : Int) := by
  have h4 : (Ac.anyone.toList == o.toList) = false := by
    rw [Ac.anyone_toList]
    cases hq : ([97, 110, 121, 111, 110, 101] == o.toList)
    · rfl
    · rw [eq_of_beq hq] at h3; simp at h3
  unfold Ac.rights
  rw [h1, h2, Ac.anyone_ok, h4, he, Ac.i64_or_nat b b (by omega) (by omega), Nat.or_self]; rfl

set_option maxHeartbeats 1600000 in
theorem walkFnAclAnyone (a : Option Addr) (len cap : Nat) (w : World) (h : Bytes w a len cap) :
    Calls Try.prog 13 #[.slice a len cap] w fun e w' => e = .returned (.bool true) ∧ Below w.heap.size w w' := by
  by_cases hbig : len ≤ 1048576
  · go_enter Try.func13, Try.ntmps13
    go_wp2_with fail
    refine (drawAclRights_any a len cap _ h).mono ?_
    rintro e w1 ⟨us, A, c, o, n, hsm, hc1, hc2, ho, hn, rfl, hat, hb1⟩
    have HL := hsm.len
    go_wp2_with fail
    refine (iAclRights_any A us c o n _ hat HL ho hn).mono ?_
    rintro e w2 ⟨rfl, hb2⟩
    go_wp2_with fail
    refine (sAclRights_any A us c o n _ ((hat.below hb2).mono hb2.size) HL ho hn).mono ?_
    rintro e w3 ⟨rfl, hb3⟩
    have hB := hb1.trans ((hb2.trans (hb3.mono hb2.size)).mono hb1.size)
    have HA3 := Lib.hid ((hat.below (hb2.trans (hb3.mono hb2.size))).mono (Nat.le_trans hb2.size hb3.size))
    by_cases hneg : Ac.rights us o n < 0
    · generalize Ac.rights us o n = rr at hneg
      go_wp2_with fail
      go_ret
      exact ⟨rfl, hB⟩
    · obtain ⟨n0, n1, n2, x, y, hx, hy, ex, ey, er⟩ := Ac.rights_cases (by omega : 0 ≤ Ac.rights us o n)
      obtain ⟨z, hz, ez, hs⟩ : ∃ z : Nat, z < 64 ∧ Ac.rights us o n = (z : Int) ∧ Ac.Sub y z := by
        cases n3 : (n.toList == o.toList)
        · rw [n3] at er
          exact ⟨_, Ac.or_lt x y hx hy, er, Ac.sub_or2 x y⟩
        · rw [n3] at er
          exact ⟨63, by omega, er, Ac.sub_all y hy⟩
      rw [ez]
      have hzn : ¬ (z : Int) < 0 := by omega
      have HC := Lib.hid (Ac.allOf_any z y hz hy hs)
      cases n4 : (o.toList == [97, 110, 121, 111, 110, 101])
      · have HR := Lib.hid (Ac.rights_anyone n0 n1 n4 hy ey)
        clear ex ey er ez hneg
        go_wp2_with fail
        refine Calls.mono (iAclRights_any A us c o Ac.anyone _ HA3.out HL ho Ac.anyone_len) ?_
        rintro e w4 ⟨rfl, hb4⟩
        rw [HR.out]
        go_wp2_with fail
        refine Calls.mono (HC.out _) ?_
        rintro e w5 ⟨rfl, rfl⟩
        go_wp2_with fail
        go_ret
        exact ⟨rfl, hB.trans (hb4.mono hB.size)⟩
      · clear ex ey er ez hneg
        go_wp2_with fail
        go_ret
        exact ⟨rfl, hB⟩
  · go_enter Try.func13, Try.ntmps13
    go_wp2
    go_ret
    exact ⟨rfl, Below.refl _ _⟩

set_option maxHeartbeats 1600000 in
theorem walkFnAclOwner (a : Option Addr) (len cap : Nat) (w : World) (h : Bytes w a len cap) :
    Calls Try.prog 14 #[.slice a len cap] w fun e w' => e = .returned (.bool true) ∧ Below w.heap.size w w' := by
  by_cases hbig : len ≤ 1048576
  · go_enter Try.func14, Try.ntmps14
    go_wp2_with fail
    refine (drawAclRights_any a len cap _ h).mono ?_
    rintro e w1 ⟨us, A, c, o, n, hsm, hc1, hc2, ho, hn, rfl, hat, hb1⟩
    have HL := hsm.len
    go_wp2_with fail
    refine (iAclRights_any A us c o n _ hat HL ho hn).mono ?_
    rintro e w2 ⟨rfl, hb2⟩
    go_wp2_with fail
    refine (sAclRights_any A us c o n _ ((hat.below hb2).mono hb2.size) HL ho hn).mono ?_
    rintro e w3 ⟨rfl, hb3⟩
    have hB := hb1.trans ((hb2.trans (hb3.mono hb2.size)).mono hb1.size)
    have HA3 := Lib.hid ((hat.below (hb2.trans (hb3.mono hb2.size))).mono (Nat.le_trans hb2.size hb3.size))
    by_cases hneg : Ac.rights us o n < 0
    · generalize Ac.rights us o n = rr at hneg
      go_wp2_with fail
      go_ret
      exact ⟨rfl, hB⟩
    · obtain ⟨n0, n1, n2, x, y, hx, hy, ex, ey, er⟩ := Ac.rights_cases (by omega : 0 ≤ Ac.rights us o n)
      obtain ⟨_, _, hp⟩ := (Ac.aclOk_iff us).1 n0
      cases n3 : (n.toList == o.toList)
      · rw [n3] at er
        have er : Ac.rights us o n = ((x ||| y : Nat) : Int) := er
        have HC1 := Lib.hid (Ac.allOf_any (x ||| y) x (Ac.or_lt x y hx hy) hx (Ac.sub_or1 x y))
        have HC2 := Lib.hid (Ac.allOf_any (x ||| y) y (Ac.or_lt x y hx hy) hy (Ac.sub_or2 x y))
        have HG1 := Lib.hid (Ac.grantOf_any A us c n w3 HA3.out HL hp)
        have HG2 := Lib.hid (Ac.grantOf_any A us c Ac.anyone w3 HA3.out HL hp)
        have hle := Ac.or_le x hx y hy
        have EX := Lib.hid ex
        have EY := Lib.hid ey
        rw [er]
        clear hneg er ex ey hp
        generalize x ||| y = z at HC1 HC2 hle ⊢
        have hzn : ¬ (z : Int) < 0 := by omega
        have hzl : (z : Int) ≤ (x : Int) + (y : Int) := by omega
        go_wp2_with fail
        refine Calls.mono HG1.out ?_
        rintro e w4 ⟨rfl, rfl⟩
        rw [EX.out]
        go_wp2_with fail
        refine Calls.mono HG2.out ?_
        rintro e w5 ⟨rfl, rfl⟩
        rw [EY.out]
        go_wp2_with fail
        refine Calls.mono (HC1.out _) ?_
        rintro e w5 ⟨rfl, rfl⟩
        go_wp2_with fail
        refine Calls.mono (HC2.out _) ?_
        rintro e w5 ⟨rfl, rfl⟩
        go_wp2_with fail
        go_ret
        exact ⟨by first | rfl | simp, hB⟩
      · rw [n3] at er
        have er : Ac.rights us o n = 63 := er
        rw [er]
        clear hneg er ex ey hp
        go_wp2_with fail
        go_ret
        exact ⟨rfl, hB⟩
  · go_enter Try.func14, Try.ntmps14
    go_wp2
    go_ret
    exact ⟨rfl, Below.refl _ _⟩

end Go.Proofs.Ytpolpopkiegjkaa
