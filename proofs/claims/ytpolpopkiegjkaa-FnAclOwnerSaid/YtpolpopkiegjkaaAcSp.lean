/- spec.AclRights: what it computes is what the program computes. -/
import Derived.Test.YtpolpopkiegjkaaAcOf
import Derived.Test.YtpolpopkiegjkaaRdr
namespace Go.Proofs.Ytpolpopkiegjkaa
set_option linter.unusedVariables false
open Go.RowKit Go.Maps
open Ac (G)

def Ac.orTo (a b : Nat) : Nat → Nat
  | 0 => 0
  | k + 1 => Ac.orTo a b k + if (Rt.hasB a k || Rt.hasB b k) = true then Rt.pw k else 0
theorem Ac.or_tab : ∀ a, a < 64 → ∀ b, b < 64 → a ||| b = Ac.orTo a b 6 := by decide +kernel
theorem Ac.i64_or_nat (a b : Nat) (ha : a < 9223372036854775808) (hb : b < 9223372036854775808) : bits .or .i64 (a : Int) (b : Int) = ((a ||| b : Nat) : Int) := by
  have hx : a ||| b < 2 ^ 63 := Nat.or_lt_two_pow (by omega) (by omega)
  show IntKind.i64.wrap ((BitVec.ofInt 64 (a : Int) ||| BitVec.ofInt 64 (b : Int)).toNat : Int) = _
  rw [BitVec.toNat_or, ofInt_i64 a ha, ofInt_i64 b hb, IntKind.wrap_i64]
  omega
theorem Ac.hasB_zero (k : Nat) : Rt.hasB 0 k = false := by unfold Rt.hasB; simp
theorem Ac.lastR_none (us : List G) (s : ByteArray) : ∀ n, n ≤ us.length → (∀ i u, i < n → us[i]? = some u → u.user.data.toList ≠ s.data.toList) → Ac.lastR us s n = 0
  | 0, _, _ => rfl
  | n + 1, h, hn => by
    have hu := List.getElem?_eq_getElem (by omega : n < us.length)
    rw [Ac.lastR_succ hu, if_neg (hn n _ (by omega) hu), Ac.lastR_none us s n (by omega) fun i u hi h => hn i u (by omega) h]
theorem Ac.name_ne {us : List G} (hp : us.Pairwise (fun a b => slt a.user b.user = true)) {i n : Nat} {u v : G} (hi : i < n) (hu : us[i]? = some u) (hv : us[n]? = some v) : u.user ≠ v.user := by
  obtain ⟨h1, rfl⟩ := List.getElem?_eq_some_iff.1 hu
  obtain ⟨h2, rfl⟩ := List.getElem?_eq_some_iff.1 hv
  rw [List.pairwise_iff_getElem] at hp
  exact slt_ne (hp i n h1 h2 hi)
theorem Ac.data_eq {a b : ByteArray} : a.data.toList = b.data.toList ↔ a = b :=
  ⟨fun h => by cases a; cases b; congr; exact Array.toList_inj.1 h, fun h => by rw [h]⟩
theorem Ac.beq_eq (a b : ByteArray) : (a.toList == b.toList) = decide (a = b) := by
  have := @Ac.same_iff a b
  unfold Ac.same at this
  by_cases h : a = b
  · rw [this.2 h, decide_eq_true h]
  · rw [decide_eq_false h]
    cases hq : (a.toList == b.toList)
    · rfl
    · exact absurd (this.1 hq) h
theorem Ac.anyone_toList : Ac.anyone.toList = [97, 110, 121, 111, 110, 101] := by rw [Go.ByteArray.toList_eq]; rfl
theorem Ac.for_eq (u : G) (s : ByteArray) : Ac.for_ u s = (decide (u.user = s) || decide (u.user = Ac.anyone)) := by
  unfold Ac.for_
  rw [← Ac.anyone_toList, Ac.beq_eq, Ac.beq_eq]
theorem Ac.on_last {us : List G} (hp : us.Pairwise (fun a b => slt a.user b.user = true)) (s : ByteArray) (k : Nat) : ∀ n, n ≤ us.length →
    Ac.on us s k n = (Rt.hasB (Ac.lastR us s n).toNat k || Rt.hasB (Ac.lastR us Ac.anyone n).toNat k)
  | 0, _ => by
    show false = _
    rw [show Ac.lastR us s 0 = 0 from rfl, show Ac.lastR us Ac.anyone 0 = 0 from rfl]
    simp [Ac.hasB_zero]
  | n + 1, h => by
    have hu := List.getElem?_eq_getElem (by omega : n < us.length)
    rw [Ac.on_succ hu, Ac.on_last hp s k n (by omega), Ac.lastR_succ hu, Ac.lastR_succ hu, Ac.for_eq]
    have key : ∀ t, us[n].user = t → Ac.lastR us t n = 0 := fun t ht => Ac.lastR_none us t n (by omega) fun i u hi hv => by
      rw [← ht]
      exact fun e => Ac.name_ne hp hi hv hu (Ac.data_eq.1 e)
    by_cases h1 : us[n].user = s
    · rw [if_pos (Ac.data_eq.2 h1), key s h1]
      by_cases h2 : us[n].user = Ac.anyone
      · rw [if_pos (Ac.data_eq.2 h2), key _ h2]
        simp [h1, Ac.hasB_zero]
      · rw [if_neg (fun e => h2 (Ac.data_eq.1 e))]
        simp [h1, Ac.hasB_zero, Bool.or_comm]
    · rw [if_neg (fun e => h1 (Ac.data_eq.1 e))]
      by_cases h2 : us[n].user = Ac.anyone
      · rw [if_pos (Ac.data_eq.2 h2), key _ h2]
        simp [h2, Ac.hasB_zero]
      · rw [if_neg (fun e => h2 (Ac.data_eq.1 e))]
        simp [h1, h2]
theorem Ac.lastR_range {us : List G} (hv : ∀ u ∈ us, Ac.valid u = true) (s : ByteArray) : ∀ n, n ≤ us.length → 0 ≤ Ac.lastR us s n ∧ Ac.lastR us s n ≤ 63
  | 0, _ => by rw [show Ac.lastR us s 0 = 0 from rfl]; omega
  | n + 1, h => by
    have hu := List.getElem?_eq_getElem (by omega : n < us.length)
    have ih := Ac.lastR_range hv s n (by omega)
    have := Ac.valid_rights (hv _ (List.mem_of_getElem? hu))
    rw [Ac.lastR_succ hu]
    split <;> omega
theorem Ac.of_eq {us : List G} (h : Ac.aclOk us = true) (s : ByteArray) : ((Ac.of us s 6 : Nat) : Int) = bits .or .i64 (Ac.lastR us s us.length) (Ac.lastR us Ac.anyone us.length) := by
  obtain ⟨_, hv, hp⟩ := (Ac.aclOk_iff us).1 h
  have h1 := Ac.lastR_range hv s us.length (Nat.le_refl _)
  have h2 := Ac.lastR_range hv Ac.anyone us.length (Nat.le_refl _)
  have e : ∀ k, Ac.of us s k = Ac.orTo (Ac.lastR us s us.length).toNat (Ac.lastR us Ac.anyone us.length).toNat k := by
    intro k
    induction k with
    | zero => rfl
    | succ k ih => rw [Ac.of_succ, Ac.orTo, ih, Ac.on_last hp s k _ (Nat.le_refl _)]
  obtain ⟨a, ha⟩ := Int.eq_ofNat_of_zero_le h1.1
  obtain ⟨b, hb⟩ := Int.eq_ofNat_of_zero_le h2.1
  rw [e, ha, hb, Int.toNat_natCast, Int.toNat_natCast, Ac.i64_or_nat a b (by omega) (by omega), Ac.or_tab a (by omega) b (by omega)]

set_option maxHeartbeats 1600000 in
theorem sAclRights_any (A : Option Addr) (us : List G) (c : Nat) (o n : ByteArray) (w : World) (h : AtGrants w w.heap.size A us) (hn : us.length ≤ maxLen) (ho : o.size ≤ maxLen) (hnn : n.size ≤ maxLen) :
    Calls Try.prog 30 #[.slice A us.length c, .string o, .string n] w fun e w' => e = .returned (.int .i64 (Ac.rights us o n)) ∧ Below w.heap.size w w' := by
  go_enter Try.func30, Try.ntmps30
  go_wp2_with fail
  refine (sAclValid_any A us c _ h hn).mono ?_
  rintro e w1 ⟨rfl, hb1⟩
  cases n0 : Ac.aclOk us
  · have HF : Hid (Ac.rights us o n = -1) := Lib.hid (by unfold Ac.rights; rw [n0]; rfl)
    go_wp2_with fail
    go_ret
    exact ⟨by rw [HF.out]; rfl, hb1⟩
  · go_wp2_with fail
    refine (sNameValid_any _ _ ho).mono ?_
    rintro e w2 ⟨rfl, rfl⟩
    cases n1 : Nm.nameOk o.data.toList
    · have HF : Hid (Ac.rights us o n = -1) := Lib.hid (by unfold Ac.rights; rw [n0, n1]; rfl)
      go_wp2_with fail
      go_ret
      exact ⟨by rw [HF.out]; rfl, hb1⟩
    · go_wp2_with fail
      refine (sNameValid_any _ _ hnn).mono ?_
      rintro e w3 ⟨rfl, rfl⟩
      cases n2 : Nm.nameOk n.data.toList
      · have HF : Hid (Ac.rights us o n = -1) := Lib.hid (by unfold Ac.rights; rw [n0, n1, n2]; rfl)
        go_wp2_with fail
        go_ret
        exact ⟨by rw [HF.out]; rfl, hb1⟩
      · cases n3 : (n.toList == o.toList)
        · have HF : Hid (Ac.rights us o n = (Ac.of us n 6 : Nat)) := Lib.hid (by rw [Ac.of_eq n0]; unfold Ac.rights; rw [n0, n1, n2, n3]; rfl)
          have HA := Lib.hid ((h.below hb1).mono hb1.size)
          have HK := Lib.hid n0
          go_wp2_with fail
          refine (l13Of_any A us c n _ HA.out HK.out).mono ?_
          rintro e w4 ⟨rfl, hb4⟩
          go_wp2_with fail
          go_ret
          exact ⟨by rw [HF.out]; rfl, hb1.trans (hb4.mono hb1.size)⟩
        · have HF : Hid (Ac.rights us o n = 63) := Lib.hid (by unfold Ac.rights; rw [n0, n1, n2, n3]; rfl)
          go_wp2_with fail
          go_ret
          exact ⟨by rw [HF.out]; rfl, hb1⟩

end Go.Proofs.Ytpolpopkiegjkaa
