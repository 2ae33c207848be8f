/- allOf, grantOf, the draw of FnAclRights; FnAclNone: the walk. -/
import Derived.Test.YtpolpopkiegjkaaAcDraw
import Derived.Test.YtpolpopkiegjkaaAcSp
import Derived.Test.YtpolpopkiegjkaaLawKit
namespace Go.Proofs.Ytpolpopkiegjkaa
set_option linter.unusedVariables false
open Go.RowKit
open Ac (G)

theorem Ac.hasB_zero_iff (y : Nat) : Rt.hasB y 0 = (y % 2 == 1) := by unfold Rt.hasB Rt.pw; simp
theorem Ac.hasB_half (y k : Nat) : Rt.hasB (y / 2) k = Rt.hasB y (k + 1) := by
  unfold Rt.hasB Rt.pw
  rw [Nat.div_div_eq_div_mul, Nat.pow_succ, Nat.mul_comm 2]
/-- all binary digits of y are x's, too -/
def Ac.Sub (y x : Nat) : Prop := ∀ k, Rt.hasB y k = true → Rt.hasB x k = true
theorem Ac.Sub.half {y x : Nat} (h : Ac.Sub y x) : Ac.Sub (y / 2) (x / 2) := fun k hk => by
  rw [Ac.hasB_half] at hk ⊢
  exact h _ hk
set_option maxHeartbeats 800000 in
theorem Ac.allOf_any (a b : Nat) (ha : a < 64) (hb : b < 64) (h : Ac.Sub b a) (w : World) :
    Calls Try.prog 45 #[.int .i64 (a : Int), .int .i64 (b : Int)] w fun e w' => e = .returned (.bool true) ∧ w = w' := by
  have H := Lib.hid h
  clear h
  go_enter Try.func45, Try.ntmps45
  go_wp2_with fail
  go_loop [0, 1] (fun a b => ∃ x y : Nat, a = .int .i64 (x : Int) ∧ b = .int .i64 (y : Int) ∧ x < 64 ∧ y < 64 ∧ Hid (Ac.Sub y x)) (fun _ b => (intOf b).toNat)
  case atStart => exact ⟨a, b, rfl, rfl, ha, hb, H⟩
  case round =>
    obtain ⟨x, y, rfl, rfl, hx, hy, HS⟩ := hrel
    by_cases h0 : 0 < y
    · have h0i : (0 : Int) < (y : Int) := by omega
      have e2 : (y : Int) / 2 = ((y / 2 : Nat) : Int) := by omega
      have e3 : (x : Int) / 2 = ((x / 2 : Nat) : Int) := by omega
      have E2 := Lib.hid e2
      have E3 := Lib.hid e3
      clear e2 e3
      by_cases h1 : y % 2 = 1
      · have h2 : x % 2 = 1 := by
          have := HS.out 0 (by rw [Ac.hasB_zero_iff, h1]; rfl)
          rw [Ac.hasB_zero_iff] at this
          simpa using this
        have h3 : ((x : Int) % 2 == 0) = false := by simp; omega
        have h4 : ((y : Int) % 2 == 1) = true := by simp; omega
        go_wp2_with fail
        go_round
        case rel => exact ⟨x / 2, y / 2, by rw [E3.out], by rw [E2.out], by omega, by omega, Lib.hid HS.out.half⟩
        case measure => simp [intOf]; omega
      · have h4 : ((y : Int) % 2 == 1) = false := by simp; omega
        go_wp2_with fail
        go_round
        case rel => exact ⟨x / 2, y / 2, by rw [E3.out], by rw [E2.out], by omega, by omega, Lib.hid HS.out.half⟩
        case measure => simp [intOf]; omega
    · obtain rfl : y = 0 := by omega
      go_wp2_with fail
      go_ret
      exact ⟨rfl, rfl⟩

theorem Ac.lastR_at {us : List G} (hp : us.Pairwise (fun a b => slt a.user b.user = true)) {k : Nat} {u : G} (hu : us[k]? = some u) : ∀ n, k < n → n ≤ us.length → Ac.lastR us u.user n = u.rights
  | 0, h, _ => by omega
  | n + 1, h, hn => by
    have hv := List.getElem?_eq_getElem (by omega : n < us.length)
    rw [Ac.lastR_succ hv]
    by_cases hk : k = n
    · subst hk
      rw [hu] at hv
      injection hv with hv
      rw [← hv, if_pos rfl]
    · rw [if_neg (fun e => Ac.name_ne hp (by omega : k < n) hu hv (Ac.data_eq.1 e).symm)]
      exact Ac.lastR_at hp hu n (by omega) (by omega)

set_option maxHeartbeats 800000 in
theorem Ac.grantOf_any (A : Option Addr) (us : List G) (c : Nat) (s : ByteArray) (w : World) (h : AtGrants w w.heap.size A us) (hn : us.length ≤ maxLen) (hp : us.Pairwise (fun a b => slt a.user b.user = true)) :
    Calls Try.prog 46 #[.slice A us.length c, .string s] w fun e w' => e = .returned (.int .i64 (Ac.lastR us s us.length)) ∧ w = w' := by
  have HP := Lib.hid hp
  unfold maxLen at hn
  clear hp
  go_enter Try.func46, Try.ntmps46
  go_wp2_with fail
  go_loop [5] (fun i => ∃ k : Nat, k ≤ us.length ∧ i = .int .i64 k ∧ Hid (∀ i u, i < k → us[i]? = some u → u.user.data.toList ≠ s.data.toList)) (fun i => us.length - (intOf i).toNat)
  case atStart => exact ⟨0, Nat.zero_le _, rfl, Lib.hid fun i u hi => absurd hi (by omega)⟩
  case round =>
    obtain ⟨k, hk, rfl, HN⟩ := hrel
    by_cases hlt : k < us.length
    · obtain ⟨g, off, rfl, hg, hc⟩ := h.1 (by omega)
      obtain ⟨u, hu⟩ : ∃ u, us[k]? = some u := ⟨_, List.getElem?_eq_getElem hlt⟩
      obtain ⟨c1, c2⟩ := hc k u hu
      have HU := Lib.hid hu
      clear hc hu
      cases hs : (u.user.toList == s.toList)
      · go_wp2_with fail
        go_round
        case rel =>
          refine ⟨k + 1, by omega, by go_num, Lib.hid fun i v hi hv => ?_⟩
          by_cases hik : i = k
          · subst hik
            rw [HU.out] at hv
            injection hv with hv
            subst hv
            intro e
            rw [← Go.ByteArray.toList_eq, ← Go.ByteArray.toList_eq] at e
            rw [e] at hs
            simp at hs
          · exact HN.out i v (by omega) hv
        case measure => simp [intOf]; omega
      · obtain rfl : u.user = s := Ac.same_iff.1 hs
        have HF := Lib.hid (Ac.lastR_at HP.out HU.out us.length hlt (Nat.le_refl _))
        go_wp2_with fail
        go_ret
        exact ⟨by rw [HF.out]; rfl, rfl⟩
    · obtain rfl : k = us.length := by omega
      have HF := Lib.hid (Ac.lastR_none us s us.length (Nat.le_refl _) HN.out)
      go_wp2_with fail
      go_ret
      exact ⟨by rw [HF.out]; rfl, rfl⟩

/-- what drawing grants, an owner and a user gives -/
def Ac.DrawnR (w : World) (e : Ending) (w' : World) : Prop :=
  ∃ us A c o n, Ac.Small us ∧ us.length ≤ c ∧ c ≤ maxLen ∧ o.size ≤ maxLen ∧ n.size ≤ maxLen ∧ e = .returned (.tuple #[.slice A us.length c, .string o, .string n]) ∧ AtGrants w' w'.heap.size A us ∧ Below w.heap.size w w'
set_option maxHeartbeats 800000 in
theorem drawAclRights_any (a : Option Addr) (len cap : Nat) (w : World) (h : Bytes w a len cap) :
    Calls Try.prog 43 #[.slice a len cap] w (Ac.DrawnR w) := by
  go_enter Try.func43, Try.ntmps43
  go_wp2_with fail
  refine (l6Open_any a len cap _ h).mono ?_
  rintro e w1 ⟨rfl, h1, hb1⟩
  have hlt := h1.lt
  go_wp2_with fail
  refine (l92Acl_any _ _ _ _ (by omega) h1).mono ?_
  rintro e w2 ⟨us, A, c, hsm, hc1, hc2, rfl, ho, h2, hg2⟩
  go_wp2_with fail
  refine (Dr.l91Name_any _ _ _ _ (by omega) h2).mono ?_
  rintro e w3 ⟨o, hos, rfl, h3, hg3⟩
  go_wp2_with fail
  refine (Dr.l91Name_any _ _ _ _ (by omega) h3).mono ?_
  rintro e w4 ⟨n, hns, rfl, h4, hg4⟩
  have ho4 := Ac.own_grown (Ac.own_grown ho hg3 hlt) hg4 hlt
  have HA := Lib.hid (at_grants (OwnL.at_ ho4 Ac.cells_len rfl) hsm.sizes)
  have hB : Below w.heap.size w w4 := hb1.trans (grown_to_below (grown_trans hg2 (grown_trans hg3 hg4)) (Nat.le_refl _) hb1.size)
  clear ho ho4
  go_wp2_with fail
  go_ret3
  exact ⟨us, A, c, o, n, hsm, hc1, hc2, by unfold maxLen; omega, by unfold maxLen; omega, rfl, HA.out, hB⟩

theorem Ac.rights_nil1 {o n : ByteArray} (h : (Nm.nameOk o.data.toList && Nm.nameOk n.data.toList) = false) : Ac.rights [] o n = -1 := by
  unfold Ac.rights
  rw [Ac.aclOk_nil, Bool.true_and, h]; rfl
theorem Ac.rights_nil2 {o n : ByteArray} (h1 : Nm.nameOk o.data.toList = true) (h2 : Nm.nameOk n.data.toList = true) : Ac.rights [] o n = if (n.toList == o.toList) = true then 63 else 0 := by
  have e : bits .or .i64 (Ac.lastR [] n ([] : List G).length) (Ac.lastR [] Ac.anyone ([] : List G).length) = 0 := Ac.i64_or_nat 0 0 (by omega) (by omega)
  unfold Ac.rights
  rw [Ac.aclOk_nil, h1, h2, e]; rfl

set_option maxHeartbeats 1600000 in
theorem walkFnAclNone (a : Option Addr) (len cap : Nat) (w : World) (h : Bytes w a len cap) :
    Calls Try.prog 12 #[.slice a len cap] w fun e w' => e = .returned (.bool true) ∧ Below w.heap.size w w' := by
  by_cases hbig : len ≤ 1048576
  · go_enter Try.func12, Try.ntmps12
    go_wp2_with fail
    refine (drawAclRights_any a len cap _ h).mono ?_
    rintro e w1 ⟨us, A, c, o, n, hsm, hc1, hc2, ho, hn, rfl, hat, hb1⟩
    have HL := hsm.len
    go_wp2_with fail
    refine (iAclRights_any A us c o n _ hat HL ho hn).mono ?_
    rintro e w2 ⟨rfl, hb2⟩
    go_wp2_with fail
    refine (sAclRights_any A us c o n _ ((hat.below hb2).mono hb2.size) HL ho hn).mono ?_
    rintro e w3 ⟨rfl, hb3⟩
    have hB := hb1.trans ((hb2.trans (hb3.mono hb2.size)).mono hb1.size)
    generalize Ac.rights us o n = rr
    have hC : Calls Try.prog 32 #[.slice (some ⟨w3.heap.size, 0, none⟩) 0 0, .string o, .string n] (w3.alloc (.cells #[] 79)) fun e w' => e = .returned (.int .i64 (Ac.rights [] o n)) ∧ Below (w3.alloc (.cells #[] 79)).heap.size (w3.alloc (.cells #[] 79)) w' :=
      iAclRights_any _ [] 0 o n _ ⟨fun h0 => absurd h0 (by simp), by simp⟩ (Nat.zero_le _) ho hn
    have HC := Lib.hid hC
    clear hC
    go_wp2_with fail
    refine Calls.mono HC.out ?_
    rintro e w4 ⟨rfl, hb4⟩
    have hB4 := hB.trans ((unbox hb4).mono hB.size)
    have hs4 : w3.heap.size < w4.heap.size := by have := hb4.size; simp at this; omega
    cases n1 : Nm.nameOk o.data.toList
    · rw [Ac.rights_nil1 (by rw [n1]; rfl)]
      go_wp2_with fail
      refine (iNameValid_any _ _ ho).mono ?_
      rintro e w5 ⟨rfl, hb5⟩
      go_wp2_with fail
      go_ret
      exact ⟨rfl, hB4.trans (hb5.mono hB4.size)⟩
    · cases n2 : Nm.nameOk n.data.toList
      · rw [Ac.rights_nil1 (by rw [n1, n2]; rfl)]
        go_wp2_with fail
        refine (iNameValid_any _ _ ho).mono ?_
        rintro e w5 ⟨rfl, hb5⟩
        go_wp2_with fail
        refine (iNameValid_any _ _ hn).mono ?_
        rintro e w6 ⟨rfl, hb6⟩
        go_wp2_with fail
        go_ret
        exact ⟨rfl, hB4.trans ((hb5.trans (hb6.mono hb5.size)).mono hB4.size)⟩
      · rw [Ac.rights_nil2 n1 n2]
        cases n3 : (n.toList == o.toList)
        all_goals
          simp only [if_true, Bool.false_eq_true, if_false]
          go_wp2_with fail
          refine (iNameValid_any _ _ ho).mono ?_
          rintro e w5 ⟨rfl, hb5⟩
          go_wp2_with fail
          refine (iNameValid_any _ _ hn).mono ?_
          rintro e w6 ⟨rfl, hb6⟩
          go_wp2_with fail
          go_ret
          exact ⟨rfl, hB4.trans ((hb5.trans (hb6.mono hb5.size)).mono hB4.size)⟩
  · go_enter Try.func12, Try.ntmps12
    go_wp2
    go_ret
    exact ⟨rfl, Below.refl _ _⟩

end Go.Proofs.Ytpolpopkiegjkaa
