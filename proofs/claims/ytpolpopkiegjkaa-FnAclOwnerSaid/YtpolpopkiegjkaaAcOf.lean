/- spec.l13Of: the rights of a user who is not the owner. -/
import Derived.Test.YtpolpopkiegjkaaAcRt
import Derived.Test.YtpolpopkiegjkaaAcPlain2
import Derived.Test.YtpolpopkiegjkaaRtPlain
import Derived.Test.YtpolpopkiegjkaaAcEx
import Derived.Deep.DeepCutAuto
import Derived.Deep.RegionHeld3
import Derived.Deep.RegionWith
import Derived.BigQuiet
namespace Go.Proofs.Ytpolpopkiegjkaa
set_option linter.unusedVariables false
open Go.RowKit
open Ac (G)

set_option maxHeartbeats 400000 in
theorem Ac.l13Bit_pw (k : Nat) (hk : k < 6) (w : World) :
    Calls Try.prog 81 #[.int .i64 (k : Int)] w fun e w' => e = .returned (.int .i64 (Rt.pw k : Nat)) ∧ Below w.heap.size w w' := by
  have h : k = 0 ∨ k = 1 ∨ k = 2 ∨ k = 3 ∨ k = 4 ∨ k = 5 := by omega
  rcases h with rfl | rfl | rfl | rfl | rfl | rfl
  all_goals
    go_enter Try.func81, Try.ntmps81
    go_wp2
    go_ret
    exact ⟨rfl, by go_grown⟩

/-- is a grant for a user, or for anyone? -/
def Ac.for_ (u : G) (s : ByteArray) : Bool := (u.user.toList == s.toList) || (u.user.toList == [97, 110, 121, 111, 110, 101])
/-- has one of the first n grants for a user the bit k? -/
def Ac.on (us : List G) (s : ByteArray) (k n : Nat) : Bool := (us.take n).any fun u => Ac.for_ u s && Rt.hasB u.rights.toNat k
def Ac.of (us : List G) (s : ByteArray) : Nat → Nat
  | 0 => 0
  | k + 1 => Ac.of us s k + if Ac.on us s k us.length = true then Rt.pw k else 0
theorem Ac.on_succ {us : List G} {s : ByteArray} {k n : Nat} {u : G} (h : us[n]? = some u) : Ac.on us s k (n + 1) = (Ac.on us s k n || (Ac.for_ u s && Rt.hasB u.rights.toNat k)) := by
  unfold Ac.on
  rw [List.take_add_one, h]
  simp
theorem Ac.of_succ (us : List G) (s : ByteArray) (k : Nat) : Ac.of us s (k + 1) = Ac.of us s k + if Ac.on us s k us.length = true then Rt.pw k else 0 := rfl
theorem Ac.of_le (us : List G) (s : ByteArray) : ∀ k, k ≤ 6 → Ac.of us s k < 2 ^ k
  | 0, _ => by simp [Ac.of]
  | k + 1, h => by
    have := Ac.of_le us s k (by omega)
    rw [Ac.of_succ, Nat.pow_succ]
    have e : Rt.pw k = 2 ^ k := rfl
    split <;> omega
theorem Ac.of_lt (us : List G) (s : ByteArray) (k : Nat) (h : k ≤ 6) : Ac.of us s k < 64 := Nat.lt_of_lt_of_le (Ac.of_le us s k h) (Nat.pow_le_pow_right (by omega) h)
theorem Ac.quo_test (o b : Nat) (hb : 0 < b) (ho : o < 64) : ((IntKind.i64.wrap ((o : Int) / (b : Int))).tmod 2 == 1) = (o / b % 2 == 1) := by
  have h1 : o / b ≤ o := Nat.div_le_self _ _
  rw [← Int.natCast_ediv]
  generalize o / b = q at h1
  have h2 : IntKind.i64.wrap ((q : Nat) : Int) = (q : Int) := by rw [IntKind.wrap_i64]; omega
  rw [h2, Bool.eq_iff_iff, Int.tmod_eq_emod_of_nonneg (by omega)]
  simp only [beq_iff_eq]
  omega

set_option maxRecDepth 100000 in
set_option maxHeartbeats 6400000 in
theorem l13Of_any (A : Option Addr) (us : List G) (c : Nat) (s : ByteArray) (w : World) (h : AtGrants w w.heap.size A us) (hok : Ac.aclOk us = true) :
    Calls Try.prog 65 #[.slice A us.length c, .string s] w fun e w' => e = .returned (.int .i64 (Ac.of us s 6 : Nat)) ∧ Below w.heap.size w w' := by
  obtain ⟨hl4, hval, _⟩ := (Ac.aclOk_iff us).1 hok
  clear hok
  go_enter Try.func65, Try.ntmps65
  go_wp2_with fail
  go_loopg [5, 6] 6 (fun g o i wr => ∃ m : Nat, m ≤ 6 ∧ Hid (g = 6 - m) ∧ i = .int .i64 m ∧ o = .int .i64 (Ac.of us s m : Nat) ∧ Below w.heap.size w wr)
  case atStart => exact ⟨0, Nat.zero_le _, Lib.hid rfl, rfl, rfl, Below.refl _ _⟩
  case round =>
    obtain ⟨m, hm, HG, rfl, rfl, hb⟩ := hrel
    have HOL := Lib.hid (Ac.of_lt us s m hm)
    by_cases hm6 : m < 6
    · have hm6i : (m : Int) < 6 := by omega
      obtain ⟨wo, rfl⟩ : ∃ wo : World, wo = wr := ⟨_, rfl⟩
      go_wp2_with fail
      go_loopg [7, 8] us.length (fun g on i wr => ∃ n : Nat, n ≤ us.length ∧ Hid (g = us.length - n) ∧ i = .int .i64 n ∧ on = .bool (Ac.on us s m n) ∧ Below wo.heap.size wo wr)
      case atStart => exact ⟨0, Nat.zero_le _, Lib.hid rfl, rfl, rfl, Below.refl _ _⟩
      case round =>
        obtain ⟨n, hn, HG2, rfl, rfl, hb2⟩ := hrel
        by_cases hlt : n < us.length
        · obtain ⟨g, off, rfl, hg, hc⟩ := ((h.below hb).below (hb2.mono hb.size)).1 (by omega)
          obtain ⟨u, hu⟩ : ∃ u, us[n]? = some u := ⟨_, List.getElem?_eq_getElem hlt⟩
          obtain ⟨c1, c2⟩ := hc n u hu
          have hv := Ac.valid_rights (hval u (List.mem_of_getElem? hu))
          have HE := Lib.hid (Ac.on_succ (s := s) (k := m) hu)
          obtain ⟨r, hr⟩ : ∃ r : Nat, u.rights = (r : Int) := ⟨u.rights.toNat, by omega⟩
          have hrl : r < 64 := by omega
          have HN : Hid (u.rights.toNat = r) := Lib.hid (by omega)
          rw [hr] at c2
          clear hc hu hv hr
          have hp := Rt.pw_le hm6
          have hp0 := Rt.pw_pos m
          have hpz : ¬ Rt.pw m = 0 := by omega
          have hpz1 : (((Rt.pw m : Nat) : Int) == 0) = false := by simp; omega
          have hpz2 : ¬ ((Rt.pw m : Nat) : Int) = 0 := by omega
          obtain ⟨wi, rfl⟩ : ∃ wi : World, wi = wr := ⟨_, rfl⟩
          cases hon : Ac.on us s m n
          · cases n2 : (u.user.toList == s.toList)
            · cases n3 : (u.user.toList == [97, 110, 121, 111, 110, 101])
              · have HF : Hid (Ac.on us s m (n + 1) = false) := Lib.hid (by rw [HE.out, hon]; unfold Ac.for_; rw [n2, n3]; rfl)
                go_upto_region 9 with fail
                go_quiet (fail)
                go_wp2_with fail
                go_roundg (us.length - (n + 1))
                case measure => have := HG2.out; omega
                case rel => exact ⟨n + 1, by omega, Lib.hid rfl, by go_num, by rw [HF.out], below_drewN hb2 _⟩
              · have HF : Hid (Ac.on us s m (n + 1) = Rt.hasB r m) := Lib.hid (by rw [HE.out, hon, HN.out]; unfold Ac.for_; rw [n2, n3]; rfl)
                have hq : ((IntKind.i64.wrap ((r : Int) / ((Rt.pw m : Nat) : Int))).tmod 2 == 1) = Rt.hasB r m := Ac.quo_test r (Rt.pw m) hp0 hrl
                go_upto_region 9 with fail
                have hgi : g < wi.heap.size := Nat.lt_of_lt_of_le hg (Nat.le_trans hb.size hb2.size)
                go_region_held3 (fun w' => w'.cell? ⟨g, off + n * 2, none⟩ = some (.string u.user) ∧ w'.cell? ⟨g, off + n * 2 + 1, none⟩ = some (.int .i64 r)) (first | go_keep | exact ⟨(hb1.cell (p := ⟨g, off + n * 2, none⟩) hgi).trans c1, (hb1.cell (p := ⟨g, off + n * 2 + 1, none⟩) hgi).trans c2⟩)
                  (first | (go_at_call 81; refine (Ac.l13Bit_pw _ hm6 _).mono ?_; rintro e w1 ⟨rfl, hb1⟩))
                go_wp2_with fail
                go_roundg (us.length - (n + 1))
                case measure => have := HG2.out; omega
                case rel => exact ⟨n + 1, by omega, Lib.hid rfl, by go_num, by rw [HF.out], hb2.drew.trans (hb1.mono hb2.size)⟩
            · have HF : Hid (Ac.on us s m (n + 1) = Rt.hasB r m) := Lib.hid (by rw [HE.out, hon, HN.out]; unfold Ac.for_; rw [n2]; rfl)
              have hq : ((IntKind.i64.wrap ((r : Int) / ((Rt.pw m : Nat) : Int))).tmod 2 == 1) = Rt.hasB r m := Ac.quo_test r (Rt.pw m) hp0 hrl
              go_upto_region 9 with fail
              have hgi : g < wi.heap.size := Nat.lt_of_lt_of_le hg (Nat.le_trans hb.size hb2.size)
              first | go_region_with (go_at_call 81; refine (Ac.l13Bit_pw _ hm6 _).mono ?_; rintro e w1 ⟨rfl, hb1⟩; have c2 := (hb1.cell (p := ⟨g, off + n * 2 + 1, none⟩) hgi).trans c2) | fail
              all_goals
                go_wp2_with fail
                go_roundg (us.length - (n + 1))
                case measure => have := HG2.out; omega
                case rel => exact ⟨n + 1, by omega, Lib.hid rfl, by go_num, by rw [HF.out], hb2.drew.trans (hb1.mono hb2.size)⟩
          · have HF : Hid (Ac.on us s m (n + 1) = true) := Lib.hid (by rw [HE.out, hon]; rfl)
            go_upto_region 9 with fail
            go_quiet (fail)
            go_wp2_with fail
            go_roundg (us.length - (n + 1))
            case measure => have := HG2.out; omega
            case rel => exact ⟨n + 1, by omega, Lib.hid rfl, by go_num, by rw [HF.out], below_drewN hb2 _⟩
        · obtain rfl : n = us.length := by omega
          have HS := Lib.hid (Ac.of_succ us s m)
          have hB := hb.trans (hb2.mono hb.size)
          cases hon : Ac.on us s m us.length
          · go_wp2_with fail
            go_roundg (6 - (m + 1))
            case measure => have := HG.out; omega
            case rel => exact ⟨m + 1, by omega, Lib.hid rfl, by go_num, by rw [HS.out, hon]; simp, hB⟩
          · have HON := Lib.hid hon
            have hlt64 := Ac.of_lt us s (m + 1) (by omega)
            rw [HS.out, hon, if_pos rfl] at hlt64
            have hof := HOL.out
            go_wp2_with fail
            refine (Ac.l13Bit_pw _ hm6 _).mono ?_
            rintro e w1 ⟨rfl, hb1⟩
            go_wp2_with fail
            go_roundg (6 - (m + 1))
            case measure => have := HG.out; omega
            case rel => exact ⟨m + 1, by omega, Lib.hid rfl, by go_num, by rw [HS.out, HON.out, if_pos rfl]; go_num, hB.trans (hb1.mono hB.size)⟩
    · obtain rfl : m = 6 := by omega
      go_wp2_with fail
      go_ret
      exact ⟨rfl, hb⟩

end Go.Proofs.Ytpolpopkiegjkaa
