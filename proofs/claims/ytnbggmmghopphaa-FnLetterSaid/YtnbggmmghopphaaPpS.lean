/- PlainParse and PlainMake of the specification. -/
import Derived.Test.YtnbggmmghopphaaPl
import Derived.Test.YtnbggmmghopphaaB6Sd
import Derived.Test.YtnbggmmghopphaaCtS
import Derived.Test.YtnbggmmghopphaaRx
import Derived.BigQuiet
namespace Go.Proofs.Ytnbggmmghopphaa
set_option linter.unusedVariables false
open Go.RowKit

def Pp.val : Option (List UInt8 × List UInt8) → Value
  | some (p, q) => .tuple #[.string (Ct.mk p), .string (Ct.mk q), .bool true]
  | none => .tuple #[.string ⟨#[]⟩, .string ⟨#[]⟩, .bool false]
theorem Pp.strs {w : World} {B : Nat} {A : Option Addr} {us : List ByteArray} {c n : Nat} (ho : St.Own w B (.slice A n c) us) (hn : us.length = n) (hs : ∀ u ∈ us, u.size ≤ maxLen) : AtStrs w w.heap.size A us :=
  at_strs (OwnL.at_ ho St.cells_len hn) hs

set_option maxRecDepth 100000 in
set_option maxHeartbeats 3200000 in
theorem sPlainParse_any (t : ByteArray) (w : World) :
    Calls Try.prog 52 #[.string t] w fun e w' => e = .returned (Pp.val (Pp.parse t.data.toList)) ∧ Below w.heap.size w w' := by
  go_enter Try.func52, Try.ntmps52
  go_wp2_with fail
  refine (sB64Decode_any t _).mono ?_
  rintro e w1 ⟨rfl, hb1⟩
  cases hd : B6.decode t.data.toList with
  | none =>
    have HP : Hid (Pp.parse t.data.toList = none) := Lib.hid (by unfold Pp.parse; rw [hd])
    clear hd
    unfold B6.out
    go_wp2_with fail
    refine (l1Cut_any ⟨#[]⟩ 0 (by decide) _).mono ?_
    rintro e w2 ⟨A, c, rfl, _, hb2⟩
    go_wp2_with fail
    go_ret3
    rw [HP.out]
    exact ⟨rfl, hb1.trans (hb2.mono hb1.size)⟩
  | some s =>
    have HP : Hid (Pp.parse t.data.toList = Pp.parts s) := Lib.hid (by unfold Pp.parse; rw [hd])
    have hsz : s.length ≤ 30 := by
      obtain ⟨he, h40⟩ := B6.decode_some hd
      have e := congrArg List.length he
      rw [B6.enc_len] at e
      omega
    clear hd
    unfold B6.out
    have hsb : (ByteArray.mk s.toArray).size ≤ 30 := by show s.toArray.size ≤ 30; simpa using hsz
    obtain ⟨x, HX⟩ : ∃ x : ByteArray, Hid (x = ⟨s.toArray⟩) := ⟨_, Lib.hid rfl⟩
    have HXS : Hid (x.data.toList = s) := Lib.hid (by rw [HX.out])
    dsimp only
    rw [← HX.out] at hsb ⊢
    go_wp2_with fail
    refine (l1Cut_any x 0 (by omega) _).mono ?_
    rintro e w2 ⟨A, c, rfl, ho2, hb2⟩
    have hB2 := hb1.trans (hb2.mono hb1.size)
    have HPC : Hid (∀ u ∈ Ct.cutB 0 x, u.size ≤ 30) := Lib.hid fun u hu => by
      unfold Ct.cutB at hu
      obtain ⟨p, hp, rfl⟩ := List.mem_map.1 hu
      have := Ct.cut_size 0 x.data.toList p hp
      rw [HXS.out] at this
      show p.toArray.size ≤ 30
      simp; omega
    have HAT := Lib.hid (Pp.strs ho2 rfl (fun u hu => by have := HPC.out u hu; unfold maxLen; omega))
    clear ho2 hb1 hb2
    by_cases h3 : (Ct.cutB 0 x).length = 3
    · obtain ⟨u0, u1, u2, hus⟩ : ∃ u0 u1 u2, Ct.cutB 0 x = [u0, u1, u2] := by
        match hc : Ct.cutB 0 x, h3 with
        | [a, b, c], _ => exact ⟨a, b, c, rfl⟩
      clear h3
      have HV : Hid (Pp.parts s = if u0.data.toList = [] ∧ Nm.nameOk u1.data.toList = true ∧ Nm.nameOk u2.data.toList = true then some (u1.data.toList, u2.data.toList) else none) := Lib.hid (by
        unfold Ct.cutB at hus
        rw [HXS.out] at hus
        match hc : Ct.cut 0 s, hus with
        | [a, b, c], hus =>
          simp only [List.map_cons, List.map_nil, List.cons.injEq, and_true] at hus
          obtain ⟨rfl, rfl, rfl⟩ := hus
          exact Pp.parts_three hc)
      rw [hus] at HAT HPC ⊢
      clear hus
      obtain ⟨g, off, rfl, hg, hc⟩ := HAT.out.1 (by simp)
      have d0 : w2.cell? ⟨g, off, none⟩ = some (.string u0) := hc 0 u0 rfl
      have d1 : w2.cell? ⟨g, off + 1, none⟩ = some (.string u1) := hc 1 u1 rfl
      have d2 : w2.cell? ⟨g, off + 2, none⟩ = some (.string u2) := hc 2 u2 rfl
      have hz1 : u1.size ≤ maxLen := by have := HPC.out u1 (by simp); unfold maxLen; omega
      have hz2 : u2.size ≤ maxLen := by have := HPC.out u2 (by simp); unfold maxLen; omega
      clear hc
      cases n0 : (u0.toList == [])
      · have HNO : Hid (Pp.parts s = none) := Lib.hid (by
          rw [HV.out, if_neg]
          rintro ⟨e, _⟩
          rw [← Go.ByteArray.toList_eq] at e
          rw [e] at n0
          cases n0)
        go_wp2_with fail
        go_ret3
        rw [HP.out, HNO.out]
        exact ⟨rfl, hB2⟩
      · have h0 : u0.data.toList = [] := by rw [← Go.ByteArray.toList_eq]; simpa using n0
        cases n1 : Nm.nameOk u1.data.toList
        · have HNO : Hid (Pp.parts s = none) := Lib.hid (by
            rw [HV.out, if_neg]
            rintro ⟨_, e, _⟩
            rw [n1] at e; cases e)
          have HN1 := Lib.hid n1
          clear n1 h0
          go_wp2_with fail
          refine (sNameValid_any u1 _ hz1).mono ?_
          rintro e w3 ⟨rfl, rfl⟩
          rw [HN1.out]
          go_wp2_with fail
          go_ret3
          rw [HP.out, HNO.out]
          exact ⟨rfl, hB2⟩
        · cases n2 : Nm.nameOk u2.data.toList
          · have HNO : Hid (Pp.parts s = none) := Lib.hid (by
              rw [HV.out, if_neg]
              rintro ⟨_, _, e⟩
              rw [n2] at e; cases e)
            have HN1 := Lib.hid n1
            have HN2 := Lib.hid n2
            clear n1 n2 h0
            go_wp2_with fail
            refine (sNameValid_any u1 _ hz1).mono ?_
            rintro e w3 ⟨rfl, rfl⟩
            rw [HN1.out]
            go_wp2_with fail
            refine (sNameValid_any u2 _ hz2).mono ?_
            rintro e w3 ⟨rfl, rfl⟩
            rw [HN2.out]
            go_wp2_with fail
            go_ret3
            rw [HP.out, HNO.out]
            exact ⟨rfl, hB2⟩
          · have HYES : Hid (Pp.parts s = some (u1.data.toList, u2.data.toList)) := Lib.hid (by rw [HV.out, if_pos ⟨h0, n1, n2⟩])
            have HN1 := Lib.hid n1
            have HN2 := Lib.hid n2
            clear n1 n2 h0
            go_wp2_with fail
            refine (sNameValid_any u1 _ hz1).mono ?_
            rintro e w3 ⟨rfl, rfl⟩
            rw [HN1.out]
            go_wp2_with fail
            refine (sNameValid_any u2 _ hz2).mono ?_
            rintro e w3 ⟨rfl, rfl⟩
            rw [HN2.out]
            go_upto_region 5 with fail
            go_quiet (fail)
            go_wp2_with fail
            go_ret3
            rw [HP.out, HYES.out]
            have e1 := Ct.ext (s := u1) rfl
            have e2 := Ct.ext (s := u2) rfl
            refine ⟨?_, ?_⟩
            · show Ending.returned (.tuple #[.string u1, .string u2, .bool true]) = .returned (.tuple #[.string (Ct.mk u1.data.toList), .string (Ct.mk u2.data.toList), .bool true])
              rw [← e1, ← e2]
            · exact below_drewN hB2 _
    · have HNO : Hid (Pp.parts s = none) := Lib.hid (Pp.parts_len (by
        unfold Ct.cutB at h3
        rw [List.length_map, HXS.out] at h3
        exact h3))
      have h3i : ¬ (((Ct.cutB 0 x).length : Nat) : Int) = 3 := by omega
      generalize (Ct.cutB 0 x).length = n at h3i HAT ⊢
      go_wp2_with fail
      go_ret3
      rw [HP.out, HNO.out]
      exact ⟨rfl, hB2⟩
/-- the text of a user and a password -/
def Pp.make (u p : ByteArray) : ByteArray := if Nm.nameOk u.data.toList = true ∧ Nm.nameOk p.data.toList = true then ⟨(B6.enc (0 :: (u.data.toList ++ 0 :: p.data.toList))).toArray⟩ else ⟨#[]⟩

theorem Pp.cat (u p : ByteArray) : ((ByteArray.mk #[0] ++ u ++ ByteArray.mk #[0]) ++ p).data.toList = 0 :: (u.data.toList ++ 0 :: p.data.toList) := by simp
set_option maxRecDepth 100000 in
set_option maxHeartbeats 1600000 in
theorem sPlainMake_any (u p : ByteArray) (hu : u.size ≤ maxLen) (hp : p.size ≤ maxLen) (w : World) :
    Calls Try.prog 35 #[.string u, .string p] w fun e w' => e = .returned (.string (Pp.make u p)) ∧ Below w.heap.size w w' := by
  go_enter Try.func35, Try.ntmps35
  cases n1 : Nm.nameOk u.data.toList
  · have HN : Hid (Pp.make u p = ⟨#[]⟩) := Lib.hid (by unfold Pp.make; rw [if_neg]; rintro ⟨e, _⟩; rw [n1] at e; cases e)
    have HN1 := Lib.hid n1
    clear n1
    go_wp2_with fail
    refine (sNameValid_any u _ hu).mono ?_
    rintro e w1 ⟨rfl, rfl⟩
    rw [HN1.out]
    go_wp2_with fail
    go_ret
    rw [HN.out]
    exact ⟨rfl, Below.refl _ _⟩
  · cases n2 : Nm.nameOk p.data.toList
    · have HN : Hid (Pp.make u p = ⟨#[]⟩) := Lib.hid (by unfold Pp.make; rw [if_neg]; rintro ⟨_, e⟩; rw [n2] at e; cases e)
      have HN1 := Lib.hid n1
      have HN2 := Lib.hid n2
      clear n1 n2
      go_wp2_with fail
      refine (sNameValid_any u _ hu).mono ?_
      rintro e w1 ⟨rfl, rfl⟩
      rw [HN1.out]
      go_wp2_with fail
      refine (sNameValid_any p _ hp).mono ?_
      rintro e w1 ⟨rfl, rfl⟩
      rw [HN2.out]
      go_wp2_with fail
      go_ret
      rw [HN.out]
      exact ⟨rfl, Below.refl _ _⟩
    · have HN : Hid (Pp.make u p = ⟨(B6.enc (0 :: (u.data.toList ++ 0 :: p.data.toList))).toArray⟩) := Lib.hid (by unfold Pp.make; rw [if_pos ⟨n1, n2⟩])
      have hu8 : u.size ≤ 8 := by have := (Nm.nameOk_len n1).2; simpa using this
      have hp8 : p.size ≤ 8 := by have := (Nm.nameOk_len n2).2; simpa using this
      have HN1 := Lib.hid n1
      have HN2 := Lib.hid n2
      clear n1 n2
      go_wp2_with fail
      refine (sNameValid_any u _ hu).mono ?_
      rintro e w1 ⟨rfl, rfl⟩
      rw [HN1.out]
      go_wp2_with fail
      refine (sNameValid_any p _ hp).mono ?_
      rintro e w1 ⟨rfl, rfl⟩
      rw [HN2.out]
      go_wp2_with fail
      have hz : (ByteArray.mk #[0] ++ u ++ ByteArray.mk #[0] ++ p).size ≤ 100 := by
        rw [ByteArray.size_append, ByteArray.size_append, ByteArray.size_append]
        show 1 + u.size + 1 + p.size ≤ 100
        omega
      refine (l2Encode_any (ByteArray.mk #[0] ++ u ++ ByteArray.mk #[0] ++ p) hz _).mono ?_
      rintro e w1 ⟨rfl, hb⟩
      go_wp2_with fail
      go_ret
      rw [HN.out]
      exact ⟨rfl, hb⟩
end Go.Proofs.Ytnbggmmghopphaa
