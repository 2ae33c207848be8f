/- PlainMake, PlainParse and UsersPlain of the program. -/
import Derived.Test.YtjoohmokjliecaaPfS
import Derived.Test.YtjoohmokjliecaaPpPlain2
import Derived.Test.YtjoohmokjliecaaB6D
import Derived.Test.YtjoohmokjliecaaUpS
namespace Go.Proofs.Ytjoohmokjliecaa
set_option linter.unusedVariables false
open Go.RowKit
open Us (U)

set_option maxRecDepth 100000 in
set_option maxHeartbeats 1600000 in
theorem iPlainMake_any (u p : ByteArray) (hu : u.size ≤ maxLen) (hp : p.size ≤ maxLen) (w : World) :
    Calls Try.prog 34 #[.string u, .string p] w fun e w' => e = .returned (.string (Pp.make u p)) ∧ Below w.heap.size w w' := by
  go_enter Try.func34, Try.ntmps34
  cases n1 : Nm.nameOk u.data.toList
  · have HN : Hid (Pp.make u p = ⟨#[]⟩) := Lib.hid (by unfold Pp.make; rw [if_neg]; rintro ⟨e, _⟩; rw [n1] at e; cases e)
    have HN1 := Lib.hid n1
    clear n1
    go_wp2_with fail
    refine (iNameValid_any u _ hu).mono ?_
    rintro e w1 ⟨rfl, hb1⟩
    rw [HN1.out]
    go_wp2_with fail
    go_ret
    rw [HN.out]
    exact ⟨rfl, hb1⟩
  · cases n2 : Nm.nameOk p.data.toList
    · have HN : Hid (Pp.make u p = ⟨#[]⟩) := Lib.hid (by unfold Pp.make; rw [if_neg]; rintro ⟨_, e⟩; rw [n2] at e; cases e)
      have HN1 := Lib.hid n1
      have HN2 := Lib.hid n2
      clear n1 n2
      go_wp2_with fail
      refine (iNameValid_any u _ hu).mono ?_
      rintro e w1 ⟨rfl, hb1⟩
      rw [HN1.out]
      go_wp2_with fail
      refine (iNameValid_any p _ hp).mono ?_
      rintro e w2 ⟨rfl, hb2⟩
      rw [HN2.out]
      go_wp2_with fail
      go_ret
      rw [HN.out]
      exact ⟨rfl, hb1.trans (hb2.mono hb1.size)⟩
    · have hu8 : u.size ≤ 8 := by have := (Nm.nameOk_len n1).2; simpa using this
      have hp8 : p.size ≤ 8 := by have := (Nm.nameOk_len n2).2; simpa using this
      have hz : (ByteArray.mk #[0] ++ u ++ ByteArray.mk #[0] ++ p).size ≤ 30 := by
        rw [ByteArray.size_append, ByteArray.size_append, ByteArray.size_append]
        show 1 + u.size + 1 + p.size ≤ 30
        omega
      have HN : Hid (Pp.make u p = B6.encode (ByteArray.mk #[0] ++ u ++ ByteArray.mk #[0] ++ p)) := Lib.hid (by
        unfold Pp.make B6.encode
        rw [if_pos ⟨n1, n2⟩, if_neg (by omega), Pp.cat])
      have HN1 := Lib.hid n1
      have HN2 := Lib.hid n2
      clear n1 n2 hz
      go_wp2_with fail
      refine (iNameValid_any u _ hu).mono ?_
      rintro e w1 ⟨rfl, hb1⟩
      rw [HN1.out]
      go_wp2_with fail
      refine (iNameValid_any p _ hp).mono ?_
      rintro e w2 ⟨rfl, hb2⟩
      rw [HN2.out]
      go_wp2_with fail
      refine (iB64Encode_any (ByteArray.mk #[0] ++ u ++ ByteArray.mk #[0] ++ p) _).mono ?_
      rintro e w3 ⟨rfl, hb3⟩
      go_wp2_with fail
      go_ret
      rw [HN.out]
      have hB2 := hb1.trans (hb2.mono hb1.size)
      exact ⟨rfl, hB2.trans (hb3.mono hB2.size)⟩

theorem Pp.pre0 {x : ByteArray} (h : (ByteArray.mk #[0]).data.toList <+: x.data.toList) : x.data.toList = 0 :: (x.extract 1 x.size).data.toList := by
  obtain ⟨r, hr⟩ := h
  have e : (x.extract 1 x.size).data.toList = x.data.toList.drop 1 := by
    have hl : x.data.toList.length = x.size := Array.length_toList
    rw [show (x.extract 1 x.size) = Ct.mk ((x.data.toList.drop 1).take (x.size - 1)) from Ct.extract_mk x 1 x.size]
    show (x.data.toList.drop 1).take (x.size - 1) = _
    rw [List.take_of_length_le (by rw [List.length_drop]; omega)]
  rw [e, ← hr]
  rfl
theorem Pp.ext_take (r : ByteArray) (o : Nat) : (r.extract 0 o) = Ct.mk (r.data.toList.take o) := by rw [Ct.extract_mk]; simp
theorem Pp.ext_drop (r : ByteArray) (o : Nat) : (r.extract (o + 1) r.size) = Ct.mk (r.data.toList.drop (o + 1)) := by
  have hl : r.data.toList.length = r.size := Array.length_toList
  rw [Ct.extract_mk, List.take_of_length_le (by rw [List.length_drop]; omega)]

set_option maxRecDepth 100000 in
set_option maxHeartbeats 3200000 in
theorem iPlainParse_any (t : ByteArray) (w : World) :
    Calls Try.prog 64 #[.string t] w fun e w' => e = .returned (Pp.val (Pp.parse t.data.toList)) ∧ Below w.heap.size w w' := by
  go_enter Try.func64, Try.ntmps64
  go_wp2_with fail
  refine (iB64Decode_any t _).mono ?_
  rintro e w1 ⟨rfl, hb1⟩
  cases hd : B6.decode t.data.toList with
  | none =>
    have HP : Hid (Pp.parse t.data.toList = none) := Lib.hid (by unfold Pp.parse; rw [hd])
    clear hd
    unfold B6.out
    go_wp2_with fail
    go_ret3
    rw [HP.out]
    exact ⟨rfl, hb1⟩
  | some s =>
    have HP : Hid (Pp.parse t.data.toList = Pp.parts s) := Lib.hid (by unfold Pp.parse; rw [hd])
    have hsz : s.length ≤ 30 := by
      obtain ⟨he, h40⟩ := B6.decode_some hd
      have e := congrArg List.length he
      rw [B6.enc_len] at e
      omega
    clear hd
    unfold B6.out
    have hsb : (ByteArray.mk s.toArray).size ≤ 30 := by show s.toArray.size ≤ 30; simpa using hsz
    obtain ⟨x, HX⟩ : ∃ x : ByteArray, Hid (x = ⟨s.toArray⟩) := ⟨_, Lib.hid rfl⟩
    have HXS : Hid (x.data.toList = s) := Lib.hid (by rw [HX.out])
    dsimp only
    rw [← HX.out] at hsb ⊢
    have hone : (ByteArray.mk #[0]).size ≤ maxLen := by decide
    by_cases hpre : (ByteArray.mk #[0]).data.toList <+: x.data.toList
    · have HV := Lib.hid (Pf.cut_yes hpre)
      have HX0 : Hid (s = 0 :: (x.extract 1 x.size).data.toList) := Lib.hid (by rw [← HXS.out]; exact Pp.pre0 hpre)
      have hrs : (x.extract 1 x.size).size ≤ 30 := by rw [ByteArray.size_extract]; omega
      have H1 : Hid ((ByteArray.mk #[0]).size = 1) := Lib.hid rfl
      clear hpre
      go_wp2_with fail
      refine (cutPrefix_any x ⟨#[0]⟩ (by unfold maxLen; omega) hone _).mono ?_
      rintro e w2 ⟨rfl, rfl⟩
      rw [HV.out, H1.out]
      obtain ⟨r, HR⟩ : ∃ r : ByteArray, Hid (r = x.extract 1 x.size) := ⟨_, Lib.hid rfl⟩
      rw [← HR.out] at hrs ⊢
      have HX1 : Hid (s = 0 :: r.data.toList) := Lib.hid (by rw [HR.out]; exact HX0.out)
      by_cases hix : 0 ≤ Lib.indexByte r.data.toList 0
      · obtain ⟨o, ho⟩ : ∃ o : Nat, Lib.indexByte r.data.toList 0 = (o : Int) := ⟨(Lib.indexByte r.data.toList 0).toNat, by omega⟩
        have HC : Hid (Pf.cut1 0 r = .tuple #[.string (Ct.mk (r.data.toList.take o)), .string (Ct.mk (r.data.toList.drop (o + 1))), .bool true]) := Lib.hid (by
          unfold Pf.cut1
          rw [if_pos hix, ho, Int.toNat_natCast, Pp.ext_take, Pp.ext_drop])
        have HO := Lib.hid ho
        clear ho hix
        obtain ⟨u, HU⟩ : ∃ u : ByteArray, Hid (u = Ct.mk (r.data.toList.take o)) := ⟨_, Lib.hid rfl⟩
        obtain ⟨p, HQ⟩ : ∃ p : ByteArray, Hid (p = Ct.mk (r.data.toList.drop (o + 1))) := ⟨_, Lib.hid rfl⟩
        have HUL : Hid (u.data.toList = r.data.toList.take o) := Lib.hid (by rw [HU.out]; rfl)
        have HQL : Hid (p.data.toList = r.data.toList.drop (o + 1)) := Lib.hid (by rw [HQ.out]; rfl)
        have HRL : Hid (r.data.toList.length = r.size) := Lib.hid Array.length_toList
        have hul : u.size ≤ maxLen := by
          have h1 : u.data.toList.length = u.size := Array.length_toList
          have h2 := HRL.out
          rw [HUL.out, List.length_take] at h1
          unfold maxLen; omega
        have hpl : p.size ≤ maxLen := by
          have h1 : p.data.toList.length = p.size := Array.length_toList
          have h2 := HRL.out
          rw [HQL.out, List.length_drop] at h1
          unfold maxLen; omega
        cases n1 : Nm.nameOk u.data.toList
        · have HNO : Hid (Pp.parts s = none) := Lib.hid (by rw [HX1.out]; refine Pp.no3 HO.out ?_; rw [← HUL.out, n1]; simp)
          have HN1 := Lib.hid n1
          clear n1
          go_wp2_with fail
          refine (cut1_any r 0 (by unfold maxLen; omega) _).mono ?_
          rintro e w3 ⟨rfl, hb3⟩
          rw [HC.out, ← HU.out, ← HQ.out]
          go_wp2_with fail
          refine (iNameValid_any u _ hul).mono ?_
          rintro e w4 ⟨rfl, hb4⟩
          rw [HN1.out]
          go_wp2_with fail
          go_ret3
          rw [HP.out, HNO.out]
          have hB3 := hb1.trans (hb3.mono hb1.size)
          exact ⟨rfl, hB3.trans (hb4.mono hB3.size)⟩
        · cases n2 : Nm.nameOk p.data.toList
          · have HNO : Hid (Pp.parts s = none) := Lib.hid (by rw [HX1.out]; refine Pp.no3 HO.out ?_; rw [← HQL.out, n2]; simp)
            have HN1 := Lib.hid n1
            have HN2 := Lib.hid n2
            clear n1 n2
            go_wp2_with fail
            refine (cut1_any r 0 (by unfold maxLen; omega) _).mono ?_
            rintro e w3 ⟨rfl, hb3⟩
            rw [HC.out, ← HU.out, ← HQ.out]
            go_wp2_with fail
            refine (iNameValid_any u _ hul).mono ?_
            rintro e w4 ⟨rfl, hb4⟩
            rw [HN1.out]
            go_wp2_with fail
            refine (iNameValid_any p _ hpl).mono ?_
            rintro e w5 ⟨rfl, hb5⟩
            rw [HN2.out]
            go_wp2_with fail
            go_ret3
            rw [HP.out, HNO.out]
            have hB3 := hb1.trans (hb3.mono hb1.size)
            have hB4 := hB3.trans (hb4.mono hB3.size)
            exact ⟨rfl, hB4.trans (hb5.mono hB4.size)⟩
          · have HYES : Hid (Pp.parts s = some (r.data.toList.take o, r.data.toList.drop (o + 1))) := Lib.hid (by
              rw [HX1.out]; exact Pp.yes HO.out (by rw [← HUL.out]; exact n1) (by rw [← HQL.out]; exact n2))
            have HN1 := Lib.hid n1
            have HN2 := Lib.hid n2
            clear n1 n2
            go_wp2_with fail
            refine (cut1_any r 0 (by unfold maxLen; omega) _).mono ?_
            rintro e w3 ⟨rfl, hb3⟩
            rw [HC.out, ← HU.out, ← HQ.out]
            go_wp2_with fail
            refine (iNameValid_any u _ hul).mono ?_
            rintro e w4 ⟨rfl, hb4⟩
            rw [HN1.out]
            go_wp2_with fail
            refine (iNameValid_any p _ hpl).mono ?_
            rintro e w5 ⟨rfl, hb5⟩
            rw [HN2.out]
            go_wp2_with fail
            go_ret3
            rw [HP.out, HYES.out]
            have hB3 := hb1.trans (hb3.mono hb1.size)
            have hB4 := hB3.trans (hb4.mono hB3.size)
            refine ⟨?_, hB4.trans (hb5.mono hB4.size)⟩
            unfold Pp.val
            dsimp only
            rw [← HU.out, ← HQ.out]
            rfl
      · have HC : Hid (Pf.cut1 0 r = .tuple #[.string r, .string ⟨#[]⟩, .bool false]) := Lib.hid (if_neg hix)
        have HNO : Hid (Pp.parts s = none) := Lib.hid (by rw [HX1.out]; exact Pp.no2 hix)
        clear hix
        go_wp2_with fail
        refine (cut1_any r 0 (by unfold maxLen; omega) _).mono ?_
        rintro e w3 ⟨rfl, hb3⟩
        rw [HC.out]
        go_wp2_with fail
        go_ret3
        rw [HP.out, HNO.out]
        exact ⟨rfl, hb1.trans (hb3.mono hb1.size)⟩
    · have HV := Lib.hid (Pf.cut_no hpre)
      have HNO : Hid (Pp.parts s = none) := Lib.hid (Pp.no1 (by rw [← HXS.out]; exact hpre))
      clear hpre
      go_wp2_with fail
      refine (cutPrefix_any x ⟨#[0]⟩ (by unfold maxLen; omega) hone _).mono ?_
      rintro e w2 ⟨rfl, rfl⟩
      rw [HV.out]
      go_wp2_with fail
      go_ret3
      rw [HP.out, HNO.out]
      exact ⟨rfl, hb1⟩

set_option maxRecDepth 100000 in
set_option maxHeartbeats 1600000 in
theorem iUsersPlain_any (A : Option Addr) (us : List U) (c : Nat) (t : ByteArray) (w : World) (h : AtUsers w w.heap.size A us) (hn : us.length ≤ maxLen) :
    Calls Try.prog 33 #[.slice A us.length c, .string t] w fun e w' => e = .returned (Up.val (Up.ans us t.data.toList)) ∧ Below w.heap.size w w' := by
  go_enter Try.func33, Try.ntmps33
  go_wp2_with fail
  refine (iPlainParse_any t _).mono ?_
  rintro e w1 ⟨rfl, hb1⟩
  cases hp : Pp.parse t.data.toList with
  | none =>
    have HN := Lib.hid (Up.ans_none (us := us) hp)
    clear hp
    unfold Pp.val
    go_wp2_with fail
    go_ret2
    rw [HN.out]
    exact ⟨rfl, hb1⟩
  | some np =>
    obtain ⟨n, p⟩ := np
    have HP := Lib.hid hp
    clear hp
    unfold Pp.val
    dsimp only
    obtain ⟨x, HX⟩ : ∃ x : ByteArray, Hid (x = Ct.mk n) := ⟨_, Lib.hid rfl⟩
    obtain ⟨y, HY⟩ : ∃ y : ByteArray, Hid (y = Ct.mk p) := ⟨_, Lib.hid rfl⟩
    rw [← HX.out, ← HY.out]
    cases hv : Us.proves us x y
    · have HN := Lib.hid (Up.ans_no (us := us) HP.out (by rw [← HX.out, ← HY.out]; exact hv))
      have HV := Lib.hid hv
      clear hv
      go_wp2_with fail
      refine (iUsersProve_any A us c x y _ ((h.below hb1).mono hb1.size) hn).mono ?_
      rintro e w2 ⟨rfl, hb2⟩
      rw [HV.out]
      go_wp2_with fail
      go_ret2
      rw [HN.out]
      exact ⟨rfl, hb1.trans (hb2.mono hb1.size)⟩
    · have HN := Lib.hid (Up.ans_yes (us := us) HP.out (by rw [← HX.out, ← HY.out]; exact hv))
      have HV := Lib.hid hv
      clear hv
      go_wp2_with fail
      refine (iUsersProve_any A us c x y _ ((h.below hb1).mono hb1.size) hn).mono ?_
      rintro e w2 ⟨rfl, hb2⟩
      rw [HV.out]
      go_wp2_with fail
      go_ret2
      rw [HN.out]
      unfold Up.val
      dsimp only
      rw [← HX.out]
      exact ⟨rfl, hb1.trans (hb2.mono hb1.size)⟩
end Go.Proofs.Ytjoohmokjliecaa
