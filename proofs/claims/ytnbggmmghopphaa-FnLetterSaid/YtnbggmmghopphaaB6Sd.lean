/- Base64Encode and Base64Decode of the specification. -/
import Derived.Test.YtnbggmmghopphaaB6De
namespace Go.Proofs.Ytnbggmmghopphaa
set_option linter.unusedVariables false
open Go.RowKit

def B6.encode (s : ByteArray) : ByteArray := if 30 < s.size then ⟨#[]⟩ else ⟨(B6.enc s.data.toList).toArray⟩
def B6.out : Option (List UInt8) → Value
  | some l => .tuple #[.string ⟨l.toArray⟩, .bool true]
  | none => .tuple #[.string ⟨#[]⟩, .bool false]


theorem B6.cut_hit {L : List UInt8} {j : Nat} (h40 : L.length ≤ 40) (h : B6.enc ((B6.dec L).take ((B6.dec L).length - j)) = L) : B6.decode L = some ((B6.dec L).take ((B6.dec L).length - j)) := by
  unfold B6.decode
  have : B6.read L = (B6.dec L).take ((B6.dec L).length - j) := by
    conv => lhs; rw [← h]
    rw [B6.read_enc]
  rw [if_pos ⟨h40, by rw [this]; exact h⟩, this]
theorem B6.cut_miss {L : List UInt8} (h : ∀ j, j ≤ 2 → j ≤ (B6.dec L).length → B6.enc ((B6.dec L).take ((B6.dec L).length - j)) ≠ L) : B6.decode L = none := by
  cases hd : B6.decode L with
  | none => rfl
  | some s =>
    exfalso
    obtain ⟨he, _⟩ := B6.decode_some hd
    obtain ⟨k, hk, hdk⟩ := B6.dec_enc s
    rw [he] at hdk
    refine h k hk (by rw [hdk]; simp) ?_
    have : (B6.dec L).take ((B6.dec L).length - k) = s := by rw [hdk]; simp
    rw [this, he]

theorem B6.extract_take (s : ByteArray) (n : Nat) : (s.extract 0 n).data.toList = s.data.toList.take n := by simp [ByteArray.data_extract]

set_option maxRecDepth 100000 in
set_option maxHeartbeats 1600000 in
theorem sB64Decode_any (t : ByteArray) (w : World) :
    Calls Try.prog 55 #[.string t] w fun e w' => e = .returned (B6.out (B6.decode t.data.toList)) ∧ Below w.heap.size w w' := by
  have HSL : Hid (t.data.toList.length = t.size) := Lib.hid Array.length_toList
  go_enter Try.func55, Try.ntmps55
  by_cases h40 : 40 < t.size
  · have hi : (40 : Int) < (t.size : Int) := by omega
    have HN : Hid (B6.decode t.data.toList = none) := Lib.hid (by unfold B6.decode; rw [if_neg]; intro h; have := HSL.out; omega)
    go_wp2_with fail
    go_ret2
    rw [HN.out]
    exact ⟨rfl, Below.refl _ _⟩
  have hi : ¬ (40 : Int) < (t.size : Int) := by omega
  by_cases h4 : t.size % 4 = 0
  · have hi4 : (t.size : Int) % 4 = 0 := by omega
    go_wp2_with fail
    refine (l2Decode_any t (by omega) _).mono ?_
    rintro e w1 ⟨rfl, hb1⟩
    obtain ⟨al, hal⟩ : ∃ al : ByteArray, al = ⟨(B6.dec t.data.toList).toArray⟩ := ⟨_, rfl⟩
    have HAL : Hid (al.data.toList = B6.dec t.data.toList) := Lib.hid (by rw [hal])
    have HAZ : Hid ((B6.dec t.data.toList).length = al.size) := Lib.hid (by rw [← HAL.out]; exact Array.length_toList)
    have hz100 : al.size ≤ 100 := by have := B6.dec_len t.data.toList; have := HAZ.out; have := HSL.out; omega
    rw [← hal]
    clear hal
    go_wp2_with fail
    go_loopg [5] 3 (fun g i wr => ∃ k : Nat, k ≤ 3 ∧ Hid (g = 3 - k) ∧ i = .int .i64 (k : Int) ∧ Hid (∀ j, j < k → j ≤ (B6.dec t.data.toList).length → B6.enc ((B6.dec t.data.toList).take ((B6.dec t.data.toList).length - j)) ≠ t.data.toList) ∧ Below w.heap.size w wr)
    case atStart => exact ⟨0, by omega, Lib.hid rfl, rfl, Lib.hid (fun j hj => absurd hj (by omega)), hb1⟩
    case round =>
      obtain ⟨k, hk, HG, rfl, HN, hb⟩ := hrel
      by_cases hk2 : k ≤ 2
      · have hk2i : (k : Int) ≤ 2 := by omega
        by_cases hka : k ≤ al.size
        · have hkai : (k : Int) ≤ (al.size : Int) := by omega
          go_wp2_with fail
          refine (l2Encode_any (al.extract 0 (al.size - k)) (by rw [ByteArray.size_extract]; omega) _).mono ?_
          rintro e w2 ⟨rfl, hb2⟩
          have HEX : Hid ((al.extract 0 (al.size - k)).data.toList = (B6.dec t.data.toList).take ((B6.dec t.data.toList).length - k)) := Lib.hid (by rw [B6.extract_take, HAL.out, HAZ.out])
          have HZK : Hid (k ≤ (B6.dec t.data.toList).length) := Lib.hid (by rw [HAZ.out]; exact hka)
          obtain ⟨X, hX⟩ : ∃ X : ByteArray, X = ⟨(B6.enc (al.extract 0 (al.size - k)).data.toList).toArray⟩ := ⟨_, rfl⟩
          have HX : Hid (X.toList = B6.enc (al.extract 0 (al.size - k)).data.toList) := Lib.hid (by rw [hX, Go.ByteArray.toList_eq])
          rw [← hX]
          clear hX
          by_cases heq : X.toList = t.toList
          · have HQ : Hid (B6.decode t.data.toList = some (al.extract 0 (al.size - k)).data.toList) := Lib.hid (by
              rw [HEX.out]
              refine B6.cut_hit (by have := HSL.out; omega) ?_
              rw [← HEX.out, ← HX.out, heq, Go.ByteArray.toList_eq])
            have hbq : (X.toList == t.toList) = true := by simpa using heq
            clear heq
            go_wp2_with fail
            go_ret2
            rw [HQ.out]
            exact ⟨rfl, hb.trans (hb2.mono hb.size)⟩
          · have hbq : (X.toList == t.toList) = false := by simpa using heq
            have HNE : Hid (B6.enc ((B6.dec t.data.toList).take ((B6.dec t.data.toList).length - k)) ≠ t.data.toList) := Lib.hid (by
              intro e
              apply heq
              rw [HX.out, HEX.out, e, Go.ByteArray.toList_eq])
            clear heq
            go_wp2_with fail
            go_roundg (3 - (k + 1))
            case measure => have := HG.out; omega
            case rel =>
              refine ⟨k + 1, by omega, Lib.hid rfl, by go_num, Lib.hid (fun j hj hl => ?_), hb.trans (hb2.mono hb.size)⟩
              rcases Nat.lt_or_ge j k with h | h
              · exact HN.out j h hl
              · obtain rfl : j = k := by omega
                exact HNE.out
        · have hkai : ¬ (k : Int) ≤ (al.size : Int) := by omega
          have HD : Hid (B6.decode t.data.toList = none) := Lib.hid (B6.cut_miss fun j hj hl => HN.out j (by have := HAZ.out; omega) hl)
          go_wp2_with fail
          go_ret2
          rw [HD.out]
          exact ⟨rfl, hb⟩
      · have hk2i : ¬ (k : Int) ≤ 2 := by omega
        have HD : Hid (B6.decode t.data.toList = none) := Lib.hid (B6.cut_miss fun j hj hl => HN.out j (by omega) hl)
        go_wp2_with fail
        go_ret2
        rw [HD.out]
        exact ⟨rfl, hb⟩
  · have hi4 : ¬ (t.size : Int) % 4 = 0 := by omega
    have HN : Hid (B6.decode t.data.toList = none) := Lib.hid (by
      unfold B6.decode
      rw [if_neg]
      intro h
      have e := congrArg List.length h.2
      rw [B6.enc_len] at e
      have := HSL.out
      omega)
    go_wp2_with fail
    go_ret2
    rw [HN.out]
    exact ⟨rfl, Below.refl _ _⟩
end Go.Proofs.Ytnbggmmghopphaa
