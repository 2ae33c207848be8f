/- Sizes of mailboxes and keys (szBox, szKey of the laws). -/
import Derived.Test.YtmlmdpdboigojaaGreatDoorKyMem
namespace Go.Proofs.YtmlmdpdboigojaaGreatDoor
set_option linter.unusedVariables false
open Go.RowKit

/-- what counting n gives -/
def Szx (left : Int) (n : Nat) (w : World) (e : Ending) (w' : World) : Prop :=
  ∃ r : Int, e = .returned (.int .i64 r) ∧ -1 ≤ r ∧ r ≤ left ∧ (0 ≤ r → r + n = left) ∧ Below w.heap.size w w'

set_option maxHeartbeats 800000 in
theorem szSpanS_any (A : Option Addr) (n c : Nat) (left : Int) (w : World) (hn : n ≤ maxLen) (h0 : 0 ≤ left) (h1 : left ≤ 1048576) :
    Calls Tryz.prog 18 #[.slice A n c, .int .i64 left] w (Szx left n w) := by
  unfold maxLen at hn
  by_cases c1 : left - (n : Int) < 0
  · go_enter Tryz.func18, Tryz.ntmps18
    go_wp2
    go_ret
    exact ⟨-1, rfl, by omega, by omega, fun h => absurd h (by omega), Below.refl _ _⟩
  · go_enter Tryz.func18, Tryz.ntmps18
    go_wp2
    go_ret
    exact ⟨left - (n : Int), rfl, by omega, by omega, fun h => by omega, Below.refl _ _⟩

set_option maxHeartbeats 800000 in
theorem szMail_any (m : Ml) (left : Int) (w : World) (h0 : 0 ≤ left) (h1 : left ≤ 1048576) (hs : m.text.size ≤ maxLen) :
    Calls Tryz.prog 35 #[.agg #[.int .i64 m.uid, .int .i64 m.flags, .string m.text], .int .i64 left] w (Szx left m.text.size w) := by
  unfold maxLen at hs
  by_cases c1 : left - (m.text.size : Int) < 0
  · go_enter Tryz.func35, Tryz.ntmps35
    go_wp2
    go_ret
    exact ⟨-1, rfl, by omega, by omega, fun h => absurd h (by omega), by go_grown⟩
  · go_enter Tryz.func35, Tryz.ntmps35
    go_wp2
    go_ret
    exact ⟨left - (m.text.size : Int), rfl, by omega, by omega, fun h => by omega, by go_grown⟩

set_option maxHeartbeats 800000 in
theorem szMailS_any (A : Option Addr) (ms : List Ml) (c : Nat) (left : Int) (w : World) (h : AtMails w w.heap.size A ms) (hz : ∀ m ∈ ms, m.text.size ≤ maxLen) (hn : ms.length ≤ maxLen) (h0 : 0 ≤ left) (h1 : left ≤ 1048576) :
    Calls Tryz.prog 17 #[.slice A ms.length c, .int .i64 left] w (Szx left (ms.length + (ms.map fun m => m.text.size).sum) w) := by
  unfold maxLen at hn
  by_cases c1 : left - (ms.length : Int) < 0
  · go_enter Tryz.func17, Tryz.ntmps17
    go_wp2
    go_ret
    exact ⟨-1, rfl, by omega, by omega, fun h => absurd h (by omega), Below.refl _ _⟩
  · have HSM : Hid (∀ k m, ms[k]? = some m → ((ms.take (k + 1)).map fun m => m.text.size).sum = ((ms.take k).map fun m => m.text.size).sum + m.text.size) := Lib.hid fun k m hm => Ky.sum_snoc (fun m : Ml => m.text.size) hm
    go_enter Tryz.func17, Tryz.ntmps17
    go_wp2_with fail
    go_loopg [1, 5] ms.length (fun g lf i wr => ∃ (k : Nat) (r : Int), k ≤ ms.length ∧ Hid (g = ms.length - k) ∧ i = .int .i64 k ∧ lf = .int .i64 r ∧ 0 ≤ r ∧ r ≤ left ∧ Hid (r + ((ms.length + ((ms.take k).map fun m => m.text.size).sum : Nat) : Int) = left) ∧ Below w.heap.size w wr)
    case atStart => exact ⟨0, _, Nat.zero_le _, Lib.hid rfl, rfl, rfl, by omega, by omega, Lib.hid (by simp), Below.refl _ _⟩
    case round =>
      obtain ⟨k, r, hk, HG, rfl, rfl, hr0, hr1, HQ, hb⟩ := hrel
      by_cases hlt : k < ms.length
      · obtain ⟨g, off, rfl, hg, hc⟩ := AtMails.row (h.below hb) (by omega)
        obtain ⟨u, hu⟩ : ∃ u, ms[k]? = some u := ⟨_, List.getElem?_eq_getElem hlt⟩
        obtain ⟨d1, d2, d3⟩ := hc k u hu
        have hzu := hz u (List.mem_of_getElem? hu)
        have HU := Lib.hid (HSM.out k u hu)
        clear hu hc
        go_wp2_with fail
        refine (szMail_any u r _ hr0 (by omega) hzu).mono ?_
        rintro e w1 ⟨r', rfl, hm, hle, hq, hb1⟩
        have HQ1 := Lib.hid hq
        clear hq
        by_cases hneg : r' < 0
        · go_wp2_with fail
          go_ret
          exact ⟨-1, rfl, by omega, by omega, fun h => absurd h (by omega), hb.trans (hb1.mono hb.size)⟩
        · go_wp2_with fail
          go_roundg (ms.length - (k + 1))
          case measure => have := HG.out; omega
          case rel =>
            refine ⟨k + 1, r', by omega, Lib.hid rfl, by go_num, rfl, by omega, by omega, Lib.hid ?_, hb.trans (hb1.mono hb.size)⟩
            have h1 := HQ.out
            have h2 := HQ1.out (by omega)
            have h3 := HU.out
            omega
      · obtain rfl : k = ms.length := by omega
        have HQ2 := Lib.hid HQ.out
        rw [List.take_length] at HQ2
        go_wp2_with fail
        go_ret
        exact ⟨r, rfl, by omega, hr1, fun _ => HQ2.out, hb⟩

set_option maxHeartbeats 800000 in
theorem szBox_any (nx : Int) (A : Option Addr) (ms : List Ml) (c : Nat) (left : Int) (w : World) (h : AtMails w w.heap.size A ms) (hz : ∀ m ∈ ms, m.text.size ≤ maxLen) (hn : ms.length ≤ maxLen) (h0 : 0 ≤ left) (h1 : left ≤ 1048576) :
    Calls Tryz.prog 4 #[.agg #[.int .i64 nx, .slice A ms.length c], .int .i64 left] w (Szx left (ms.length + (ms.map fun m => m.text.size).sum) w) := by
  have hB : Below w.heap.size w (w.alloc (.cells #[.int .i64 nx, .slice A ms.length c] 24)) := (Below.refl _ _).alloc (Nat.le_refl _) _
  have HA := Lib.hid (At.mono (At.below h hB) hB.size)
  have HB := Lib.hid hB
  have HZ := Lib.hid hz
  clear hB hz
  go_enter Tryz.func4, Tryz.ntmps4
  go_wp2_with fail
  refine (szMailS_any A ms c left _ HA.out HZ.out hn h0 h1).mono ?_
  rintro e w1 ⟨r, rfl, hm, hle, hq, hb1⟩
  have HQ := Lib.hid hq
  have hB1 := HB.out.trans (hb1.mono HB.out.size)
  clear hq
  by_cases hneg : r < 0
  · go_wp2_with fail
    go_ret
    exact ⟨-1, rfl, by omega, by omega, fun h => absurd h (by omega), hB1⟩
  · go_wp2_with fail
    go_ret
    exact ⟨r, rfl, by omega, by omega, fun _ => HQ.out (by omega), hB1⟩

set_option maxHeartbeats 1600000 in
theorem szKeyS_of (d : Nat) (ih : ∀ (x : Kx) (left : Int) (w : World), Kx.In d w w.heap.size x → 0 ≤ left → left ≤ 1048576 → Calls Tryz.prog 5 #[x.val, .int .i64 left] w (Szx left (Kx.sz d x) w))
    (A : Option Addr) (ks : List Kx) (c : Nat) (left : Int) (w : World) (h : At w w.heap.size 5 Kx.cells A ks) (hin : ∀ y ∈ ks, Kx.In d w w.heap.size y) (hn : ks.length ≤ maxLen) (h0 : 0 ≤ left) (h1 : left ≤ 1048576) :
    Calls Tryz.prog 19 #[.slice A ks.length c, .int .i64 left] w (Szx left (ks.length + (ks.map (Kx.sz d)).sum) w) := by
  unfold maxLen at hn
  by_cases c1 : left - (ks.length : Int) < 0
  · go_enter Tryz.func19, Tryz.ntmps19
    go_wp2
    go_ret
    exact ⟨-1, rfl, by omega, by omega, fun h => absurd h (by omega), Below.refl _ _⟩
  · have HSM : Hid (∀ k m, ks[k]? = some m → ((ks.take (k + 1)).map (Kx.sz d)).sum = ((ks.take k).map (Kx.sz d)).sum + Kx.sz d m) := Lib.hid fun k m hm => Ky.sum_snoc (Kx.sz d) hm
    have HIN := Lib.hid hin
    clear hin
    go_enter Tryz.func19, Tryz.ntmps19
    go_wp2_with fail
    go_loopg [1, 5] ks.length (fun g lf i wr => ∃ (k : Nat) (r : Int), k ≤ ks.length ∧ Hid (g = ks.length - k) ∧ i = .int .i64 k ∧ lf = .int .i64 r ∧ 0 ≤ r ∧ r ≤ left ∧ Hid (r + ((ks.length + ((ks.take k).map (Kx.sz d)).sum : Nat) : Int) = left) ∧ Below w.heap.size w wr)
    case atStart => exact ⟨0, _, Nat.zero_le _, Lib.hid rfl, rfl, rfl, by omega, by omega, Lib.hid (by simp), Below.refl _ _⟩
    case round =>
      obtain ⟨k, r, hk, HG, rfl, rfl, hr0, hr1, HQ, hb⟩ := hrel
      by_cases hlt : k < ks.length
      · obtain ⟨g, off, rfl, hg, hc⟩ := keys_row (h.below hb) (by omega)
        obtain ⟨u, hu⟩ : ∃ u, ks[k]? = some u := ⟨_, List.getElem?_eq_getElem hlt⟩
        obtain ⟨d0, d1, d2, d3, d4⟩ := hc k u hu
        have HS := Lib.hid (ih u r wr (((HIN.out u (List.mem_of_getElem? hu)).below hb).mono hb.size) hr0 (by omega))
        have HU := Lib.hid (HSM.out k u hu)
        clear hu hc
        go_wp2_with fail
        refine Calls.mono HS.out ?_
        rintro e w1 ⟨r', rfl, hm, hle, hq, hb1⟩
        have HQ1 := Lib.hid hq
        clear hq
        by_cases hneg : r' < 0
        · go_wp2_with fail
          go_ret
          exact ⟨-1, rfl, by omega, by omega, fun h => absurd h (by omega), hb.trans (hb1.mono hb.size)⟩
        · go_wp2_with fail
          go_roundg (ks.length - (k + 1))
          case measure => have := HG.out; omega
          case rel =>
            refine ⟨k + 1, r', by omega, Lib.hid rfl, by go_num, rfl, by omega, by omega, Lib.hid ?_, hb.trans (hb1.mono hb.size)⟩
            have h1 := HQ.out
            have h2 := HQ1.out (by omega)
            have h3 := HU.out
            omega
      · obtain rfl : k = ks.length := by omega
        have HQ2 := Lib.hid HQ.out
        rw [List.take_length] at HQ2
        go_wp2_with fail
        go_ret
        exact ⟨r, rfl, by omega, hr1, fun _ => HQ2.out, hb⟩

set_option maxHeartbeats 1600000 in
theorem szKey_any (d : Nat) : ∀ (x : Kx) (left : Int) (w : World), Kx.In d w w.heap.size x → 0 ≤ left → left ≤ 1048576 → Calls Tryz.prog 5 #[x.val, .int .i64 left] w (Szx left (Kx.sz d x) w) := by
  induction d with
  | zero => intro x left w h; exact absurd h id
  | succ d ih =>
    intro x left w h h0 h1
    obtain ⟨ht, hs, hsc, hcm, hk, hkc, hkm, hin⟩ := h
    have hsz := Kx.sz_succ d x
    obtain ⟨kind, flag, text, A, set, c, KA, keys, kc⟩ := x
    simp only [Kx.text, Kx.set, Kx.keys, Kx.A, Kx.KA, Kx.c, Kx.kc] at ht hs hsc hcm hk hkc hkm hin hsz
    simp only [Kx.val, Kx.kind, Kx.flag, Kx.text, Kx.set, Kx.keys, Kx.A, Kx.KA, Kx.c, Kx.kc]
    have hB : Below w.heap.size w (w.alloc (.cells #[.int .i64 kind, .int .i64 flag, .string text, .slice A set.length c, .slice KA keys.length kc] 28)) := (Below.refl _ _).alloc (Nat.le_refl _) _
    have HK := Lib.hid (And.intro (At.mono (At.below hk hB) hB.size) (fun y hy => ((hin y hy).below hB).mono hB.size))
    have hsl : set.length ≤ maxLen := Nat.le_trans hsc hcm
    have hkl : keys.length ≤ maxLen := Nat.le_trans hkc hkm
    have htl := ht
    unfold maxLen at htl
    have HB := Lib.hid hB
    have HSZ := Lib.hid hsz
    clear hB hs hk hin hsc hcm hkc hkm hsz
    by_cases c1 : left - (text.size : Int) < 0
    · go_enter Tryz.func5, Tryz.ntmps5
      go_wp2_with fail
      go_ret
      exact ⟨-1, rfl, by omega, by omega, fun h => absurd h (by omega), HB.out⟩
    · go_enter Tryz.func5, Tryz.ntmps5
      go_wp2_with fail
      refine (szSpanS_any A set.length c (left - (text.size : Int)) _ hsl (by omega) (by omega)).mono ?_
      rintro e w1 ⟨r, rfl, hm, hle, hq, hb1⟩
      have HQ := Lib.hid hq
      have hB1 := HB.out.trans (hb1.mono HB.out.size)
      have hx : w1.heap[w.heap.size]? = some (.cells #[.int .i64 kind, .int .i64 flag, .string text, .slice A set.length c, .slice KA keys.length kc] 28 (0, 0)) := (hb1.block _ (by simp)).trans (heap_alloc_new w _)
      have x4 := cell_at hx 4 _ rfl
      have HK1 := Lib.hid (And.intro (At.mono (At.below HK.out.1 hb1) hb1.size) (fun y hy => ((HK.out.2 y hy).below hb1).mono hb1.size))
      clear hq hx
      by_cases hneg : r < 0
      · go_wp2_with fail
        go_ret
        exact ⟨-1, rfl, by omega, by omega, fun h => absurd h (by omega), hB1⟩
      · go_wp2_with fail
        refine (szKeyS_of d ih KA keys kc r _ HK1.out.1 HK1.out.2 hkl (by omega) (by omega)).mono ?_
        rintro e w2 ⟨r2, rfl, hm2, hle2, hq2, hb2⟩
        have HQ2 := Lib.hid hq2
        have hB2 := hB1.trans (hb2.mono hB1.size)
        clear hq2
        by_cases hneg2 : r2 < 0
        · go_wp2_with fail
          go_ret
          exact ⟨-1, rfl, by omega, by omega, fun h => absurd h (by omega), hB2⟩
        · go_wp2_with fail
          go_ret
          refine ⟨r2, rfl, by omega, by omega, fun _ => ?_, hB2⟩
          have h1 := HQ.out (by omega)
          have h2 := HQ2.out (by omega)
          have h3 := HSZ.out
          omega
end Go.Proofs.YtmlmdpdboigojaaGreatDoor
