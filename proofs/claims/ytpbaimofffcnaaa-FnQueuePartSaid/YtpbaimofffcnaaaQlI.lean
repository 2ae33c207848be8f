/- QueueLeft of the program. -/
import Derived.Test.YtpbaimofffcnaaaBkW
namespace Go.Proofs.Ytpbaimofffcnaaa
set_option linter.unusedVariables false
open Go.RowKit

namespace Qu
def countL (nm : ByteArray) : List (List ByteArray) → Nat
  | [] => 0
  | us :: r => (if St.has us nm = true then 1 else 0) + countL nm r
theorem count_is (nm : ByteArray) : ∀ vs : List V, count nm vs = countL nm (vs.map V.us)
  | [] => rfl
  | x :: r => by rw [List.map_cons]; unfold count countL; rw [count_is nm r]
theorem countL_le (nm : ByteArray) : ∀ l : List (List ByteArray), countL nm l ≤ l.length
  | [] => Nat.le_refl _
  | us :: r => by unfold countL; have := countL_le nm r; rw [List.length_cons]; split <;> omega
theorem countL_cons (nm : ByteArray) (us : List ByteArray) (r : List (List ByteArray)) : countL nm (us :: r) = (if St.has us nm = true then 1 else 0) + countL nm r := rfl
theorem ok_names {nx : Int} {ls : List Qi.L} (h : ok nx (ls.map Qi.v) = true) : ls.length ≤ 6 ∧ ∀ x ∈ ls, x.us.length ≤ 3 := by
  obtain ⟨h1, _, h3, _⟩ := ok_inv h
  rw [List.length_map] at h1
  refine ⟨h1, fun x hx => ?_⟩
  have h4 : Lx.ok x.f x.us x.t = true := (fine_iff _).1 h3 _ (List.mem_map_of_mem hx)
  unfold Lx.ok at h4
  simp only [Bool.and_eq_true] at h4
  have h5 := h4.1.2.1
  unfold St.namesOk at h5
  simp only [Bool.and_eq_true, decide_eq_true_eq] at h5
  exact h5.1
end Qu

set_option maxRecDepth 100000 in
set_option maxHeartbeats 1600000 in
theorem iQueueLeft_any (nx : Int) (A : Option Addr) (ls : List Qi.L) (c : Nat) (nm : ByteArray) (w : World) (h : AtItems w w.heap.size A ls) (hn : ls.length ≤ maxLen) :
    Calls Try.prog 14 #[.agg #[.int .i64 nx, .slice A ls.length c], .string nm] w fun e w' => e = .returned (.int .i64 (Qu.left nx (ls.map Qi.v) nm)) ∧ Below w.heap.size w w' := by
  have hB0 : Below w.heap.size w (w.alloc (.cells #[.int .i64 nx, .slice A ls.length c] 29)) := (Below.refl _ _).alloc (Nat.le_refl _) _
  have hx0 := heap_alloc_new w (.cells #[.int .i64 nx, .slice A ls.length c] 29)
  obtain ⟨res, hr⟩ : ∃ res, res = Qu.left nx (ls.map Qi.v) nm := ⟨_, rfl⟩
  rw [← hr]
  have HRES := Lib.hid hr
  clear hr
  go_enter Try.func14, Try.ntmps14
  go_upto_region 1 with fail
  generalize w.alloc (.cells #[.int .i64 nx, .slice A ls.length c] 29) = w1 at hB0 hx0 ⊢
  obtain ⟨b, hb⟩ : ∃ b, b = w.heap.size := ⟨_, rfl⟩
  rw [← hb] at hx0 ⊢
  clear hb
  have hbl := (Array.getElem?_eq_some_iff.1 hx0).1
  have H1 : Hid (∀ w', Below w1.heap.size w1 w' → Below w.heap.size w w' ∧ w'.cell? ⟨b, 0, none⟩ = some (.int .i64 nx) ∧ w'.cell? ⟨b, 1, none⟩ = some (.slice A ls.length c)) := Lib.hid fun w' hb' => by
    have hx := (hb'.block b hbl).trans hx0
    exact ⟨hB0.trans (hb'.mono hB0.size), cell_at hx 0 _ rfl, cell_at hx 1 _ rfl⟩
  have HA : Hid (∀ w', Below w.heap.size w w' → AtItems w' w'.heap.size A ls) := Lib.hid fun w' hb' => (h.below hb').mono hb'.size
  clear hB0 hx0 h
  have b0 := (H1.out w1 (Below.refl _ _)).2.1
  have b1 := (H1.out w1 (Below.refl _ _)).2.2
  have HQ := Lib.hid (iQueueValid_any nx A ls c w1 (HA.out w1 (H1.out w1 (Below.refl _ _)).1) hn)
  cases hok : Qu.ok nx (ls.map Qi.v)
  · have HL : Hid (res = -1) := Lib.hid (by rw [HRES.out]; unfold Qu.left; rw [hok]; rfl)
    rw [hok] at HQ
    go_wp2_with fail
    refine Calls.mono HQ.out ?_
    rintro e w2 ⟨rfl, hb2⟩
    go_wp2_with fail
    go_ret
    rw [HL.out]
    exact ⟨rfl, (H1.out _ hb2).1⟩
  · have hnm := Qu.ok_names hok
    have hl : res = (Qu.countL nm (ls.map (·.us)) : Int) := (by
      rw [HRES.out]
      unfold Qu.left
      rw [hok, if_pos rfl, Qu.count_is, List.map_map]; rfl)
    rw [hok] at HQ
    have hcl : Qu.countL nm (ls.map (·.us)) ≤ 6 := by have := Qu.countL_le nm (ls.map (·.us)); rw [List.length_map] at this; omega
    generalize hcv : Qu.countL nm (ls.map (·.us)) = cv at hcl hl
    have HCV := Lib.hid hcv
    have HRL := Lib.hid hl
    clear hcv hok hl
    go_wp2_with fail
    refine Calls.mono HQ.out ?_
    rintro e w2 ⟨rfl, hb2⟩
    have HB2 := Lib.hid hb2
    have HK := Lib.hid (queueLink_any nx A ls c w2 (HA.out w2 (H1.out w2 hb2).1) hnm.1 hnm.2)
    have b0 := (H1.out w2 hb2).2.1
    have b1 := (H1.out w2 hb2).2.2
    clear hb2 HQ
    go_wp2_with fail
    refine Calls.mono HK.out ?_
    rintro e w3 ⟨v, rfl, hlk, hb3⟩
    have HB3 := Lib.hid (HB2.out.trans (hb3.mono HB2.out.size))
    have HLK := Lib.hid hlk
    clear hlk hb3 HK b0 b1
    go_wp2_with fail
    go_loopg [5, 6] ls.length (fun g ct nd wr => ∃ (m : Nat) (v : Value) (rem : List (List ByteArray)), ct = .int .i64 (m : Int) ∧ nd = v ∧ Hid (Lk wr w2.heap.size v rem) ∧ m + Qu.countL nm rem = cv ∧ g = rem.length ∧ Below w1.heap.size w1 wr)
    case atStart => exact ⟨0, v, _, rfl, rfl, HLK, by rw [HCV.out]; omega, by simp, HB3.out⟩
    case round =>
      obtain ⟨m, v, rem, rfl, rfl, HL, hmc, hgl, hb⟩ := hrel
      cases rem with
      | nil =>
        obtain rfl : _ = Value.pointer none := HL.out
        have hmm : m = cv := by unfold Qu.countL at hmc; omega
        subst hmm
        clear hmc
        go_wp2_with fail
        go_ret
        exact ⟨by rw [HRL.out]; rfl, (H1.out _ hb).1⟩
      | cons us r =>
        obtain ⟨g2, id, f, t, A1, c1, nxt, rfl, hx, hg2, ho, hz, hul, hlr⟩ := HL.out
        have d3 : wr.cell? ⟨g2, 3, none⟩ = some (.slice A1 us.length c1) := cell_at hx 3 _ rfl
        have d4 : wr.cell? ⟨g2, 4, none⟩ = some nxt := cell_at hx 4 _ rfl
        obtain ⟨q, hq⟩ := Lk.ptr hlr
        subst hq
        have HLR := Lib.hid hlr
        have HC := Lib.hid (contains_any A1 us us.length c1 nm wr _ (at_strs (OwnL.at_ ho St.cells_len rfl) hz) rfl hul)
        rw [Qu.countL_cons] at hmc
        rw [List.length_cons] at hgl
        have hcr := Qu.countL_le nm r
        clear hx ho hlr
        cases hh : St.has us nm
        · rw [hh, if_neg (by simp)] at hmc
          rw [hh] at HC
          have hmc2 : m + Qu.countL nm r = cv := by omega
          have HMC := Lib.hid hmc2
          have HGL := Lib.hid hgl
          have hm6 : m ≤ 6 := by omega
          clear hmc hgl hmc2 hcr
          go_wp2_with fail
          refine Calls.mono HC.out ?_
          rintro e w4 ⟨rfl, rfl⟩
          go_wp2_with fail
          go_roundg (r.length)
          case measure => have := HGL.out; omega
          case rel => exact ⟨m, _, r, rfl, rfl, HLR, HMC.out, rfl, hb⟩
        · rw [hh, if_pos rfl] at hmc
          rw [hh] at HC
          have hmc2 : (m + 1) + Qu.countL nm r = cv := by omega
          have HMC := Lib.hid hmc2
          have HGL := Lib.hid hgl
          have hm6 : m ≤ 6 := by omega
          have hm1 : ((m + 1 : Nat) : Int) = (m : Int) + 1 := by omega
          clear hmc hgl hmc2 hcr
          go_wp2_with fail
          refine Calls.mono HC.out ?_
          rintro e w4 ⟨rfl, rfl⟩
          go_wp2_with fail
          go_roundg (r.length)
          case measure => have := HGL.out; omega
          case rel => exact ⟨m + 1, _, r, by go_num, rfl, HLR, HMC.out, rfl, hb⟩
end Go.Proofs.Ytpbaimofffcnaaa
