/- container/heap over numbers: Pop. -/
import Derived.Test.YtpbaimofffcnaaaHpW
namespace Go.Proofs.Ytpbaimofffcnaaa
set_option linter.unusedVariables false
open Go.RowKit

set_option maxRecDepth 100000 in
set_option maxHeartbeats 1600000 in
theorem hpPop_any (B b : Nat) (l : List Int) (h6 : l.length ≤ 6) (hl : 0 < l.length) (w : World) (h : HpSt B b l w) (hB : B ≤ w.heap.size) :
    Calls Try.prog 37 #[.iface 66 (.pointer (some ⟨b, 0, none⟩))] w fun e w' => e = .returned (.iface 3 (.int .i64 (Hp.pop l).1)) ∧ HpSt B b (Hp.pop l).2 w' ∧ HpB B w w' := by
  obtain ⟨pv, pl, hp⟩ : ∃ pv pl, Hp.pop l = (pv, pl) := ⟨_, _, rfl⟩
  rw [hp]
  have HPP := Lib.hid hp
  clear hp
  dsimp only
  have hmp := fun w => hp_m_pop b w
  have hmq := fun w => call_method #[] (hp_m_pop b w)
  obtain ⟨n, hn⟩ : ∃ n, n = l.length - 1 := ⟨_, rfl⟩
  have hni : (l.length : Int) - 1 = (n : Int) := by omega
  have HN := Lib.hid hn
  have hn1 : n + 1 ≤ l.length := by omega
  have hn2 : l.length ≤ n + 1 := by omega
  clear hn
  obtain ⟨v, hx, ho, hbB⟩ := h
  have hml := hp_m_len b v w hx
  have hmk := hp_m_val "Len" 78 (by kernel_rfl) b v w hx
  have HX := Lib.hid hx
  have HO := Lib.hid ho
  clear hx ho
  go_enter Try.func37, Try.ntmps37
  go_wp2_with fail
  refine Calls.mono (hpLen_any B b l v (by omega) w HO.out) ?_
  rintro e w1 ⟨rfl, hb1⟩
  have HX1 := Lib.hid ((hb1.block b (Array.getElem?_eq_some_iff.1 HX.out).1).trans HX.out)
  have HO1 : Hid (It.Own w1 B v l) := Lib.hid (OwnL.below HO.out hb1)
  have hbw1 : HpB B w w1 := (HpB.refl B w).tb hb1 hB
  clear hml hmk hb1
  have hml := hp_m_swap b v 0 (n : Int) w1 HX1.out
  have hmk := hp_m_val "Swap" 82 (by kernel_rfl) b v w1 HX1.out
  have hsw := hpSwap_any B b l v (by omega) 0 n (by omega) (by omega) w1 HO1.out
  rw [show ((0 : Nat) : Int) = 0 from rfl] at hsw
  have HSW := Lib.hid hsw
  clear hsw
  go_wp2_with fail
  refine Calls.mono HSW.out ?_
  rintro e w2 ⟨⟨r, rfl⟩, ho2, hg2⟩
  have HS2 : Hid (HpSt B b (Hp.sw l 0 n) w2) := Lib.hid ⟨v, (ow_block HO1.out HX1.out (by decide) hg2).trans HX1.out, ho2, hbB⟩
  have hbw2 := hbw1.grown HO1.out hg2 (Nat.le_trans hB hbw1.size)
  have hsl := Hp.sw_len l 0 n
  clear ho2 hg2 hml hmk
  go_wp2_with fail
  refine Calls.mono (hpDown_any B b (Hp.sw l 0 n) n (by omega) (by omega) (by omega) w2 HS2.out (Nat.le_trans hB hbw2.size)) ?_
  rintro e w3 ⟨⟨r, rfl⟩, hs3, hb3⟩
  have hbw3 := hbw2.trans hb3
  have hdl := Hp.down_len 6 (Hp.sw l 0 n) 0 n
  have HS3 := Lib.hid hs3
  clear hs3 hb3
  obtain ⟨l3, h3⟩ : ∃ l3, l3 = Hp.down (Hp.sw l 0 n) 0 n 6 := ⟨_, rfl⟩
  rw [← h3] at hdl HS3
  have hd := (Hp.pop_is HN.out h3).symm.trans HPP.out
  injection hd with hd1 hd2
  clear h3
  have hln : l3.length - 1 = n := by omega
  have HT := Lib.hid (hpTake_any B b l3 (by omega) (by omega) w3 HS3.out)
  rw [hln] at HT
  rw [hd1, hd2] at HT
  clear hd1 hd2
  go_wp2_with fail
  refine Calls.mono HT.out ?_
  rintro e w4 ⟨rfl, hs4, hb4⟩
  go_wp2_with fail
  go_ret
  exact ⟨rfl, hs4, hbw3.trans hb4⟩
end Go.Proofs.Ytpbaimofffcnaaa
