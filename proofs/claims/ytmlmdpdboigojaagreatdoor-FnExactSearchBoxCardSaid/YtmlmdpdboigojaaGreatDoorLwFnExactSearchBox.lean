/- The walk of the law FnExactSearchBox. -/
import Derived.Test.YtmlmdpdboigojaaGreatDoorKySi
import Derived.Test.YtmlmdpdboigojaaGreatDoorKyMk
import Derived.Test.YtmlmdpdboigojaaGreatDoorKyEq
namespace Go.Proofs.YtmlmdpdboigojaaGreatDoor
set_option linter.unusedVariables false
open Go.RowKit

theorem Kx.sz_v {d : Nat} {x y : Kx} (h : Kx.v d y = Kx.v d x) : Kx.sz d y = Kx.sz d x := by unfold Kx.sz; rw [h]
theorem It.kept2 {w w' : World} {B B2 : Nat} {v v2 : Value} {us us2 : List Int} (h : It.Own w B v us) (h2 : It.Own w B2 v2 us2) (hlt : ∀ q, v.ownBlock = some q → q < B2) (hg : w.grownBy w' v2.ownBlock) : It.Own w' B v us :=
  World.ownsRow.kept h hg (by
    cases hq : v.ownBlock with
    | none => exact .inl rfl
    | some q => exact .inr (fun e => by
        have h3 := hlt q hq
        have h4 := OwnL.blk (show OwnL 3 1 It.cells w B2 v2 us2 from h2) e.symm
        omega))
theorem It.at2 {w : World} {B c : Nat} {A : Option Addr} {us : List Int} (h : It.Own w B (.slice A us.length c) us) : At w w.heap.size 1 It.cells A us := OwnL.at_ (show OwnL 3 1 It.cells w B (.slice A us.length c) us from h) It.cells_len rfl

set_option maxRecDepth 100000 in
set_option maxHeartbeats 20000000 in
theorem walkFnExactSearchBox (nx : Int) (A : Option Addr) (ms : List Ml) (c d : Nat) (x : Kx) (mx : Int) (W : World) (hA : AtMails W W.heap.size A ms) (hz : ∀ m ∈ ms, m.text.size ≤ maxLen) (hn : ms.length ≤ maxLen) (hx : Kx.In (d + 1) W W.heap.size x) (hfl : Ky.Fl W) (hmx : W.cell? ⟨1, 0, none⟩ = some (.int .i64 mx)) :
    Calls Tryz.prog 3 #[.agg #[.int .i64 nx, .slice A ms.length c], x.val] W fun e W' => e = .returned (.bool true) ∧ Below W.heap.size W W' := by
  have HAT : Hid (∀ W', Below W.heap.size W W' → AtMails W' W'.heap.size A ms) := Lib.hid fun W' hb => At.mono (At.below hA hb) hb.size
  have HIN : Hid (∀ W', Below W.heap.size W W' → Kx.In (d + 1) W' W'.heap.size x) := Lib.hid fun W' hb => (hx.below hb).mono hb.size
  have HFL : Hid (∀ W', Below W.heap.size W W' → Ky.Fl W') := Lib.hid fun W' hb => hfl.below hb
  have HMX : Hid (∀ W', Below W.heap.size W W' → W'.cell? ⟨1, 0, none⟩ = some (.int .i64 mx)) := Lib.hid fun W' hb => (hb.cell (p := ⟨1, 0, none⟩) (World.block_lt_of_cell? W _ hmx)).trans hmx
  have HZ := Lib.hid hz
  have HN := Lib.hid hn
  have HSZB : Hid (∀ W', Below W.heap.size W W' → Calls Tryz.prog 4 #[.agg #[.int .i64 nx, .slice A ms.length c], .int .i64 1048576] W' (Szx 1048576 (ms.length + (ms.map fun m => m.text.size).sum) W')) := Lib.hid fun W' hb => szBox_any nx A ms c 1048576 W' (HAT.out W' hb) hz hn (by omega) (by omega)
  have HSZK : Hid (∀ (W' : World) (r : Int), Below W.heap.size W W' → 0 ≤ r → r ≤ 1048576 → Calls Tryz.prog 5 #[x.val, .int .i64 r] W' (Szx r (Kx.sz (d + 1) x) W')) := Lib.hid fun W' r hb h0 h1 => szKey_any (d + 1) x r W' (HIN.out W' hb) h0 h1
  have HTOB : Hid (ms.length ≤ 1048576 → ∀ W', Below W.heap.size W W' → Calls Tryz.prog 7 #[.agg #[.int .i64 nx, .slice A ms.length c]] W' fun e w' => ∃ A' c', e = .returned (.agg #[.int .i64 nx, .slice A' ms.length c']) ∧ Ml.Own w' W'.heap.size (.slice A' ms.length c') ms ∧ Below W'.heap.size W' w') := Lib.hid fun hl W' hb => toBox_any nx A ms c W' (HAT.out W' hb) hl
  have HTOK : Hid (Kx.sz (d + 1) x ≤ 1048576 → ∀ W', Below W.heap.size W W' → Calls Tryz.prog 8 #[x.val] W' (Ky.To (d + 1) x W')) := Lib.hid fun hs W' hb => toKey_any (d + 1) x W' (HIN.out W' hb) hs
  have HSP : Hid (Kx.sz (d + 1) x ≤ 1048576 → ∀ (W' : World) (A' : Option Addr) (c' : Nat) (y : Kx), Ml.Own W' W.heap.size (.slice A' ms.length c') ms → Kx.Own (d + 1) W' W.heap.size y → Kx.v (d + 1) y = Kx.v (d + 1) x → Calls Tryz.prog 6 #[.agg #[.int .i64 nx, .slice A' ms.length c'], y.val] W' fun e w' => ∃ v, e = .returned v ∧ It.Own w' W'.heap.size v (Ky.search nx ms (d + 1) (Kx.v (d + 1) x)) ∧ Below W'.heap.size W' w') := Lib.hid fun hs W' A' c' y h1 h2 h3 => by
    rw [← h3]
    exact sSearchBox_any nx A' ms c' (d + 1) y W' (OwnL.at_ h1 Ml.cells_len rfl) hz hn h2.in_ (by rw [Kx.sz_v h3]; exact hs)
  have HIM : Hid (∀ (W' : World) (A' : Option Addr) (c' : Nat) (y : Kx), Below W.heap.size W W' → Ml.Own W' W.heap.size (.slice A' ms.length c') ms → Kx.Own (d + 1) W' W.heap.size y → Kx.v (d + 1) y = Kx.v (d + 1) x → Calls Tryz.prog 9 #[.agg #[.int .i64 nx, .slice A' ms.length c'], y.val] W' fun e w' => ∃ v, e = .returned v ∧ It.Own w' W'.heap.size v (Ky.search nx ms (d + 1) (Kx.v (d + 1) x)) ∧ Below W'.heap.size W' w') := Lib.hid fun W' A' c' y hb h1 h2 h3 => by
    rw [← h3]
    exact iSearchBox_any nx A' ms c' (d + 1) y mx W' (OwnL.at_ h1 Ml.cells_len rfl) hz hn h2.in_ (HFL.out W' hb) (HMX.out W' hb)
  have HRL : Hid ((Ky.search nx ms (d + 1) (Kx.v (d + 1) x)).length ≤ ms.length) := Lib.hid Ky.search_len
  obtain ⟨res, hres⟩ : ∃ res, res = Ky.search nx ms (d + 1) (Kx.v (d + 1) x) := ⟨_, rfl⟩
  rw [← hres] at HSP HIM HRL
  clear hres hA hz hx hfl hmx
  unfold maxLen at hn
  obtain ⟨kind, flag, text, KA2, set, kc2, KA, keys, kc⟩ := x
  simp only [Kx.val, Kx.kind, Kx.flag, Kx.text, Kx.set, Kx.keys, Kx.A, Kx.KA, Kx.c, Kx.kc] at HSZK HTOK ⊢
  generalize hxk : Kx.mk kind flag text KA2 set kc2 KA keys kc = x at HSZK HTOK HSP HIM HIN
  clear hxk
  have hb1 : Below W.heap.size W ((W.alloc (.cells #[.int .i64 nx, .slice A ms.length c] 24)).alloc (.cells #[.int .i64 kind, .int .i64 flag, .string text, .slice KA2 set.length kc2, .slice KA keys.length kc] 28)) := by go_grown
  have h2 : ((W.alloc (.cells #[.int .i64 nx, .slice A ms.length c] 24)).alloc (.cells #[.int .i64 kind, .int .i64 flag, .string text, .slice KA2 set.length kc2, .slice KA keys.length kc] 28)).heap[W.heap.size]? = some (.cells #[.int .i64 nx, .slice A ms.length c] 24 (0, 0)) := (Below.heap_alloc _ _ _ (by simp)).trans (heap_alloc_new W _)
  have h3 : ((W.alloc (.cells #[.int .i64 nx, .slice A ms.length c] 24)).alloc (.cells #[.int .i64 kind, .int .i64 flag, .string text, .slice KA2 set.length kc2, .slice KA keys.length kc] 28)).heap[W.heap.size + 1]? = some (.cells #[.int .i64 kind, .int .i64 flag, .string text, .slice KA2 set.length kc2, .slice KA keys.length kc] 28 (0, 0)) := by simpa using heap_alloc_new (W.alloc _) (.cells #[.int .i64 kind, .int .i64 flag, .string text, .slice KA2 set.length kc2, .slice KA keys.length kc] 28)
  go_enter Tryz.func3, Tryz.ntmps3
  go_upto_region 1 with fail
  generalize ((W.alloc (.cells #[.int .i64 nx, .slice A ms.length c] 24)).alloc (.cells #[.int .i64 kind, .int .i64 flag, .string text, .slice KA2 set.length kc2, .slice KA keys.length kc] 28)) = w1 at hb1 h2 h3 ⊢
  obtain ⟨b2, hb2⟩ : ∃ b, b = W.heap.size := ⟨_, rfl⟩
  obtain ⟨b3, hb3⟩ : ∃ b, b = W.heap.size + 1 := ⟨_, rfl⟩
  rw [← hb3, ← hb2]
  rw [← hb2] at h2
  rw [← hb3] at h3
  clear hb2 hb3
  have l2 := (Array.getElem?_eq_some_iff.1 h2).1
  have l3 := (Array.getElem?_eq_some_iff.1 h3).1
  have s1 := hb1.size
  have HG : Hid (∀ W', Below w1.heap.size w1 W' → Below W.heap.size W W' ∧ W'.heap[b2]? = some (.cells #[.int .i64 nx, .slice A ms.length c] 24 (0, 0)) ∧ W'.heap[b3]? = some (.cells #[.int .i64 kind, .int .i64 flag, .string text, .slice KA2 set.length kc2, .slice KA keys.length kc] 28 (0, 0))) := Lib.hid fun W' hb => ⟨hb1.trans (hb.mono hb1.size), (hb.block b2 l2).trans h2, (hb.block b3 l3).trans h3⟩
  clear hb1 h2 h3
  have HSS : Hid (∀ w', Below w1.heap.size w1 w' → (w'.cell? ⟨b2, 0, none⟩ = some (.int .i64 nx) ∧ w'.cell? ⟨b2, 1, none⟩ = some (.slice A ms.length c)) ∧ (w'.cell? ⟨b3, 0, none⟩ = some (.int .i64 kind) ∧ w'.cell? ⟨b3, 1, none⟩ = some (.int .i64 flag) ∧ w'.cell? ⟨b3, 2, none⟩ = some (.string text) ∧ w'.cell? ⟨b3, 3, none⟩ = some (.slice KA2 set.length kc2) ∧ w'.cell? ⟨b3, 4, none⟩ = some (.slice KA keys.length kc))) := Lib.hid fun w' hb => ⟨⟨cell_at (HG.out w' hb).2.1 0 _ rfl, cell_at (HG.out w' hb).2.1 1 _ rfl⟩, ⟨cell_at (HG.out w' hb).2.2 0 _ rfl, cell_at (HG.out w' hb).2.2 1 _ rfl, cell_at (HG.out w' hb).2.2 2 _ rfl, cell_at (HG.out w' hb).2.2 3 _ rfl, cell_at (HG.out w' hb).2.2 4 _ rfl⟩⟩
  obtain ⟨⟨x0, x1⟩, z0, z1, z2, z3, z4⟩ := HSS.out w1 (Below.refl _ _)
  go_wp2_with fail
  refine Calls.mono (HSZB.out _ (HG.out w1 (Below.refl _ _)).1) ?_
  rintro e w2 ⟨r, rfl, hm, hle, hq, hb2⟩
  have HQ := Lib.hid hq
  have HB2 := Lib.hid hb2
  clear hq hb2 x0 x1 z0 z1 z2 z3 z4
  by_cases hneg : r < 0
  · go_wp2_with fail
    go_ret
    exact ⟨rfl, (HG.out _ HB2.out).1⟩
  · obtain ⟨⟨x0, x1⟩, z0, z1, z2, z3, z4⟩ := HSS.out w2 HB2.out
    go_wp2_with fail
    refine Calls.mono (HSZK.out _ _ (HG.out w2 HB2.out).1 (by omega) (by omega)) ?_
    rintro e w3 ⟨r2, rfl, hm2, hle2, hq2, hb3⟩
    have HQ2 := Lib.hid hq2
    have HB3 : Hid (Below w1.heap.size w1 w3) := Lib.hid (HB2.out.trans (hb3.mono HB2.out.size))
    clear hq2 hb3 x0 x1 z0 z1 z2 z3 z4
    by_cases hneg2 : r2 < 0
    · go_wp2_with fail
      go_ret
      exact ⟨rfl, (HG.out _ HB3.out).1⟩
    · have hsz1 : ms.length ≤ 1048576 := by have := HQ.out (by omega); omega
      have hsz2 : Kx.sz (d + 1) x ≤ 1048576 := by have := HQ2.out (by omega); omega
      have HSZ2 := Lib.hid hsz2
      have HTB := Lib.hid (HTOB.out hsz1)
      have HTK := Lib.hid (HTOK.out hsz2)
      have HSP2 := Lib.hid (HSP.out hsz2)
      clear hsz2 HQ HQ2 HTOB HTOK HSP HSZB HSZK hm hle hm2 hle2 hneg
      obtain ⟨⟨x0, x1⟩, z0, z1, z2, z3, z4⟩ := HSS.out w3 HB3.out
      go_wp2_with fail
      go_region_held3 (fun w' => (w'.cell? ⟨b2, 0, none⟩ = some (.int .i64 nx) ∧ w'.cell? ⟨b2, 1, none⟩ = some (.slice A ms.length c)) ∧ (w'.cell? ⟨b3, 0, none⟩ = some (.int .i64 kind) ∧ w'.cell? ⟨b3, 1, none⟩ = some (.int .i64 flag) ∧ w'.cell? ⟨b3, 2, none⟩ = some (.string text) ∧ w'.cell? ⟨b3, 3, none⟩ = some (.slice KA2 set.length kc2) ∧ w'.cell? ⟨b3, 4, none⟩ = some (.slice KA keys.length kc))) (first | exact HSS.out _ (below_drewN HB3.out 1) | exact HSS.out _ hc4 | exact HSS.out _ hc5 | exact HSS.out _ hc6) (first | (have hh := hc5; clear hh; go_at_call 6; refine Calls.mono (HSP2.out w5 A4 c4 y5 (OwnL.base (OwnL.below ho4 hb5) (Nat.le_trans s1 (Nat.le_trans HB3.out.size (Nat.le_refl _)))) (Kx.Own.base (Nat.le_trans s1 hc4.size) hoy5) hv5) ?_; rintro e w6 ⟨v6, rfl, ho6, hb6⟩; have hc6 : Below w1.heap.size w1 w6 := hc5.trans (hb6.mono hc5.size)) | (have hh := hc4; clear hh; go_at_call 8; refine Calls.mono (HTK.out _ (HG.out _ hc4).1) ?_; rintro e w5 ⟨y5, rfl, hv5, hoy5, hb5⟩; have hc5 : Below w1.heap.size w1 w5 := hc4.trans (hb5.mono hc4.size)) | (go_at_call 7; refine Calls.mono (HTB.out _ (HG.out _ (below_drewN HB3.out 1)).1) ?_; rintro e w4 ⟨A4, c4, rfl, ho4, hb4⟩; have hc4 : Below w1.heap.size w1 w4 := (below_drewN HB3.out 1).trans (hb4.mono HB3.out.size)))
      all_goals
        obtain ⟨A6, c6, rfl, _, _⟩ := OwnL.form (show OwnL 3 1 It.cells w6 w5.heap.size v6 res from ho6)
        have HC6 := Lib.hid hc6
        have HO6 : Hid (It.Own w6 w1.heap.size (.slice A6 res.length c6) res) := Lib.hid (OwnL.base (show OwnL 3 1 It.cells w6 w5.heap.size (.slice A6 res.length c6) res from ho6) hc5.size)
        clear ho4 hb4 hc4 hv5 hoy5 hb5 hc5 ho6 hb6 hc6 x0 x1 z0 z1 z2 z3 z4
        obtain ⟨⟨x0, x1⟩, z0, z1, z2, z3, z4⟩ := HSS.out w6 HC6.out
        go_wp2_with fail
        refine Calls.mono (HTB.out _ (HG.out _ HC6.out).1) ?_
        rintro e w7 ⟨A7, c7, rfl, ho7, hb7⟩
        have HC7 : Hid (Below w1.heap.size w1 w7) := Lib.hid (HC6.out.trans (hb7.mono HC6.out.size))
        have HO7 : Hid (Ml.Own w7 w1.heap.size (.slice A7 ms.length c7) ms ∧ It.Own w7 w1.heap.size (.slice A6 res.length c6) res) := Lib.hid ⟨OwnL.base ho7 HC6.out.size, OwnL.below HO6.out hb7⟩
        clear ho7 hb7 x0 x1 z0 z1 z2 z3 z4
        obtain ⟨⟨x0, x1⟩, z0, z1, z2, z3, z4⟩ := HSS.out w7 HC7.out
        have hlt3 : b3 < w7.heap.size := Nat.lt_of_lt_of_le l3 HC7.out.size
        have hlt2 : b2 < w7.heap.size := Nat.lt_of_lt_of_le l2 HC7.out.size
        have hba : Below w7.heap.size w7 (w7.alloc (.cells #[.int .i64 nx, .slice A7 ms.length c7] 35)) := (Below.refl _ _).alloc (Nat.le_refl _) _
        have HCA : Hid (Below w1.heap.size w1 (w7.alloc (.cells #[.int .i64 nx, .slice A7 ms.length c7] 35))) := Lib.hid (HC7.out.trans (hba.mono HC7.out.size))
        have HOA : Hid (Ml.Own (w7.alloc (.cells #[.int .i64 nx, .slice A7 ms.length c7] 35)) w1.heap.size (.slice A7 ms.length c7) ms ∧ It.Own (w7.alloc (.cells #[.int .i64 nx, .slice A7 ms.length c7] 35)) w1.heap.size (.slice A6 res.length c6) res) := Lib.hid ⟨OwnL.below HO7.out.1 hba, OwnL.below HO7.out.2 hba⟩
        have HXA := Lib.hid (heap_alloc_new w7 (.cells #[.int .i64 nx, .slice A7 ms.length c7] 35))
        clear hba
        go_wp2_with fail
        refine Calls.mono (HTK.out _ (HG.out _ HCA.out).1) ?_
        rintro e w8 ⟨y8, rfl, hv8, hoy8, hb8⟩
        have HV8 := Lib.hid hv8
        have HC8 : Hid (Below w1.heap.size w1 w8) := Lib.hid (HCA.out.trans (hb8.mono HCA.out.size))
        have hx7 := (hb8.block w7.heap.size (by simp)).trans HXA.out
        have q0 := cell_at hx7 0 _ rfl
        have q1 := cell_at hx7 1 _ rfl
        have hl7 := (Array.getElem?_eq_some_iff.1 hx7).1
        have hbc : Below w8.heap.size w8 (w8.alloc (.cells #[.int .i64 y8.kind, .int .i64 y8.flag, .string y8.text, .slice y8.A y8.set.length y8.c, .slice y8.KA y8.keys.length y8.kc] 40)) := (Below.refl _ _).alloc (Nat.le_refl _) _
        have hcb : Below w1.heap.size w1 (w8.alloc (.cells #[.int .i64 y8.kind, .int .i64 y8.flag, .string y8.text, .slice y8.A y8.set.length y8.c, .slice y8.KA y8.keys.length y8.kc] 40)) := HC8.out.trans (hbc.mono HC8.out.size)
        have hobm : Ml.Own (w8.alloc (.cells #[.int .i64 y8.kind, .int .i64 y8.flag, .string y8.text, .slice y8.A y8.set.length y8.c, .slice y8.KA y8.keys.length y8.kc] 40)) w1.heap.size (.slice A7 ms.length c7) ms := OwnL.below (OwnL.below HOA.out.1 hb8) hbc
        have hobi : It.Own (w8.alloc (.cells #[.int .i64 y8.kind, .int .i64 y8.flag, .string y8.text, .slice y8.A y8.set.length y8.c, .slice y8.KA y8.keys.length y8.kc] 40)) w1.heap.size (.slice A6 res.length c6) res := OwnL.below (show OwnL 3 1 It.cells w8 w1.heap.size (.slice A6 res.length c6) res from OwnL.below HOA.out.2 hb8) hbc
        have hoby : Kx.Own (d + 1) (w8.alloc (.cells #[.int .i64 y8.kind, .int .i64 y8.flag, .string y8.text, .slice y8.A y8.set.length y8.c, .slice y8.KA y8.keys.length y8.kc] 40)) w1.heap.size y8 := (Kx.Own.base HCA.out.size hoy8).below hbc
        have hx7b := (hbc.block w7.heap.size hl7).trans hx7
        have hx8b := heap_alloc_new w8 (.cells #[.int .i64 y8.kind, .int .i64 y8.flag, .string y8.text, .slice y8.A y8.set.length y8.c, .slice y8.KA y8.keys.length y8.kc] 40)
        clear hv8 hoy8 hb8 hx7 hbc x0 x1 z0 z1 z2 z3 z4
        go_upto_region 11 with fail
        generalize w8.alloc (.cells #[.int .i64 y8.kind, .int .i64 y8.flag, .string y8.text, .slice y8.A y8.set.length y8.c, .slice y8.KA y8.keys.length y8.kc] 40) = wb at hcb hobm hobi hoby hx7b hx8b ⊢
        obtain ⟨b7, hb7⟩ : ∃ b, b = w7.heap.size := ⟨_, rfl⟩
        obtain ⟨b8, hb8⟩ : ∃ b, b = w8.heap.size := ⟨_, rfl⟩
        rw [← hb7, ← hb8]
        rw [← hb7] at hx7b
        rw [← hb8] at hx8b
        clear hb7 hb8 q0 q1 hl7
        have l7 := (Array.getElem?_eq_some_iff.1 hx7b).1
        have l8 := (Array.getElem?_eq_some_iff.1 hx8b).1
        have s2 := hcb.size
        have HGB : Hid (∀ W', Below wb.heap.size wb W' → Below w1.heap.size w1 W' ∧ W'.heap[b7]? = some (.cells #[.int .i64 nx, .slice A7 ms.length c7] 35 (0, 0)) ∧ W'.heap[b8]? = some (.cells #[.int .i64 y8.kind, .int .i64 y8.flag, .string y8.text, .slice y8.A y8.set.length y8.c, .slice y8.KA y8.keys.length y8.kc] 40 (0, 0)) ∧ It.Own W' w1.heap.size (.slice A6 res.length c6) res ∧ Ml.Own W' w1.heap.size (.slice A7 ms.length c7) ms ∧ Kx.Own (d + 1) W' w1.heap.size y8) := Lib.hid fun W' hb => ⟨hcb.trans (hb.mono hcb.size), (hb.block b7 l7).trans hx7b, (hb.block b8 l8).trans hx8b, OwnL.below (show OwnL 3 1 It.cells wb w1.heap.size (.slice A6 res.length c6) res from hobi) hb, OwnL.below hobm hb, hoby.below hb⟩
        have HCB := Lib.hid hcb
        have HLT6 : Hid (∀ q, (Value.slice A6 res.length c6).ownBlock = some q → q < wb.heap.size) := Lib.hid fun q hq => OwnL.blt (show OwnL 3 1 It.cells wb w1.heap.size (.slice A6 res.length c6) res from hobi) hq
        have HSB : Hid (∀ w', Below wb.heap.size wb w' → (w'.cell? ⟨b7, 0, none⟩ = some (.int .i64 nx) ∧ w'.cell? ⟨b7, 1, none⟩ = some (.slice A7 ms.length c7)) ∧ (w'.cell? ⟨b8, 0, none⟩ = some (.int .i64 y8.kind) ∧ w'.cell? ⟨b8, 1, none⟩ = some (.int .i64 y8.flag) ∧ w'.cell? ⟨b8, 2, none⟩ = some (.string y8.text) ∧ w'.cell? ⟨b8, 3, none⟩ = some (.slice y8.A y8.set.length y8.c) ∧ w'.cell? ⟨b8, 4, none⟩ = some (.slice y8.KA y8.keys.length y8.kc))) := Lib.hid fun w' hb => ⟨⟨cell_at (HGB.out w' hb).2.1 0 _ rfl, cell_at (HGB.out w' hb).2.1 1 _ rfl⟩, cell_at (HGB.out w' hb).2.2.1 0 _ rfl, cell_at (HGB.out w' hb).2.2.1 1 _ rfl, cell_at (HGB.out w' hb).2.2.1 2 _ rfl, cell_at (HGB.out w' hb).2.2.1 3 _ rfl, cell_at (HGB.out w' hb).2.2.1 4 _ rfl⟩
        have HIMB := Lib.hid (HIM.out wb A7 c7 y8 (HG.out _ hcb).1 (OwnL.base (HGB.out wb (Below.refl _ _)).2.2.2.2.1 s1) (Kx.Own.base s1 (HGB.out wb (Below.refl _ _)).2.2.2.2.2) HV8.out)
        have hrl := HRL.out
        have hrm : res.length ≤ maxLen := by unfold maxLen; omega
        clear hcb hobm hobi hoby hx7b hx8b HC6 HO6 HC7 HO7 HCA HOA HXA HC8
        obtain ⟨⟨q0, q1⟩, u0, u1, u2, u3, u4⟩ := HSB.out wb (Below.refl _ _)
        go_wp2_with fail
        refine Calls.mono HIMB.out ?_
        rintro e w9 ⟨v9, rfl, ho9, hb9⟩
        obtain ⟨A9, c9, rfl, _, _⟩ := OwnL.form (show OwnL 3 1 It.cells w9 wb.heap.size v9 res from ho9)
        have HB9 := Lib.hid hb9
        have HO9 := Lib.hid ho9
        clear ho9 hb9 q0 q1 u0 u1 u2 u3 u4
        go_wp2_with fail
        refine (eqIntS_any A9 A6 res c9 c6 _ (It.at2 HO9.out) (It.at2 (HGB.out _ HB9.out).2.2.2.1) hrm).mono ?_
        rintro e w10 ⟨rfl, hb10⟩
        have HB10 : Hid (Below wb.heap.size wb w10) := Lib.hid (HB9.out.trans (hb10.mono HB9.out.size))
        have HO10 : Hid (It.Own w10 wb.heap.size (.slice A9 res.length c9) res) := Lib.hid (OwnL.below (show OwnL 3 1 It.cells w9 wb.heap.size (.slice A9 res.length c9) res from HO9.out) hb10)
        clear hb10
        obtain ⟨⟨q0, q1⟩, u0, u1, u2, u3, u4⟩ := HSB.out w10 HB10.out
        obtain ⟨⟨x0, x1⟩, z0, z1, z2, z3, z4⟩ := HSS.out w10 (HGB.out _ HB10.out).1
        go_wp2_with fail
        go_region_held3 (fun w' => (w'.cell? ⟨b7, 0, none⟩ = some (.int .i64 nx) ∧ w'.cell? ⟨b7, 1, none⟩ = some (.slice A7 ms.length c7)) ∧ (w'.cell? ⟨b2, 0, none⟩ = some (.int .i64 nx) ∧ w'.cell? ⟨b2, 1, none⟩ = some (.slice A ms.length c))) (first | exact ⟨(HSB.out _ (below_drewN HB10.out 1)).1, (HSS.out _ (HGB.out _ (below_drewN HB10.out 1)).1).1⟩ | exact ⟨(HSB.out _ (hc11)).1, (HSS.out _ (HGB.out _ (hc11)).1).1⟩ | exact ⟨(HSB.out _ (hc12)).1, (HSS.out _ (HGB.out _ (hc12)).1).1⟩) (first | (have hh := hc11; clear hh; go_at_call 11; refine Calls.mono (eqBox_any nx A7 A11 ms c7 c11 w11 (OwnL.at_ (HGB.out _ hc11).2.2.2.2.1 Ml.cells_len rfl) (OwnL.at_ ho11 Ml.cells_len rfl) HN.out) ?_; rintro e w12 ⟨rfl, hb12⟩; have hc12 : Below wb.heap.size wb w12 := hc11.trans (hb12.mono hc11.size)) | (go_at_call 7; refine Calls.mono (HTB.out _ (HG.out _ (HGB.out _ (below_drewN HB10.out 1)).1).1) ?_; rintro e w11 ⟨A11, c11, rfl, ho11, hb11⟩; have hc11 : Below wb.heap.size wb w11 := (below_drewN HB10.out 1).trans (hb11.mono HB10.out.size)))
        all_goals
          have HB12 := Lib.hid hc12
          have HO12 : Hid (It.Own w12 wb.heap.size (.slice A9 res.length c9) res) := Lib.hid (OwnL.below (show OwnL 3 1 It.cells w11 wb.heap.size (.slice A9 res.length c9) res from OwnL.below (w := w10.drewN 1) HO10.out hb11) hb12)
          clear ho11 hb11 hc11 hb12 hc12 q0 q1 u0 u1 u2 u3 u4 x0 x1 z0 z1 z2 z3 z4
          obtain ⟨⟨q0, q1⟩, u0, u1, u2, u3, u4⟩ := HSB.out w12 HB12.out
          obtain ⟨⟨x0, x1⟩, z0, z1, z2, z3, z4⟩ := HSS.out w12 (HGB.out _ HB12.out).1
          go_wp2_with fail
          go_region_held3 (fun w' => (w'.cell? ⟨b8, 0, none⟩ = some (.int .i64 y8.kind) ∧ w'.cell? ⟨b8, 1, none⟩ = some (.int .i64 y8.flag) ∧ w'.cell? ⟨b8, 2, none⟩ = some (.string y8.text) ∧ w'.cell? ⟨b8, 3, none⟩ = some (.slice y8.A y8.set.length y8.c) ∧ w'.cell? ⟨b8, 4, none⟩ = some (.slice y8.KA y8.keys.length y8.kc)) ∧ (w'.cell? ⟨b3, 0, none⟩ = some (.int .i64 kind) ∧ w'.cell? ⟨b3, 1, none⟩ = some (.int .i64 flag) ∧ w'.cell? ⟨b3, 2, none⟩ = some (.string text) ∧ w'.cell? ⟨b3, 3, none⟩ = some (.slice KA2 set.length kc2) ∧ w'.cell? ⟨b3, 4, none⟩ = some (.slice KA keys.length kc))) (first | exact ⟨(HSB.out _ (below_drewN HB12.out 1)).2, (HSS.out _ (HGB.out _ (below_drewN HB12.out 1)).1).2⟩ | exact ⟨(HSB.out _ (hc13)).2, (HSS.out _ (HGB.out _ (hc13)).1).2⟩ | exact ⟨(HSB.out _ (hc14)).2, (HSS.out _ (HGB.out _ (hc14)).1).2⟩) (first | (have hh := hc13; clear hh; go_at_call 12; refine Calls.mono (eqKey_any (d + 1) y8 y13 w13 (HGB.out _ hc13).2.2.2.2.2.in_ hoy13.in_ (HV8.out.trans hv13.symm)) ?_; rintro e w14 ⟨rfl, hb14⟩; have hc14 : Below wb.heap.size wb w14 := hc13.trans (hb14.mono hc13.size)) | (go_at_call 8; refine Calls.mono (HTK.out _ (HG.out _ (HGB.out _ (below_drewN HB12.out 1)).1).1) ?_; rintro e w13 ⟨y13, rfl, hv13, hoy13, hb13⟩; have hc13 : Below wb.heap.size wb w13 := (below_drewN HB12.out 1).trans (hb13.mono HB12.out.size)))
          all_goals
            have HB14 := Lib.hid hc14
            have HO14 : Hid (It.Own w14 wb.heap.size (.slice A9 res.length c9) res) := Lib.hid (OwnL.below (show OwnL 3 1 It.cells w13 wb.heap.size (.slice A9 res.length c9) res from OwnL.below (w := w12.drewN 1) HO12.out hb13) hb14)
            have HMB : Hid (Calls Tryz.prog 13 #[.agg #[.int .i64 nx, .slice A7 ms.length c7], .int .i64 1] w14 fun e w' => e = .returned (.int .i64 ((1 + 3 * ms.length : Nat) : Int)) ∧ MRel w1.heap.size w14 w' ∧ KeepT 74 w14 w') := Lib.hid (markBox_any nx A7 ms.length c7 w1.heap.size 1 w14 (RowSh.of_own (HGB.out _ hc14).2.2.2.2.1 rfl) (HGB.out _ hc14).1.size (by omega) (by omega))
            clear hv13 hoy13 hb13 hc13 hb14 hc14 q0 q1 u0 u1 u2 u3 u4 x0 x1 z0 z1 z2 z3 z4
            obtain ⟨⟨q0, q1⟩, u0, u1, u2, u3, u4⟩ := HSB.out w14 HB14.out
            go_wp2_with fail
            refine Calls.mono HMB.out ?_
            rintro e w15 ⟨rfl, hm15, hk15⟩
            have HM15 := Lib.hid hm15
            have hx8 := hk15 b8 _ _ (HGB.out _ HB14.out).2.2.1 (by decide)
            have hoy15 := Kx.Own.keepT hk15 (HGB.out _ HB14.out).2.2.2.2.2
            have HO15 : Hid (It.Own w15 wb.heap.size (.slice A9 res.length c9) res ∧ It.Own w15 w1.heap.size (.slice A6 res.length c6) res) := Lib.hid ⟨MRel.own hm15 (show OwnL 3 1 It.cells w14 wb.heap.size (.slice A9 res.length c9) res from HO14.out) (by decide) (by decide) (by decide), MRel.own hm15 (show OwnL 3 1 It.cells w14 w1.heap.size (.slice A6 res.length c6) res from (HGB.out _ HB14.out).2.2.2.1) (by decide) (by decide) (by decide)⟩
            have HB15 : Hid (Below w1.heap.size w1 w15) := Lib.hid ((HGB.out _ HB14.out).1.trans hm15.below)
            have HMK := Lib.hid (markKey_any d y8 w1.heap.size (1 + 3 * ms.length) w15 hoy15 HB15.out.size (by omega) (by
              have h1 := Kx.mkn_le (d + 1) y8
              rw [Kx.sz_v HV8.out] at h1
              have h2 := HSZ2.out
              omega))
            clear q0 q1 u0 u1 u2 u3 u4
            have u0 := cell_at hx8 0 _ rfl
            have u1 := cell_at hx8 1 _ rfl
            have u2 := cell_at hx8 2 _ rfl
            have u3 := cell_at hx8 3 _ rfl
            have u4 := cell_at hx8 4 _ rfl
            clear hm15 hk15 hx8 hoy15
            go_wp2_with fail
            refine Calls.mono HMK.out ?_
            rintro e w16 ⟨⟨r16, rfl⟩, hm16⟩
            have HO16 : Hid (It.Own w16 wb.heap.size (.slice A9 res.length c9) res ∧ It.Own w16 w1.heap.size (.slice A6 res.length c6) res) := Lib.hid ⟨MRel.own hm16 (show OwnL 3 1 It.cells w15 wb.heap.size (.slice A9 res.length c9) res from HO15.out.1) (by decide) (by decide) (by decide), MRel.own hm16 (show OwnL 3 1 It.cells w15 w1.heap.size (.slice A6 res.length c6) res from HO15.out.2) (by decide) (by decide) (by decide)⟩
            have HB16 : Hid (Below w1.heap.size w1 w16) := Lib.hid (HB15.out.trans hm16.below)
            have HWB16 : Hid (wb.heap.size ≤ w16.heap.size) := Lib.hid (Nat.le_trans HB14.out.size (Nat.le_trans HM15.out.size hm16.size))
            have hr16 : (0 : Int) ≤ (r16 : Int) := by omega
            clear hm16 u0 u1 u2 u3 u4
            go_wp2_with fail
            refine (eqIntS_any A9 A6 res c9 c6 _ (It.at2 HO16.out.1) (It.at2 HO16.out.2) hrm).mono ?_
            rintro e w17 ⟨rfl, hb17⟩
            have HO17 : Hid (It.Own w17 wb.heap.size (.slice A9 res.length c9) res ∧ It.Own w17 w1.heap.size (.slice A6 res.length c6) res) := Lib.hid ⟨OwnL.below (show OwnL 3 1 It.cells w16 wb.heap.size (.slice A9 res.length c9) res from HO16.out.1) hb17, OwnL.below (show OwnL 3 1 It.cells w16 w1.heap.size (.slice A6 res.length c6) res from HO16.out.2) hb17⟩
            have HB17 : Hid (Below w1.heap.size w1 w17) := Lib.hid (HB16.out.trans (hb17.mono HB16.out.size))
            have HWB17 : Hid (wb.heap.size ≤ w17.heap.size) := Lib.hid (Nat.le_trans HWB16.out hb17.size)
            have HMI : Hid (Calls Tryz.prog 15 #[.slice A9 res.length c9, .int .i64 1] w17 (It.Mkd res 1 (.slice A9 res.length c9) wb.heap.size w17)) := Lib.hid (markIntS_any A9 res c9 wb.heap.size 1 w17 HO17.out.1 (by omega) (by omega))
            clear hb17
            go_wp2_with fail
            refine Calls.mono HMI.out ?_
            rintro e w18 ⟨rfl, ho18, hg18⟩
            have HO18 : Hid (It.Own w18 wb.heap.size (.slice A9 res.length c9) (It.marks 1 res.length) ∧ It.Own w18 w1.heap.size (.slice A6 res.length c6) res) := Lib.hid ⟨ho18, It.kept2 HO17.out.2 HO17.out.1 HLT6.out hg18⟩
            have HB18 : Hid (Below w1.heap.size w1 w18) := Lib.hid (HB17.out.grown hg18 HB17.out.size (fun q hq => Nat.le_trans s2 (OwnL.blk (show OwnL 3 1 It.cells w17 wb.heap.size (.slice A9 res.length c9) res from HO17.out.1) hq)))
            have HHE : Hid (∀ W', At W' W'.heap.size 1 It.cells A9 (It.marks 1 res.length) → Calls Tryz.prog 16 #[.slice A9 res.length c9, .int .i64 1] W' fun e w' => e = .returned (.int .i64 ((1 + res.length : Nat) : Int)) ∧ Below W'.heap.size W' w') := Lib.hid fun W' h => heldIntS_any A9 res.length c9 1 W' h (by omega) (by omega)
            have HAT9 : Hid (∀ W', Below w18.heap.size w18 W' → At W' W'.heap.size 1 It.cells A9 (It.marks 1 res.length)) := Lib.hid fun W' hb => At.mono (At.below (OwnL.at_ (show OwnL 3 1 It.cells w18 wb.heap.size (.slice A9 res.length c9) (It.marks 1 res.length) from HO18.out.1) It.cells_len (It.marks_len 1 res.length)) hb) hb.size
            clear ho18 hg18
            go_wp2_with fail
            refine Calls.mono (HHE.out _ (HAT9.out _ (Below.refl _ _))) ?_
            rintro e w19 ⟨rfl, hb19⟩
            have HB19 : Hid (Below w18.heap.size w18 w19) := Lib.hid hb19
            have HC19 : Hid (Below w1.heap.size w1 w19) := Lib.hid (HB18.out.trans (hb19.mono HB18.out.size))
            clear hb19
            obtain ⟨⟨x0, x1⟩, z0, z1, z2, z3, z4⟩ := HSS.out w19 HC19.out
            go_wp2_with fail
            go_region_held3 (fun w' => (w'.cell? ⟨b2, 0, none⟩ = some (.int .i64 nx) ∧ w'.cell? ⟨b2, 1, none⟩ = some (.slice A ms.length c)) ∧ (w'.cell? ⟨b3, 0, none⟩ = some (.int .i64 kind) ∧ w'.cell? ⟨b3, 1, none⟩ = some (.int .i64 flag) ∧ w'.cell? ⟨b3, 2, none⟩ = some (.string text) ∧ w'.cell? ⟨b3, 3, none⟩ = some (.slice KA2 set.length kc2) ∧ w'.cell? ⟨b3, 4, none⟩ = some (.slice KA keys.length kc))) (first | exact HSS.out _ (below_drewN HC19.out 1) | exact HSS.out _ hc20 | exact HSS.out _ hc21 | exact HSS.out _ hc22) (first | (have hh := hc21; clear hh; go_at_call 9; refine Calls.mono (HIM.out w21 A20 c20 y21 (HG.out _ hc21).1 (OwnL.base (OwnL.below ho20 hb21) (Nat.le_trans s1 (Nat.le_trans HC19.out.size (Nat.le_refl _)))) (Kx.Own.base (Nat.le_trans s1 hc20.size) hoy21) hv21) ?_; rintro e w22 ⟨v22, rfl, ho22, hb22⟩; have hc22 : Below w1.heap.size w1 w22 := hc21.trans (hb22.mono hc21.size)) | (have hh := hc20; clear hh; go_at_call 8; refine Calls.mono (HTK.out _ (HG.out _ hc20).1) ?_; rintro e w21 ⟨y21, rfl, hv21, hoy21, hb21⟩; have hc21 : Below w1.heap.size w1 w21 := hc20.trans (hb21.mono hc20.size)) | (go_at_call 7; refine Calls.mono (HTB.out _ (HG.out _ (below_drewN HC19.out 1)).1) ?_; rintro e w20 ⟨A20, c20, rfl, ho20, hb20⟩; have hc20 : Below w1.heap.size w1 w20 := (below_drewN HC19.out 1).trans (hb20.mono HC19.out.size)))
            all_goals
              obtain ⟨A22, c22, rfl, _, _⟩ := OwnL.form (show OwnL 3 1 It.cells w22 w21.heap.size v22 res from ho22)
              have HB22 : Hid (Below w18.heap.size w18 w22) := Lib.hid ((((below_drewN HB19.out 1).trans (hb20.mono HB19.out.size)).trans (hb21.mono (Nat.le_trans HB19.out.size hb20.size))).trans (hb22.mono (Nat.le_trans HB19.out.size (Nat.le_trans hb20.size hb21.size))))
              have HC22 := Lib.hid hc22
              have HO22 : Hid (It.Own w22 w21.heap.size (.slice A22 res.length c22) res) := Lib.hid ho22
              have HO6z : Hid (It.Own w22 w1.heap.size (.slice A6 res.length c6) res) := Lib.hid (OwnL.below (show OwnL 3 1 It.cells w18 w1.heap.size (.slice A6 res.length c6) res from HO18.out.2) HB22.out)
              clear ho20 hb20 hc20 hv21 hoy21 hb21 hc21 ho22 hb22 hc22 x0 x1 z0 z1 z2 z3 z4
              go_wp2_with fail
              refine (eqIntS_any A22 A6 res c22 c6 _ (It.at2 HO22.out) (It.at2 HO6z.out) hrm).mono ?_
              rintro e w23 ⟨rfl, hb23⟩
              have HB23 : Hid (Below w18.heap.size w18 w23) := Lib.hid (HB22.out.trans (hb23.mono HB22.out.size))
              have HC23 : Hid (Below w1.heap.size w1 w23) := Lib.hid (HC22.out.trans (hb23.mono HC22.out.size))
              clear hb23
              go_wp2_with fail
              refine Calls.mono (HHE.out _ (HAT9.out _ HB23.out)) ?_
              rintro e w24 ⟨rfl, hb24⟩
              have HC24 := Lib.hid (HG.out _ (HC23.out.trans (hb24.mono HC23.out.size))).1
              clear hb24
              go_wp2_with fail
              go_ret
              exact ⟨rfl, HC24.out⟩
end Go.Proofs.YtmlmdpdboigojaaGreatDoor
