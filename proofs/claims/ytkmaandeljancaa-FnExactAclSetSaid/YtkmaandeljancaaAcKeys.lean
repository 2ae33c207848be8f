/- The program's aclList: the grants of a map, in order. -/
import Derived.Test.YtkmaandeljancaaAcHolds
import Derived.Maps.OwnOps
import Derived.Test.YtkmaandeljancaaAcSet
import Derived.Test.YtkmaandeljancaaIter
import Derived.Maps.OwnSet
import Derived.CallsIn
namespace Go.Proofs.Ytkmaandeljancaa
set_option linter.unusedVariables false
open Go.RowKit Go.Maps Go.Sort Go.Shelf
open Ac (G)

theorem Ac.zeroI (w : World) : (zeroValue 3).run Try.prog w = .ok (.int .i64 0) w := by kernel_rfl
theorem Ac.sorts (m : Nat) : AnyZ.SortsIn Try.prog Try.sorted40_ren Fence.wide m :=
  ⟨fun blk off cap ss W hH hblk hsz => callsIn_wide.2 (AnyM.slices_Sort_string Try.sort44 blk off cap ss W hH hblk hsz),
   fun p cap W => callsIn_wide.2 (AnyM.slices_Sort_string_none Try.sort44 p cap W)⟩
theorem Ac.keys_any (mb : Option Nat) (W : World) : Calls Try.prog 41 #[.map mb] W fun e w' => e = .returned (.func (.func 45) #[] #[.pointer (some ⟨W.heap.size, 0, none⟩)]) ∧ w' = W.alloc (.cells #[.map mb] 46) :=
  callsIn_wide.1 (AnyZ.keys_in Try.keys41 Fence.wide 5 trivial rfl mb W)
set_option maxHeartbeats 1000000 in
theorem Ac.sorted_any (b nn : Nat) (D0 : DataW Unit) (w : World) (hown : Ac.Map w b nn D0) (hmax : Maps.size D0 ≤ maxLen) (hbytes : Maps.size D0 * 16 ≤ 140737488355328) :
    Calls Try.prog 40 #[.func (.func 45) #[] #[.pointer (some ⟨w.heap.size, 0, none⟩)]] (w.alloc (.cells #[.map (some b)] 46)) fun e w' => ∃ (v : Value) (ss : List (List UInt8)), e = .returned v ∧ ss.Perm (strKeys D0) ∧
      w'.ownsRow (w.alloc (.cells #[.map (some b)] 46)).heap.size 9 1 v ss.length ((ss.mergeSort (fun x y => decide (x ≤ y))).map encStr) ∧ (v = .slice none 0 0 ↔ ss = []) ∧ Below (w.alloc (.cells #[.map (some b)] 46)).heap.size (w.alloc (.cells #[.map (some b)] 46)) w' := by
  have hbl := hown.lt
  have hseq : SeqGives Fence.wide 2 Try.prog 45 #[.pointer (some ⟨w.heap.size, 0, none⟩)] encStr (fun ss => ss.Perm (strKeys D0)) (Maps.size D0) (w.alloc (.cells #[.map (some b)] 46)) :=
    AnyZ.keys_gives (ρ := Try.keys41_ren) { Try.keys41 with } Fence.wide _ trivial rfl (by omega) w.heap.size b nn D0 _ (by simp) (by simp) (by
      obtain ⟨es, clock, hb, Ft, hs, hD⟩ := hown
      exact ⟨es, clock, (Below.heap_alloc _ _ b hbl).trans hb, Ft, hs, hD⟩)
  exact callsIn_wide.1 (AnyZ.sorted_in Try.sorted40 Fence.wide 5 trivial trivial trivial trivial rfl (by omega) (Ac.sorts _) (enters_of Try.func44 (by kernel_rfl) rfl) 45 #[.pointer (some ⟨w.heap.size, 0, none⟩)] trivial (enters_of Try.func45 (by kernel_rfl) rfl) _ _ hmax hbytes _ hseq)

/-- the names of grants, sorted, in a slice of the library's making -/
def Ac.Names (w w' : World) (bs : List G) (e : Ending) : Prop :=
  ∃ v, e = .returned v ∧ OwnL 9 1 Ac.nameCell w' w.heap.size v bs ∧ Below w.heap.size w w'
theorem Ac.names_any (b nn : Nat) (D0 : DataW Unit) (bs : List G) (w : World) (hown : Ac.Map w b nn D0) (hH : Ac.Holds D0 bs) (hp : bs.Pairwise (fun a b => slt a.user b.user = true)) (hl : bs.length ≤ 5) :
    Calls Try.prog 40 #[.func (.func 45) #[] #[.pointer (some ⟨w.heap.size, 0, none⟩)]] (w.alloc (.cells #[.map (some b)] 46)) fun e w' => Ac.Names (w.alloc (.cells #[.map (some b)] 46)) w' bs e := by
  refine (Ac.sorted_any b nn D0 w hown (by rw [hH.size]; unfold maxLen; omega) (by rw [hH.size]; omega)).mono ?_
  rintro e w' ⟨v, ss, rfl, hS, hrow, _, hb⟩
  refine ⟨v, rfl, ?_, hb⟩
  have hS2 := hS.trans hH.keys
  have e1 : ss.mergeSort (fun x y => decide (x ≤ y)) = bs.map fun u => u.user.data.toList := Ac.sorted_names hp hS2
  have e2 : ss.length = bs.length := by rw [hS2.length_eq, List.length_map]
  rw [e1, e2, Ac.enc_names] at hrow
  exact hrow

/-- block g is as it was, and is not the slice's -/
def Ac.Apart (o : Option Obj) (w : World) (g : Nat) (v : Value) : Prop := w.heap[g]? = o ∧ g < w.heap.size ∧ v.ownBlock ≠ some g
theorem Ac.Apart.snoc {ob : Option Obj} {w w' : World} {g : Nat} {v v' : Value} {o : Obj} (h : Ac.Apart ob w g v) (hg : (w.alloc o).grownBy w' v.ownBlock) (hv : v'.ownBlock = v.ownBlock ∨ v'.ownBlock = some (w.heap.size + 1)) : Ac.Apart ob w' g v' := by
  refine ⟨(hg.block g (by have := h.2.1; simp; omega) (fun e => h.2.2 e.symm)).trans ((Below.heap_alloc w o g h.2.1).trans h.1), Nat.lt_of_lt_of_le h.2.1 (Nat.le_trans (by simp) hg.size), ?_⟩
  rcases hv with e | e
  · rw [e]; exact h.2.2
  · rw [e]; intro e2; injection e2 with e2; have := h.2.1; omega

/-- what the list of a map's grants is -/
def Ac.Listed (bs : List G) (w : World) (e : Ending) (w' : World) : Prop := ∃ v, e = .returned v ∧ Ac.Own w' w.heap.size v bs ∧ Below w.heap.size w w'

set_option maxRecDepth 100000 in
set_option maxHeartbeats 3200000 in
theorem aclList_any (b n : Nat) (D : DataW Unit) (bs : List G) (w : World) (hown : Ac.Map w b n D) (hH : Ac.Holds D bs) (hp : bs.Pairwise (fun a b => slt a.user b.user = true)) (hl : bs.length ≤ 5) (hz : ∀ u ∈ bs, u.user.size ≤ maxLen) :
    Calls Try.prog 30 #[.map (some b)] w (Ac.Listed bs w) := by
  obtain ⟨i0, hi, hz0, hz1, hz2⟩ := info_parts grant_info
  have hmk := fun W => run_make_rowN (P := Try.prog) 23 34 i0 _ Try.underlying23 hi hz0 .i64 .i64 0 bs.length (Nat.zero_le _) (by rw [hz2]; omega) (by omega) W
  rw [hz1] at hmk
  have hmk1 : ∀ W : World, (Instr.makeSlice 23 (.int .i64 0) (.int .i64 (bs.length : Int))).run Try.prog W = .ok (.slice (some ⟨W.heap.size, 0, none⟩) 0 bs.length) (W.alloc (.cells (madeCells (Value.agg #[.string ⟨#[]⟩, .int .i64 0]).cells (bs.length * 2)) 34)) := fun W => hmk W
  clear hmk
  have hml : (madeCells #[Value.string ⟨#[]⟩, .int .i64 0] (bs.length * 2)).toList = (Ac.part bs 0).flatMap Ac.cells := by
    rw [Ac.part_zero]
    exact made_flat (by omega) Ac.cells_len rfl
  have hown0 : (w.alloc (.cells (madeCells #[Value.string ⟨#[]⟩, .int .i64 0] (bs.length * 2)) 34)).ownsRow w.heap.size 34 2 (.slice (some ⟨w.heap.size, 0, none⟩) bs.length bs.length) bs.length ((Ac.part bs 0).flatMap Ac.cells) := by
    rw [← hml]
    exact World.ownsRow_lit w _ bs.length (Nat.le_refl _) (by unfold maxLen; omega) (size_madeCells _ _)
  have ho0 : Ac.Own (w.alloc (.cells (madeCells #[Value.string ⟨#[]⟩, .int .i64 0] (bs.length * 2)) 34)) w.heap.size (.slice (some ⟨w.heap.size, 0, none⟩) 0 bs.length) [] :=
    own_take (n' := 0) Ac.cells_len hown0 (Nat.zero_le _) (Ac.part_len bs 0 (Nat.zero_le _))
  have hb0 : Below w.heap.size w (w.alloc (.cells (madeCells #[Value.string ⟨#[]⟩, .int .i64 0] (bs.length * 2)) 34)) := (Below.refl _ _).alloc (Nat.le_refl _) _
  have hs0 : (w.alloc (.cells (madeCells #[Value.string ⟨#[]⟩, .int .i64 0] (bs.length * 2)) 34)).heap.size = w.heap.size + 1 := by simp
  clear hml hown0
  have HM := Lib.hid hown
  have HS := Lib.hid hH.size
  have HH := Lib.hid hH
  have HP := Lib.hid hp
  have hbl := World.ownsMap.lt hown
  clear hown hH hp
  go_enter Try.func30, Try.ntmps30
  go_upto_region 2 with (first | (at_len; refine wpList_len_own _ rfl _ 46 rfl 9 3 Try.underlying46 _ b n _ rfl HM.out ?_; rw [HS.out]))
  generalize w.alloc (.cells (madeCells #[Value.string ⟨#[]⟩, .int .i64 0] (bs.length * 2)) 34) = w1 at ho0 hb0 hs0 ⊢
  have HS0 := Lib.hid hs0
  clear hmk1 hs0
  have HM1 := Lib.hid (Ac.Map.below HM.out hb0)
  have HN := Lib.hid (Ac.names_any b n D bs w1 HM1.out HH.out HP.out hl)
  go_wp2_with fail
  refine (Ac.keys_any (some b) _).mono ?_
  rintro e w2 ⟨rfl, rfl⟩
  go_wp2_with fail
  refine Calls.mono HN.out ?_
  rintro e w3 ⟨v, rfl, hv, hb3⟩
  have hb13 := unbox hb3
  have ho3 := OwnL.below ho0 hb13
  have hB3 := hb0.trans (hb13.mono hb0.size)
  have hs3 := hb3.size
  obtain ⟨A, c, rfl, hc1, hc2⟩ := OwnL.form hv
  have HO3 := Lib.hid ho3
  clear ho0 ho3 hb13
  by_cases hl0 : bs.length = 0
  · obtain rfl : bs = [] := List.eq_nil_of_length_eq_zero hl0
    go_wp2_with fail
    go_loopg [3, 13] 0 (fun g v i wr => i = .int .i64 0 ∧ v = .slice (some ⟨w.heap.size, 0, none⟩) 0 0 ∧ wr = w3)
    case atStart => exact ⟨rfl, rfl, rfl⟩
    case round =>
      obtain ⟨rfl, rfl, rfl⟩ := hrel
      go_wp2_with fail
      go_ret
      exact ⟨_, rfl, HO3.out, hB3⟩
  · obtain ⟨g2, c2, e2, hg2, _⟩ := OwnL.form' hv (by omega)
    injection e2 with e2 _ _
    subst e2
    have hat := OwnL.at_ hv Ac.nameCell_len rfl
    obtain ⟨g', off', ha, hlt', hcell⟩ := hat (by omega)
    injection ha with ha
    injection ha with ha1 ha2 _
    subst ha1; subst ha2
    have HA3 : Hid (Ac.Apart w3.heap[g2]? w3 g2 (.slice (some ⟨w.heap.size, 0, none⟩) 0 bs.length)) := Lib.hid ⟨rfl, hlt', fun e => by
      have e : some w.heap.size = some g2 := e
      injection e with e
      have := HS0.out
      simp at hg2
      omega⟩
    have HC := Lib.hid hcell
    clear hv hat hcell
    go_wp2_with fail
    go_loopg [3, 13] bs.length (fun g v i wr => ∃ k : Nat, k ≤ bs.length ∧ Hid (g = bs.length - k) ∧ i = .int .i64 k ∧ Hid (Ac.Own wr w.heap.size v (bs.take k)) ∧ Hid (Ac.Apart w3.heap[g2]? wr g2 v) ∧ Below w.heap.size w wr)
    case atStart => exact ⟨0, Nat.zero_le _, Lib.hid rfl, rfl, HO3, HA3, hB3⟩
    case round =>
      obtain ⟨k, hk, HG, rfl, HO, HA, hb⟩ := hrel
      by_cases hlt : k < bs.length
      · obtain ⟨u, hu⟩ : ∃ u, bs[k]? = some u := ⟨_, List.getElem?_eq_getElem hlt⟩
        have hc : wr.cell? ⟨g2, k, none⟩ = some (.string u.user) := by
          rw [World.cell?_of_block HA.out.1]
          have := HC.out k u hu 0 _ rfl
          simpa using this
        have hzu := hz u (List.mem_of_getElem? hu)
        have HAT := Lib.hid (HH.out.at_ HP.out (List.mem_of_getElem? hu) (.lit (.int .i64 0)))
        have HMr := Lib.hid (Ac.Map.below HM.out hb)
        have HK := Lib.hid (WideMaps.keyOf_string_mk (P := Try.prog) Try.underlying9 hzu)
        obtain ⟨l, hll⟩ : ∃ l, bs.take k = l := ⟨_, rfl⟩
        have hll1 : l.length ≤ 5 := by rw [← hll, List.length_take]; omega
        have HT : Hid (bs.take (k + 1) = l ++ [u]) := Lib.hid (by rw [List.take_add_one, hu, hll]; rfl)
        rw [hll] at HO
        have HL1 : Hid (l.length + 1 ≤ maxLen) := Lib.hid (by unfold maxLen; omega)
        have HL2 : Hid ((l.length + 1) * 24 ≤ 140737488355328) := Lib.hid (by omega)
        have hBo := hb.size
        clear hu hll
        obtain ⟨wo, rfl⟩ : ∃ wo : World, wo = wr := ⟨_, rfl⟩
        go_wp2_with (first
          | (at_lookup; refine wpList_lookup_own_int _ rfl _ _ 46 rfl 9 3 .i64 Ac.law Try.underlying46 Try.underlying3 (Ac.zeroI _) b n _ rfl HMr.out _ _ rfl HK.out ?_; intro c1 hat1 hwc1; obtain rfl : c1 = u.rights := by (have hh := hat1.symm.trans HAT.out; injection hh with hh; injection hh))
          | (at_builtin; refine wpList_snocAt _ rfl (.tmp 17) (.tmp 23) _ rfl 34 i0 _ 2 24 Try.underlying23 hi hz0 hz1 hz2 rfl (by omega) Ac.cells Ac.cells_len Ac.cells_one1 w.heap.size _ l u rfl HO.out _ rfl rfl HL1.out HL2.out hBo ?_; intro v5 w5 hown5 hb5 hg5 hv5; have HO5 := Lib.hid hown5; have HB5 := Lib.hid hb5; have HA5 := Lib.hid (HA.out.snoc hg5 hv5); clear hown5 hg5 hb5 hv5))
        go_roundg (bs.length - (k + 1))
        case measure => have := HG.out; omega
        case rel => exact ⟨k + 1, by omega, Lib.hid rfl, by go_num, by rw [HT.out]; exact HO5, HA5, hb.trans HB5.out⟩
      · obtain rfl : k = bs.length := by omega
        have ho := HO.out
        rw [List.take_length] at ho
        go_wp2_with fail
        go_ret
        exact ⟨_, rfl, ho, hb⟩

end Go.Proofs.Ytkmaandeljancaa
