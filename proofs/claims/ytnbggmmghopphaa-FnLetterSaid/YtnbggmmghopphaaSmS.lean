/- The parts of l21Line of the specification. -/
import Derived.Test.YtnbggmmghopphaaDmS
import Derived.Test.YtnbggmmghopphaaPl
import Derived.Test.YtnbggmmghopphaaSmP
namespace Go.Proofs.Ytnbggmmghopphaa
set_option linter.unusedVariables false
open Go.RowKit
open Us (U)

theorem Pa.behind_yes {g l : ByteArray} (h : g.data.toList <+: l.data.toList) : Pa.behind g.data.toList l.data.toList = Pa.path (l.extract g.size l.size).data.toList := by
  have hl : l.data.toList.length = l.size := Array.length_toList
  have hg : g.data.toList.length = g.size := Array.length_toList
  unfold Pa.behind
  rw [if_pos h, hg, Ct.extract_mk]
  show _ = Pa.path ((l.data.toList.drop g.size).take (l.size - g.size))
  rw [List.take_of_length_le (by rw [List.length_drop]; omega)]
theorem Pa.behind_no {g l : ByteArray} (h : ¬ g.data.toList <+: l.data.toList) : Pa.behind g.data.toList l.data.toList = none := by
  unfold Pa.behind; rw [if_neg h]
theorem Pa.path_empty : Pa.path [60, 62] = none := by decide
theorem Pa.mk_ne {l : List UInt8} (h : 1 ≤ l.length) : (Ct.mk l).toList.isEmpty = false := by
  rw [Go.ByteArray.toList_eq]
  show l.isEmpty = false
  cases l with
  | nil => simp at h
  | cons a r => rfl

theorem new_cell {X : World} {n i : Nat} {cs : Array Value} {t : TypeId} {v : Value} (hn : X.heap.size = n) (hv : cs[i]? = some v) : (X.alloc (.cells cs t)).drew.cell? ⟨n, i, none⟩ = some v := by
  subst hn
  exact cell_at (w := (X.alloc (.cells cs t)).drew) (heap_alloc_new X (.cells cs t)) i v hv

set_option maxRecDepth 100000 in
set_option maxHeartbeats 1600000 in
theorem l21Path_any (l g : ByteArray) (hl : l.size ≤ 16777216) (hg : g.size ≤ 100) (w : World) :
    Calls Try.prog 50 #[.string l, .string g] w fun e w' => e = .returned (Pa.val (Pa.behind g.data.toList l.data.toList)) ∧ Below w.heap.size w w' := by
  have hx0 := heap_alloc_new w (.cells #[.string ⟨#[]⟩, .string ⟨#[]⟩] 79)
  have hB0 : Below w.heap.size w (w.alloc (.cells #[.string ⟨#[]⟩, .string ⟨#[]⟩] 79)) := (Below.refl _ _).alloc (Nat.le_refl _) _
  have hs0 : w.heap.size < (w.alloc (.cells #[.string ⟨#[]⟩, .string ⟨#[]⟩] 79)).heap.size := by simp
  go_enter Try.func50, Try.ntmps50
  go_upto_region 1 with fail
  generalize w.alloc (.cells #[.string ⟨#[]⟩, .string ⟨#[]⟩] 79) = w0 at hx0 hB0 hs0 ⊢
  have r0 : w0.cell? ⟨w.heap.size, 0, none⟩ = some (.string ⟨#[]⟩) := cell_at hx0 0 _ rfl
  have r1 : w0.cell? ⟨w.heap.size, 1, none⟩ = some (.string ⟨#[]⟩) := cell_at hx0 1 _ rfl
  have z0 := free_at hx0 0
  have z1 := free_at hx0 1
  have HB4 : Hid (∀ a b, Below w.heap.size w ((w0.setCell ⟨w.heap.size, 0, none⟩ a).setCell ⟨w.heap.size, 1, none⟩ b)) := Lib.hid fun a b => (hB0.setCell (p := ⟨w.heap.size, 0, none⟩) (Nat.le_refl _) _).setCell (p := ⟨w.heap.size, 1, none⟩) (Nat.le_refl _) _
  by_cases hpre : g.data.toList <+: l.data.toList
  · have hle : g.size ≤ l.size := by
      have h1 : l.data.toList.length = l.size := Array.length_toList
      have h2 : g.data.toList.length = g.size := Array.length_toList
      have := hpre.length_le; omega
    have hlei : ¬ (l.size : Int) < (g.size : Int) := by omega
    have hq : ((l.extract 0 g.size).toList == g.toList) = true := by rw [Pf.take_eq hle, decide_eq_true hpre]
    have HV := Lib.hid (Pa.behind_yes hpre)
    have hz : (l.extract g.size l.size).size ≤ 16777216 := by rw [ByteArray.size_extract]; omega
    clear hpre
    go_wp2_with fail
    refine (sPathParse_any _ hz _).mono ?_
    rintro e w3 ⟨rfl, hb3⟩
    have hx3 := (hb3.block _ hs0).trans hx0
    have hB3 := hB0.trans (hb3.mono hB0.size)
    have hs3 : w.heap.size < w3.heap.size := by have := hb3.size; omega
    have q0 : w3.cell? ⟨w.heap.size, 0, none⟩ = some (.string ⟨#[]⟩) := cell_at hx3 0 _ rfl
    have q1 : w3.cell? ⟨w.heap.size, 1, none⟩ = some (.string ⟨#[]⟩) := cell_at hx3 1 _ rfl
    have y0 := free_at hx3 0
    have y1 := free_at hx3 1
    clear hb3 r0 r1 z0 z1 hx0 HB4
    by_cases hem : (l.extract g.size l.size).data.toList = [60, 62]
    · have HQ : Hid (Pa.pval (l.extract g.size l.size).data.toList = .tuple #[.agg #[.string ⟨#[]⟩, .string ⟨#[]⟩], .bool true]) := Lib.hid (if_pos hem)
      have HN : Hid (Pa.behind g.data.toList l.data.toList = none) := Lib.hid (by rw [HV.out, hem, Pa.path_empty])
      clear hem
      rw [HQ.out]
      go_wp2_with fail
      go_region_held3 (fun w' => w'.cell? ⟨w3.heap.size, 0, none⟩ = some (.string ⟨#[]⟩) ∧ w'.cell? ⟨w3.heap.size, 1, none⟩ = some (.string ⟨#[]⟩)) (first | exact ⟨new_cell (by simp) rfl, new_cell (by simp) rfl⟩ | go_keep) (fail)
      go_wp2_with fail
      refine bodyPost_ret (v := .tuple #[.agg #[.string ⟨#[]⟩, .string ⟨#[]⟩], .bool false]) (by simp [results, Try.results50, go_sem, q0, q1, hs3]) rfl ⟨by rw [HN.out]; rfl, ?_⟩
      exact (((hB3.setCell (p := ⟨w.heap.size, 0, none⟩) (Nat.le_refl _) _).setCell (p := ⟨w.heap.size, 1, none⟩) (Nat.le_refl _) _).alloc (by simp; omega) _).drew
    · have HQ0 : Hid (Pa.pval (l.extract g.size l.size).data.toList = Pa.val (Pa.path (l.extract g.size l.size).data.toList)) := Lib.hid (if_neg hem)
      clear hem
      cases hp : Pa.path (l.extract g.size l.size).data.toList with
      | none =>
        have HQ : Hid (Pa.pval (l.extract g.size l.size).data.toList = .tuple #[.agg #[.string ⟨#[]⟩, .string ⟨#[]⟩], .bool false]) := Lib.hid (by rw [HQ0.out, hp]; rfl)
        have HN : Hid (Pa.behind g.data.toList l.data.toList = none) := Lib.hid (by rw [HV.out, hp])
        clear hp
        rw [HQ.out]
        go_wp2_with fail
        go_region
        go_wp2_with fail
        refine bodyPost_ret (v := .tuple #[.agg #[.string ⟨#[]⟩, .string ⟨#[]⟩], .bool false]) (by simp [results, Try.results50, go_sem, q0, q1, hs3]) rfl ⟨by rw [HN.out]; rfl, ?_⟩
        exact (((hB3.setCell (p := ⟨w.heap.size, 0, none⟩) (Nat.le_refl _) _).setCell (p := ⟨w.heap.size, 1, none⟩) (Nat.le_refl _) _).alloc (by simp; omega) _).drew
      | some ab =>
        obtain ⟨a, b⟩ := ab
        obtain ⟨x, HX⟩ : ∃ x : ByteArray, Hid (Ct.mk a = x) := ⟨_, Lib.hid rfl⟩
        obtain ⟨y, HY⟩ : ∃ y : ByteArray, Hid (Ct.mk b = y) := ⟨_, Lib.hid rfl⟩
        have HQ : Hid (Pa.pval (l.extract g.size l.size).data.toList = .tuple #[.agg #[.string x, .string y], .bool true]) := Lib.hid (by rw [HQ0.out, hp, ← HX.out, ← HY.out]; rfl)
        have HN : Hid (Pa.val (Pa.behind g.data.toList l.data.toList) = .tuple #[.agg #[.string x, .string y], .bool true]) := Lib.hid (by rw [HV.out, hp, ← HX.out, ← HY.out]; rfl)
        have hx1 : x.toList.isEmpty = false := by rw [← HX.out]; exact Pa.mk_ne (Pa.path_len hp).2.1
        have hx2 : (!x.toList.isEmpty) = true := by rw [hx1]; rfl
        clear hp
        rw [HQ.out]
        go_wp2_with fail
        go_region_held3 (fun w' => w'.cell? ⟨w3.heap.size, 0, none⟩ = some (.string x) ∧ w'.cell? ⟨w3.heap.size, 1, none⟩ = some (.string y)) (first | exact ⟨new_cell (by simp) rfl, new_cell (by simp) rfl⟩ | go_keep) (fail)
        go_wp2_with fail
        refine bodyPost_ret (v := .tuple #[.agg #[.string x, .string y], .bool true]) (by simp [results, Try.results50, go_sem, q0, q1, hs3]) rfl ⟨by rw [HN.out], ?_⟩
        exact (((hB3.setCell (p := ⟨w.heap.size, 0, none⟩) (Nat.le_refl _) _).setCell (p := ⟨w.heap.size, 1, none⟩) (Nat.le_refl _) _).alloc (by simp; omega) _).drew
  · have HV := Lib.hid (Pa.behind_no hpre)
    by_cases hle : g.size ≤ l.size
    · have hlei : ¬ (l.size : Int) < (g.size : Int) := by omega
      have hq : ((l.extract 0 g.size).toList == g.toList) = false := by rw [Pf.take_eq hle, decide_eq_false hpre]
      clear hpre
      go_wp2_with fail
      refine bodyPost_ret (v := .tuple #[.agg #[.string ⟨#[]⟩, .string ⟨#[]⟩], .bool false]) (by simp [results, Try.results50, go_sem, r0, r1]) rfl ⟨by rw [HV.out]; rfl, HB4.out _ _⟩
    · have hlei : (l.size : Int) < (g.size : Int) := by omega
      clear hpre
      go_wp2_with fail
      refine bodyPost_ret (v := .tuple #[.agg #[.string ⟨#[]⟩, .string ⟨#[]⟩], .bool false]) (by simp [results, Try.results50, go_sem, r0, r1]) rfl ⟨by rw [HV.out]; rfl, HB4.out _ _⟩
end Go.Proofs.Ytnbggmmghopphaa
