/- SmA: SmS SmB SmC SmF, in one text. -/
import Derived.Test.YtpjifcljkgcnlaaGreatDoorDmS
import Derived.Test.YtpjifcljkgcnlaaGreatDoorPl
import Derived.Test.YtpjifcljkgcnlaaGreatDoorSmP
import Derived.Deep.RegionLaw
namespace Go.Proofs.YtpjifcljkgcnlaaGreatDoor
set_option linter.unusedVariables false
open Go.RowKit
open Us (U)

theorem Pa.behind_yes {g l : ByteArray} (h : g.data.toList <+: l.data.toList) : Pa.behind g.data.toList l.data.toList = Pa.path (l.extract g.size l.size).data.toList := by
  have hl : l.data.toList.length = l.size := Array.length_toList
  have hg : g.data.toList.length = g.size := Array.length_toList
  unfold Pa.behind
  rw [if_pos h, hg, Ct.extract_mk]
  show _ = Pa.path ((l.data.toList.drop g.size).take (l.size - g.size))
  rw [List.take_of_length_le (by rw [List.length_drop]; omega)]
theorem Pa.behind_no {g l : ByteArray} (h : ¬ g.data.toList <+: l.data.toList) : Pa.behind g.data.toList l.data.toList = none := by
  unfold Pa.behind; rw [if_neg h]
theorem Pa.path_empty : Pa.path [60, 62] = none := by decide
theorem Pa.mk_ne {l : List UInt8} (h : 1 ≤ l.length) : (Ct.mk l).toList.isEmpty = false := by
  rw [Go.ByteArray.toList_eq]
  show l.isEmpty = false
  cases l with
  | nil => simp at h
  | cons a r => rfl

theorem new_cell {X : World} {n i : Nat} {cs : Array Value} {t : TypeId} {v : Value} (hn : X.heap.size = n) (hv : cs[i]? = some v) : (X.alloc (.cells cs t)).drew.cell? ⟨n, i, none⟩ = some v := by
  subst hn
  exact cell_at (w := (X.alloc (.cells cs t)).drew) (heap_alloc_new X (.cells cs t)) i v hv

set_option maxRecDepth 100000 in
set_option maxHeartbeats 1600000 in
theorem l21Path_any (l g : ByteArray) (hl : l.size ≤ 16777216) (hg : g.size ≤ 100) (w : World) :
    Calls Tryz.prog 51 #[.string l, .string g] w fun e w' => e = .returned (Pa.val (Pa.behind g.data.toList l.data.toList)) ∧ Below w.heap.size w w' := by
  have hx0 := heap_alloc_new w (.cells #[.string ⟨#[]⟩, .string ⟨#[]⟩] 81)
  have hB0 : Below w.heap.size w (w.alloc (.cells #[.string ⟨#[]⟩, .string ⟨#[]⟩] 81)) := (Below.refl _ _).alloc (Nat.le_refl _) _
  have hs0 : w.heap.size < (w.alloc (.cells #[.string ⟨#[]⟩, .string ⟨#[]⟩] 81)).heap.size := by simp
  go_enter Tryz.func51, Tryz.ntmps51
  go_upto_region 1 with fail
  generalize w.alloc (.cells #[.string ⟨#[]⟩, .string ⟨#[]⟩] 81) = w0 at hx0 hB0 hs0 ⊢
  have r0 : w0.cell? ⟨w.heap.size, 0, none⟩ = some (.string ⟨#[]⟩) := cell_at hx0 0 _ rfl
  have r1 : w0.cell? ⟨w.heap.size, 1, none⟩ = some (.string ⟨#[]⟩) := cell_at hx0 1 _ rfl
  have z0 := free_at hx0 0
  have z1 := free_at hx0 1
  have HB4 : Hid (∀ a b, Below w.heap.size w ((w0.setCell ⟨w.heap.size, 0, none⟩ a).setCell ⟨w.heap.size, 1, none⟩ b)) := Lib.hid fun a b => (hB0.setCell (p := ⟨w.heap.size, 0, none⟩) (Nat.le_refl _) _).setCell (p := ⟨w.heap.size, 1, none⟩) (Nat.le_refl _) _
  by_cases hpre : g.data.toList <+: l.data.toList
  · have hle : g.size ≤ l.size := by
      have h1 : l.data.toList.length = l.size := Array.length_toList
      have h2 : g.data.toList.length = g.size := Array.length_toList
      have := hpre.length_le; omega
    have hlei : ¬ (l.size : Int) < (g.size : Int) := by omega
    have hq : ((l.extract 0 g.size).toList == g.toList) = true := by rw [Pf.take_eq hle, decide_eq_true hpre]
    have HV := Lib.hid (Pa.behind_yes hpre)
    have hz : (l.extract g.size l.size).size ≤ 16777216 := by rw [ByteArray.size_extract]; omega
    clear hpre
    go_wp2_with fail
    refine (sPathParse_any _ hz _).mono ?_
    rintro e w3 ⟨rfl, hb3⟩
    have hx3 := (hb3.block _ hs0).trans hx0
    have hB3 := hB0.trans (hb3.mono hB0.size)
    have hs3 : w.heap.size < w3.heap.size := by have := hb3.size; omega
    have q0 : w3.cell? ⟨w.heap.size, 0, none⟩ = some (.string ⟨#[]⟩) := cell_at hx3 0 _ rfl
    have q1 : w3.cell? ⟨w.heap.size, 1, none⟩ = some (.string ⟨#[]⟩) := cell_at hx3 1 _ rfl
    have y0 := free_at hx3 0
    have y1 := free_at hx3 1
    clear hb3 r0 r1 z0 z1 hx0 HB4
    by_cases hem : (l.extract g.size l.size).data.toList = [60, 62]
    · have HQ : Hid (Pa.pval (l.extract g.size l.size).data.toList = .tuple #[.agg #[.string ⟨#[]⟩, .string ⟨#[]⟩], .bool true]) := Lib.hid (if_pos hem)
      have HN : Hid (Pa.behind g.data.toList l.data.toList = none) := Lib.hid (by rw [HV.out, hem, Pa.path_empty])
      clear hem
      rw [HQ.out]
      go_wp2_with fail
      go_region_held3 (fun w' => w'.cell? ⟨w3.heap.size, 0, none⟩ = some (.string ⟨#[]⟩) ∧ w'.cell? ⟨w3.heap.size, 1, none⟩ = some (.string ⟨#[]⟩)) (first | exact ⟨new_cell (by simp) rfl, new_cell (by simp) rfl⟩ | go_keep) (fail)
      go_wp2_with fail
      refine bodyPost_ret (v := .tuple #[.agg #[.string ⟨#[]⟩, .string ⟨#[]⟩], .bool false]) (by simp [results, Tryz.results51, go_sem, q0, q1, hs3]) rfl ⟨by rw [HN.out]; rfl, ?_⟩
      exact (((hB3.setCell (p := ⟨w.heap.size, 0, none⟩) (Nat.le_refl _) _).setCell (p := ⟨w.heap.size, 1, none⟩) (Nat.le_refl _) _).alloc (by simp; omega) _).drew
    · have HQ0 : Hid (Pa.pval (l.extract g.size l.size).data.toList = Pa.val (Pa.path (l.extract g.size l.size).data.toList)) := Lib.hid (if_neg hem)
      clear hem
      cases hp : Pa.path (l.extract g.size l.size).data.toList with
      | none =>
        have HQ : Hid (Pa.pval (l.extract g.size l.size).data.toList = .tuple #[.agg #[.string ⟨#[]⟩, .string ⟨#[]⟩], .bool false]) := Lib.hid (by rw [HQ0.out, hp]; rfl)
        have HN : Hid (Pa.behind g.data.toList l.data.toList = none) := Lib.hid (by rw [HV.out, hp])
        clear hp
        rw [HQ.out]
        go_wp2_with fail
        go_region
        go_wp2_with fail
        refine bodyPost_ret (v := .tuple #[.agg #[.string ⟨#[]⟩, .string ⟨#[]⟩], .bool false]) (by simp [results, Tryz.results51, go_sem, q0, q1, hs3]) rfl ⟨by rw [HN.out]; rfl, ?_⟩
        exact (((hB3.setCell (p := ⟨w.heap.size, 0, none⟩) (Nat.le_refl _) _).setCell (p := ⟨w.heap.size, 1, none⟩) (Nat.le_refl _) _).alloc (by simp; omega) _).drew
      | some ab =>
        obtain ⟨a, b⟩ := ab
        obtain ⟨x, HX⟩ : ∃ x : ByteArray, Hid (Ct.mk a = x) := ⟨_, Lib.hid rfl⟩
        obtain ⟨y, HY⟩ : ∃ y : ByteArray, Hid (Ct.mk b = y) := ⟨_, Lib.hid rfl⟩
        have HQ : Hid (Pa.pval (l.extract g.size l.size).data.toList = .tuple #[.agg #[.string x, .string y], .bool true]) := Lib.hid (by rw [HQ0.out, hp, ← HX.out, ← HY.out]; rfl)
        have HN : Hid (Pa.val (Pa.behind g.data.toList l.data.toList) = .tuple #[.agg #[.string x, .string y], .bool true]) := Lib.hid (by rw [HV.out, hp, ← HX.out, ← HY.out]; rfl)
        have hx1 : x.toList.isEmpty = false := by rw [← HX.out]; exact Pa.mk_ne (Pa.path_len hp).2.1
        have hx2 : (!x.toList.isEmpty) = true := by rw [hx1]; rfl
        clear hp
        rw [HQ.out]
        go_wp2_with fail
        go_region_held3 (fun w' => w'.cell? ⟨w3.heap.size, 0, none⟩ = some (.string x) ∧ w'.cell? ⟨w3.heap.size, 1, none⟩ = some (.string y)) (first | exact ⟨new_cell (by simp) rfl, new_cell (by simp) rfl⟩ | go_keep) (fail)
        go_wp2_with fail
        refine bodyPost_ret (v := .tuple #[.agg #[.string x, .string y], .bool true]) (by simp [results, Tryz.results51, go_sem, q0, q1, hs3]) rfl ⟨by rw [HN.out], ?_⟩
        exact (((hB3.setCell (p := ⟨w.heap.size, 0, none⟩) (Nat.le_refl _) _).setCell (p := ⟨w.heap.size, 1, none⟩) (Nat.le_refl _) _).alloc (by simp; omega) _).drew
  · have HV := Lib.hid (Pa.behind_no hpre)
    by_cases hle : g.size ≤ l.size
    · have hlei : ¬ (l.size : Int) < (g.size : Int) := by omega
      have hq : ((l.extract 0 g.size).toList == g.toList) = false := by rw [Pf.take_eq hle, decide_eq_false hpre]
      clear hpre
      go_wp2_with fail
      refine bodyPost_ret (v := .tuple #[.agg #[.string ⟨#[]⟩, .string ⟨#[]⟩], .bool false]) (by simp [results, Tryz.results51, go_sem, r0, r1]) rfl ⟨by rw [HV.out]; rfl, HB4.out _ _⟩
    · have hlei : (l.size : Int) < (g.size : Int) := by omega
      clear hpre
      go_wp2_with fail
      refine bodyPost_ret (v := .tuple #[.agg #[.string ⟨#[]⟩, .string ⟨#[]⟩], .bool false]) (by simp [results, Tryz.results51, go_sem, r0, r1]) rfl ⟨by rw [HV.out]; rfl, HB4.out _ _⟩
end Go.Proofs.YtpjifcljkgcnlaaGreatDoor

namespace Go.Proofs.YtpjifcljkgcnlaaGreatDoor
set_option linter.unusedVariables false
open Go.RowKit
open Us (U)

theorem two_boxes (w : World) (o1 o2 : Obj) : ((w.alloc o1).alloc o2).heap[w.heap.size]? = some o1 ∧ ((w.alloc o1).alloc o2).heap[w.heap.size + 1]? = some o2 ∧ Below w.heap.size w ((w.alloc o1).alloc o2) ∧ ((w.alloc o1).alloc o2).heap.size = w.heap.size + 2 := by
  refine ⟨(Below.heap_alloc (w.alloc o1) o2 w.heap.size (by simp)).trans (heap_alloc_new w o1), ?_, ((Below.refl _ _).alloc (Nat.le_refl _) _).alloc (by simp) _, by simp⟩
  simpa using heap_alloc_new (w.alloc o1) o2
theorem at_none {w : World} {B : Nat} {A : Option Addr} : AtStrs w B A [] := ⟨fun h => absurd h (by simp), fun u hu => absurd hu (by simp)⟩
theorem set4 {B b : Nat} {w W : World} (h : Below B w W) (hb : B ≤ b) (v0 v1 v2 v3 : Value) : Below B w ((((W.setCell ⟨b, 0, none⟩ v0).setCell ⟨b, 1, none⟩ v1).setCell ⟨b, 2, none⟩ v2).setCell ⟨b, 3, none⟩ v3) :=
  (((h.setCell (p := ⟨b, 0, none⟩) hb _).setCell (p := ⟨b, 1, none⟩) hb _).setCell (p := ⟨b, 2, none⟩) hb _).setCell (p := ⟨b, 3, none⟩) hb _
theorem set_heap {W : World} {b i : Nat} {cs : Array Value} {t : TypeId} {v : Value} (h : W.heap[b]? = some (.cells cs t (0, 0))) : (W.setCell ⟨b, i, none⟩ v).heap[b]? = some (.cells (cs.setIfInBounds i v) t (0, 0)) := by
  simp [World.setCell, Array.getElem?_modify, h]
theorem set_heap_ne {W : World} {b b' i : Nat} {v : Value} (h : b ≠ b') : (W.setCell ⟨b, i, none⟩ v).heap[b']? = W.heap[b']? := Below.heap_setCell _ _ _ _ (fun e => h e.symm)

def Sm.val (A : Option Addr) (c : Nat) (s : Sm.S) : Value := .agg #[.int .i64 s.st, .string s.user, .slice A s.tos.length c, .string s.text]
/-- a session and a reply -/
def Sm.Res (r : Sm.S × Int) (w : World) (e : Ending) (w' : World) : Prop :=
  ∃ A c, e = .returned (.tuple #[Sm.val A c r.1, .int .i64 r.2]) ∧ AtStrs w' w'.heap.size A r.1.tos ∧ r.1.tos.length ≤ c ∧ c ≤ maxLen ∧ Below w.heap.size w w'
/-- a session without a sender -/
def Sm.Back (s : Sm.S) (w : World) (e : Ending) (w' : World) : Prop := ∃ g, e = .returned (.agg #[.int .i64 (Sm.back s).st, .string (Sm.back s).user, .slice (some ⟨g, 0, none⟩) 0 0, .string ⟨#[]⟩]) ∧ Below w.heap.size w w'
theorem Sm.res_self {r : Sm.S × Int} {s : Sm.S} {n : Int} (h : r = (s, n)) {w w' : World} {A : Option Addr} {c : Nat} (hat : AtStrs w' w'.heap.size A s.tos) (hc : s.tos.length ≤ c) (hm : c ≤ maxLen) (hB : Below w.heap.size w w') : Sm.Res r w (.returned (.tuple #[Sm.val A c s, .int .i64 n])) w' := by
  subst h; exact ⟨A, c, rfl, hat, hc, hm, hB⟩
theorem Sm.res_back {r : Sm.S × Int} {s : Sm.S} {n : Int} (h : r = (Sm.back s, n)) {w w' : World} {g : Nat} (hB : Below w.heap.size w w') : Sm.Res r w (.returned (.tuple #[.agg #[.int .i64 (Sm.back s).st, .string (Sm.back s).user, .slice (some ⟨g, 0, none⟩) 0 0, .string ⟨#[]⟩], .int .i64 n])) w' := by
  subst h; exact ⟨some ⟨g, 0, none⟩, 0, rfl, at_none, Nat.le_refl _, Nat.zero_le _, hB⟩

set_option maxRecDepth 100000 in
set_option maxHeartbeats 800000 in
theorem l21Back_any (st : Int) (f t : ByteArray) (A : Option Addr) (c : Nat) (us : List ByteArray) (hf : st < 2 → f = ⟨#[]⟩) (w : World) :
    Calls Tryz.prog 43 #[.agg #[.int .i64 st, .string f, .slice A us.length c, .string t]] w (Sm.Back ⟨st, f, us, t⟩ w) := by
  obtain ⟨hx1, hx2, hB, hsz⟩ := two_boxes w (.cells #[.int .i64 st, .string f, .slice A us.length c, .string t] 45) (.cells #[.int .i64 0, .string ⟨#[]⟩, .slice none 0 0, .string ⟨#[]⟩] 45)
  go_enter Tryz.func43, Tryz.ntmps43
  go_upto_region 1 with fail
  generalize ((w.alloc (.cells #[.int .i64 st, .string f, .slice A us.length c, .string t] 45)).alloc (.cells #[.int .i64 0, .string ⟨#[]⟩, .slice none 0 0, .string ⟨#[]⟩] 45)) = W at hx1 hx2 hB hsz ⊢
  have hs0 : w.heap.size < W.heap.size := by omega
  have hs1 : w.heap.size + 1 < W.heap.size := by omega
  have d0 : W.cell? ⟨w.heap.size, 0, none⟩ = some (.int .i64 st) := cell_at hx1 0 _ rfl
  have d1 : W.cell? ⟨w.heap.size, 1, none⟩ = some (.string f) := cell_at hx1 1 _ rfl
  have d2 : W.cell? ⟨w.heap.size, 2, none⟩ = some (.slice A us.length c) := cell_at hx1 2 _ rfl
  have d3 : W.cell? ⟨w.heap.size, 3, none⟩ = some (.string t) := cell_at hx1 3 _ rfl
  have e0 := free_at hx1 0
  have e1 := free_at hx1 1
  have e2 := free_at hx1 2
  have e3 := free_at hx1 3
  have r0 : W.cell? ⟨w.heap.size + 1, 0, none⟩ = some (.int .i64 0) := cell_at hx2 0 _ rfl
  have r1 : W.cell? ⟨w.heap.size + 1, 1, none⟩ = some (.string ⟨#[]⟩) := cell_at hx2 1 _ rfl
  have r2 : W.cell? ⟨w.heap.size + 1, 2, none⟩ = some (.slice none 0 0) := cell_at hx2 2 _ rfl
  have r3 : W.cell? ⟨w.heap.size + 1, 3, none⟩ = some (.string ⟨#[]⟩) := cell_at hx2 3 _ rfl
  have z0 := free_at hx2 0
  have z1 := free_at hx2 1
  have z2 := free_at hx2 2
  have z3 := free_at hx2 3
  clear hx1 hx2
  by_cases h2 : 2 ≤ st
  · have HB : Hid (Sm.back ⟨st, f, us, t⟩ = ⟨2, f, [], Sm.e0⟩) := Lib.hid (by unfold Sm.back; rw [if_pos h2])
    go_wp2_with fail
    refine bodyPost_ret (v := .agg #[.int .i64 2, .string f, .slice (some ⟨w.heap.size + 2, 0, none⟩) 0 0, .string ⟨#[]⟩]) (by simp [results, Tryz.results43, go_sem, r0, r1, r2, r3, hsz]) rfl ⟨w.heap.size + 2, by rw [HB.out], ?_⟩
    exact (set4 hB (by omega) _ _ _ _).alloc (by simp; omega) _
  · obtain rfl := hf (by omega)
    have HB : Hid (Sm.back ⟨st, ⟨#[]⟩, us, t⟩ = ⟨st, ⟨#[]⟩, [], Sm.e0⟩) := Lib.hid (by unfold Sm.back; rw [if_neg h2])
    go_wp2_with fail
    refine bodyPost_ret (v := .agg #[.int .i64 st, .string ⟨#[]⟩, .slice (some ⟨w.heap.size + 2, 0, none⟩) 0 0, .string ⟨#[]⟩]) (by simp [results, Tryz.results43, go_sem, r0, r1, r2, r3, hsz]) rfl ⟨w.heap.size + 2, by rw [HB.out], ?_⟩
    exact (set4 hB (by omega) _ _ _ _).alloc (by simp; omega) _

set_option maxRecDepth 100000 in
set_option maxHeartbeats 1600000 in
theorem l21Hello_any (st : Int) (f t : ByteArray) (A : Option Addr) (us : List ByteArray) (c : Nat) (w : World) (h : AtStrs w w.heap.size A us) (hcap : us.length ≤ c) (hcm : c ≤ maxLen) (hf : st < 2 → f = ⟨#[]⟩) (Aw : Option Addr) (ws : List ByteArray) (cw : Nat) (hw : AtStrs w w.heap.size Aw ws) (hws : ∀ u ∈ ws, u.size ≤ 16777216) (hwl : ws.length ≤ maxLen) :
    Calls Tryz.prog 39 #[.agg #[.int .i64 st, .string f, .slice A us.length c, .string t], .slice Aw ws.length cw] w (Sm.Res (Sm.hello ⟨st, f, us, t⟩ ws) w) := by
  have HW : Hid (∀ w', Below w.heap.size w w' → AtStrs w' w'.heap.size A us) := Lib.hid fun w' hb => (h.below hb).mono hb.size
  have HF := Lib.hid hf
  clear hf
  obtain ⟨hx1, hx2, hB, hsz⟩ := two_boxes w (.cells #[.int .i64 st, .string f, .slice A us.length c, .string t] 45) (.cells #[.int .i64 0, .string ⟨#[]⟩, .slice none 0 0, .string ⟨#[]⟩] 45)
  go_enter Tryz.func39, Tryz.ntmps39
  go_upto_region 1 with fail
  generalize ((w.alloc (.cells #[.int .i64 st, .string f, .slice A us.length c, .string t] 45)).alloc (.cells #[.int .i64 0, .string ⟨#[]⟩, .slice none 0 0, .string ⟨#[]⟩] 45)) = W at hx1 hx2 hB hsz ⊢
  have hs0 : w.heap.size < W.heap.size := by omega
  have hs1 : w.heap.size + 1 < W.heap.size := by omega
  have d0 : W.cell? ⟨w.heap.size, 0, none⟩ = some (.int .i64 st) := cell_at hx1 0 _ rfl
  have d1 : W.cell? ⟨w.heap.size, 1, none⟩ = some (.string f) := cell_at hx1 1 _ rfl
  have d2 : W.cell? ⟨w.heap.size, 2, none⟩ = some (.slice A us.length c) := cell_at hx1 2 _ rfl
  have d3 : W.cell? ⟨w.heap.size, 3, none⟩ = some (.string t) := cell_at hx1 3 _ rfl
  have e0 := free_at hx1 0
  have e1 := free_at hx1 1
  have e2 := free_at hx1 2
  have e3 := free_at hx1 3
  have r0 : W.cell? ⟨w.heap.size + 1, 0, none⟩ = some (.int .i64 0) := cell_at hx2 0 _ rfl
  have r1 : W.cell? ⟨w.heap.size + 1, 1, none⟩ = some (.string ⟨#[]⟩) := cell_at hx2 1 _ rfl
  have r2 : W.cell? ⟨w.heap.size + 1, 2, none⟩ = some (.slice none 0 0) := cell_at hx2 2 _ rfl
  have r3 : W.cell? ⟨w.heap.size + 1, 3, none⟩ = some (.string ⟨#[]⟩) := cell_at hx2 3 _ rfl
  have z0 := free_at hx2 0
  have z1 := free_at hx2 1
  have z2 := free_at hx2 2
  have z3 := free_at hx2 3
  have hwW := (hw.below hB).mono hB.size
  by_cases h2 : ws.length = 2
  · obtain ⟨a, d, rfl⟩ : ∃ a d, ws = [a, d] := by
      match ws, h2 with
      | [a, b], _ => exact ⟨a, b, rfl⟩
    obtain ⟨g, off, rfl, hg, hc⟩ := hwW.1 (by simp)
    have c1 : W.cell? ⟨g, off + 1, none⟩ = some (.string d) := hc 1 d rfl
    have zd := hws d (by simp)
    have HX1 := Lib.hid hx1
    have HX2 := Lib.hid hx2
    clear hc h2 hx1 hx2
    have HCB : Hid (∀ st' : Int, (st' < 2 → f = ⟨#[]⟩) → ∀ W', Calls Tryz.prog 43 #[.agg #[.int .i64 st', .string f, .slice A us.length c, .string t]] W' (Sm.Back ⟨st', f, us, t⟩ W')) := Lib.hid fun st' h' W' => l21Back_any st' f t A c us h' W'
    cases hv : Dm.ok d.data.toList
    · have HR : Hid (Sm.hello ⟨st, f, us, t⟩ [a, d] = (⟨st, f, us, t⟩, 501)) := Lib.hid (by unfold Sm.hello; simp [hv])
      have HV := Lib.hid hv
      clear hv
      go_wp2_with fail
      refine (sDomainValid_any d zd _).mono ?_
      rintro e w3 ⟨rfl, hb3⟩
      rw [HV.out]
      have hB3 := hB.trans (hb3.mono hB.size)
      have hs3 := hb3.size
      have hx1 := (hb3.block _ hs0).trans HX1.out
      have hx2 := (hb3.block _ hs1).trans HX2.out
      clear d0 d1 d2 d3 e0 e1 e2 e3 r0 r1 r2 r3 z0 z1 z2 z3
      have d0 : w3.cell? ⟨w.heap.size, 0, none⟩ = some (.int .i64 st) := cell_at hx1 0 _ rfl
      have d1 : w3.cell? ⟨w.heap.size, 1, none⟩ = some (.string f) := cell_at hx1 1 _ rfl
      have d2 : w3.cell? ⟨w.heap.size, 2, none⟩ = some (.slice A us.length c) := cell_at hx1 2 _ rfl
      have d3 : w3.cell? ⟨w.heap.size, 3, none⟩ = some (.string t) := cell_at hx1 3 _ rfl
      have e0 := free_at hx1 0
      have e1 := free_at hx1 1
      have e2 := free_at hx1 2
      have e3 := free_at hx1 3
      have r0 : w3.cell? ⟨w.heap.size + 1, 0, none⟩ = some (.int .i64 0) := cell_at hx2 0 _ rfl
      have r1 : w3.cell? ⟨w.heap.size + 1, 1, none⟩ = some (.string ⟨#[]⟩) := cell_at hx2 1 _ rfl
      have r2 : w3.cell? ⟨w.heap.size + 1, 2, none⟩ = some (.slice none 0 0) := cell_at hx2 2 _ rfl
      have r3 : w3.cell? ⟨w.heap.size + 1, 3, none⟩ = some (.string ⟨#[]⟩) := cell_at hx2 3 _ rfl
      have z0 := free_at hx2 0
      have z1 := free_at hx2 1
      have z2 := free_at hx2 2
      have z3 := free_at hx2 3
      go_wp2_with fail
      refine bodyPost_ret (v := .tuple #[.agg #[.int .i64 st, .string f, .slice A us.length c, .string t], .int .i64 501]) (by simp [results, Tryz.results39, go_sem, r0, r1, r2, r3]) rfl ?_
      exact Sm.res_self HR.out (HW.out _ (set4 hB3 (by omega) _ _ _ _)) hcap hcm (set4 hB3 (by omega) _ _ _ _)
    · have HV := Lib.hid hv
      by_cases hst : st = 0
      · subst hst
        have HR : Hid (Sm.hello ⟨0, f, us, t⟩ [a, d] = (Sm.back ⟨1, f, us, t⟩, 250)) := Lib.hid (by unfold Sm.hello; simp [hv])
        clear hv
        go_wp2_with fail
        refine (sDomainValid_any d zd _).mono ?_
        rintro e w3 ⟨rfl, hb3⟩
        rw [HV.out]
        have hB3 := hB.trans (hb3.mono hB.size)
        have hs3 := hb3.size
        have hx1 := (hb3.block _ hs0).trans HX1.out
        have hx2 := (hb3.block _ hs1).trans HX2.out
        clear d0 d1 d2 d3 e0 e1 e2 e3 r0 r1 r2 r3 z0 z1 z2 z3
        have d0 : w3.cell? ⟨w.heap.size, 0, none⟩ = some (.int .i64 0) := cell_at hx1 0 _ rfl
        have d1 : w3.cell? ⟨w.heap.size, 1, none⟩ = some (.string f) := cell_at hx1 1 _ rfl
        have d2 : w3.cell? ⟨w.heap.size, 2, none⟩ = some (.slice A us.length c) := cell_at hx1 2 _ rfl
        have d3 : w3.cell? ⟨w.heap.size, 3, none⟩ = some (.string t) := cell_at hx1 3 _ rfl
        have e0 := free_at hx1 0
        have e1 := free_at hx1 1
        have e2 := free_at hx1 2
        have e3 := free_at hx1 3
        have r0 : w3.cell? ⟨w.heap.size + 1, 0, none⟩ = some (.int .i64 0) := cell_at hx2 0 _ rfl
        have r1 : w3.cell? ⟨w.heap.size + 1, 1, none⟩ = some (.string ⟨#[]⟩) := cell_at hx2 1 _ rfl
        have r2 : w3.cell? ⟨w.heap.size + 1, 2, none⟩ = some (.slice none 0 0) := cell_at hx2 2 _ rfl
        have r3 : w3.cell? ⟨w.heap.size + 1, 3, none⟩ = some (.string ⟨#[]⟩) := cell_at hx2 3 _ rfl
        have z0 := free_at hx2 0
        have z1 := free_at hx2 1
        have z2 := free_at hx2 2
        have z3 := free_at hx2 3
        go_wp2_with fail
        have hB4 : Below w.heap.size w (w3.setCell ⟨w.heap.size, 0, none⟩ (.int .i64 1)) := hB3.setCell (p := ⟨w.heap.size, 0, none⟩) (Nat.le_refl _) _
        have hx24 := (set_heap_ne (W := w3) (i := 0) (v := .int .i64 1) (show w.heap.size ≠ w.heap.size + 1 by omega)).trans hx2
        have hs4 : (w3.setCell ⟨w.heap.size, 0, none⟩ (.int .i64 1)).heap.size = w3.heap.size := by simp
        generalize w3.setCell ⟨w.heap.size, 0, none⟩ (.int .i64 1) = w4 at hB4 hx24 hs4 ⊢
        clear d0 d1 d2 d3 e0 e1 e2 e3 r0 r1 r2 r3 z0 z1 z2 z3
        refine Calls.mono (HCB.out 1 (fun _ => HF.out (by decide)) _) ?_
        rintro e w5 ⟨g5, rfl, hb5⟩
        have hs5 := hb5.size
        have hB5 := hB4.trans (hb5.mono hB4.size)
        have hx5 := (hb5.block (w.heap.size + 1) (by omega)).trans hx24
        have q0 : w5.cell? ⟨w.heap.size + 1, 0, none⟩ = some (.int .i64 0) := cell_at hx5 0 _ rfl
        have q1 : w5.cell? ⟨w.heap.size + 1, 1, none⟩ = some (.string ⟨#[]⟩) := cell_at hx5 1 _ rfl
        have q2 : w5.cell? ⟨w.heap.size + 1, 2, none⟩ = some (.slice none 0 0) := cell_at hx5 2 _ rfl
        have q3 : w5.cell? ⟨w.heap.size + 1, 3, none⟩ = some (.string ⟨#[]⟩) := cell_at hx5 3 _ rfl
        have y0 := free_at hx5 0
        have y1 := free_at hx5 1
        have y2 := free_at hx5 2
        have y3 := free_at hx5 3
        go_wp2_with fail
        refine bodyPost_ret (v := .tuple #[.agg #[.int .i64 (Sm.back ⟨1, f, us, t⟩).st, .string (Sm.back ⟨1, f, us, t⟩).user, .slice (some ⟨g5, 0, none⟩) 0 0, .string ⟨#[]⟩], .int .i64 250]) (by simp [results, Tryz.results39, go_sem, q0, q1, q2, q3]) rfl ?_
        exact Sm.res_back HR.out (set4 hB5 (by omega) _ _ _ _)
      · have hsti : (st == 0) = false := by simpa using hst
        have HR : Hid (Sm.hello ⟨st, f, us, t⟩ [a, d] = (Sm.back ⟨st, f, us, t⟩, 250)) := Lib.hid (by unfold Sm.hello; simp [hv, hst])
        clear hv
        go_wp2_with fail
        refine (sDomainValid_any d zd _).mono ?_
        rintro e w3 ⟨rfl, hb3⟩
        rw [HV.out]
        have hB3 := hB.trans (hb3.mono hB.size)
        have hs3 := hb3.size
        have hx1 := (hb3.block _ hs0).trans HX1.out
        have hx2 := (hb3.block _ hs1).trans HX2.out
        clear d0 d1 d2 d3 e0 e1 e2 e3 r0 r1 r2 r3 z0 z1 z2 z3
        have d0 : w3.cell? ⟨w.heap.size, 0, none⟩ = some (.int .i64 st) := cell_at hx1 0 _ rfl
        have d1 : w3.cell? ⟨w.heap.size, 1, none⟩ = some (.string f) := cell_at hx1 1 _ rfl
        have d2 : w3.cell? ⟨w.heap.size, 2, none⟩ = some (.slice A us.length c) := cell_at hx1 2 _ rfl
        have d3 : w3.cell? ⟨w.heap.size, 3, none⟩ = some (.string t) := cell_at hx1 3 _ rfl
        have e0 := free_at hx1 0
        have e1 := free_at hx1 1
        have e2 := free_at hx1 2
        have e3 := free_at hx1 3
        have r0 : w3.cell? ⟨w.heap.size + 1, 0, none⟩ = some (.int .i64 0) := cell_at hx2 0 _ rfl
        have r1 : w3.cell? ⟨w.heap.size + 1, 1, none⟩ = some (.string ⟨#[]⟩) := cell_at hx2 1 _ rfl
        have r2 : w3.cell? ⟨w.heap.size + 1, 2, none⟩ = some (.slice none 0 0) := cell_at hx2 2 _ rfl
        have r3 : w3.cell? ⟨w.heap.size + 1, 3, none⟩ = some (.string ⟨#[]⟩) := cell_at hx2 3 _ rfl
        have z0 := free_at hx2 0
        have z1 := free_at hx2 1
        have z2 := free_at hx2 2
        have z3 := free_at hx2 3
        go_wp2_with fail
        clear d0 d1 d2 d3 e0 e1 e2 e3 r0 r1 r2 r3 z0 z1 z2 z3
        refine Calls.mono (HCB.out st HF.out _) ?_
        rintro e w5 ⟨g5, rfl, hb5⟩
        have hs5 := hb5.size
        have hB5 := hB3.trans (hb5.mono hB3.size)
        have hx5 := (hb5.block (w.heap.size + 1) (by omega)).trans hx2
        have q0 : w5.cell? ⟨w.heap.size + 1, 0, none⟩ = some (.int .i64 0) := cell_at hx5 0 _ rfl
        have q1 : w5.cell? ⟨w.heap.size + 1, 1, none⟩ = some (.string ⟨#[]⟩) := cell_at hx5 1 _ rfl
        have q2 : w5.cell? ⟨w.heap.size + 1, 2, none⟩ = some (.slice none 0 0) := cell_at hx5 2 _ rfl
        have q3 : w5.cell? ⟨w.heap.size + 1, 3, none⟩ = some (.string ⟨#[]⟩) := cell_at hx5 3 _ rfl
        have y0 := free_at hx5 0
        have y1 := free_at hx5 1
        have y2 := free_at hx5 2
        have y3 := free_at hx5 3
        go_wp2_with fail
        refine bodyPost_ret (v := .tuple #[.agg #[.int .i64 (Sm.back ⟨st, f, us, t⟩).st, .string (Sm.back ⟨st, f, us, t⟩).user, .slice (some ⟨g5, 0, none⟩) 0 0, .string ⟨#[]⟩], .int .i64 250]) (by simp [results, Tryz.results39, go_sem, q0, q1, q2, q3]) rfl ?_
        exact Sm.res_back HR.out (set4 hB5 (by omega) _ _ _ _)
  · have h2i : ¬ (ws.length : Int) = 2 := by omega
    have HR : Hid (Sm.hello ⟨st, f, us, t⟩ ws = (⟨st, f, us, t⟩, 501)) := Lib.hid (by
      unfold Sm.hello
      match ws, h2 with
      | [], _ => rfl
      | [a], _ => rfl
      | [a, b], h2 => exact absurd rfl h2
      | a :: b :: c :: r, _ => rfl)
    clear hwW hx1 hx2 h2
    generalize ws.length = n at h2i ⊢
    go_wp2_with fail
    refine bodyPost_ret (v := .tuple #[.agg #[.int .i64 st, .string f, .slice A us.length c, .string t], .int .i64 501]) (by simp [results, Tryz.results39, go_sem, r0, r1, r2, r3]) rfl ?_
    exact Sm.res_self HR.out (HW.out _ (set4 hB (by omega) _ _ _ _)) hcap hcm (set4 hB (by omega) _ _ _ _)
end Go.Proofs.YtpjifcljkgcnlaaGreatDoor

namespace Go.Proofs.YtpjifcljkgcnlaaGreatDoor
set_option linter.unusedVariables false
open Go.RowKit
open Us (U)

theorem lit_yes {m : ByteArray} {L : List UInt8} (h : m = ⟨L.toArray⟩) : (m.toList == L) = true := by
  rw [h, Go.ByteArray.toList_eq]; simp
theorem lit_no {m : ByteArray} {L : List UInt8} (h : ¬ m = ⟨L.toArray⟩) : (m.toList == L) = false := by
  cases hb : (m.toList == L)
  · rfl
  · exfalso
    apply h
    have := eq_of_beq hb
    rw [Go.ByteArray.toList_eq] at this
    cases m with
    | mk d => congr; exact Array.toList_inj.1 (by simpa using this)
theorem two_no {a b : ByteArray} (h : ¬ a = b) : (a.toList == b.toList) = false := by
  cases hb : (a.toList == b.toList)
  · rfl
  · exact absurd (Us.same_of hb) h
theorem two_yes {a b : ByteArray} (h : a = b) : (a.toList == b.toList) = true := by rw [h]; simp

set_option maxRecDepth 100000 in
set_option maxHeartbeats 1600000 in
theorem l21Auth_any (st : Int) (f t : ByteArray) (A : Option Addr) (us : List ByteArray) (c : Nat) (w : World) (h : AtStrs w w.heap.size A us) (hcap : us.length ≤ c) (hcm : c ≤ maxLen) (Au : Option Addr) (vs : List U) (cu : Nat) (hu : AtUsers w w.heap.size Au vs) (hvl : vs.length ≤ maxLen) (Aw : Option Addr) (ws : List ByteArray) (cw : Nat) (hw : AtStrs w w.heap.size Aw ws) (hwl : ws.length ≤ maxLen) :
    Calls Tryz.prog 40 #[.agg #[.int .i64 st, .string f, .slice A us.length c, .string t], .slice Au vs.length cu, .slice Aw ws.length cw] w (Sm.Res (Sm.auth vs ⟨st, f, us, t⟩ ws) w) := by
  have HW : Hid (∀ w', Below w.heap.size w w' → AtStrs w' w'.heap.size A us) := Lib.hid fun w' hb => (h.below hb).mono hb.size
  obtain ⟨hx1, hx2, hB, hsz⟩ := two_boxes w (.cells #[.int .i64 st, .string f, .slice A us.length c, .string t] 45) (.cells #[.int .i64 0, .string ⟨#[]⟩, .slice none 0 0, .string ⟨#[]⟩] 45)
  go_enter Tryz.func40, Tryz.ntmps40
  go_upto_region 1 with fail
  generalize ((w.alloc (.cells #[.int .i64 st, .string f, .slice A us.length c, .string t] 45)).alloc (.cells #[.int .i64 0, .string ⟨#[]⟩, .slice none 0 0, .string ⟨#[]⟩] 45)) = W at hx1 hx2 hB hsz ⊢
  have hs0 : w.heap.size < W.heap.size := by omega
  have hs1 : w.heap.size + 1 < W.heap.size := by omega
  have d0 : W.cell? ⟨w.heap.size, 0, none⟩ = some (.int .i64 st) := cell_at hx1 0 _ rfl
  have d1 : W.cell? ⟨w.heap.size, 1, none⟩ = some (.string f) := cell_at hx1 1 _ rfl
  have d2 : W.cell? ⟨w.heap.size, 2, none⟩ = some (.slice A us.length c) := cell_at hx1 2 _ rfl
  have d3 : W.cell? ⟨w.heap.size, 3, none⟩ = some (.string t) := cell_at hx1 3 _ rfl
  have e0 := free_at hx1 0
  have e1 := free_at hx1 1
  have e2 := free_at hx1 2
  have e3 := free_at hx1 3
  have r0 : W.cell? ⟨w.heap.size + 1, 0, none⟩ = some (.int .i64 0) := cell_at hx2 0 _ rfl
  have r1 : W.cell? ⟨w.heap.size + 1, 1, none⟩ = some (.string ⟨#[]⟩) := cell_at hx2 1 _ rfl
  have r2 : W.cell? ⟨w.heap.size + 1, 2, none⟩ = some (.slice none 0 0) := cell_at hx2 2 _ rfl
  have r3 : W.cell? ⟨w.heap.size + 1, 3, none⟩ = some (.string ⟨#[]⟩) := cell_at hx2 3 _ rfl
  have z0 := free_at hx2 0
  have z1 := free_at hx2 1
  have z2 := free_at hx2 2
  have z3 := free_at hx2 3
  have hwW := (hw.below hB).mono hB.size
  have HU := Lib.hid ((hu.below hB).mono hB.size)
  by_cases h1 : st = 1
  · by_cases h3 : ws.length = 3
    · obtain ⟨a, m, x, rfl⟩ : ∃ a m x, ws = [a, m, x] := by
        match ws, h3 with
        | [a, b, d], _ => exact ⟨a, b, d, rfl⟩
      obtain ⟨g, off, rfl, hg, hc⟩ := hwW.1 (by simp)
      have c1 : W.cell? ⟨g, off + 1, none⟩ = some (.string m) := hc 1 m rfl
      have c2 : W.cell? ⟨g, off + 2, none⟩ = some (.string x) := hc 2 x rfl
      clear hc h3
      by_cases hm : m = ⟨#[80, 76, 65, 73, 78]⟩
      · have hq : (m.toList == [80, 76, 65, 73, 78]) = true := lit_yes hm
        have HX1 := Lib.hid hx1
        have HX2 := Lib.hid hx2
        clear hx1 hx2
        cases ha : Up.ans vs x.data.toList with
        | none =>
          have HR : Hid (Sm.auth vs ⟨st, f, us, t⟩ [a, m, x] = (⟨st, f, us, t⟩, 535)) := Lib.hid (by unfold Sm.auth; simp [h1, hm, ha])
          have HV : Hid (Up.val (Up.ans vs x.data.toList) = .tuple #[.string ⟨#[]⟩, .bool false]) := Lib.hid (by rw [ha]; rfl)
          clear ha hm
          subst h1
          go_wp2_with fail
          refine (sUsersPlain_any Au vs cu x _ HU.out hvl).mono ?_
          rintro e w3 ⟨rfl, hb3⟩
          rw [HV.out]
          have hB3 := hB.trans (hb3.mono hB.size)
          have hs3 := hb3.size
          have hx1 := (hb3.block _ hs0).trans HX1.out
          have hx2 := (hb3.block _ hs1).trans HX2.out
          have hs03 : w.heap.size < w3.heap.size := by omega
          have hs13 : w.heap.size + 1 < w3.heap.size := by omega
          clear d0 d1 d2 d3 e0 e1 e2 e3 r0 r1 r2 r3 z0 z1 z2 z3
          have d0 : w3.cell? ⟨w.heap.size, 0, none⟩ = some (.int .i64 1) := cell_at hx1 0 _ rfl
          have d1 : w3.cell? ⟨w.heap.size, 1, none⟩ = some (.string f) := cell_at hx1 1 _ rfl
          have d2 : w3.cell? ⟨w.heap.size, 2, none⟩ = some (.slice A us.length c) := cell_at hx1 2 _ rfl
          have d3 : w3.cell? ⟨w.heap.size, 3, none⟩ = some (.string t) := cell_at hx1 3 _ rfl
          have e0 := free_at hx1 0
          have e1 := free_at hx1 1
          have e2 := free_at hx1 2
          have e3 := free_at hx1 3
          have r0 : w3.cell? ⟨w.heap.size + 1, 0, none⟩ = some (.int .i64 0) := cell_at hx2 0 _ rfl
          have r1 : w3.cell? ⟨w.heap.size + 1, 1, none⟩ = some (.string ⟨#[]⟩) := cell_at hx2 1 _ rfl
          have r2 : w3.cell? ⟨w.heap.size + 1, 2, none⟩ = some (.slice none 0 0) := cell_at hx2 2 _ rfl
          have r3 : w3.cell? ⟨w.heap.size + 1, 3, none⟩ = some (.string ⟨#[]⟩) := cell_at hx2 3 _ rfl
          have z0 := free_at hx2 0
          have z1 := free_at hx2 1
          have z2 := free_at hx2 2
          have z3 := free_at hx2 3
          go_wp2_with fail
          refine bodyPost_ret (v := .tuple #[.agg #[.int .i64 1, .string f, .slice A us.length c, .string t], .int .i64 535]) (by simp [results, Tryz.results40, go_sem, r0, r1, r2, r3]) rfl ?_
          exact Sm.res_self HR.out (HW.out _ (set4 hB3 (by omega) _ _ _ _)) hcap hcm (set4 hB3 (by omega) _ _ _ _)
        | some n =>
          have HR : Hid (Sm.auth vs ⟨st, f, us, t⟩ [a, m, x] = (⟨2, Ct.mk n, [], Sm.e0⟩, 235)) := Lib.hid (by unfold Sm.auth; simp [h1, hm, ha])
          have HV : Hid (Up.val (Up.ans vs x.data.toList) = .tuple #[.string (Ct.mk n), .bool true]) := Lib.hid (by rw [ha]; rfl)
          clear ha hm
          subst h1
          obtain ⟨y, HY⟩ : ∃ y : ByteArray, Hid (Ct.mk n = y) := ⟨_, Lib.hid rfl⟩
          rw [HY.out] at HV HR
          go_wp2_with fail
          refine (sUsersPlain_any Au vs cu x _ HU.out hvl).mono ?_
          rintro e w3 ⟨rfl, hb3⟩
          rw [HV.out]
          have hB3 := hB.trans (hb3.mono hB.size)
          have hs3 := hb3.size
          have hx1 := (hb3.block _ hs0).trans HX1.out
          have hx2 := (hb3.block _ hs1).trans HX2.out
          have hs03 : w.heap.size < w3.heap.size := by omega
          have hs13 : w.heap.size + 1 < w3.heap.size := by omega
          clear d0 d1 d2 d3 e0 e1 e2 e3 r0 r1 r2 r3 z0 z1 z2 z3
          have d0 : w3.cell? ⟨w.heap.size, 0, none⟩ = some (.int .i64 1) := cell_at hx1 0 _ rfl
          have d1 : w3.cell? ⟨w.heap.size, 1, none⟩ = some (.string f) := cell_at hx1 1 _ rfl
          have d2 : w3.cell? ⟨w.heap.size, 2, none⟩ = some (.slice A us.length c) := cell_at hx1 2 _ rfl
          have d3 : w3.cell? ⟨w.heap.size, 3, none⟩ = some (.string t) := cell_at hx1 3 _ rfl
          have e0 := free_at hx1 0
          have e1 := free_at hx1 1
          have e2 := free_at hx1 2
          have e3 := free_at hx1 3
          have r0 : w3.cell? ⟨w.heap.size + 1, 0, none⟩ = some (.int .i64 0) := cell_at hx2 0 _ rfl
          have r1 : w3.cell? ⟨w.heap.size + 1, 1, none⟩ = some (.string ⟨#[]⟩) := cell_at hx2 1 _ rfl
          have r2 : w3.cell? ⟨w.heap.size + 1, 2, none⟩ = some (.slice none 0 0) := cell_at hx2 2 _ rfl
          have r3 : w3.cell? ⟨w.heap.size + 1, 3, none⟩ = some (.string ⟨#[]⟩) := cell_at hx2 3 _ rfl
          have z0 := free_at hx2 0
          have z1 := free_at hx2 1
          have z2 := free_at hx2 2
          have z3 := free_at hx2 3
          go_wp2_with fail
          refine bodyPost_ret (v := .tuple #[.agg #[.int .i64 2, .string y, .slice (some ⟨w3.heap.size, 0, none⟩) 0 0, .string ⟨#[]⟩], .int .i64 235]) (by simp [results, Tryz.results40, go_sem, r0, r1, r2, r3, hs13]) rfl ?_
          rw [HR.out]
          exact ⟨some ⟨w3.heap.size, 0, none⟩, 0, rfl, at_none, Nat.le_refl _, Nat.zero_le _, (set4 hB3 (by omega) _ _ _ _).alloc (by simp; omega) _⟩
      · have hq : (m.toList == [80, 76, 65, 73, 78]) = false := lit_no hm
        have HR : Hid (Sm.auth vs ⟨st, f, us, t⟩ [a, m, x] = (⟨st, f, us, t⟩, 501)) := Lib.hid (by unfold Sm.auth; simp [h1, hm])
        clear hm
        subst h1
        go_wp2_with fail
        refine bodyPost_ret (v := .tuple #[.agg #[.int .i64 1, .string f, .slice A us.length c, .string t], .int .i64 501]) (by simp [results, Tryz.results40, go_sem, r0, r1, r2, r3]) rfl ?_
        exact Sm.res_self HR.out (HW.out _ (set4 hB (by omega) _ _ _ _)) hcap hcm (set4 hB (by omega) _ _ _ _)
    · have h3i : ¬ (ws.length : Int) = 3 := by omega
      have HR : Hid (Sm.auth vs ⟨st, f, us, t⟩ ws = (⟨st, f, us, t⟩, 501)) := Lib.hid (by
        unfold Sm.auth
        rw [if_neg (by simpa using h1)]
        match ws, h3 with
        | [], _ => rfl
        | [a], _ => rfl
        | [a, b], _ => rfl
        | [a, b, d], h3 => exact absurd rfl h3
        | a :: b :: d :: e :: r, _ => rfl)
      clear hwW h3
      subst h1
      generalize ws.length = n at h3i ⊢
      go_wp2_with fail
      refine bodyPost_ret (v := .tuple #[.agg #[.int .i64 1, .string f, .slice A us.length c, .string t], .int .i64 501]) (by simp [results, Tryz.results40, go_sem, r0, r1, r2, r3]) rfl ?_
      exact Sm.res_self HR.out (HW.out _ (set4 hB (by omega) _ _ _ _)) hcap hcm (set4 hB (by omega) _ _ _ _)
  · have h1i : (st == 1) = false := by simpa using h1
    have HR : Hid (Sm.auth vs ⟨st, f, us, t⟩ ws = (⟨st, f, us, t⟩, 503)) := Lib.hid (by unfold Sm.auth; rw [if_pos (by simpa using h1)])
    go_wp2_with fail
    refine bodyPost_ret (v := .tuple #[.agg #[.int .i64 st, .string f, .slice A us.length c, .string t], .int .i64 503]) (by simp [results, Tryz.results40, go_sem, r0, r1, r2, r3]) rfl ?_
    exact Sm.res_self HR.out (HW.out _ (set4 hB (by omega) _ _ _ _)) hcap hcm (set4 hB (by omega) _ _ _ _)
end Go.Proofs.YtpjifcljkgcnlaaGreatDoor

namespace Go.Proofs.YtpjifcljkgcnlaaGreatDoor
set_option linter.unusedVariables false
open Go.RowKit
open Us (U)

theorem Sm.strip_yes {l : ByteArray} (h : 0 < l.size) (h0 : l[0]'h = 46) : Sm.strip l = l.extract 1 l.size := by
  unfold Sm.strip
  have : l.data.toList.head? = some 46 := by
    rw [List.head?_eq_getElem?, B6.at_size h, h0]
  rw [if_pos this]
theorem Sm.strip_no {l : ByteArray} (h : ∀ k : 0 < l.size, ¬ l[0]'k = 46) : Sm.strip l = l := by
  unfold Sm.strip
  rw [if_neg]
  intro e
  rw [List.head?_eq_getElem?] at e
  have hl : 0 < l.size := by
    have := (List.getElem?_eq_some_iff.1 e).1
    rwa [Array.length_toList] at this
  rw [B6.at_size hl] at e
  injection e with e
  exact h hl e

set_option maxRecDepth 100000 in
set_option maxHeartbeats 1600000 in
theorem l21Data_any (st : Int) (f t : ByteArray) (A : Option Addr) (us : List ByteArray) (c : Nat) (w : World) (h : AtStrs w w.heap.size A us) (hcap : us.length ≤ c) (hcm : c ≤ maxLen) (hst : 2 ≤ st) (ht : t.size ≤ 16777216) (l : ByteArray) (hl : l.size ≤ 16777216) :
    Calls Tryz.prog 38 #[.agg #[.int .i64 st, .string f, .slice A us.length c, .string t], .string l] w (Sm.Res (Sm.data ⟨st, f, us, t⟩ l) w) := by
  have HW : Hid (∀ w', Below w.heap.size w w' → AtStrs w' w'.heap.size A us) := Lib.hid fun w' hb => (h.below hb).mono hb.size
  obtain ⟨hx1, hx2, hB, hsz⟩ := two_boxes w (.cells #[.int .i64 st, .string f, .slice A us.length c, .string t] 45) (.cells #[.int .i64 0, .string ⟨#[]⟩, .slice none 0 0, .string ⟨#[]⟩] 45)
  go_enter Tryz.func38, Tryz.ntmps38
  go_upto_region 1 with fail
  generalize ((w.alloc (.cells #[.int .i64 st, .string f, .slice A us.length c, .string t] 45)).alloc (.cells #[.int .i64 0, .string ⟨#[]⟩, .slice none 0 0, .string ⟨#[]⟩] 45)) = W at hx1 hx2 hB hsz ⊢
  have hs0 : w.heap.size < W.heap.size := by omega
  have hs1 : w.heap.size + 1 < W.heap.size := by omega
  have d0 : W.cell? ⟨w.heap.size, 0, none⟩ = some (.int .i64 st) := cell_at hx1 0 _ rfl
  have d1 : W.cell? ⟨w.heap.size, 1, none⟩ = some (.string f) := cell_at hx1 1 _ rfl
  have d2 : W.cell? ⟨w.heap.size, 2, none⟩ = some (.slice A us.length c) := cell_at hx1 2 _ rfl
  have d3 : W.cell? ⟨w.heap.size, 3, none⟩ = some (.string t) := cell_at hx1 3 _ rfl
  have e0 := free_at hx1 0
  have e1 := free_at hx1 1
  have e2 := free_at hx1 2
  have e3 := free_at hx1 3
  have r0 : W.cell? ⟨w.heap.size + 1, 0, none⟩ = some (.int .i64 0) := cell_at hx2 0 _ rfl
  have r1 : W.cell? ⟨w.heap.size + 1, 1, none⟩ = some (.string ⟨#[]⟩) := cell_at hx2 1 _ rfl
  have r2 : W.cell? ⟨w.heap.size + 1, 2, none⟩ = some (.slice none 0 0) := cell_at hx2 2 _ rfl
  have r3 : W.cell? ⟨w.heap.size + 1, 3, none⟩ = some (.string ⟨#[]⟩) := cell_at hx2 3 _ rfl
  have z0 := free_at hx2 0
  have z1 := free_at hx2 1
  have z2 := free_at hx2 2
  have z3 := free_at hx2 3
  by_cases hd : l = ⟨#[46]⟩
  · have q0 : (l.toList == [46]) = true := lit_yes hd
    by_cases h20 : 20 < t.size
    · have h20i : (20 : Int) < (t.size : Int) := by omega
      have HR : Hid (Sm.data ⟨st, f, us, t⟩ l = (Sm.back ⟨st, f, us, t⟩, 552)) := Lib.hid (by unfold Sm.data; rw [if_pos hd, if_pos h20])
      clear hd
      go_wp2_with fail
      refine Calls.mono (l21Back_any st f t A c us (fun h => absurd h (by omega)) _) ?_
      rintro e w5 ⟨g5, rfl, hb5⟩
      have hs5 := hb5.size
      have hB5 := hB.trans (hb5.mono hB.size)
      have hx5 := (hb5.block (w.heap.size + 1) (by omega)).trans hx2
      have q0 : w5.cell? ⟨w.heap.size + 1, 0, none⟩ = some (.int .i64 0) := cell_at hx5 0 _ rfl
      have q1 : w5.cell? ⟨w.heap.size + 1, 1, none⟩ = some (.string ⟨#[]⟩) := cell_at hx5 1 _ rfl
      have q2 : w5.cell? ⟨w.heap.size + 1, 2, none⟩ = some (.slice none 0 0) := cell_at hx5 2 _ rfl
      have q3 : w5.cell? ⟨w.heap.size + 1, 3, none⟩ = some (.string ⟨#[]⟩) := cell_at hx5 3 _ rfl
      have y0 := free_at hx5 0
      have y1 := free_at hx5 1
      have y2 := free_at hx5 2
      have y3 := free_at hx5 3
      go_wp2_with fail
      refine bodyPost_ret (v := .tuple #[.agg #[.int .i64 (Sm.back ⟨st, f, us, t⟩).st, .string (Sm.back ⟨st, f, us, t⟩).user, .slice (some ⟨g5, 0, none⟩) 0 0, .string ⟨#[]⟩], .int .i64 552]) (by simp [results, Tryz.results38, go_sem, q0, q1, q2, q3]) rfl ?_
      exact Sm.res_back HR.out (set4 hB5 (by omega) _ _ _ _)
    · have h20i : ¬ (20 : Int) < (t.size : Int) := by omega
      have HR : Hid (Sm.data ⟨st, f, us, t⟩ l = (Sm.back ⟨st, f, us, t⟩, 250)) := Lib.hid (by unfold Sm.data; rw [if_pos hd, if_neg h20])
      clear hd
      go_wp2_with fail
      refine Calls.mono (l21Back_any st f t A c us (fun h => absurd h (by omega)) _) ?_
      rintro e w5 ⟨g5, rfl, hb5⟩
      have hs5 := hb5.size
      have hB5 := hB.trans (hb5.mono hB.size)
      have hx5 := (hb5.block (w.heap.size + 1) (by omega)).trans hx2
      have q0 : w5.cell? ⟨w.heap.size + 1, 0, none⟩ = some (.int .i64 0) := cell_at hx5 0 _ rfl
      have q1 : w5.cell? ⟨w.heap.size + 1, 1, none⟩ = some (.string ⟨#[]⟩) := cell_at hx5 1 _ rfl
      have q2 : w5.cell? ⟨w.heap.size + 1, 2, none⟩ = some (.slice none 0 0) := cell_at hx5 2 _ rfl
      have q3 : w5.cell? ⟨w.heap.size + 1, 3, none⟩ = some (.string ⟨#[]⟩) := cell_at hx5 3 _ rfl
      have y0 := free_at hx5 0
      have y1 := free_at hx5 1
      have y2 := free_at hx5 2
      have y3 := free_at hx5 3
      go_wp2_with fail
      refine bodyPost_ret (v := .tuple #[.agg #[.int .i64 (Sm.back ⟨st, f, us, t⟩).st, .string (Sm.back ⟨st, f, us, t⟩).user, .slice (some ⟨g5, 0, none⟩) 0 0, .string ⟨#[]⟩], .int .i64 250]) (by simp [results, Tryz.results38, go_sem, q0, q1, q2, q3]) rfl ?_
      exact Sm.res_back HR.out (set4 hB5 (by omega) _ _ _ _)
  · have q0 : (l.toList == [46]) = false := lit_no hd
    have HD : Hid (Sm.data ⟨st, f, us, t⟩ l = (⟨st, f, us, Sm.cut21 (t ++ Sm.strip l ++ ⟨#[10]⟩)⟩, 0)) := Lib.hid (by unfold Sm.data; rw [if_neg hd])
    clear hd
    by_cases h0 : 0 < l.size
    · have hne : l.toList.isEmpty = false := by
        have hl1 : l.data.toList.length = l.size := Array.length_toList
        rw [Go.ByteArray.toList_eq]
        cases hq : l.data.toList with
        | nil => rw [hq] at hl1; simp at hl1; omega
        | cons a r => rfl
      have hne2 : (!l.toList.isEmpty) = true := by rw [hne]; rfl
      by_cases h46 : l[0]'h0 = 46
      · have b0 : (((l[0]'h0).toNat : Int) == 46) = true := by rw [h46]; rfl
        have b1 : ((l[0]'h0).toNat : Int) = 46 := by rw [h46]; rfl
        have HST := Lib.hid (Sm.strip_yes h0 h46)
        clear h46
        have hz1 : (1 : Int) ≤ (l.size : Int) := by omega
        have HR : Hid (Sm.data ⟨st, f, us, t⟩ l = (⟨st, f, us, Sm.cut21 (t ++ l.extract 1 l.size ++ ⟨#[10]⟩)⟩, 0)) := Lib.hid (by rw [HD.out, HST.out])
        have HXS : Hid ((t ++ l.extract 1 l.size ++ ⟨#[10]⟩).size = t.size + (l.size - 1) + 1) := Lib.hid (by rw [ByteArray.size_append, ByteArray.size_append, ByteArray.size_extract]; show _ + 1 = _; omega)
        have HE : Hid (∀ k : Nat, k = min (t ++ l.extract 1 l.size ++ ⟨#[10]⟩).size 21 → (t ++ l.extract 1 l.size ++ ⟨#[10]⟩).extract 0 k = Sm.cut21 (t ++ l.extract 1 l.size ++ ⟨#[10]⟩)) := Lib.hid (by intro k hk; unfold Sm.cut21; rw [hk])
        have HBX : Hid (∀ v0 v1 v2 v3 v4, Below w.heap.size w (((((W.setCell ⟨w.heap.size, 3, none⟩ v4).setCell ⟨w.heap.size + 1, 0, none⟩ v0).setCell ⟨w.heap.size + 1, 1, none⟩ v1).setCell ⟨w.heap.size + 1, 2, none⟩ v2).setCell ⟨w.heap.size + 1, 3, none⟩ v3)) := Lib.hid fun v0 v1 v2 v3 v4 => set4 (hB.setCell (p := ⟨w.heap.size, 3, none⟩) (Nat.le_refl _) _) (by omega) _ _ _ _
        go_wp2_with fail
        all_goals
          rw [HE.out _ (by rw [HXS.out]; omega)]
          refine bodyPost_ret (v := .tuple #[.agg #[.int .i64 st, .string f, .slice A us.length c, .string (Sm.cut21 (t ++ l.extract 1 l.size ++ ⟨#[10]⟩))], .int .i64 0]) (by simp [results, Tryz.results38, go_sem, r0, r1, r2, r3]) rfl ?_
          generalize Sm.cut21 (t ++ l.extract 1 l.size ++ ⟨#[10]⟩) = z at HR ⊢
          exact Sm.res_self (s := ⟨st, f, us, z⟩) HR.out (HW.out _ (HBX.out _ _ _ _ _)) hcap hcm (HBX.out _ _ _ _ _)
      · have b1 : ¬ ((l[0]'h0).toNat : Int) = 46 := fun e => h46 (UInt8.toNat_inj.1 (by have : (46 : UInt8).toNat = 46 := rfl; omega))
        have b0 : (((l[0]'h0).toNat : Int) == 46) = false := by simpa using b1
        have HST : Hid (Sm.strip l = l) := Lib.hid (Sm.strip_no (fun k => h46))
        clear h46
        have HR : Hid (Sm.data ⟨st, f, us, t⟩ l = (⟨st, f, us, Sm.cut21 (t ++ l ++ ⟨#[10]⟩)⟩, 0)) := Lib.hid (by rw [HD.out, HST.out])
        have HXS : Hid ((t ++ l ++ ⟨#[10]⟩).size = t.size + (l.size) + 1) := Lib.hid (by rw [ByteArray.size_append, ByteArray.size_append]; show _ + 1 = _; omega)
        have HE : Hid (∀ k : Nat, k = min (t ++ l ++ ⟨#[10]⟩).size 21 → (t ++ l ++ ⟨#[10]⟩).extract 0 k = Sm.cut21 (t ++ l ++ ⟨#[10]⟩)) := Lib.hid (by intro k hk; unfold Sm.cut21; rw [hk])
        have HBX : Hid (∀ v0 v1 v2 v3 v4, Below w.heap.size w (((((W.setCell ⟨w.heap.size, 3, none⟩ v4).setCell ⟨w.heap.size + 1, 0, none⟩ v0).setCell ⟨w.heap.size + 1, 1, none⟩ v1).setCell ⟨w.heap.size + 1, 2, none⟩ v2).setCell ⟨w.heap.size + 1, 3, none⟩ v3)) := Lib.hid fun v0 v1 v2 v3 v4 => set4 (hB.setCell (p := ⟨w.heap.size, 3, none⟩) (Nat.le_refl _) _) (by omega) _ _ _ _
        go_wp2_with fail
        all_goals
          rw [HE.out _ (by rw [HXS.out]; omega)]
          refine bodyPost_ret (v := .tuple #[.agg #[.int .i64 st, .string f, .slice A us.length c, .string (Sm.cut21 (t ++ l ++ ⟨#[10]⟩))], .int .i64 0]) (by simp [results, Tryz.results38, go_sem, r0, r1, r2, r3]) rfl ?_
          generalize Sm.cut21 (t ++ l ++ ⟨#[10]⟩) = z at HR ⊢
          exact Sm.res_self (s := ⟨st, f, us, z⟩) HR.out (HW.out _ (HBX.out _ _ _ _ _)) hcap hcm (HBX.out _ _ _ _ _)
    · have hne : l.toList.isEmpty = true := by
        have hl1 : l.data.toList.length = l.size := Array.length_toList
        rw [Go.ByteArray.toList_eq, List.isEmpty_iff]
        exact List.eq_nil_of_length_eq_zero (by omega)
      have hne2 : (!l.toList.isEmpty) = false := by rw [hne]; rfl
      have HST : Hid (Sm.strip l = l) := Lib.hid (Sm.strip_no (fun k => absurd k h0))
      have HR : Hid (Sm.data ⟨st, f, us, t⟩ l = (⟨st, f, us, Sm.cut21 (t ++ l ++ ⟨#[10]⟩)⟩, 0)) := Lib.hid (by rw [HD.out, HST.out])
      have HXS : Hid ((t ++ l ++ ⟨#[10]⟩).size = t.size + (l.size) + 1) := Lib.hid (by rw [ByteArray.size_append, ByteArray.size_append]; show _ + 1 = _; omega)
      have HE : Hid (∀ k : Nat, k = min (t ++ l ++ ⟨#[10]⟩).size 21 → (t ++ l ++ ⟨#[10]⟩).extract 0 k = Sm.cut21 (t ++ l ++ ⟨#[10]⟩)) := Lib.hid (by intro k hk; unfold Sm.cut21; rw [hk])
      have HBX : Hid (∀ v0 v1 v2 v3 v4, Below w.heap.size w (((((W.setCell ⟨w.heap.size, 3, none⟩ v4).setCell ⟨w.heap.size + 1, 0, none⟩ v0).setCell ⟨w.heap.size + 1, 1, none⟩ v1).setCell ⟨w.heap.size + 1, 2, none⟩ v2).setCell ⟨w.heap.size + 1, 3, none⟩ v3)) := Lib.hid fun v0 v1 v2 v3 v4 => set4 (hB.setCell (p := ⟨w.heap.size, 3, none⟩) (Nat.le_refl _) _) (by omega) _ _ _ _
      go_wp2_with fail
      all_goals
        rw [HE.out _ (by rw [HXS.out]; omega)]
        refine bodyPost_ret (v := .tuple #[.agg #[.int .i64 st, .string f, .slice A us.length c, .string (Sm.cut21 (t ++ l ++ ⟨#[10]⟩))], .int .i64 0]) (by simp [results, Tryz.results38, go_sem, r0, r1, r2, r3]) rfl ?_
        generalize Sm.cut21 (t ++ l ++ ⟨#[10]⟩) = z at HR ⊢
        exact Sm.res_self (s := ⟨st, f, us, z⟩) HR.out (HW.out _ (HBX.out _ _ _ _ _)) hcap hcm (HBX.out _ _ _ _ _)
end Go.Proofs.YtpjifcljkgcnlaaGreatDoor
