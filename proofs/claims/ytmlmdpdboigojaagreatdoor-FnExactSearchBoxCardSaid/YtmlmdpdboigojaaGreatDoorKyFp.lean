/- What the nodes find, in plain Lean; rows of truth values; slices.Contains on a row of numbers. -/
import Derived.Test.YtmlmdpdboigojaaGreatDoorKyNd2
import Derived.Test.YtmlmdpdboigojaaGreatDoorKyNu
import Derived.Test.YtmlmdpdboigojaaGreatDoorOwT
namespace Go.Proofs.YtmlmdpdboigojaaGreatDoor
set_option linter.unusedVariables false
open Go.RowKit

/-- does a node find message i? -/
def Nd.finds (ms : List Ml) (m : Ml) (i : Nat) : Nd → Bool
  | .all => true
  | .has f => decide (m.flags / f % 2 = 1)
  | .text t => Lib.contains m.text.data.toList t.data.toList
  | .place _ set _ => Ky.has set ms.length ((i : Int) + 1)
  | .uid _ set _ => Ky.has set (Ky.lastUid ms) m.uid
  | .not n => !Nd.finds ms m i n
  | .pair both l r => if both = true then Nd.finds ms m i l && Nd.finds ms m i r else Nd.finds ms m i l || Nd.finds ms m i r
/-- a node of a valid key -/
def Nd.Ok : Nd → World → Nat → Prop
  | .all, _, _ => True
  | .has f, _, _ => Ky.flagOne f = true
  | .text _, _, _ => True
  | .place A set _, w, B => Ky.setOk set = true ∧ AtSet w B A set
  | .uid A set _, w, B => Ky.setOk set = true ∧ AtSet w B A set
  | .not n, w, B => Nd.Ok n w B
  | .pair _ l r, w, B => Nd.Ok l w B ∧ Nd.Ok r w B
theorem Nd.Ok.below {w w' : World} (hb : Below w.heap.size w w') : ∀ {n : Nd}, Nd.Ok n w w.heap.size → Nd.Ok n w' w'.heap.size
  | .all, h => h
  | .has _, h => h
  | .text _, h => h
  | .place _ _ _, h => ⟨h.1, At.mono (At.below h.2 hb) hb.size⟩
  | .uid _ _ _, h => ⟨h.1, At.mono (At.below h.2 hb) hb.size⟩
  | .not n, h => Nd.Ok.below hb (n := n) h
  | .pair _ l r, h => ⟨Nd.Ok.below hb (n := l) h.1, Nd.Ok.below hb (n := r) h.2⟩
/-- the same, message for message -/
def Nd.fn (ms : List Ml) (n : Nd) (i : Nat) : Bool := match ms[i]? with | some m => Nd.finds ms m i n | none => false
theorem Nd.fn_some {ms : List Ml} {n : Nd} {i : Nat} {m : Ml} (h : ms[i]? = some m) : Nd.fn ms n i = Nd.finds ms m i n := by unfold Nd.fn; rw [h]

/-- a row of truth values -/
def Bl.cells (b : Bool) : List Value := [.bool b]
theorem Bl.cells_len (b : Bool) : (Bl.cells b).length = 1 := rfl
def Bl.row (f : Nat → Bool) (n : Nat) : List Bool := (List.range n).map f
theorem Bl.row_len (f : Nat → Bool) (n : Nat) : (Bl.row f n).length = n := by unfold Bl.row; simp
theorem Bl.row_get (f : Nat → Bool) {n k : Nat} (h : k < n) : (Bl.row f n)[k]? = some (f k) := by unfold Bl.row; simp [h]
theorem Bl.row_set (f : Nat → Bool) (n k : Nat) (b : Bool) : (Bl.row f n).set k b = Bl.row (fun j => if j = k then b else f j) n := by
  apply List.ext_getElem?
  intro j
  rw [List.getElem?_set]
  unfold Bl.row
  by_cases h : k = j
  · subst h
    by_cases h2 : k < n
    · simp [h2]
    · simp [h2]
  · have h3 : ¬ j = k := fun e => h e.symm
    rw [if_neg h]
    by_cases h2 : j < n
    · simp [h2, h3]
    · simp [h2]
theorem Bl.row_congr {f g : Nat → Bool} {n : Nat} (h : ∀ j, j < n → f j = g j) : Bl.row f n = Bl.row g n := by
  unfold Bl.row
  exact List.map_congr_left fun j hj => h j (List.mem_range.1 hj)
/-- a row of the call's own, at a block -/
def Bl.At (w : World) (b n : Nat) (f : Nat → Bool) : Prop := ∃ cs, w.heap[b]? = some (.cells cs 4 (0, 0)) ∧ cs.toList = (Bl.row f n).flatMap Bl.cells
theorem Bl.flat (l : List Bool) : l.flatMap Bl.cells = l.map Value.bool := by
  induction l with
  | nil => rfl
  | cons a r ih => rw [List.flatMap_cons, ih]; rfl
theorem Bl.At.get {w : World} {b n : Nat} {f : Nat → Bool} (h : Bl.At w b n f) {k : Nat} (hk : k < n) : w.cell? ⟨b, k, none⟩ = some (.bool (f k)) := by
  obtain ⟨cs, h1, h2⟩ := h
  refine cell_at h1 k _ ?_
  rw [← Array.getElem?_toList, h2, Bl.flat, List.getElem?_map, Bl.row_get f hk]; rfl
theorem Bl.At.free {w : World} {b n : Nat} {f : Nat → Bool} (h : Bl.At w b n f) (k : Nat) : w.frozen? ⟨b, k, none⟩ = false := by
  obtain ⟨cs, h1, _⟩ := h
  exact free_at h1 k
theorem Bl.At.lt {w : World} {b n : Nat} {f : Nat → Bool} (h : Bl.At w b n f) : b < w.heap.size := by
  obtain ⟨cs, h1, _⟩ := h
  exact (Array.getElem?_eq_some_iff.1 h1).1
theorem Bl.At.below {w w' : World} {b n : Nat} {f : Nat → Bool} (h : Bl.At w b n f) (hb : Below w.heap.size w w') : Bl.At w' b n f := by
  obtain ⟨cs, h1, h2⟩ := h
  exact ⟨cs, (hb.block b (Array.getElem?_eq_some_iff.1 h1).1).trans h1, h2⟩
theorem Bl.At.set {w : World} {b n : Nat} {f : Nat → Bool} (h : Bl.At w b n f) (k : Nat) (v : Bool) : Bl.At (w.setCell ⟨b, k, none⟩ (.bool v)) b n (fun j => if j = k then v else f j) := by
  obtain ⟨cs, h1, h2⟩ := h
  refine ⟨_, ow_setHeap h1, ?_⟩
  rw [Array.toList_setIfInBounds, h2, Bl.flat, Bl.flat, ← Bl.row_set, List.map_set]
theorem Bl.At.congr {w : World} {b n : Nat} {f g : Nat → Bool} (h : Bl.At w b n f) (e : ∀ j, j < n → f j = g j) : Bl.At w b n g := by
  obtain ⟨cs, h1, h2⟩ := h
  exact ⟨cs, h1, by rw [h2, Bl.row_congr e]⟩
theorem bool_info : (Tryz.prog.info? 4).map (fun i => (i.zero, i.size, i.bytes)) = some (some (.bool false), 1, 1) := by kernel_rfl
theorem Bl.At.made (w : World) (n : Nat) : Bl.At (w.alloc (.cells (madeCells (Value.bool false).cells (n * 1)) 4)) w.heap.size n (fun _ => false) := by
  refine ⟨_, heap_alloc_new w _, ?_⟩
  refine (made_flat (z := (Value.bool false).cells) (u := false) (f := Bl.cells) (n := n) (by omega) Bl.cells_len rfl).trans ?_
  congr 1
  apply List.ext_getElem?
  intro j
  unfold Bl.row
  by_cases h : j < n
  · simp [h]
  · simp [h]

namespace Ky
theorem bound_pos {n last : Int} (h : 0 ≤ n) (hl : 1 ≤ last) : 1 ≤ bound n last := by unfold bound; split <;> omega
theorem nums_mem {ss : List Sn} {last x : Int} (hok : setOk ss = true) (hl : last ≤ 99) (h : x ∈ nums ss last) : 1 ≤ x ∧ x ≤ last := by
  unfold nums at h
  split at h
  · rename_i h1
    unfold upto at h
    obtain ⟨n, hn, rfl⟩ := List.mem_map.1 h
    have hm := (List.mem_filter.1 hn).2
    unfold marked at hm
    obtain ⟨s, hs, hmk⟩ := List.any_eq_true.1 hm
    unfold mark1 at hmk
    simp only [Bool.and_eq_true, decide_eq_true_eq] at hmk
    unfold setOk at hok
    simp only [Bool.and_eq_true, List.all_eq_true] at hok
    have hso := hok.1 s hs
    unfold spanOk numOk at hso
    simp only [Bool.and_eq_true, decide_eq_true_eq] at hso
    have e : min last 99 = last := by omega
    rw [e] at hmk
    have b1 := bound_pos hso.1.1 h1
    have b2 := bound_pos hso.2.1 h1
    omega
  · cases h
theorem nums_has {ss : List Sn} {last x : Int} (hl : last ≤ 99) (h1 : 1 ≤ x) (h2 : x ≤ last) : (nums ss last).contains x = has ss last x := by
  have e : min last 99 = last := by omega
  obtain ⟨n, rfl⟩ : ∃ n : Nat, x = (n : Int) := ⟨x.toNat, by omega⟩
  have hm : marked ss last n = has ss last (n : Int) := by
    unfold marked has
    congr 1
    funext s
    unfold mark1
    have : decide ((n : Int) ≤ min (max (bound s.1 last) (bound s.2 last)) last) = decide ((n : Int) ≤ max (bound s.1 last) (bound s.2 last)) := by
      rw [decide_eq_decide]; omega
    rw [this]
  rw [← hm, Bool.eq_iff_iff, List.contains_iff_mem]
  unfold nums
  rw [if_pos (by omega), e]
  unfold upto
  rw [List.mem_map]
  constructor
  · rintro ⟨k, hk, hkn⟩
    have : k = n := by omega
    subst this
    exact (List.mem_filter.1 hk).2
  · intro h
    exact ⟨n, List.mem_filter.2 ⟨List.mem_range.2 (by omega), h⟩, rfl⟩
/-- the last number is the greatest -/
theorem run_uid : ∀ {ms : List Ml} {last l : Int}, run last ms = some l → last ≤ l ∧ ∀ m ∈ ms, m.uid ≤ l ∧ mailOk m = true
  | [], last, l, h => by
    injection h with h
    exact ⟨by omega, fun m hm => by cases hm⟩
  | m :: r, last, l, h => by
    unfold run at h
    split at h
    · rename_i hc
      simp only [Bool.and_eq_true, decide_eq_true_eq] at hc
      obtain ⟨h1, h2⟩ := run_uid h
      refine ⟨by omega, fun y hy => ?_⟩
      rcases List.mem_cons.1 hy with rfl | hy
      · exact ⟨h1, hc.1⟩
      · exact h2 y hy
    · cases h
theorem run_last : ∀ {ms : List Ml} {last l : Int}, run last ms = some l → ms ≠ [] → (ms.getLast?.map Ml.uid) = some l
  | [], _, _, _, h => absurd rfl h
  | [m], last, l, h, _ => by
    unfold run at h
    split at h
    · simpa [run] using h
    · cases h
  | m :: y :: r, last, l, h, _ => by
    unfold run at h
    split at h
    · have := run_last h (by simp)
      rw [List.getLast?_cons_cons]
      exact this
    · cases h
/-- what a valid mailbox gives -/
theorem box_parts {nx : Int} {ms : List Ml} (h : boxOk nx ms = true) : ms.length ≤ 10 ∧ ∀ m ∈ ms, mailOk m = true ∧ 1 ≤ m.uid ∧ m.uid ≤ lastUid ms ∧ lastUid ms ≤ 99 := by
  cases hr : run 0 ms with
  | none => rw [boxOk_none hr] at h; cases h
  | some l =>
    rw [boxOk_some hr] at h
    simp only [Bool.and_eq_true, decide_eq_true_eq] at h
    refine ⟨h.2, fun m hm => ?_⟩
    have hne : ms ≠ [] := fun e => by rw [e] at hm; cases hm
    have hl := run_last hr hne
    have hlu : lastUid ms = l := by unfold lastUid; rw [hl]; rfl
    obtain ⟨h1, h2⟩ := (run_uid hr).2 m hm
    have hmo := h2
    unfold mailOk at hmo
    simp only [Bool.and_eq_true, decide_eq_true_eq] at hmo
    rw [hlu]
    exact ⟨h2, hmo.1.1.1, h1, by omega⟩
end Ky

/-- slices.Contains on a row of numbers -/
theorem contains_any {w w' : World} {B c : Nat} {A : Option Addr} {zs : List Int} (h : It.Own w B (.slice A zs.length c) zs) (hb : Below w.heap.size w w') (hl : zs.length ≤ 1000) (x : Int) :
    Calls Tryz.prog 50 #[.slice A zs.length c, .int .i64 x] w' fun e w'' => e = .returned (.bool (zs.contains x)) ∧ w'' = w' := by
  rcases Nat.eq_zero_or_pos zs.length with h0 | h0
  · have hz := List.eq_nil_of_length_eq_zero h0
    subst hz
    exact (Tryz.slices_Contains_int_empty A c x w').mono fun e w'' hh => ⟨hh.1, hh.2⟩
  · obtain ⟨g, off, rfl, hg, hc⟩ := OwnL.at_ h It.cells_len rfl h0
    have hcell : ∀ j, j < zs.length → w'.cell? ⟨g, off + j, none⟩ = some (.int .i64 (zs.getD j 0)) := fun j hj => by
      have h1 := hc j zs[j] (List.getElem?_eq_getElem hj) 0 _ rfl
      rw [Nat.mul_one, Nat.add_zero] at h1
      have h2 : w'.cell? ⟨g, off + j, none⟩ = w.cell? ⟨g, off + j, none⟩ := hb.cell (p := ⟨g, off + j, none⟩) hg
      rw [h2, h1]
      simp [List.getD, List.getElem?_eq_getElem hj]
    refine (Tryz.slices_Contains_int g off zs.length c zs x w' (Nat.le_refl _) (by omega) hcell).mono fun e w'' hh => ⟨?_, hh.2⟩
    rw [hh.1, List.take_length]
end Go.Proofs.YtmlmdpdboigojaaGreatDoor
