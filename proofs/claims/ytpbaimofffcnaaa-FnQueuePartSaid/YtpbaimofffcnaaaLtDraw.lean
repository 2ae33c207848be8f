/- The draw of letters. -/
import Derived.Test.YtpbaimofffcnaaaStDraw2
namespace Go.Proofs.Ytpbaimofffcnaaa
set_option linter.unusedVariables false
open Go.RowKit

theorem Rd.set {w : World} {B b m : Nat} (h : Rd w B b m) {p : Addr} (hp : b < p.block) (v : Value) : Rd (w.setCell p v) B b m :=
  h.keep (Below.heap_setCell _ _ _ _ (by omega)) (fun i hi => Below.heap_setCell _ _ _ _ (by have := h.1; omega))
theorem grown_setCell (w : World) (p : Addr) (v : Value) : w.grownBy (w.setCell p v) (some p.block) :=
  ⟨rfl, rfl, rfl, by simp [World.setCell], fun j hj hne => Below.heap_setCell w p v j (fun e => hne (by rw [e]))⟩
theorem OwnL.set {α : Type} {E : TypeId} {size : Nat} {f : α → List Value} {w : World} {B : Nat} {v : Value} {us : List α} (ho : OwnL E size f w B v us) {p : Addr} (hp : p.block < B ∨ w.heap.size ≤ p.block) (u : Value) : OwnL E size f (w.setCell p u) B v us :=
  World.ownsRow.kept ho (grown_setCell w p u) (by
    cases hq : v.ownBlock with
    | none => exact .inl rfl
    | some q => exact .inr fun e => by have h1 := OwnL.blk ho hq; have h2 := OwnL.blt ho hq; injection e with e; omega)
/-- a store into a block that was laid last -/
theorem OwnL.setLast {α : Type} {E : TypeId} {size : Nat} {f : α → List Value} {w' : World} {B : Nat} {v : Value} {us : List α} (ho : OwnL E size f w' B v us) {p : Addr} (hv : ∀ q, v.ownBlock = some q → q ≠ p.block) (u : Value) : OwnL E size f (w'.setCell p u) B v us :=
  World.ownsRow.kept ho (grown_setCell w' p u) (by
    cases hq : v.ownBlock with
    | none => exact .inl rfl
    | some q => exact .inr fun e => by injection e with e; exact hv q hq e)

/-- what drawing a letter gives -/
def Lt.Picked (n : Nat) (w : World) (B b m : Nat) (e : Ending) (w' : World) : Prop :=
  ∃ f us A c t, f.size ≤ 9 ∧ us.length ≤ 6 ∧ (∀ u ∈ us, u.size ≤ 9) ∧ t.size ≤ 30 ∧ e = .returned (.agg #[.string f, .slice A us.length c, .string t]) ∧ St.Own w' w.heap.size (.slice A us.length c) us ∧ Rd w' B b (m + n) ∧ w.grownBy w' (some b)

set_option maxRecDepth 100000 in
set_option maxHeartbeats 3200000 in
theorem l92Letter_any (w : World) (B b m : Nat) (hm : m ≤ 999980000) (h : Rd w B b m) :
    Calls Try.prog 41 #[.pointer (some ⟨b, 0, none⟩)] w (Lt.Picked 11 w B b m) := by
  have hbl := h.lt
  have hbx0 := heap_alloc_new w (.cells #[.string ⟨#[]⟩, .slice none 0 0, .string ⟨#[]⟩] 49)
  have h0 := h.laid (.cells #[.string ⟨#[]⟩, .slice none 0 0, .string ⟨#[]⟩] 49)
  have HW0 := Lib.hid (grown_laid (grown_refl b w) (.cells #[.string ⟨#[]⟩, .slice none 0 0, .string ⟨#[]⟩] 49))
  have HF : Hid (∀ j, j < 3 → ∃ s : ByteArray, decide (s.size ≤ 9) = true ∧ ((w.alloc (.cells #[.string ⟨#[]⟩, .slice none 0 0, .string ⟨#[]⟩] 49)).alloc (.cells #[.string ⟨#[97, 109, 121]⟩, .string ⟨#[98, 111, 98]⟩, .string ⟨#[99, 121, 100]⟩] 9)).cell? ⟨w.heap.size + 1, j, none⟩ = some (.string s)) := Lib.hid fun j hj => by
    have := laid_of (fun s => decide (s.size ≤ 9)) #[.string ⟨#[97, 109, 121]⟩, .string ⟨#[98, 111, 98]⟩, .string ⟨#[99, 121, 100]⟩] 9 (w.alloc (.cells #[.string ⟨#[]⟩, .slice none 0 0, .string ⟨#[]⟩] 49)) 3 rfl (by decide) j hj
    rwa [show (w.alloc (.cells #[.string ⟨#[]⟩, .slice none 0 0, .string ⟨#[]⟩] 49)).heap.size = w.heap.size + 1 by simp] at this
  go_enter Try.func41, Try.ntmps41
  go_wp2_with fail
  refine Calls.mono (of_any (fun s => decide (s.size ≤ 9) = true) 3 (w.heap.size + 1) (by omega) _ _ _ _ (by omega) (by omega) (h0.laid _) HF.out) ?_
  rintro e w1 ⟨f, hf, rfl, h1, hg1⟩
  have hf9 : f.size ≤ 9 := by simpa using hf
  have hw1 := grown_trans (grown_laid HW0.out _) hg1
  have hs1 : w.heap.size < w1.heap.size := by have := hg1.size; simp at this; omega
  have hbx1 := (hg1.block w.heap.size (by simp; omega) (by intro e; injection e with e; omega)).trans ((Below.heap_alloc (w.alloc (.cells #[.string ⟨#[]⟩, .slice none 0 0, .string ⟨#[]⟩] 49)) _ w.heap.size (by simp)).trans hbx0)
  clear hf h0 hbx0 hg1
  go_wp2_with fail
  refine Calls.mono (l92To_any _ B b _ (by omega) h1) ?_
  rintro e w2 ⟨us, v, hl, hS, rfl, ho2, h2, hg2⟩
  have hw2 := grown_trans hw1 hg2
  have hs2 := hg2.size
  have hbx2 := (hg2.block w.heap.size hs1 (by intro e; injection e with e; omega)).trans hbx1
  clear hbx1 h1
  obtain ⟨A, c, rfl, hc1, hc2⟩ := OwnL.form ho2
  go_wp2_with fail
  refine Calls.mono (l91Text_any _ B b _ (by omega) h2) ?_
  rintro e w3 ⟨t, ht, rfl, h3, hg3⟩
  have hw3 := grown_trans hw2 hg3
  have hs3 := hg3.size
  have hbx3 := (hg3.block w.heap.size (by omega) (by intro e; injection e with e; omega)).trans hbx2
  have ho3 := own_grown ho2 hg3 (by omega)
  clear hbx2 h2 ho2 hg2 hg3
  go_wp2_with fail
  refine Calls.mono (pick_any _ (by omega) _ B b _ (by omega) (h3.laid _)) ?_
  rintro e w4 ⟨r4, hr4, rfl, h4, hg4⟩
  have hw4 := grown_trans (grown_laid hw3 _) hg4
  have hs4 : w3.heap.size < w4.heap.size := by have := hg4.size; simp at this; omega
  have hbx4 := (hg4.block w.heap.size (by simp; omega) (by intro e; injection e with e; omega)).trans ((Below.heap_alloc w3 _ w.heap.size (by omega)).trans hbx3)
  have hby4 := (hg4.block w3.heap.size (by simp) (by intro e; injection e with e; omega)).trans (heap_alloc_new w3 _)
  have ho4 := own_grown (OwnL.alloc ho3 (.cells #[.string f, .slice A us.length c, .string t] 49)) hg4 (by omega)
  have hq4 : ∀ q, (Value.slice A us.length c).ownBlock = some q → q ≠ w3.heap.size := fun q hq => by have := OwnL.blt ho3 hq; omega
  clear hbx3 h3 ho3 hg4
  by_cases hz : r4 = 0
  · subst hz
    go_wp2_with fail
    refine Calls.mono (Dr.l91Name_any _ B b _ (by omega) h4) ?_
    rintro e w5 ⟨f2, hf2, rfl, h5, hg5⟩
    have hw5 := grown_trans hw4 hg5
    have hs5 := hg5.size
    have hbx5 := (hg5.block w.heap.size (by omega) (by intro e; injection e with e; omega)).trans hbx4
    have hby5 := (hg5.block w3.heap.size (by omega) (by intro e; injection e with e; omega)).trans hby4
    have ho5 := own_grown ho4 hg5 (by omega)
    clear hbx4 hby4 ho4 hg5 h4
    have c0 : w5.cell? ⟨w.heap.size, 0, none⟩ = some (.string ⟨#[]⟩) := cell_at hbx5 0 _ rfl
    have c1 : w5.cell? ⟨w.heap.size, 1, none⟩ = some (.slice none 0 0) := cell_at hbx5 1 _ rfl
    have c2 : w5.cell? ⟨w.heap.size, 2, none⟩ = some (.string ⟨#[]⟩) := cell_at hbx5 2 _ rfl
    have f0 : w5.frozen? ⟨w.heap.size, 0, none⟩ = false := free_at hbx5 0
    have f1 : w5.frozen? ⟨w.heap.size, 1, none⟩ = false := free_at hbx5 1
    have f2' : w5.frozen? ⟨w.heap.size, 2, none⟩ = false := free_at hbx5 2
    have d0 : w5.cell? ⟨w3.heap.size, 0, none⟩ = some (.string f) := cell_at hby5 0 _ rfl
    have d1 : w5.cell? ⟨w3.heap.size, 1, none⟩ = some (.slice A us.length c) := cell_at hby5 1 _ rfl
    have d2 : w5.cell? ⟨w3.heap.size, 2, none⟩ = some (.string t) := cell_at hby5 2 _ rfl
    have g0 : w5.frozen? ⟨w3.heap.size, 0, none⟩ = false := free_at hby5 0
    have hne : w3.heap.size ≠ w.heap.size := by omega
    have hne' : w.heap.size ≠ w3.heap.size := by omega
    clear hbx5 hby5
    go_wp2_with fail
    refine bodyPost_ret (v := .agg #[.string f2, .slice A us.length c, .string t]) (by simp [results, Try.results41, go_sem, c0, c1, c2]) rfl ?_
    exact ⟨f2, us, A, c, t, hf2, hl, hS, ht, rfl,
      ((((ho5.setLast (p := ⟨w3.heap.size, 0, none⟩) hq4 _).set (p := ⟨w.heap.size, 0, none⟩) (.inl hs1) _).set (p := ⟨w.heap.size, 1, none⟩) (.inl hs1) _).set (p := ⟨w.heap.size, 2, none⟩) (.inl hs1) _).base (Nat.le_of_lt hs1),
      ((((h5.set (p := ⟨w3.heap.size, 0, none⟩) (by simp; omega) _).set (p := ⟨w.heap.size, 0, none⟩) hbl _).set (p := ⟨w.heap.size, 1, none⟩) hbl _).set (p := ⟨w.heap.size, 2, none⟩) hbl _).mono (by omega),
      grown_setNew (grown_setNew (grown_setNew (grown_setNew hw5 (p := ⟨w3.heap.size, 0, none⟩) (by simp; omega) _) (p := ⟨w.heap.size, 0, none⟩) (Nat.le_refl _) _) (p := ⟨w.heap.size, 1, none⟩) (Nat.le_refl _) _) (p := ⟨w.heap.size, 2, none⟩) (Nat.le_refl _) _⟩
  · have hzb : ((r4 : Int) == 0) = false := by simp; omega
    have c0 : w4.cell? ⟨w.heap.size, 0, none⟩ = some (.string ⟨#[]⟩) := cell_at hbx4 0 _ rfl
    have c1 : w4.cell? ⟨w.heap.size, 1, none⟩ = some (.slice none 0 0) := cell_at hbx4 1 _ rfl
    have c2 : w4.cell? ⟨w.heap.size, 2, none⟩ = some (.string ⟨#[]⟩) := cell_at hbx4 2 _ rfl
    have f0 : w4.frozen? ⟨w.heap.size, 0, none⟩ = false := free_at hbx4 0
    have f1 : w4.frozen? ⟨w.heap.size, 1, none⟩ = false := free_at hbx4 1
    have f2' : w4.frozen? ⟨w.heap.size, 2, none⟩ = false := free_at hbx4 2
    have d0 : w4.cell? ⟨w3.heap.size, 0, none⟩ = some (.string f) := cell_at hby4 0 _ rfl
    have d1 : w4.cell? ⟨w3.heap.size, 1, none⟩ = some (.slice A us.length c) := cell_at hby4 1 _ rfl
    have d2 : w4.cell? ⟨w3.heap.size, 2, none⟩ = some (.string t) := cell_at hby4 2 _ rfl
    have hne : w3.heap.size ≠ w.heap.size := by omega
    have hne' : w.heap.size ≠ w3.heap.size := by omega
    clear hbx4 hby4
    go_wp2_with fail
    refine bodyPost_ret (v := .agg #[.string f, .slice A us.length c, .string t]) (by simp [results, Try.results41, go_sem, c0, c1, c2]) rfl ?_
    exact ⟨f, us, A, c, t, hf9, hl, hS, ht, rfl,
      (((ho4.set (p := ⟨w.heap.size, 0, none⟩) (.inl hs1) _).set (p := ⟨w.heap.size, 1, none⟩) (.inl hs1) _).set (p := ⟨w.heap.size, 2, none⟩) (.inl hs1) _).base (Nat.le_of_lt hs1),
      (((h4.set (p := ⟨w.heap.size, 0, none⟩) hbl _).set (p := ⟨w.heap.size, 1, none⟩) hbl _).set (p := ⟨w.heap.size, 2, none⟩) hbl _).mono (by omega),
      grown_setNew (grown_setNew (grown_setNew hw4 (p := ⟨w.heap.size, 0, none⟩) (Nat.le_refl _) _) (p := ⟨w.heap.size, 1, none⟩) (Nat.le_refl _) _) (p := ⟨w.heap.size, 2, none⟩) (Nat.le_refl _) _⟩

end Go.Proofs.Ytpbaimofffcnaaa
