/- SmMm: SmM SpPlain SmM2 SmM3, in one text. -/
import Derived.Test.YtpjifcljkgcnlaaGreatDoorSmA
import Derived.Test.YtpjifcljkgcnlaaGreatDoorSbX
import Derived.Test.YtpjifcljkgcnlaaGreatDoorUsA
import Derived.Test.YtpjifcljkgcnlaaGreatDoorDmX
import Derived.Test.YtpjifcljkgcnlaaGreatDoorB6X
import Derived.Test.YtpjifcljkgcnlaaGreatDoorPl
import Derived.Test.YtpjifcljkgcnlaaGreatDoorSmP
import Derived.Lib.SplitLaws
import Derived.Test.YtpjifcljkgcnlaaGreatDoorShelf
import Derived.Deep.RegionHeld3
namespace Go.Proofs.YtpjifcljkgcnlaaGreatDoor
set_option linter.unusedVariables false
open Go.RowKit
open Us (U)

/-- block b is what receives lines: a session, with users and a domain; its receivers lie behind it -/
def Po (w : World) (b : Nat) (Au : Option Addr) (vs : List U) (cu : Nat) (d : ByteArray) (s : Sm.S) : Prop :=
  ∃ A c, w.heap[b]? = some (.cells #[.int .i64 s.st, .string s.user, .slice A s.tos.length c, .string s.text, .slice Au vs.length cu, .string d] 75 (0, 0)) ∧ St.Own w (b + 1) (.slice A s.tos.length c) s.tos ∧ AtUsers w b Au vs
theorem Po.lt {w : World} {b : Nat} {Au : Option Addr} {vs : List U} {cu : Nat} {d : ByteArray} {s : Sm.S} (h : Po w b Au vs cu d s) : b < w.heap.size := by
  obtain ⟨A, c, h1, _⟩ := h
  exact (Array.getElem?_eq_some_iff.1 h1).1
theorem Po.below {w w' : World} {b : Nat} {Au : Option Addr} {vs : List U} {cu : Nat} {d : ByteArray} {s : Sm.S} (h : Po w b Au vs cu d s) (hb : Below w.heap.size w w') : Po w' b Au vs cu d s := by
  have hlt := h.lt
  obtain ⟨A, c, h1, h2, h3⟩ := h
  exact ⟨A, c, (hb.block b hlt).trans h1, OwnL.below h2 hb, h3.below (hb.mono (Nat.le_of_lt hlt))⟩
theorem Po.drewN {w : World} {b : Nat} {Au : Option Addr} {vs : List U} {cu : Nat} {d : ByteArray} {s : Sm.S} (h : Po w b Au vs cu d s) (n : Nat) : Po (w.drewN n) b Au vs cu d s := h
/-- a store into the block -/
theorem Po.heap {w : World} {b i : Nat} {cs : Array Value} {v : Value} (h : w.heap[b]? = some (.cells cs 75 (0, 0))) : (w.setCell ⟨b, i, none⟩ v).heap[b]? = some (.cells (cs.setIfInBounds i v) 75 (0, 0)) := set_heap h
theorem Po.users {w : World} {b : Nat} {Au : Option Addr} {vs : List U} (h : AtUsers w b Au vs) (i : Nat) (v : Value) : AtUsers (w.setCell ⟨b, i, none⟩ v) b Au vs := h.below ((Below.refl b w).setCell (Nat.le_refl _) _)
theorem Po.own {w : World} {b : Nat} {v : Value} {us : List ByteArray} (h : St.Own w (b + 1) v us) (i : Nat) (u : Value) : St.Own (w.setCell ⟨b, i, none⟩ u) (b + 1) v us := own_setNew h (Nat.lt_succ_self b) u
/-- a line was handled -/
def Po.Res (r : Sm.S × Int) (b : Nat) (Au : Option Addr) (vs : List U) (cu : Nat) (d : ByteArray) (w : World) (e : Ending) (w' : World) : Prop :=
  e = .returned (.int .i64 r.2) ∧ Po w' b Au vs cu d r.1 ∧ Below b w w'
theorem Po.res {r : Sm.S × Int} {s : Sm.S} {n : Int} (h : r = (s, n)) {b : Nat} {Au : Option Addr} {vs : List U} {cu : Nat} {d : ByteArray} {w w' : World} (hp : Po w' b Au vs cu d s) (hb : Below b w w') : Po.Res r b Au vs cu d w (.returned (.int .i64 n)) w' := by
  subst h; exact ⟨rfl, hp, hb⟩
theorem Po.cells {w : World} {b : Nat} {v0 v1 v2 v3 v4 v5 : Value} (h : w.heap[b]? = some (.cells #[v0, v1, v2, v3, v4, v5] 75 (0, 0))) :
    (w.cell? ⟨b, 0, none⟩ = some v0 ∧ w.cell? ⟨b, 1, none⟩ = some v1 ∧ w.cell? ⟨b, 2, none⟩ = some v2 ∧ w.cell? ⟨b, 3, none⟩ = some v3 ∧ w.cell? ⟨b, 4, none⟩ = some v4 ∧ w.cell? ⟨b, 5, none⟩ = some v5) ∧
    (w.frozen? ⟨b, 0, none⟩ = false ∧ w.frozen? ⟨b, 1, none⟩ = false ∧ w.frozen? ⟨b, 2, none⟩ = false ∧ w.frozen? ⟨b, 3, none⟩ = false) :=
  ⟨⟨cell_at h 0 _ rfl, cell_at h 1 _ rfl, cell_at h 2 _ rfl, cell_at h 3 _ rfl, cell_at h 4 _ rfl, cell_at h 5 _ rfl⟩, free_at h 0, free_at h 1, free_at h 2, free_at h 3⟩
/-- the state behind a store into one field -/
theorem Po.st {w : World} {b : Nat} {Au : Option Addr} {vs : List U} {cu : Nat} {d : ByteArray} {s : Sm.S} (h : Po w b Au vs cu d s) (n : Int) : Po (w.setCell ⟨b, 0, none⟩ (.int .i64 n)) b Au vs cu d { s with st := n } := by
  obtain ⟨A, c, h1, h2, h3⟩ := h
  exact ⟨A, c, (Po.heap h1).trans rfl, Po.own h2 0 _, Po.users h3 0 _⟩
theorem Po.us {w : World} {b : Nat} {Au : Option Addr} {vs : List U} {cu : Nat} {d : ByteArray} {s : Sm.S} (h : Po w b Au vs cu d s) (n : ByteArray) : Po (w.setCell ⟨b, 1, none⟩ (.string n)) b Au vs cu d { s with user := n } := by
  obtain ⟨A, c, h1, h2, h3⟩ := h
  exact ⟨A, c, (Po.heap h1).trans rfl, Po.own h2 1 _, Po.users h3 1 _⟩
theorem Po.tx {w : World} {b : Nat} {Au : Option Addr} {vs : List U} {cu : Nat} {d : ByteArray} {s : Sm.S} (h : Po w b Au vs cu d s) (n : ByteArray) : Po (w.setCell ⟨b, 3, none⟩ (.string n)) b Au vs cu d { s with text := n } := by
  obtain ⟨A, c, h1, h2, h3⟩ := h
  exact ⟨A, c, (Po.heap h1).trans rfl, Po.own h2 3 _, Po.users h3 3 _⟩
/-- a new list of receivers is stored -/
theorem Po.to {w : World} {b : Nat} {Au : Option Addr} {vs : List U} {cu : Nat} {d : ByteArray} {s : Sm.S} (h : Po w b Au vs cu d s) {A : Option Addr} {us : List ByteArray} {c : Nat} (ho : St.Own w (b + 1) (.slice A us.length c) us) : Po (w.setCell ⟨b, 2, none⟩ (.slice A us.length c)) b Au vs cu d { s with tos := us } := by
  obtain ⟨A0, c0, h1, h2, h3⟩ := h
  exact ⟨A, c, (Po.heap h1).trans rfl, Po.own ho 2 _, Po.users h3 2 _⟩
theorem set_below {w w' : World} {b : Nat} (h : Below b w w') (i : Nat) (v : Value) : Below b w (w'.setCell ⟨b, i, none⟩ v) := h.setCell (p := ⟨b, i, none⟩) (Nat.le_refl _) _

theorem Po.backed {w : World} {b : Nat} {Au : Option Addr} {vs : List U} {cu : Nat} {d : ByteArray} {s : Sm.S} (h : Po w b Au vs cu d s) (m : Int) :
    Po ((((w.setCell ⟨b, 0, none⟩ (.int .i64 m)).setCell ⟨b, 2, none⟩ (.slice (some ⟨w.heap.size, 0, none⟩) 0 0)).setCell ⟨b, 3, none⟩ (.string ⟨#[]⟩)).alloc (.cells #[] 9)) b Au vs cu d ⟨m, s.user, [], Sm.e0⟩ := by
  have hlt := h.lt
  have h1 := h.st m
  have h2 := h1.below ((Below.refl _ _).alloc (Nat.le_refl _) (.cells #[] 9))
  have ho := ownL_nil (α := ByteArray) (E := 9) (size := 1) (f := St.cells) (B := b + 1) (w.setCell ⟨b, 0, none⟩ (.int .i64 m)) (by simp; omega)
  have h3 := (h2.to (A := some ⟨w.heap.size, 0, none⟩) (us := []) (c := 0) (by simpa using ho)).tx ⟨#[]⟩
  rw [World.setCell_alloc_past _ _ _ _ (by simpa using hlt), World.setCell_alloc_past _ _ _ _ (by simpa using hlt)] at h3
  exact h3
theorem Po.backed_below (b : Nat) (w : World) (v0 v1 v2 : Value) (o : Obj) (hlt : b ≤ w.heap.size) : Below b w ((((w.setCell ⟨b, 0, none⟩ v0).setCell ⟨b, 2, none⟩ v1).setCell ⟨b, 3, none⟩ v2).alloc o) :=
  (set_below (set_below (set_below (Below.refl b w) 0 v0) 2 v1) 3 v2 : Below b w _).alloc (by simp; exact hlt) o
def Po.Back (s : Sm.S) (b : Nat) (Au : Option Addr) (vs : List U) (cu : Nat) (d : ByteArray) (w : World) (e : Ending) (w' : World) : Prop := e = .returned (.tuple #[]) ∧ Po w' b Au vs cu d (Sm.back s) ∧ Below b w w'

set_option maxRecDepth 100000 in
set_option maxHeartbeats 1600000 in
theorem goBack_any (b : Nat) (Au : Option Addr) (vs : List U) (cu : Nat) (d : ByteArray) (st : Int) (f t : ByteArray) (us : List ByteArray) (w : World) (h : Po w b Au vs cu d ⟨st, f, us, t⟩) :
    Calls Tryz.prog 70 #[.pointer (some ⟨b, 0, none⟩)] w (Po.Back ⟨st, f, us, t⟩ b Au vs cu d w) := by
  have hlt := h.lt
  have H := Lib.hid h
  obtain ⟨A, c, hb, ho, hu⟩ := h
  obtain ⟨⟨c0, c1, c2, c3, c4, c5⟩, y0, y1, y2, y3⟩ := Po.cells hb
  clear hb
  dsimp only at c0 c1 c2 c3 ho
  by_cases h2 : 2 ≤ st
  · have h2i : (2 : Int) ≤ st := h2
    have hm : min st (2 : Int) = 2 := by omega
    have HB : Hid (Sm.back ⟨st, f, us, t⟩ = ⟨2, f, [], Sm.e0⟩) := Lib.hid (by unfold Sm.back; rw [if_pos h2])
    clear h2
    go_enter Tryz.func70, Tryz.ntmps70
    go_wp2_with fail
    go_end0
    exact ⟨rfl, by rw [HB.out]; exact Po.backed H.out 2, Po.backed_below b w _ _ _ _ (Nat.le_of_lt hlt)⟩
  · have h2i : st < (2 : Int) := by omega
    have hm : min st (2 : Int) = st := by omega
    have HB : Hid (Sm.back ⟨st, f, us, t⟩ = ⟨st, f, [], Sm.e0⟩) := Lib.hid (by unfold Sm.back; rw [if_neg h2])
    clear h2
    go_enter Tryz.func70, Tryz.ntmps70
    go_wp2_with fail
    go_end0
    exact ⟨rfl, by rw [HB.out]; exact Po.backed H.out st, Po.backed_below b w _ _ _ _ (Nat.le_of_lt hlt)⟩
end Go.Proofs.YtpjifcljkgcnlaaGreatDoor

namespace Go.Proofs.YtpjifcljkgcnlaaGreatDoor
set_option linter.unusedVariables false

theorem Sp.index_eq (c : UInt8) (l : List UInt8) : Lib.index (c :: l) [c] = ((0 : Nat) : Int) := by rw [Lib.index]; simp [List.isPrefixOf]
theorem Sp.index_ne (b c : UInt8) (l : List UInt8) (h : b ≠ c) : Lib.index (b :: l) [c] = if Lib.index l [c] == -1 then -1 else Lib.index l [c] + 1 := by
  have hp : ([c] : List UInt8).isPrefixOf (b :: l) = false := by simp [List.isPrefixOf, Ne.symm h]
  rw [Lib.index, hp]; simp
theorem Sp.splitK_hit {c : UInt8} {k i : Nat} {s : List UInt8} (h : Lib.index s [c] = i) : Lib.splitK [c] 0 (k + 1) s = s.take i :: Lib.splitK [c] 0 k (s.drop (i + 1)) := by
  have hm : ¬ (Lib.index s [c] == -1) = true := fun e => by have := beq_iff_eq.1 e; omega
  have e : (Lib.index s [c]).toNat = i := by omega
  rw [Lib.splitK, if_neg hm, e]; rfl
theorem Sp.split (c : UInt8) : ∀ l : List UInt8, Lib.splitK [c] 0 (Lib.count l [c]) l = Ct.cut c l
  | [] => by
    rw [Lib.count_miss (by simp [Lib.index])]; rfl
  | b :: l => by
    have ih := Sp.split c l
    by_cases h : b = c
    · subst h
      rw [Lib.count_cons_eq, Nat.add_comm, Sp.splitK_hit (Sp.index_eq b l)]
      show [] :: Lib.splitK [b] 0 (Lib.count l [b]) l = _
      rw [ih, Ct.cut, if_pos rfl]
    · rw [Lib.count_cons_ne b c l h, Ct.cut, if_neg h]
      by_cases hm : Lib.index l [c] = -1
      · rw [Lib.count_miss hm] at ih ⊢
        have e : Ct.cut c l = [l] := ih.symm
        rw [e]; rfl
      · have hge := Lib.index_ge l [c]
        obtain ⟨j, hj⟩ : ∃ j : Nat, Lib.index l [c] = j := ⟨(Lib.index l [c]).toNat, by omega⟩
        have hj' : Lib.index (b :: l) [c] = ((j + 1 : Nat) : Int) := by rw [Sp.index_ne b c l h, if_neg (fun e => hm (beq_iff_eq.1 e)), hj]; omega
        have hc := Lib.count_hit (sub := [c]) (by simp) hj
        rw [hc, Nat.add_comm] at ih ⊢
        rw [Sp.splitK_hit hj] at ih
        rw [Sp.splitK_hit hj', ← ih]
        rfl
theorem Sp.mk_data (x : ByteArray) : Ct.mk x.data.toList = x := by cases x; rfl
theorem Sp.splitB (s : ByteArray) : Lib.splitB ⟨#[32]⟩ 0 (Lib.countB s ⟨#[32]⟩) s = Ct.cutB 32 s := by
  have h := Lib.splitB_data ⟨#[32]⟩ 0 (Lib.countB s ⟨#[32]⟩) s
  have h2 := Sp.split 32 s.data.toList
  have h3 : (Lib.splitB ⟨#[32]⟩ 0 (Lib.countB s ⟨#[32]⟩) s).map (·.data.toList) = Ct.cut 32 s.data.toList := h.trans h2
  unfold Ct.cutB
  rw [← h3, List.map_map]
  have : (Ct.mk ∘ fun x : ByteArray => x.data.toList) = id := by funext x; exact Sp.mk_data x
  rw [this, List.map_id]
theorem Sp.len (s : ByteArray) : Lib.countB s ⟨#[32]⟩ + 1 = (Ct.cutB 32 s).length := by
  rw [← Sp.splitB, Lib.splitB_all ⟨#[32]⟩ (by decide) 0 _ s rfl]
theorem Sp.trim (l : ByteArray) : (⟨(Lib.trimPrefix l.data.toList (ByteArray.mk #[46]).data.toList).toArray⟩ : ByteArray) = Sm.strip l := by
  unfold Lib.trimPrefix Lib.hasPrefix Sm.strip
  have he : (ByteArray.mk #[46]).data.toList = [46] := rfl
  rw [he]
  cases hd : l.data.toList with
  | nil =>
    have hl : l = ⟨#[]⟩ := by rw [← Sp.mk_data l, hd]; rfl
    subst hl
    rfl
  | cons a r =>
    by_cases ha : a = 46
    · subst ha
      rw [if_pos (by simp [List.isPrefixOf]), if_pos (by simp)]
      show (⟨(List.drop 1 (46 :: r)).toArray⟩ : ByteArray) = l.extract 1 l.size
      have h2 : (l.extract 1 l.size).data.toList = l.data.toList.drop 1 := by
        have hl : l.data.toList.length = l.size := Array.length_toList
        rw [Ct.extract_mk]
        show (l.data.toList.drop 1).take (l.size - 1) = _
        exact List.take_of_length_le (by rw [List.length_drop]; omega)
      rw [hd] at h2
      have h3 := Sp.mk_data (l.extract 1 l.size)
      rw [h2] at h3
      exact h3
    · have hp : List.isPrefixOf [46] (a :: r) = false := by simp [List.isPrefixOf, Ne.symm ha]
      rw [if_neg (by rw [hp]; decide), if_neg (by simpa using ha), ← hd]
end Go.Proofs.YtpjifcljkgcnlaaGreatDoor

namespace Go.Proofs.YtpjifcljkgcnlaaGreatDoor
set_option linter.unusedVariables false
open Go.RowKit
open Us (U)

theorem Sm.strip_size (l : ByteArray) : (Sm.strip l).size ≤ l.size := by
  unfold Sm.strip
  split
  · rw [ByteArray.size_extract]; omega
  · exact Nat.le_refl _
theorem trimDot_any (l : ByteArray) (w : World) : Calls Tryz.prog 71 #[.string l, .string ⟨#[46]⟩] w fun e w' => e = .returned (.string (Sm.strip l)) ∧ w' = w := by
  refine (Tryz.strings_TrimPrefix l ⟨#[46]⟩ w).mono ?_
  rintro e w' ⟨rfl, rfl⟩
  exact ⟨by rw [Sp.trim], rfl⟩
theorem Po.refl_below (b : Nat) (w : World) : Below b w w := Below.refl b w
theorem below_drewN' {B : Nat} {a w : World} (h : Below B a w) (n : Nat) : Below B a (w.drewN n) := ⟨h.os, h.tape, h.output, h.size, h.block⟩

set_option maxRecDepth 100000 in
set_option maxHeartbeats 1600000 in
theorem data_any (b : Nat) (Au : Option Addr) (vs : List U) (cu : Nat) (d : ByteArray) (st : Int) (f t : ByteArray) (us : List ByteArray) (w : World) (h : Po w b Au vs cu d ⟨st, f, us, t⟩) (ht : t.size ≤ 16777216) (l : ByteArray) (hl : l.size ≤ 16777216) :
    Calls Tryz.prog 58 #[.pointer (some ⟨b, 0, none⟩), .string l] w (Po.Res (Sm.data ⟨st, f, us, t⟩ l) b Au vs cu d w) := by
  have hlt := h.lt
  have H := Lib.hid h
  obtain ⟨A, c, hb, ho, hu⟩ := h
  obtain ⟨⟨c0, c1, c2, c3, c4, c5⟩, y0, y1, y2, y3⟩ := Po.cells hb
  clear hb
  dsimp only at c0 c1 c2 c3 ho
  by_cases hd : l = ⟨#[46]⟩
  · have q0 : (l.toList == [46]) = true := lit_yes hd
    by_cases h20 : 20 < t.size
    · have h20i : (20 : Int) < (t.size : Int) := by omega
      have HR : Hid (Sm.data ⟨st, f, us, t⟩ l = (Sm.back ⟨st, f, us, t⟩, 552)) := Lib.hid (by unfold Sm.data; rw [if_pos hd, if_pos h20])
      clear hd h20
      go_enter Tryz.func58, Tryz.ntmps58
      go_wp2_with fail
      refine Calls.mono (goBack_any b Au vs cu d st f t us _ H.out) ?_
      rintro e w1 ⟨rfl, hp1, hb1⟩
      go_wp2_with fail
      go_ret
      exact Po.res HR.out hp1 hb1
    · have h20i : ¬ (20 : Int) < (t.size : Int) := by omega
      have HR : Hid (Sm.data ⟨st, f, us, t⟩ l = (Sm.back ⟨st, f, us, t⟩, 250)) := Lib.hid (by unfold Sm.data; rw [if_pos hd, if_neg h20])
      clear hd h20
      go_enter Tryz.func58, Tryz.ntmps58
      go_wp2_with fail
      refine Calls.mono (goBack_any b Au vs cu d st f t us _ H.out) ?_
      rintro e w1 ⟨rfl, hp1, hb1⟩
      go_wp2_with fail
      go_ret
      exact Po.res HR.out hp1 hb1
  · have q0 : (l.toList == [46]) = false := lit_no hd
    have HR : Hid (Sm.data ⟨st, f, us, t⟩ l = (⟨st, f, us, Sm.cut21 (t ++ Sm.strip l ++ ⟨#[10]⟩)⟩, 0)) := Lib.hid (by unfold Sm.data; rw [if_neg hd])
    clear hd
    have hxl := Sm.strip_size l
    have HTP := Lib.hid (fun W => trimDot_any l W)
    generalize Sm.strip l = x at HR hxl HTP
    have hz : (ByteArray.mk #[10]).size = 1 := rfl
    have hc1 : ∀ W, (Op.stringOp .add t x).run Tryz.prog W = .ok (.string (t ++ x)) W := fun W => run_string_add_sum W _ _ (by omega)
    have hc2 : ∀ W, (Op.stringOp .add (t ++ x) (ByteArray.mk #[10])).run Tryz.prog W = .ok (.string (t ++ x ++ ByteArray.mk #[10])) W := fun W => run_string_add_sum W _ _ (by rw [ByteArray.size_append]; omega)
    have HXS : Hid ((t ++ x ++ ByteArray.mk #[10]).size = t.size + x.size + 1) := Lib.hid (by rw [ByteArray.size_append, ByteArray.size_append]; rfl)
    have HE : Hid (∀ k : Nat, k = min (t ++ x ++ ByteArray.mk #[10]).size 21 → (t ++ x ++ ByteArray.mk #[10]).extract 0 k = Sm.cut21 (t ++ x ++ ByteArray.mk #[10])) := Lib.hid (by intro k hk; unfold Sm.cut21; rw [hk])
    have HP : Hid (∀ n y, Po ((w.drewN n).setCell ⟨b, 3, none⟩ (.string y)) b Au vs cu d ⟨st, f, us, y⟩) := Lib.hid (fun n y => (H.out.drewN n).tx y)
    have HB : Hid (∀ n v, Below b w ((w.drewN n).setCell ⟨b, 3, none⟩ v)) := Lib.hid (fun n v => set_below (below_drewN' (Below.refl b w) n) 3 v)
    go_enter Tryz.func58, Tryz.ntmps58
    go_wp2_with fail
    go_quiet ((go_at_call 71; exact Calls.quiet_of_same (HTP.out _)))
    clear hc1 hc2
    go_wp2_with fail
    all_goals
      rw [HE.out _ (by rw [HXS.out]; omega)]
      generalize Sm.cut21 (t ++ x ++ ByteArray.mk #[10]) = y at HR ⊢
      go_wp2_with fail
      go_ret
      exact Po.res HR.out (HP.out _ _) (HB.out _ _)

set_option maxRecDepth 100000 in
set_option maxHeartbeats 1600000 in
theorem hello_any (b : Nat) (Au : Option Addr) (vs : List U) (cu : Nat) (d : ByteArray) (st : Int) (f t : ByteArray) (us : List ByteArray) (w : World) (h : Po w b Au vs cu d ⟨st, f, us, t⟩) (Aw : Option Addr) (ws : List ByteArray) (cw : Nat) (hw : AtStrs w w.heap.size Aw ws) (hws : ∀ u ∈ ws, u.size ≤ 16777216) (hwl : ws.length ≤ maxLen) :
    Calls Tryz.prog 60 #[.pointer (some ⟨b, 0, none⟩), .slice Aw ws.length cw] w (Po.Res (Sm.hello ⟨st, f, us, t⟩ ws) b Au vs cu d w) := by
  have hlt := h.lt
  have H := Lib.hid h
  obtain ⟨A, c, hb, ho, hu⟩ := h
  obtain ⟨⟨c0, c1, c2, c3, c4, c5⟩, y0, y1, y2, y3⟩ := Po.cells hb
  clear hb
  dsimp only at c0 c1 c2 c3 ho
  by_cases h2 : ws.length = 2
  · obtain ⟨a, d', rfl⟩ : ∃ a d', ws = [a, d'] := by
      match ws, h2 with
      | [a, b], _ => exact ⟨a, b, rfl⟩
    obtain ⟨g, off, rfl, hg, hc⟩ := hw.1 (by simp)
    have x1 : w.cell? ⟨g, off + 1, none⟩ = some (.string d') := hc 1 d' rfl
    have zd : d'.size ≤ maxLen := by have := hws d' (by simp); unfold maxLen; omega
    clear hc h2
    cases hv : Dm.ok d'.data.toList
    · have HR : Hid (Sm.hello ⟨st, f, us, t⟩ [a, d'] = (⟨st, f, us, t⟩, 501)) := Lib.hid (by unfold Sm.hello; simp [hv])
      have HV := Lib.hid hv
      clear hv
      go_enter Tryz.func60, Tryz.ntmps60
      go_wp2_with fail
      refine Calls.mono (iDomainValid_any d' _ zd) ?_
      rintro e w3 ⟨rfl, hb3⟩
      rw [HV.out]
      have H3 := Lib.hid (H.out.below hb3)
      have HB3 := Lib.hid (hb3.mono (Nat.le_of_lt hlt))
      have hs3 := hb3.size
      clear hb3 c0 c1 c2 c3 c4 c5 y0 y1 y2 y3
      obtain ⟨A3, k3, hx3, _, _⟩ := H3.out
      obtain ⟨⟨c0, c1, c2, c3, c4, c5⟩, y0, y1, y2, y3⟩ := Po.cells hx3
      clear hx3
      dsimp only at c0 c1 c2 c3
      go_wp2_with fail
      go_ret
      exact Po.res HR.out H3.out HB3.out
    · have HV := Lib.hid hv
      by_cases hst : st = 0
      · subst hst
        have HR : Hid (Sm.hello ⟨0, f, us, t⟩ [a, d'] = (Sm.back ⟨1, f, us, t⟩, 250)) := Lib.hid (by unfold Sm.hello; simp [hv])
        clear hv
        go_enter Tryz.func60, Tryz.ntmps60
        go_wp2_with fail
        refine Calls.mono (iDomainValid_any d' _ zd) ?_
        rintro e w3 ⟨rfl, hb3⟩
        rw [HV.out]
        have H3 := Lib.hid (H.out.below hb3)
        have HB3 := Lib.hid (hb3.mono (Nat.le_of_lt hlt))
        have hs3 := hb3.size
        clear hb3 c0 c1 c2 c3 c4 c5 y0 y1 y2 y3
        obtain ⟨A3, k3, hx3, _, _⟩ := H3.out
        obtain ⟨⟨c0, c1, c2, c3, c4, c5⟩, y0, y1, y2, y3⟩ := Po.cells hx3
        clear hx3
        dsimp only at c0 c1 c2 c3
        go_wp2_with fail
        have H4 := Lib.hid (H3.out.st 1)
        have HB4 := Lib.hid (set_below HB3.out 0 (.int .i64 1))
        clear c0 c1 c2 c3 c4 c5 y0 y1 y2 y3
        generalize w3.setCell ⟨b, 0, none⟩ (.int .i64 1) = w4 at H4 HB4 ⊢
        refine Calls.mono (goBack_any b Au vs cu d 1 f t us _ H4.out) ?_
        rintro e w1 ⟨rfl, hp1, hb1⟩
        go_wp2_with fail
        go_ret
        exact Po.res HR.out hp1 (HB4.out.trans hb1)
      · have hsti : (st == 0) = false := by simpa using hst
        have HR : Hid (Sm.hello ⟨st, f, us, t⟩ [a, d'] = (Sm.back ⟨st, f, us, t⟩, 250)) := Lib.hid (by unfold Sm.hello; simp [hv, hst])
        clear hv hst
        go_enter Tryz.func60, Tryz.ntmps60
        go_wp2_with fail
        refine Calls.mono (iDomainValid_any d' _ zd) ?_
        rintro e w3 ⟨rfl, hb3⟩
        rw [HV.out]
        have H3 := Lib.hid (H.out.below hb3)
        have HB3 := Lib.hid (hb3.mono (Nat.le_of_lt hlt))
        have hs3 := hb3.size
        clear hb3 c0 c1 c2 c3 c4 c5 y0 y1 y2 y3
        obtain ⟨A3, k3, hx3, _, _⟩ := H3.out
        obtain ⟨⟨c0, c1, c2, c3, c4, c5⟩, y0, y1, y2, y3⟩ := Po.cells hx3
        clear hx3
        dsimp only at c0 c1 c2 c3
        go_wp2_with fail
        clear c0 c1 c2 c3 c4 c5 y0 y1 y2 y3
        refine Calls.mono (goBack_any b Au vs cu d st f t us _ H3.out) ?_
        rintro e w1 ⟨rfl, hp1, hb1⟩
        go_wp2_with fail
        go_ret
        exact Po.res HR.out hp1 (HB3.out.trans hb1)
  · have h2i : ¬ (ws.length : Int) = 2 := by omega
    have HR : Hid (Sm.hello ⟨st, f, us, t⟩ ws = (⟨st, f, us, t⟩, 501)) := Lib.hid (by
      unfold Sm.hello
      match ws, h2 with
      | [], _ => rfl
      | [a], _ => rfl
      | [a, b], h2 => exact absurd rfl h2
      | a :: b :: c :: r, _ => rfl)
    clear h2 hw hws
    generalize ws.length = n at h2i ⊢
    go_enter Tryz.func60, Tryz.ntmps60
    go_wp2_with fail
    go_ret
    exact Po.res HR.out H.out (Below.refl b w)

set_option maxRecDepth 100000 in
set_option maxHeartbeats 1600000 in
theorem prove_any (b : Nat) (Au : Option Addr) (vs : List U) (cu : Nat) (d : ByteArray) (st : Int) (f t : ByteArray) (us : List ByteArray) (w : World) (h : Po w b Au vs cu d ⟨st, f, us, t⟩) (hok : Sm.ok ⟨st, f, us, t⟩ = true) (hvl : vs.length ≤ maxLen) (Aw : Option Addr) (ws : List ByteArray) (cw : Nat) (hw : AtStrs w w.heap.size Aw ws) (hws : ∀ u ∈ ws, u.size ≤ 16777216) (hwl : ws.length ≤ maxLen) :
    Calls Tryz.prog 61 #[.pointer (some ⟨b, 0, none⟩), .slice Aw ws.length cw] w (Po.Res (Sm.auth vs ⟨st, f, us, t⟩ ws) b Au vs cu d w) := by
  have hlt := h.lt
  have H := Lib.hid h
  obtain ⟨A, c, hb, ho, hu⟩ := h
  obtain ⟨⟨c0, c1, c2, c3, c4, c5⟩, y0, y1, y2, y3⟩ := Po.cells hb
  clear hb
  dsimp only at c0 c1 c2 c3 ho
  have HOK := Lib.hid hok
  clear hok
  by_cases h1 : st = 1
  · by_cases h3 : ws.length = 3
    · obtain ⟨a, m, x, rfl⟩ : ∃ a m x, ws = [a, m, x] := by
        match ws, h3 with
        | [a, b, d], _ => exact ⟨a, b, d, rfl⟩
      obtain ⟨g, off, rfl, hg, hc⟩ := hw.1 (by simp)
      have x1 : w.cell? ⟨g, off + 1, none⟩ = some (.string m) := hc 1 m rfl
      have x2 : w.cell? ⟨g, off + 2, none⟩ = some (.string x) := hc 2 x rfl
      clear hc h3
      by_cases hm : m = ⟨#[80, 76, 65, 73, 78]⟩
      · have hq : (m.toList == [80, 76, 65, 73, 78]) = true := lit_yes hm
        have HUD : Hid (AtUsers w.drew w.drew.heap.size Au vs) := Lib.hid (show AtUsers w w.heap.size Au vs from hu.mono (Nat.le_of_lt hlt))
        cases ha : Up.ans vs x.data.toList with
        | none =>
          have HR : Hid (Sm.auth vs ⟨st, f, us, t⟩ [a, m, x] = (⟨st, f, us, t⟩, 535)) := Lib.hid (by unfold Sm.auth; simp [h1, hm, ha])
          have HV : Hid (Up.val (Up.ans vs x.data.toList) = .tuple #[.string ⟨#[]⟩, .bool false]) := Lib.hid (by rw [ha]; rfl)
          clear ha hm
          subst h1
          go_enter Tryz.func61, Tryz.ntmps61
          go_upto_region 5 with fail
          go_region_held3 (fun w' => w'.cell? ⟨b, 4, none⟩ = some (.slice Au vs.length cu) ∧ w'.cell? ⟨g, off + 2, none⟩ = some (.string x)) (first | exact ⟨c4, x2⟩ | exact ⟨c4', x2'⟩ | go_keep) ((go_at_call 73; refine Calls.mono (iUsersPlain_any Au vs cu x _ HUD.out hvl) ?_; rintro e w3 ⟨rfl, hb3⟩; rw [HV.out]; have hb3' : Below w.heap.size w w3 := ⟨hb3.os, hb3.tape, hb3.output, hb3.size, hb3.block⟩; have c4' := (hb3'.cell (p := ⟨b, 4, none⟩) hlt).trans c4; have x2' := (hb3'.cell (p := ⟨g, off + 2, none⟩) hg).trans x2; have H3 := Lib.hid (H.out.below hb3'); have HB3 := Lib.hid (hb3'.mono (Nat.le_of_lt hlt))))
          clear c0 c1 c2 c3 c4 c5 y0 y1 y2 y3 c4' x2'
          obtain ⟨A3, k3, hx3, _, _⟩ := H3.out
          obtain ⟨⟨c0, c1, c2, c3, c4, c5⟩, y0, y1, y2, y3⟩ := Po.cells hx3
          clear hx3
          dsimp only at c0 c1 c2 c3
          go_wp2_with fail
          go_ret
          exact Po.res HR.out H3.out HB3.out
        | some n =>
          have HR : Hid (Sm.auth vs ⟨st, f, us, t⟩ [a, m, x] = (⟨2, Ct.mk n, us, t⟩, 235)) := Lib.hid (by
            unfold Sm.auth
            obtain ⟨_, _, e3, e4⟩ : (st = 0 ∨ st = 1 ∨ st = 6) ∧ f = Sm.e0 ∧ us = [] ∧ t = Sm.e0 := by
              rcases Sm.ok_split HOK.out with h | h | h | h
              · exact h
              all_goals exact absurd h.1 (by dsimp only; omega)
            subst e3; subst e4
            simp [h1, hm, ha])
          have HV : Hid (Up.val (Up.ans vs x.data.toList) = .tuple #[.string (Ct.mk n), .bool true]) := Lib.hid (by rw [ha]; rfl)
          clear ha hm
          subst h1
          obtain ⟨y, HY⟩ : ∃ y : ByteArray, Hid (Ct.mk n = y) := ⟨_, Lib.hid rfl⟩
          rw [HY.out] at HV HR
          go_enter Tryz.func61, Tryz.ntmps61
          go_upto_region 5 with fail
          go_region_held3 (fun w' => w'.cell? ⟨b, 4, none⟩ = some (.slice Au vs.length cu) ∧ w'.cell? ⟨g, off + 2, none⟩ = some (.string x)) (first | exact ⟨c4, x2⟩ | exact ⟨c4', x2'⟩ | go_keep) ((go_at_call 73; refine Calls.mono (iUsersPlain_any Au vs cu x _ HUD.out hvl) ?_; rintro e w3 ⟨rfl, hb3⟩; rw [HV.out]; have hb3' : Below w.heap.size w w3 := ⟨hb3.os, hb3.tape, hb3.output, hb3.size, hb3.block⟩; have c4' := (hb3'.cell (p := ⟨b, 4, none⟩) hlt).trans c4; have x2' := (hb3'.cell (p := ⟨g, off + 2, none⟩) hg).trans x2; have H3 := Lib.hid (H.out.below hb3'); have HB3 := Lib.hid (hb3'.mono (Nat.le_of_lt hlt))))
          clear c0 c1 c2 c3 c4 c5 y0 y1 y2 y3 c4' x2'
          obtain ⟨A3, k3, hx3, _, _⟩ := H3.out
          obtain ⟨⟨c0, c1, c2, c3, c4, c5⟩, y0, y1, y2, y3⟩ := Po.cells hx3
          clear hx3
          dsimp only at c0 c1 c2 c3
          go_wp2_with fail
          go_ret
          exact Po.res HR.out ((H3.out.st 2).us y) (set_below (set_below HB3.out 0 _) 1 _)
      · have hq : (m.toList == [80, 76, 65, 73, 78]) = false := lit_no hm
        have HR : Hid (Sm.auth vs ⟨st, f, us, t⟩ [a, m, x] = (⟨st, f, us, t⟩, 501)) := Lib.hid (by unfold Sm.auth; simp [h1, hm])
        clear hm
        subst h1
        go_enter Tryz.func61, Tryz.ntmps61
        go_wp2_with fail
        go_ret
        exact Po.res HR.out H.out (Below.refl b w)
    · have h3i : ¬ (ws.length : Int) = 3 := by omega
      have HR : Hid (Sm.auth vs ⟨st, f, us, t⟩ ws = (⟨st, f, us, t⟩, 501)) := Lib.hid (by
        unfold Sm.auth
        rw [if_neg (by simpa using h1)]
        match ws, h3 with
        | [], _ => rfl
        | [a], _ => rfl
        | [a, b], _ => rfl
        | [a, b, d], h3 => exact absurd rfl h3
        | a :: b :: d :: e :: r, _ => rfl)
      clear h3 hw hws
      subst h1
      generalize ws.length = n at h3i ⊢
      go_enter Tryz.func61, Tryz.ntmps61
      go_wp2_with fail
      go_ret
      exact Po.res HR.out H.out (Below.refl b w)
  · have h1i : (st == 1) = false := by simpa using h1
    have h1j : (st != 1) = true := by simpa using h1
    have HR : Hid (Sm.auth vs ⟨st, f, us, t⟩ ws = (⟨st, f, us, t⟩, 503)) := Lib.hid (by unfold Sm.auth; rw [if_pos (by simpa using h1)])
    clear h1
    go_enter Tryz.func61, Tryz.ntmps61
    go_wp2_with fail
    go_ret
    exact Po.res HR.out H.out (Below.refl b w)

theorem Po.quit {w : World} {b : Nat} {Au : Option Addr} {vs : List U} {cu : Nat} {d : ByteArray} {s : Sm.S} (h : Po w b Au vs cu d s) :
    Po ((((w.setCell ⟨b, 0, none⟩ (.int .i64 6)).setCell ⟨b, 1, none⟩ (.string ⟨#[]⟩)).setCell ⟨b, 2, none⟩ (.slice none 0 0)).setCell ⟨b, 3, none⟩ (.string ⟨#[]⟩)) b Au vs cu d ⟨6, Sm.e0, [], Sm.e0⟩ :=
  (((h.st 6).us Sm.e0).to (A := none) (us := []) (c := 0) (World.ownsRow_nil _ _ _ _)).tx Sm.e0

set_option maxRecDepth 100000 in
set_option maxHeartbeats 1600000 in
theorem plain_any (b : Nat) (Au : Option Addr) (vs : List U) (cu : Nat) (d : ByteArray) (st : Int) (f t : ByteArray) (us : List ByteArray) (w : World) (h : Po w b Au vs cu d ⟨st, f, us, t⟩) (l : ByteArray) :
    Calls Tryz.prog 64 #[.pointer (some ⟨b, 0, none⟩), .string l] w (Po.Res (Sm.plain ⟨st, f, us, t⟩ l) b Au vs cu d w) := by
  have hlt := h.lt
  have H := Lib.hid h
  obtain ⟨A, c, hb, ho, hu⟩ := h
  obtain ⟨⟨c0, c1, c2, c3, c4, c5⟩, y0, y1, y2, y3⟩ := Po.cells hb
  clear hb
  dsimp only at c0 c1 c2 c3 ho
  by_cases m1 : l = ⟨#[68, 65, 84, 65]⟩
  · have m1q : (l.toList == [68, 65, 84, 65]) = true := lit_yes m1
    by_cases h4 : st = 4
    · have h4i : (st != 4) = false := by simpa using h4
      have HR : Hid (Sm.plain ⟨st, f, us, t⟩ l = (⟨5, f, us, t⟩, 354)) := Lib.hid (by unfold Sm.plain; rw [if_pos m1, if_pos h4])
      clear m1 h4
      go_enter Tryz.func64, Tryz.ntmps64
      go_wp2_with fail
      go_ret
      exact Po.res HR.out (H.out.st 5) (set_below (Below.refl b w) 0 _)
    · have h4i : (st != 4) = true := by simpa using h4
      have HR : Hid (Sm.plain ⟨st, f, us, t⟩ l = (⟨st, f, us, t⟩, 503)) := Lib.hid (by unfold Sm.plain; rw [if_pos m1, if_neg h4])
      clear m1 h4
      go_enter Tryz.func64, Tryz.ntmps64
      go_wp2_with fail
      go_ret
      exact Po.res HR.out H.out (Below.refl b w)
  · have m1q : (l.toList == [68, 65, 84, 65]) = false := lit_no m1
    by_cases m2 : l = ⟨#[82, 83, 69, 84]⟩
    · have m2q : (l.toList == [82, 83, 69, 84]) = true := lit_yes m2
      have HR : Hid (Sm.plain ⟨st, f, us, t⟩ l = (Sm.back ⟨st, f, us, t⟩, 250)) := Lib.hid (by unfold Sm.plain; rw [if_neg m1, if_pos m2])
      clear m1 m2
      go_enter Tryz.func64, Tryz.ntmps64
      go_wp2_with fail
      refine Calls.mono (goBack_any b Au vs cu d st f t us _ H.out) ?_
      rintro e w1 ⟨rfl, hp1, hb1⟩
      go_wp2_with fail
      go_ret
      exact Po.res HR.out hp1 hb1
    · have m2q : (l.toList == [82, 83, 69, 84]) = false := lit_no m2
      by_cases m3 : l = ⟨#[78, 79, 79, 80]⟩
      · have m3q : (l.toList == [78, 79, 79, 80]) = true := lit_yes m3
        have HR : Hid (Sm.plain ⟨st, f, us, t⟩ l = (⟨st, f, us, t⟩, 250)) := Lib.hid (by unfold Sm.plain; rw [if_neg m1, if_neg m2, if_pos m3])
        clear m1 m2 m3
        go_enter Tryz.func64, Tryz.ntmps64
        go_wp2_with fail
        go_ret
        exact Po.res HR.out H.out (Below.refl b w)
      · have m3q : (l.toList == [78, 79, 79, 80]) = false := lit_no m3
        by_cases m4 : l = ⟨#[81, 85, 73, 84]⟩
        · have m4q : (l.toList == [81, 85, 73, 84]) = true := lit_yes m4
          have HR : Hid (Sm.plain ⟨st, f, us, t⟩ l = (⟨6, Sm.e0, [], Sm.e0⟩, 221)) := Lib.hid (by unfold Sm.plain; rw [if_neg m1, if_neg m2, if_neg m3, if_pos m4])
          clear m1 m2 m3 m4
          go_enter Tryz.func64, Tryz.ntmps64
          go_wp2_with fail
          go_ret
          exact Po.res HR.out (Po.quit H.out) (set_below (set_below (set_below (set_below (Below.refl b w) 0 _) 1 _) 2 _) 3 _)
        · have m4q : (l.toList == [81, 85, 73, 84]) = false := lit_no m4
          have HR : Hid (Sm.plain ⟨st, f, us, t⟩ l = (⟨st, f, us, t⟩, 500)) := Lib.hid (by unfold Sm.plain; rw [if_neg m1, if_neg m2, if_neg m3, if_neg m4])
          clear m1 m2 m3 m4
          go_enter Tryz.func64, Tryz.ntmps64
          go_wp2_with fail
          go_ret
          exact Po.res HR.out H.out (Below.refl b w)
end Go.Proofs.YtpjifcljkgcnlaaGreatDoor

namespace Go.Proofs.YtpjifcljkgcnlaaGreatDoor
set_option linter.unusedVariables false
open Go.RowKit
open Us (U)

theorem two_yes' {a b : ByteArray} (h : a = b) : (a.toList != b.toList) = false := by rw [h]; simp
theorem two_no' {a b : ByteArray} (h : ¬ a = b) : (a.toList != b.toList) = true := by
  have := two_no h
  simp only [bne, this]; rfl

set_option maxRecDepth 100000 in
set_option maxHeartbeats 1600000 in
theorem sender_any (b : Nat) (Au : Option Addr) (vs : List U) (cu : Nat) (d : ByteArray) (st : Int) (f t : ByteArray) (us : List ByteArray) (w : World) (h : Po w b Au vs cu d ⟨st, f, us, t⟩) (l : ByteArray) (hl : l.size ≤ 16777216) :
    Calls Tryz.prog 62 #[.pointer (some ⟨b, 0, none⟩), .string l] w (Po.Res (Sm.mail d ⟨st, f, us, t⟩ l) b Au vs cu d w) := by
  have hlt := h.lt
  have H := Lib.hid h
  obtain ⟨A, c, hb, ho, hu⟩ := h
  obtain ⟨⟨c0, c1, c2, c3, c4, c5⟩, y0, y1, y2, y3⟩ := Po.cells hb
  clear hb
  dsimp only at c0 c1 c2 c3 ho
  have HM : Hid (Sm.mail d ⟨st, f, us, t⟩ l = if st < 2 then (Sm.S.mk st f us t, (530 : Int)) else if ¬ st = 2 then (Sm.S.mk st f us t, (503 : Int)) else match Pa.behind Sm.begF l.data.toList with | some (a, c) => if Ct.mk a = f ∧ Ct.mk c = d then (Sm.S.mk 3 f us t, (250 : Int)) else (Sm.S.mk st f us t, (550 : Int)) | none => (Sm.S.mk st f us t, (501 : Int))) := Lib.hid rfl
  by_cases h2 : st < 2
  · have HR : Hid (Sm.mail d ⟨st, f, us, t⟩ l = (⟨st, f, us, t⟩, 530)) := Lib.hid (by rw [HM.out, if_pos h2])
    go_enter Tryz.func62, Tryz.ntmps62
    go_wp2_with fail
    go_ret
    exact Po.res HR.out H.out (Below.refl b w)
  · by_cases h22 : st = 2
    · have h2i : ¬ st < 2 := h2
      have h2g : ¬ (2 : Int) < st := by omega
      cases hp : Pa.behind Sm.begF l.data.toList with
      | none =>
        have HR : Hid (Sm.mail d ⟨st, f, us, t⟩ l = (⟨st, f, us, t⟩, 501)) := Lib.hid (by rw [HM.out, if_neg h2, if_neg (by simpa using h22), hp])
        have HN : Hid (Pa.val none = .tuple #[.agg #[.string ⟨#[]⟩, .string ⟨#[]⟩], .bool false]) := Lib.hid rfl
        clear h2 h22
        go_enter Tryz.func62, Tryz.ntmps62
        go_wp2_with fail
        refine Calls.mono (pathBehind_any l ⟨#[77, 65, 73, 76, 32, 70, 82, 79, 77, 58]⟩ hl (by decide) _) ?_
        rintro e w3 ⟨rfl, hb3⟩
        have HVB : Hid (Pa.behind (ByteArray.mk #[77, 65, 73, 76, 32, 70, 82, 79, 77, 58]).data.toList l.data.toList = Pa.behind Sm.begF l.data.toList) := Lib.hid rfl
        rw [HVB.out]
        have H3 := Lib.hid (H.out.below hb3)
        have HB3 := Lib.hid (hb3.mono (Nat.le_of_lt hlt))
        have hs3 := hb3.size
        clear hb3 c0 c1 c2 c3 c4 c5 y0 y1 y2 y3
        rw [hp, HN.out]
        clear hp
        have hE := Below.alloc (Below.refl w3.heap.size w3) (Nat.le_refl _) (.cells #[.string ⟨#[]⟩, .string ⟨#[]⟩] 81)
        have hx5 := heap_alloc_new w3 (.cells #[.string ⟨#[]⟩, .string ⟨#[]⟩] 81)
        have hs5 : w3.heap.size < (w3.alloc (.cells #[.string ⟨#[]⟩, .string ⟨#[]⟩] 81)).heap.size := by simp
        go_upto_region 6 with fail
        generalize w3.alloc (.cells #[.string ⟨#[]⟩, .string ⟨#[]⟩] 81) = w4 at hE hx5 hs5 ⊢
        have H4 := Lib.hid (H3.out.below hE)
        have HB4 := Lib.hid (HB3.out.trans (hE.mono (Nat.le_of_lt H3.out.lt)))
        obtain ⟨g, hg⟩ : ∃ g, g = w3.heap.size := ⟨_, rfl⟩
        rw [← hg] at hx5 hs5 ⊢
        have hbg : b < g := by omega
        have a0 := cell_at hx5 0 _ rfl
        have a1 := cell_at hx5 1 _ rfl
        have HX5 := Lib.hid hx5
        clear hg hE hx5
        obtain ⟨A4, k4, hx4, ho4, hu4⟩ := H4.out
        obtain ⟨⟨c0, c1, c2, c3, c4, c5⟩, y0, y1, y2, y3⟩ := Po.cells hx4
        have HX4 := Lib.hid hx4
        clear hx4
        dsimp only at c0 c1 c2 c3 ho4
        go_wp2_with fail
        go_ret
        exact Po.res HR.out H4.out HB4.out
      | some ab =>
        obtain ⟨a, e⟩ := ab
        obtain ⟨x, HX⟩ : ∃ x : ByteArray, Hid (Ct.mk a = x) := ⟨_, Lib.hid rfl⟩
        obtain ⟨y, HY⟩ : ∃ y : ByteArray, Hid (Ct.mk e = y) := ⟨_, Lib.hid rfl⟩
        have HN : Hid (Pa.val (some (a, e)) = .tuple #[.agg #[.string x, .string y], .bool true]) := Lib.hid (by rw [← HX.out, ← HY.out]; rfl)
        have HC : Hid (Sm.mail d ⟨st, f, us, t⟩ l = if x = f ∧ y = d then (Sm.S.mk 3 f us t, (250 : Int)) else (Sm.S.mk st f us t, (550 : Int))) := Lib.hid (by rw [HM.out, if_neg h2, if_neg (by simpa using h22), hp]; dsimp only; rw [HX.out, HY.out])
        clear h2 h22
        go_enter Tryz.func62, Tryz.ntmps62
        go_wp2_with fail
        refine Calls.mono (pathBehind_any l ⟨#[77, 65, 73, 76, 32, 70, 82, 79, 77, 58]⟩ hl (by decide) _) ?_
        rintro e w3 ⟨rfl, hb3⟩
        have HVB : Hid (Pa.behind (ByteArray.mk #[77, 65, 73, 76, 32, 70, 82, 79, 77, 58]).data.toList l.data.toList = Pa.behind Sm.begF l.data.toList) := Lib.hid rfl
        rw [HVB.out]
        have H3 := Lib.hid (H.out.below hb3)
        have HB3 := Lib.hid (hb3.mono (Nat.le_of_lt hlt))
        have hs3 := hb3.size
        clear hb3 c0 c1 c2 c3 c4 c5 y0 y1 y2 y3
        rw [hp, HN.out]
        clear hp
        have hE := Below.alloc (Below.refl w3.heap.size w3) (Nat.le_refl _) (.cells #[.string x, .string y] 81)
        have hx5 := heap_alloc_new w3 (.cells #[.string x, .string y] 81)
        have hs5 : w3.heap.size < (w3.alloc (.cells #[.string x, .string y] 81)).heap.size := by simp
        go_upto_region 6 with fail
        generalize w3.alloc (.cells #[.string x, .string y] 81) = w4 at hE hx5 hs5 ⊢
        have H4 := Lib.hid (H3.out.below hE)
        have HB4 := Lib.hid (HB3.out.trans (hE.mono (Nat.le_of_lt H3.out.lt)))
        obtain ⟨g, hg⟩ : ∃ g, g = w3.heap.size := ⟨_, rfl⟩
        rw [← hg] at hx5 hs5 ⊢
        have hbg : b < g := by omega
        have a0 := cell_at hx5 0 _ rfl
        have a1 := cell_at hx5 1 _ rfl
        have HX5 := Lib.hid hx5
        clear hg hE hx5
        obtain ⟨A4, k4, hx4, ho4, hu4⟩ := H4.out
        obtain ⟨⟨c0, c1, c2, c3, c4, c5⟩, y0, y1, y2, y3⟩ := Po.cells hx4
        have HX4 := Lib.hid hx4
        clear hx4
        dsimp only at c0 c1 c2 c3 ho4
        by_cases hxf : x = f
        · have q1 := two_yes hxf
          have q1b := two_yes' hxf
          by_cases hyd : y = d
          · have q2 := two_yes hyd
            have q2b := two_yes' hyd
            have HR := Lib.hid (HC.out.trans (if_pos ⟨hxf, hyd⟩))
            clear hxf hyd
            go_wp2_with fail
            go_quiet (fail)
            go_wp2_with fail
            go_ret
            exact Po.res HR.out ((H4.out.drewN _).st 3) (set_below (below_drewN' HB4.out _) 0 _)
          · have q2 := two_no hyd
            have q2b := two_no' hyd
            have HR := Lib.hid (HC.out.trans (if_neg (fun h => hyd h.2)))
            clear hxf hyd
            go_wp2_with fail
            go_quiet (fail)
            go_wp2_with fail
            go_ret
            exact Po.res HR.out (H4.out.drewN _) (below_drewN' HB4.out _)
        · have q1 := two_no hxf
          have q1b := two_no' hxf
          have HR := Lib.hid (HC.out.trans (if_neg (fun h => hxf h.1)))
          clear hxf
          go_wp2_with fail
          go_quiet (fail)
          go_wp2_with fail
          go_ret
          exact Po.res HR.out (H4.out.drewN _) (below_drewN' HB4.out _)
    · have h2i : ¬ st < 2 := h2
      have h2g : (2 : Int) < st := by omega
      have HR : Hid (Sm.mail d ⟨st, f, us, t⟩ l = (⟨st, f, us, t⟩, 503)) := Lib.hid (by rw [HM.out, if_neg h2, if_pos h22])
      clear h22
      go_enter Tryz.func62, Tryz.ntmps62
      go_wp2_with fail
      go_ret
      exact Po.res HR.out H.out (Below.refl b w)
end Go.Proofs.YtpjifcljkgcnlaaGreatDoor
