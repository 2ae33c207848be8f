/- FnExactSearchBox: the arguments and the listed variable opened. -/
import Derived.Test.YtmlmdpdboigojaaGreatDoorKyFw
import Derived.Test.YtmlmdpdboigojaaGreatDoorLwWrap7
namespace Go.Proofs.YtmlmdpdboigojaaGreatDoor
set_option linter.unusedVariables false
open Go.RowKit Go.ChangeShapes Go.WideShapes Go.Deep

theorem Kx.In.up : ∀ {d : Nat} {w : World} {B : Nat} {x : Kx}, Kx.In d w B x → Kx.In (d + 1) w B x
  | 0, _, _, _, h => h.elim
  | d + 1, w, B, x, h => ⟨h.1, h.2.1, h.2.2.1, h.2.2.2.1, h.2.2.2.2.1, h.2.2.2.2.2.1, h.2.2.2.2.2.2.1, fun y hy => Kx.In.up (h.2.2.2.2.2.2.2 y hy)⟩
section
variable {H : Type} {enc : TypeId × Value → H} {w : World} {spare : Nat → Bool} {held : Bool}
theorem open_spans {fuel : Nat} {v : Value} {x : DataW H × List MemPlace}
    (h : DataW.trod enc Tryz.prog w 0 spare held fuel 25 [v] = some x) : ∃ (A : Option Addr) (ss : List Sn) (c : Nat), v = .slice A ss.length c ∧ ss.length ≤ c ∧ c ≤ maxLen ∧ AtSet w w.heap.size A ss := by
  rcases open_slice_fields Tryz.underlying25 Tryz.underlying83 (by kernel_rfl) (by kernel_rfl) h with ⟨hcs, _⟩ | ⟨a, l, c, m, D, Pl, hcs, _, hl, hm, hmm, _, hi⟩
  · simp at hcs
    exact ⟨none, [], 0, hcs, Nat.le_refl _, Nat.zero_le _, fun h0 => absurd h0 (by simp)⟩
  · simp at hcs
    have hml : l ≤ m := by rw [hmm]; split <;> omega
    have hall : ∀ i, i < l → ∃ u : Sn, w.cell? (a.add (i * 2)) = some (.int .i64 u.1) ∧ w.cell? (a.add (i * 2 + 1)) = some (.int .i64 u.2) := by
      intro i hil
      obtain ⟨ys, n, _, _, _, hf⟩ := hi i (by omega)
      obtain ⟨v0, y0, c0, _, t0⟩ := hf 0 _ rfl
      obtain ⟨v1, y1, c1, _, t1⟩ := hf 1 _ rfl
      obtain ⟨n0, e0, _, _⟩ := DataW.trod_int Tryz.underlying3 t0
      obtain ⟨n1, e1, _, _⟩ := DataW.trod_int Tryz.underlying3 t1
      simp at e0 e1
      subst e0 e1
      exact ⟨(n0, n1), c0, c1⟩
    obtain ⟨us, hul, hq⟩ := choose_list l hall
    refine ⟨some a, us, c, by rw [hul]; exact hcs, by omega, hm, fun h0 => ?_⟩
    obtain ⟨b, off, spot⟩ := a
    have hu0 : us[0]? = some us[0] := List.getElem?_eq_getElem h0
    have hc0 := (hq 0 _ hu0).1
    have hspot : spot = none := by simpa [Addr.add] using World.cell?_spot hc0
    subst hspot
    have hlt := World.block_lt_of_cell? w _ hc0
    refine ⟨b, off, rfl, by simpa [Addr.add] using hlt, fun i u hu j y hy => ?_⟩
    obtain ⟨h1, h2⟩ := hq i u hu
    rw [add_none] at h1 h2
    match j, hy with
    | 0, hy => injection hy with hy; subst hy; exact h1
    | 1, hy => injection hy with hy; subst hy; rw [Nat.add_assoc]; exact h2
    | j + 2, hy => simp [Sn.cells] at hy

theorem open_mails {fuel : Nat} {v : Value} {x : DataW H × List MemPlace}
    (h : DataW.trod enc Tryz.prog w 0 spare held fuel 22 [v] = some x) : ∃ (A : Option Addr) (ms : List Ml) (c : Nat), v = .slice A ms.length c ∧ ms.length ≤ c ∧ c ≤ maxLen ∧ AtMails w w.heap.size A ms ∧ ∀ m ∈ ms, m.text.size ≤ maxLen := by
  rcases open_slice_fields Tryz.underlying22 Tryz.underlying72 (by kernel_rfl) (by kernel_rfl) h with ⟨hcs, _⟩ | ⟨a, l, c, m, D, Pl, hcs, _, hl, hm, hmm, _, hi⟩
  · simp at hcs
    exact ⟨none, [], 0, hcs, Nat.le_refl _, Nat.zero_le _, fun h0 => absurd h0 (by simp), by simp⟩
  · simp at hcs
    have hml : l ≤ m := by rw [hmm]; split <;> omega
    have hall : ∀ i, i < l → ∃ u : Ml, (w.cell? (a.add (i * 3)) = some (.int .i64 u.uid) ∧ w.cell? (a.add (i * 3 + 1)) = some (.int .i64 u.flags) ∧ w.cell? (a.add (i * 3 + 2)) = some (.string u.text)) ∧ u.text.size ≤ maxLen := by
      intro i hil
      obtain ⟨ys, n, _, _, _, hf⟩ := hi i (by omega)
      obtain ⟨v0, y0, c0, _, t0⟩ := hf 0 _ rfl
      obtain ⟨v1, y1, c1, _, t1⟩ := hf 1 _ rfl
      obtain ⟨v2, y2, c2, _, t2⟩ := hf 2 _ rfl
      obtain ⟨n0, e0, _, _⟩ := DataW.trod_int Tryz.underlying3 t0
      obtain ⟨n1, e1, _, _⟩ := DataW.trod_int Tryz.underlying3 t1
      obtain ⟨s2, e2, _, z2⟩ := DataW.trod_string Tryz.underlying9 t2
      simp at e0 e1 e2
      subst e0 e1 e2
      exact ⟨⟨n0, n1, s2⟩, ⟨c0, c1, c2⟩, z2⟩
    obtain ⟨us, hul, hq⟩ := choose_list l hall
    refine ⟨some a, us, c, by rw [hul]; exact hcs, by omega, hm, fun h0 => ?_, fun u hu => ?_⟩
    · obtain ⟨b, off, spot⟩ := a
      have hu0 : us[0]? = some us[0] := List.getElem?_eq_getElem h0
      have hc0 := (hq 0 _ hu0).1.1
      have hspot : spot = none := by simpa [Addr.add] using World.cell?_spot hc0
      subst hspot
      have hlt := World.block_lt_of_cell? w _ hc0
      refine ⟨b, off, rfl, by simpa [Addr.add] using hlt, fun i u hu j y hy => ?_⟩
      obtain ⟨⟨h1, h2, h3⟩, _⟩ := hq i u hu
      rw [add_none] at h1 h2 h3
      match j, hy with
      | 0, hy => injection hy with hy; subst hy; exact h1
      | 1, hy => injection hy with hy; subst hy; rw [Nat.add_assoc]; exact h2
      | 2, hy => injection hy with hy; subst hy; rw [Nat.add_assoc]; exact h3
      | j + 3, hy => simp [Ml.cells] at hy
    · obtain ⟨i, hil, rfl⟩ := List.getElem_of_mem hu
      exact (hq i _ (List.getElem?_eq_getElem hil)).2

theorem open_box {fuel : Nat} {cs : Array Value} {x : DataW H × List MemPlace} (hs : cs.size = Tryz.prog.cellsOf 24)
    (h : DataW.trod enc Tryz.prog w 0 spare held fuel 24 cs.toList = some x) :
    ∃ (nx : Int) (A : Option Addr) (ms : List Ml) (c : Nat), cs = #[.int .i64 nx, .slice A ms.length c] ∧ ms.length ≤ c ∧ c ≤ maxLen ∧ AtMails w w.heap.size A ms ∧ ∀ m ∈ ms, m.text.size ≤ maxLen := by
  have h3 : Tryz.prog.cellsOf 24 = 2 := by kernel_rfl
  have hc3 : Tryz.prog.cellsOf 3 = 1 := by kernel_rfl
  have hc27 : Tryz.prog.cellsOf 22 = 1 := by kernel_rfl
  rw [h3] at hs
  obtain ⟨v0, v1, rfl⟩ : ∃ v0 v1, cs = #[v0, v1] := by
    obtain ⟨l⟩ := cs
    match l, hs with
    | [a, b], _ => exact ⟨a, b, rfl⟩
  obtain ⟨xs, n, _, _, _, hlen, hf⟩ := DataW.trod_struct Tryz.underlying24 h
  match xs, hlen with
  | [y0, y1], _ =>
    have t0 : DataW.trod enc Tryz.prog w 0 spare held n 3 [v0] = some y0 := by simpa [hc3] using hf 0 _ rfl
    have t1 : DataW.trod enc Tryz.prog w 0 spare held n 22 [v1] = some y1 := by simpa [hc27] using hf 1 _ rfl
    obtain ⟨nx, e0, _, _⟩ := DataW.trod_int Tryz.underlying3 t0
    obtain ⟨A, ls, c, e1, hl, hm, ha, hz⟩ := open_mails (v := v1) t1
    simp at e0
    subst e0 e1
    exact ⟨nx, A, ls, c, rfl, hl, hm, ha, hz⟩

set_option maxRecDepth 100000 in
theorem open_key : ∀ (fuel : Nat) (cs : List Value) (x : DataW H × List MemPlace), DataW.trod enc Tryz.prog w 0 spare held fuel 28 cs = some x → ∃ k : Kx, cs = k.cells ∧ Kx.In fuel w w.heap.size k := by
  intro fuel
  induction fuel using Nat.strongRecOn with
  | _ fuel ih =>
  intro cs x h
  have h5 : Tryz.prog.cellsOf 28 = 5 := by kernel_rfl
  have hc3 : Tryz.prog.cellsOf 3 = 1 := by kernel_rfl
  have hc9 : Tryz.prog.cellsOf 9 = 1 := by kernel_rfl
  have hcS : Tryz.prog.cellsOf 25 = 1 := by kernel_rfl
  have hcK : Tryz.prog.cellsOf 26 = 1 := by kernel_rfl
  obtain ⟨xs, n, rfl, _, hcl, hlen, hf⟩ := DataW.trod_struct Tryz.underlying28 h
  rw [h5] at hcl
  match cs, hcl, xs, hlen with
  | [v0, v1, v2, v3, v4], _, [y0, y1, y2, y3, y4], _ =>
    have t0 : DataW.trod enc Tryz.prog w 0 spare held n 3 [v0] = some y0 := by simpa [hc3] using hf 0 _ rfl
    have t1 : DataW.trod enc Tryz.prog w 0 spare held n 3 [v1] = some y1 := by simpa [hc3] using hf 1 _ rfl
    have t2 : DataW.trod enc Tryz.prog w 0 spare held n 9 [v2] = some y2 := by simpa [hc9] using hf 2 _ rfl
    have t3 : DataW.trod enc Tryz.prog w 0 spare held n 25 [v3] = some y3 := by simpa [hcS] using hf 3 _ rfl
    have t4 : DataW.trod enc Tryz.prog w 0 spare held n 26 [v4] = some y4 := by simpa [hcK] using hf 4 _ rfl
    obtain ⟨kind, e0, _, _⟩ := DataW.trod_int Tryz.underlying3 t0
    obtain ⟨flag, e1, _, _⟩ := DataW.trod_int Tryz.underlying3 t1
    obtain ⟨text, e2, _, zt⟩ := DataW.trod_string Tryz.underlying9 t2
    obtain ⟨A, set, c, e3, hsc, hcm, hset⟩ := open_spans (v := v3) t3
    simp at e0 e1 e2
    subst e0 e1 e2 e3
    rcases DataW.trod_slice Tryz.underlying26 t4 with ⟨hcs, _⟩ | ⟨a, l, kc, elems, rest, n', hn, hcs, _, _, hl, hm, hel, hi, _, _⟩
    · simp at hcs
      subst hcs
      exact ⟨Kx.mk kind flag text A set c none [] 0, rfl, zt, hset, hsc, hcm, fun h0 => absurd h0 (by simp [Kx.keys]), Nat.le_refl _, Nat.zero_le _, fun y hy => by simp [Kx.keys] at hy⟩
    · simp at hcs
      subst hcs hn
      rw [h5] at hi
      have hall : ∀ i, i < l → ∃ u : Kx, (∀ j y, (Kx.cells u)[j]? = some y → w.cell? (a.add (i * 5 + j)) = some y) ∧ Kx.In n' w w.heap.size u := by
        intro i hil
        have h1 := hi i hil
        rw [List.getElem?_eq_getElem (by omega)] at h1
        obtain ⟨cs', h2, h3⟩ := Option.bind_eq_some_iff.1 h1
        obtain ⟨k, rfl, hk⟩ := ih n' (by omega) cs' _ h3
        obtain ⟨_, hcl', hat⟩ := World.cells?_some h2
        refine ⟨k, fun j y hy => ?_, hk⟩
        have hj : j < 5 := by
          have := (List.getElem?_eq_some_iff.1 hy).1
          rwa [Kx.cells_len] at this
        rw [← Go.Deep.add_add, hat j hj, hy]
      obtain ⟨us, hul, hq⟩ := choose_list l hall
      refine ⟨Kx.mk kind flag text A set c (some a) us kc, by rw [← hul]; rfl, zt, hset, hsc, hcm, fun h0 => ?_, by show us.length ≤ kc; omega, hm, fun y hy => ?_⟩
      · obtain ⟨b, off, spot⟩ := a
        have hu0 : us[0]? = some us[0] := List.getElem?_eq_getElem h0
        have hc0 := (hq 0 _ hu0).1 0 _ rfl
        have hspot : spot = none := by simpa [Addr.add] using World.cell?_spot hc0
        subst hspot
        have hlt := World.block_lt_of_cell? w _ hc0
        refine ⟨b, off, rfl, by simpa [Addr.add] using hlt, fun i u hu j y hy => ?_⟩
        have h1 := (hq i u hu).1 j y hy
        rw [add_none] at h1
        rw [Nat.add_assoc]; exact h1
      · obtain ⟨i, hil, rfl⟩ := List.getElem_of_mem hy
        exact ((hq i _ (List.getElem?_eq_getElem hil)).2).up
end

set_option maxRecDepth 100000 in
/-- the flags' names, as the listed variable starts -/
theorem flags_laid {W : World} (h : ∃ w0 : World, w0.heap = W.heap ∧ laidMetH Tryz.prog seatLaid w0) : Ky.Fl W := by
  obtain ⟨w0, hh, hl⟩ := h
  rw [MakeChecks.laidMetH_plain _ _ _ (by kernel_rfl)] at hl
  have hr := Lib.laidMet.reads hl (n := "loop.example/mailhost/impl.flagNames") (d := Rows.laid_loop_example_mailhost_impl_flagNames) (List.Mem.tail _ (List.Mem.head _))
  obtain ⟨g, t, cs, fuel, p, hg, hty, hvar, hd⟩ := hr
  have hg0 : Tryz.prog.globalNamed "loop.example/mailhost/impl.flagNames" = some 0 := by kernel_rfl
  have hty0 : (Tryz.prog.globals[0]?).map (·.type) = some 114 := by kernel_rfl
  obtain rfl := Option.some.inj (hg0.symm.trans hg)
  obtain rfl := Option.some.inj (hty0.symm.trans hty)
  have hc9 : Tryz.prog.cellsOf 9 = 1 := by kernel_rfl
  intro i u hu
  have hds : i < 5 ∧ [(DataW.lit (.string [83, 101, 101, 110]) : DataW Unit), .lit (.string [65, 110, 115, 119, 101, 114, 101, 100]), .lit (.string [70, 108, 97, 103, 103, 101, 100]), .lit (.string [68, 101, 108, 101, 116, 101, 100]), .lit (.string [68, 114, 97, 102, 116])][i]? = some (.lit (.string u.data.toList)) := by
    match i, hu with
    | 0, hu => injection hu with hu; subst hu; exact ⟨by omega, rfl⟩
    | 1, hu => injection hu with hu; subst hu; exact ⟨by omega, rfl⟩
    | 2, hu => injection hu with hu; subst hu; exact ⟨by omega, rfl⟩
    | 3, hu => injection hu with hu; subst hu; exact ⟨by omega, rfl⟩
    | 4, hu => injection hu with hu; subst hu; exact ⟨by omega, rfl⟩
    | i + 5, hu => simp [Ky.names] at hu
  obtain ⟨fuel', d, q, hdi, he⟩ := Lib.array_elem Tryz.underlying114 (ds := [.lit (.string [83, 101, 101, 110]), .lit (.string [65, 110, 115, 119, 101, 114, 101, 100]), .lit (.string [70, 108, 97, 103, 103, 101, 100]), .lit (.string [68, 101, 108, 101, 116, 101, 100]), .lit (.string [68, 114, 97, 102, 116])]) hd i hds.1
  rw [hc9, Nat.mul_one] at he
  obtain ⟨s, hs, hx, _⟩ := DataW.trod_string Tryz.underlying9 he
  have hdd : d = .lit (.string s.data.toList) := congrArg Prod.fst hx
  rw [hdd, hds.2] at hdi
  have hsu : s = u := by
    have h1 : u.data.toList = s.data.toList := by injection hdi with h; injection h with h; injection h
    exact ByteArray.ext (Array.toList_inj.1 h1.symm)
  have e0 : cs.toList[i]? = some (.string s) := by
    have := congrArg (·[0]?) hs
    simpa [List.getElem?_take, List.getElem?_drop] using this
  have h2 := World.var?_cell hg hvar i
  rw [← Array.getElem?_toList, e0, hsu] at h2
  unfold World.cell? at h2 ⊢
  rw [← hh]; exact h2
end Go.Proofs.YtmlmdpdboigojaaGreatDoor
