/- Queues: plain facts. No program. -/
import Derived.Test.YtpbaimofffcnaaaPl
namespace Go.Proofs.Ytpbaimofffcnaaa
set_option linter.unusedVariables false

def Lx.ok (f : ByteArray) (us : List ByteArray) (t : ByteArray) : Bool := Nm.nameOk f.data.toList && (St.namesOk us && decide (0 < us.length)) && decide (t.size ≤ 20)

namespace Qu
/-- an item of a queue -/
structure V where
  id : Int
  f : ByteArray
  t : ByteArray
  us : List ByteArray
def V.ok (x : V) : Bool := Lx.ok x.f x.us x.t
/-- do numbers ascend, from behind one on, and not above a last one? -/
def asc (before last : Int) : List Int → Bool
  | [] => true
  | i :: r => decide (before < i ∧ i ≤ last) && asc i last r
/-- the last number, or the one before -/
def lastId (before : Int) : List Int → Int
  | [] => before
  | i :: r => lastId i r
def ids (xs : List V) : List Int := xs.map V.id
def fine (xs : List V) : Bool := xs.all V.ok
def ok (next : Int) (xs : List V) : Bool := decide (xs.length ≤ 6) && decide (1 ≤ next ∧ next ≤ 100) && fine xs && asc 0 (next - 1) (ids xs)
/-- as the specification goes: items from one on -/
def chain (before : Int) : List V → Bool
  | [] => true
  | x :: r => decide (before + 1 ≤ x.id ∧ x.id ≤ 99) && x.ok && chain x.id r
theorem asc_mono {last last' : Int} (h : last ≤ last') : ∀ {l : List Int} {b : Int}, asc b last l = true → asc b last' l = true
  | [], _, _ => rfl
  | i :: r, b, ha => by
    unfold asc at ha ⊢
    rw [Bool.and_eq_true, decide_eq_true_eq] at ha ⊢
    exact ⟨⟨ha.1.1, by omega⟩, asc_mono h ha.2⟩
theorem asc_last : ∀ {l : List Int} {b last : Int}, asc b last l = true → b ≤ lastId b l ∧ (b ≤ last → lastId b l ≤ last)
  | [], b, last, _ => ⟨Int.le_refl _, fun h => h⟩
  | i :: r, b, last, ha => by
    unfold asc at ha
    rw [Bool.and_eq_true, decide_eq_true_eq] at ha
    have := asc_last ha.2
    unfold lastId
    exact ⟨by omega, fun _ => this.2 (by omega)⟩
theorem asc_own : ∀ {l : List Int} {b last : Int}, asc b last l = true → asc b (lastId b l) l = true
  | [], _, _, _ => rfl
  | i :: r, b, last, ha => by
    unfold asc at ha
    rw [Bool.and_eq_true, decide_eq_true_eq] at ha
    have h1 := asc_own ha.2
    have h2 := asc_last ha.2
    unfold asc lastId
    rw [Bool.and_eq_true, decide_eq_true_eq]
    exact ⟨⟨ha.1.1, h2.1⟩, h1⟩
theorem chain_is : ∀ (b : Int) (xs : List V), chain b xs = (fine xs && asc b 99 (ids xs))
  | b, [] => rfl
  | b, x :: r => by
    unfold chain
    rw [chain_is x.id r]
    show _ = ((x.ok && fine r) && (decide (b < x.id ∧ x.id ≤ 99) && asc x.id 99 (ids r)))
    rw [show decide (b + 1 ≤ x.id ∧ x.id ≤ 99) = decide (b < x.id ∧ x.id ≤ 99) from rfl]
    cases decide (b < x.id ∧ x.id ≤ 99) <;> cases x.ok <;> simp
/-- what the specification computes -/
theorem spec_is (next : Int) (xs : List V) : (chain 0 xs && decide (lastId 0 (ids xs) + 1 ≤ next ∧ next ≤ 100) && decide (xs.length ≤ 6)) = ok next xs := by
  unfold ok
  rw [chain_is]
  by_cases h6 : xs.length ≤ 6
  · cases hf : fine xs
    · simp
    · by_cases ha : asc 0 99 (ids xs) = true
      · rw [ha]
        by_cases hn : lastId 0 (ids xs) + 1 ≤ next ∧ next ≤ 100
        · have h1 := asc_mono (last' := next - 1) (by omega) (asc_own ha)
          have h2 := (asc_last ha).1
          rw [h1, decide_eq_true hn, decide_eq_true (show 1 ≤ next ∧ next ≤ 100 by omega)]; simp
        · rw [decide_eq_false hn]
          by_cases hn2 : 1 ≤ next ∧ next ≤ 100
          · have h1 : asc 0 (next - 1) (ids xs) = false := by
              cases h : asc 0 (next - 1) (ids xs)
              · rfl
              · exact absurd ⟨by have := (asc_last h).2 (by omega); omega, hn2.2⟩ hn
            rw [h1]; simp
          · rw [decide_eq_false hn2]; simp
      · rw [Bool.not_eq_true] at ha
        by_cases hn2 : 1 ≤ next ∧ next ≤ 100
        · have h1 : asc 0 (next - 1) (ids xs) = false := by
            cases h : asc 0 (next - 1) (ids xs)
            · rfl
            · rw [asc_mono (last' := 99) (by omega) h] at ha; cases ha
          rw [ha, h1]; simp
        · rw [ha, decide_eq_false hn2]; simp
  · rw [decide_eq_false h6]; simp
theorem ok_no6 {next : Int} {xs : List V} (h : ¬ xs.length ≤ 6) : ok next xs = false := by unfold ok; rw [decide_eq_false h]; rfl
theorem ok_non {next : Int} {xs : List V} (h : ¬ (1 ≤ next ∧ next ≤ 100)) : ok next xs = false := by unfold ok; rw [decide_eq_false h]; simp
theorem ok_nof {next : Int} {xs : List V} (h : fine xs = false) : ok next xs = false := by unfold ok; rw [h]; simp
theorem ok_is {next : Int} {xs : List V} (h1 : xs.length ≤ 6) (h2 : 1 ≤ next ∧ next ≤ 100) (h3 : fine xs = true) : ok next xs = asc 0 (next - 1) (ids xs) := by unfold ok; rw [decide_eq_true h1, decide_eq_true h2, h3]; rfl
theorem ok_inv {next : Int} {xs : List V} (h : ok next xs = true) : xs.length ≤ 6 ∧ (1 ≤ next ∧ next ≤ 100) ∧ fine xs = true ∧ asc 0 (next - 1) (ids xs) = true := by
  unfold ok at h
  simp only [Bool.and_eq_true, decide_eq_true_eq] at h
  exact ⟨h.1.1.1, h.1.1.2, h.1.2, h.2⟩
/-- ascending, said of all pairs -/
theorem asc_pair : ∀ (l : List Int) (b last : Int), asc b last l = true ↔ (l.Pairwise (· < ·) ∧ ∀ i ∈ l, b < i ∧ i ≤ last)
  | [], b, last => by simp [asc]
  | i :: r, b, last => by
    unfold asc
    rw [Bool.and_eq_true, decide_eq_true_eq, asc_pair r i last, List.pairwise_cons]
    constructor
    · rintro ⟨h1, h2, h3⟩
      refine ⟨⟨fun j hj => (h3 j hj).1, h2⟩, fun j hj => ?_⟩
      rcases List.mem_cons.1 hj with rfl | hj
      · exact h1
      · exact ⟨by have := (h3 j hj).1; omega, (h3 j hj).2⟩
    · rintro ⟨⟨h1, h2⟩, h3⟩
      exact ⟨h3 i (by simp), h2, fun j hj => ⟨h1 j hj, (h3 j (List.mem_cons_of_mem _ hj)).2⟩⟩
theorem fine_iff (xs : List V) : fine xs = true ↔ ∀ x ∈ xs, x.ok = true := by unfold fine; exact List.all_eq_true
theorem ok_part {next : Int} {xs : List V} (h : ok next xs = true) (k : Nat) : ok next (xs.take k ++ xs.drop (k + 1)) = true := by
  obtain ⟨h1, h2, h3, h4⟩ := ok_inv h
  have hs : (xs.take k ++ xs.drop (k + 1)).Sublist xs := by
    conv => rhs; rw [← List.take_append_drop k xs]
    refine List.Sublist.append (List.Sublist.refl _) ?_
    rw [← List.drop_drop]
    exact List.drop_sublist 1 _
  rw [ok_is (Nat.le_trans hs.length_le h1) h2 ((fine_iff _).2 fun x hx => (fine_iff _).1 h3 x (hs.subset hx))]
  rw [asc_pair] at h4 ⊢
  exact ⟨h4.1.sublist (hs.map _), fun i hi => h4.2 i ((hs.map _).subset hi)⟩
theorem ok_twice {next : Int} {xs : List V} {k : Nat} (hk : k < xs.length) : ok next (xs.take (k + 1) ++ xs.drop k) = false := by
  cases h : ok next (xs.take (k + 1) ++ xs.drop k)
  · rfl
  · obtain ⟨_, _, _, h4⟩ := ok_inv h
    rw [asc_pair] at h4
    have hp := h4.1
    unfold ids at hp
    rw [List.map_append, List.pairwise_append] at hp
    have m1 : xs[k] ∈ xs.take (k + 1) := by rw [List.take_add_one, List.getElem?_eq_getElem hk]; exact List.mem_append_right _ List.mem_cons_self
    have m2 : xs[k] ∈ xs.drop k := by rw [List.drop_eq_getElem_cons hk]; exact List.mem_cons_self
    have := hp.2.2 (xs[k].id) (List.mem_map_of_mem m1) (xs[k].id) (List.mem_map_of_mem m2)
    omega
theorem ids_drop (xs : List V) {k : Nat} {x : V} (h : xs[k]? = some x) : xs.drop k = x :: xs.drop (k + 1) := by
  obtain ⟨hk, rfl⟩ := List.getElem?_eq_some_iff.1 h
  exact List.drop_eq_getElem_cons hk
end Qu

/- the heap of container/heap, as lists -/
namespace Hp
def at_ (l : List Int) (i : Nat) : Int := l.getD i 0
def sw (l : List Int) (i j : Nat) : List Int := (l.set i (at_ l j)).set j (at_ l i)
def par (j : Nat) : Nat := (j - 1) / 2
def up (l : List Int) (j : Nat) : Nat → List Int
  | 0 => l
  | n + 1 => if par j = j ∨ ¬ at_ l j < at_ l (par j) then l else up (sw l (par j) j) (par j) n
def child (l : List Int) (i n : Nat) : Nat := if 2 * i + 2 < n ∧ at_ l (2 * i + 2) < at_ l (2 * i + 1) then 2 * i + 2 else 2 * i + 1
def down (l : List Int) (i n : Nat) : Nat → List Int
  | 0 => l
  | m + 1 => if 2 * i + 1 ≥ n ∨ ¬ at_ l (child l i n) < at_ l i then l else down (sw l i (child l i n)) (child l i n) n m
def push (l : List Int) (x : Int) : List Int := up (l ++ [x]) l.length 6
def pop (l : List Int) : Int × List Int := let l2 := down (sw l 0 (l.length - 1)) 0 (l.length - 1) 6; (at_ l2 (l.length - 1), l2.take (l.length - 1))
theorem pop_is {l : List Int} {n : Nat} (hn : n = l.length - 1) {l3 : List Int} (h3 : l3 = down (sw l 0 n) 0 n 6) : pop l = (at_ l3 n, l3.take n) := by
  subst h3 hn
  unfold pop
  dsimp only
def pushes (l : List Int) : List Int → List Int
  | [] => l
  | x :: r => pushes (push l x) r
theorem sw_len (l : List Int) (i j : Nat) : (sw l i j).length = l.length := by unfold sw; rw [List.length_set, List.length_set]
theorem up_len : ∀ (n : Nat) (l : List Int) (j : Nat), (up l j n).length = l.length
  | 0, l, j => rfl
  | n + 1, l, j => by
    unfold up
    split
    · rfl
    · rw [up_len n, sw_len]
theorem down_len : ∀ (m : Nat) (l : List Int) (i n : Nat), (down l i n m).length = l.length
  | 0, l, i, n => rfl
  | m + 1, l, i, n => by
    unfold down
    split
    · rfl
    · rw [down_len m, sw_len]
theorem push_len (l : List Int) (x : Int) : (push l x).length = l.length + 1 := by unfold push; rw [up_len]; simp
theorem pop_len (l : List Int) : (pop l).2.length = l.length - 1 := by unfold pop; dsimp only; rw [List.length_take, down_len, sw_len]; omega
/- only the order counts: a rising map goes through -/
section
variable {f : Nat → Int}
def liftL (f : Nat → Int) (l : List Nat) : List Int := l.map f
def nat_ (l : List Nat) (i : Nat) : Nat := l.getD i 0
def nsw (l : List Nat) (i j : Nat) : List Nat := (l.set i (nat_ l j)).set j (nat_ l i)
def nup (l : List Nat) (j : Nat) : Nat → List Nat
  | 0 => l
  | n + 1 => if par j = j ∨ ¬ nat_ l j < nat_ l (par j) then l else nup (nsw l (par j) j) (par j) n
def nchild (l : List Nat) (i n : Nat) : Nat := if 2 * i + 2 < n ∧ nat_ l (2 * i + 2) < nat_ l (2 * i + 1) then 2 * i + 2 else 2 * i + 1
def ndown (l : List Nat) (i n : Nat) : Nat → List Nat
  | 0 => l
  | m + 1 => if 2 * i + 1 ≥ n ∨ ¬ nat_ l (nchild l i n) < nat_ l i then l else ndown (nsw l i (nchild l i n)) (nchild l i n) n m
theorem at_map {l : List Nat} {i : Nat} (hi : i < l.length) : at_ (l.map f) i = f (nat_ l i) := by
  unfold at_ nat_
  rw [List.getD_eq_getElem?_getD, List.getD_eq_getElem?_getD, List.getElem?_map, List.getElem?_eq_getElem hi]; rfl
theorem sw_map {l : List Nat} {i j : Nat} (hi : i < l.length) (hj : j < l.length) : sw (l.map f) i j = (nsw l i j).map f := by
  unfold sw nsw
  rw [at_map hi, at_map hj, List.map_set, List.map_set]
theorem nsw_len (l : List Nat) (i j : Nat) : (nsw l i j).length = l.length := by unfold nsw; rw [List.length_set, List.length_set]
theorem nup_len : ∀ (n : Nat) (l : List Nat) (j : Nat), (nup l j n).length = l.length
  | 0, l, j => rfl
  | n + 1, l, j => by
    unfold nup
    split
    · rfl
    · rw [nup_len n, nsw_len]
theorem ndown_len : ∀ (m : Nat) (l : List Nat) (i n : Nat), (ndown l i n m).length = l.length
  | 0, l, i, n => rfl
  | m + 1, l, i, n => by
    unfold ndown
    split
    · rfl
    · rw [ndown_len m, nsw_len]
/-- f is rising on what lies in l -/
def rises (f : Nat → Int) (N : Nat) : Prop := ∀ a b, a < N → b < N → (f a < f b ↔ a < b)
def small (N : Nat) (l : List Nat) : Prop := ∀ a ∈ l, a < N
theorem small_at {N : Nat} {l : List Nat} (h : small N l) {i : Nat} (hi : i < l.length) : nat_ l i < N := by
  unfold nat_
  rw [List.getD_eq_getElem?_getD, List.getElem?_eq_getElem hi]
  exact h _ (List.getElem_mem hi)
theorem small_sw {N : Nat} {l : List Nat} (h : small N l) {i j : Nat} (hi : i < l.length) (hj : j < l.length) : small N (nsw l i j) := by
  intro a ha
  unfold nsw at ha
  rcases List.mem_or_eq_of_mem_set ha with ha | rfl
  · rcases List.mem_or_eq_of_mem_set ha with ha | rfl
    · exact h a ha
    · exact small_at h hj
  · exact small_at h hi
theorem par_lt {j n : Nat} (h : j < n) : par j < n := by unfold par; omega
theorem up_map {N : Nat} (hf : rises f N) : ∀ (n : Nat) (l : List Nat) (j : Nat), small N l → j < l.length → up (l.map f) j n = (nup l j n).map f ∧ small N (nup l j n)
  | 0, l, j, hs, hj => ⟨rfl, hs⟩
  | n + 1, l, j, hs, hj => by
    have hp := par_lt hj
    unfold up nup
    rw [at_map hj, at_map hp]
    have he : (f (nat_ l j) < f (nat_ l (par j))) ↔ (nat_ l j < nat_ l (par j)) := hf _ _ (small_at hs hj) (small_at hs hp)
    by_cases hc : par j = j ∨ ¬ nat_ l j < nat_ l (par j)
    · rw [if_pos hc, if_pos (by rw [he]; exact hc)]; exact ⟨rfl, hs⟩
    · rw [if_neg hc, if_neg (by rw [he]; exact hc), sw_map hp hj]
      exact up_map hf n _ _ (small_sw hs hp hj) (by rw [nsw_len]; exact hp)
theorem child_lt {l : List Nat} {i n : Nat} (h : 2 * i + 1 < n) : nchild l i n < n := by unfold nchild; split <;> omega
theorem down_map {N : Nat} (hf : rises f N) (n : Nat) : ∀ (m : Nat) (l : List Nat) (i : Nat), small N l → i < l.length → n ≤ l.length → down (l.map f) i n m = (ndown l i n m).map f ∧ small N (ndown l i n m)
  | 0, l, i, hs, hi, hn => ⟨rfl, hs⟩
  | m + 1, l, i, hs, hi, hn => by
    unfold down ndown
    by_cases h1 : 2 * i + 1 ≥ n
    · rw [if_pos (.inl h1), if_pos (.inl h1)]; exact ⟨rfl, hs⟩
    · have hc : child (l.map f) i n = nchild l i n := by
        unfold child nchild
        by_cases h2 : 2 * i + 2 < n
        · rw [at_map (show 2 * i + 2 < l.length by omega), at_map (show 2 * i + 1 < l.length by omega)]
          have he := hf _ _ (small_at hs (show 2 * i + 2 < l.length by omega)) (small_at hs (show 2 * i + 1 < l.length by omega))
          simp only [he]
        · rw [if_neg (by omega), if_neg (by omega)]
      have hcl : nchild l i n < l.length := Nat.lt_of_lt_of_le (child_lt (by omega)) hn
      rw [hc, at_map hcl, at_map hi]
      have he : (f (nat_ l (nchild l i n)) < f (nat_ l i)) ↔ (nat_ l (nchild l i n) < nat_ l i) := hf _ _ (small_at hs hcl) (small_at hs hi)
      by_cases h2 : 2 * i + 1 ≥ n ∨ ¬ nat_ l (nchild l i n) < nat_ l i
      · rw [if_pos h2, if_pos (by rw [he]; exact h2)]; exact ⟨rfl, hs⟩
      · rw [if_neg h2, if_neg (by rw [he]; exact h2), sw_map hi hcl]
        exact down_map hf n m _ _ (small_sw hs hi hcl) (by rw [nsw_len]; exact hcl) (by rw [nsw_len]; exact hn)
def npush (l : List Nat) (x : Nat) : List Nat := nup (l ++ [x]) l.length 6
def npop (l : List Nat) : Nat × List Nat := let l2 := ndown (nsw l 0 (l.length - 1)) 0 (l.length - 1) 6; (nat_ l2 (l.length - 1), l2.take (l.length - 1))
theorem push_map {N : Nat} (hf : rises f N) {l : List Nat} {x : Nat} (hs : small N l) (hx : x < N) : push (l.map f) (f x) = (npush l x).map f ∧ small N (npush l x) := by
  unfold push npush
  have := up_map hf 6 (l ++ [x]) l.length (by intro a ha; rcases List.mem_append.1 ha with ha | ha; exact hs a ha; rw [List.mem_singleton] at ha; subst ha; exact hx) (by simp)
  rw [List.map_append, List.map_singleton] at this
  rw [List.length_map]
  exact this
theorem pop_map {N : Nat} (hf : rises f N) {l : List Nat} (hs : small N l) (hl : 0 < l.length) : pop (l.map f) = (f (npop l).1, (npop l).2.map f) ∧ small N (npop l).2 ∧ (npop l).1 < N := by
  unfold pop npop
  dsimp only
  rw [List.length_map, sw_map hl (by omega)]
  have hs1 := small_sw hs (i := 0) (j := l.length - 1) hl (by omega)
  have h2 := down_map hf (l.length - 1) 6 _ 0 hs1 (by rw [nsw_len]; exact hl) (by rw [nsw_len]; omega)
  rw [h2.1, at_map (by rw [ndown_len, nsw_len]; omega), List.map_take]
  exact ⟨rfl, fun a ha => h2.2 a (List.mem_of_mem_take ha), small_at h2.2 (by rw [ndown_len, nsw_len]; omega)⟩
def npops : Nat → List Nat → List Nat
  | 0, _ => []
  | n + 1, l => (npop l).1 :: npops n (npop l).2
def pops : Nat → List Int → List Int
  | 0, _ => []
  | n + 1, l => (pop l).1 :: pops n (pop l).2
theorem npop_len (l : List Nat) : (npop l).2.length = l.length - 1 := by unfold npop; dsimp only; rw [List.length_take, ndown_len, nsw_len]; omega
theorem pops_map {N : Nat} (hf : rises f N) : ∀ (n : Nat) (l : List Nat), small N l → n ≤ l.length → pops n (l.map f) = (npops n l).map f
  | 0, l, hs, hn => rfl
  | n + 1, l, hs, hn => by
    have h := pop_map hf hs (by omega)
    unfold pops npops
    rw [h.1]
    dsimp only
    rw [pops_map hf n _ h.2.1 (by rw [npop_len]; omega)]
    rfl
def npushes (l : List Nat) : List Nat → List Nat
  | [] => l
  | x :: r => npushes (npush l x) r
theorem pushes_map {N : Nat} (hf : rises f N) : ∀ (xs : List Nat) (l : List Nat), small N l → small N xs → pushes (l.map f) (xs.map f) = (npushes l xs).map f ∧ small N (npushes l xs)
  | [], l, hs, hx => ⟨rfl, hs⟩
  | x :: r, l, hs, hx => by
    have h := push_map hf hs (hx x (by simp))
    rw [List.map_cons]
    unfold pushes npushes
    rw [h.1]
    exact pushes_map hf r _ h.2 (fun a ha => hx a (List.mem_cons_of_mem _ ha))
end
theorem npushes_len : ∀ (xs l : List Nat), (npushes l xs).length = l.length + xs.length
  | [], l => rfl
  | x :: r, l => by unfold npushes; rw [npushes_len r]; unfold npush; rw [nup_len]; simp; omega
theorem small_cases : ∀ n, n ≤ 6 → npops n (npushes [] (List.range n)) = List.range n := by decide
/-- rising numbers come out as they went in -/
theorem sorted_out {l : List Int} (hp : l.Pairwise (· < ·)) (h6 : l.length ≤ 6) : pops l.length (pushes [] l) = l := by
  have hf : rises (fun i => l.getD i 0) l.length := by
    intro a b ha hb
    show l.getD a 0 < l.getD b 0 ↔ a < b
    rw [List.getD_eq_getElem?_getD, List.getD_eq_getElem?_getD, List.getElem?_eq_getElem ha, List.getElem?_eq_getElem hb]
    have hp' := List.pairwise_iff_getElem.1 hp
    constructor
    · intro h
      rcases Nat.lt_trichotomy a b with h1 | h1 | h1
      · exact h1
      · subst h1; exact absurd h (Int.lt_irrefl _)
      · have := hp' b a hb ha h1
        simp only [Option.getD_some] at h
        omega
    · intro h
      exact hp' a b ha hb h
  have hl : (List.range l.length).map (fun i => l.getD i 0) = l := by
    apply List.ext_getElem
    · simp
    · intro i h1 h2
      rw [List.getElem_map, List.getElem_range, List.getD_eq_getElem?_getD, List.getElem?_eq_getElem h2]; rfl
  have hs : small l.length (List.range l.length) := fun a ha => List.mem_range.1 ha
  have h1 := pushes_map hf (List.range l.length) [] (fun a ha => by cases ha) hs
  rw [hl, List.map_nil] at h1
  rw [h1.1, pops_map hf l.length _ h1.2 (by rw [npushes_len, List.length_range]; simp), small_cases _ h6, hl]
end Hp
end Go.Proofs.Ytpbaimofffcnaaa
