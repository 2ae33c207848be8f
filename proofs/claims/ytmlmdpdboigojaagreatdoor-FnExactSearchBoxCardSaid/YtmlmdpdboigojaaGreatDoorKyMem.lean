/- Mailboxes, sets and keys: how they lie in memory, and what they hold. -/
import Derived.Test.YtmlmdpdboigojaaGreatDoorKt
import Derived.Test.YtmlmdpdboigojaaGreatDoorRx
import Derived.Deep.LoopGhost
import Derived.Deep.RegionWith
import Derived.Deep.DeepCutAuto
namespace Go.Proofs.YtmlmdpdboigojaaGreatDoor
set_option linter.unusedVariables false
open Go.RowKit Go.ChangeShapes Go.WideShapes Go.Deep

/-- a message -/
structure Ml where
  uid : Int
  flags : Int
  text : ByteArray
def Ml.cells (m : Ml) : List Value := [.int .i64 m.uid, .int .i64 m.flags, .string m.text]
theorem Ml.cells_len (m : Ml) : (Ml.cells m).length = 3 := rfl
abbrev Ml.val (m : Ml) : Value := .agg #[.int .i64 m.uid, .int .i64 m.flags, .string m.text]
/-- a span -/
abbrev Sn := Int × Int
def Sn.cells (s : Sn) : List Value := [.int .i64 s.1, .int .i64 s.2]
theorem Sn.cells_len (s : Sn) : (Sn.cells s).length = 2 := rfl
abbrev Sn.val (s : Sn) : Value := .agg #[.int .i64 s.1, .int .i64 s.2]
/-- a key that lies in memory -/
inductive Kx where
  | mk (kind flag : Int) (text : ByteArray) (A : Option Addr) (set : List Sn) (c : Nat) (KA : Option Addr) (keys : List Kx) (kc : Nat)
namespace Kx
def kind : Kx → Int | mk a _ _ _ _ _ _ _ _ => a
def flag : Kx → Int | mk _ a _ _ _ _ _ _ _ => a
def text : Kx → ByteArray | mk _ _ a _ _ _ _ _ _ => a
def A : Kx → Option Addr | mk _ _ _ a _ _ _ _ _ => a
def set : Kx → List Sn | mk _ _ _ _ a _ _ _ _ => a
def c : Kx → Nat | mk _ _ _ _ _ a _ _ _ => a
def KA : Kx → Option Addr | mk _ _ _ _ _ _ a _ _ => a
def keys : Kx → List Kx | mk _ _ _ _ _ _ _ a _ => a
def kc : Kx → Nat | mk _ _ _ _ _ _ _ _ a => a
def cells (x : Kx) : List Value := [.int .i64 x.kind, .int .i64 x.flag, .string x.text, .slice x.A x.set.length x.c, .slice x.KA x.keys.length x.kc]
theorem cells_len (x : Kx) : (cells x).length = 5 := rfl
def zero : Kx := mk 0 0 ⟨#[]⟩ none [] 0 none [] 0
end Kx
abbrev Kx.val (x : Kx) : Value := .agg #[.int .i64 x.kind, .int .i64 x.flag, .string x.text, .slice x.A x.set.length x.c, .slice x.KA x.keys.length x.kc]
/-- a key's content -/
inductive Kt where
  | mk (kind flag : Int) (text : ByteArray) (set : List Sn) (keys : List Kt)
namespace Kt
def kind : Kt → Int | mk a _ _ _ _ => a
def flag : Kt → Int | mk _ a _ _ _ => a
def text : Kt → ByteArray | mk _ _ a _ _ => a
def set : Kt → List Sn | mk _ _ _ a _ => a
def keys : Kt → List Kt | mk _ _ _ _ a => a
end Kt
/-- the content of a key, d levels of it -/
def Kx.v : Nat → Kx → Kt
  | 0, _ => .mk 0 0 ⟨#[]⟩ [] []
  | d + 1, x => .mk x.kind x.flag x.text x.set (x.keys.map (Kx.v d))
/-- how much a key holds -/
def Kt.sz : Nat → Kt → Nat
  | 0, _ => 0
  | d + 1, t => t.text.size + t.set.length + t.keys.length + (t.keys.map (Kt.sz d)).sum
def Kx.sz (d : Nat) (x : Kx) : Nat := Kt.sz d (Kx.v d x)
theorem Kx.sz_succ (d : Nat) (x : Kx) : Kx.sz (d + 1) x = x.text.size + x.set.length + x.keys.length + (x.keys.map (Kx.sz d)).sum := by
  show Kt.sz (d + 1) (Kx.v (d + 1) x) = _
  simp only [Kt.sz, Kx.v, Kt.text, Kt.set, Kt.keys, List.length_map, List.map_map]
  rfl

def AtSet (w : World) (B : Nat) (A : Option Addr) (ss : List Sn) : Prop := At w B 2 Sn.cells A ss
def AtMails (w : World) (B : Nat) (A : Option Addr) (ms : List Ml) : Prop := At w B 3 Ml.cells A ms
/-- a key lies below block B, d levels deep at most -/
def Kx.In : Nat → World → Nat → Kx → Prop
  | 0, _, _, _ => False
  | d + 1, w, B, x => x.text.size ≤ maxLen ∧ AtSet w B x.A x.set ∧ x.set.length ≤ x.c ∧ x.c ≤ maxLen ∧ At w B 5 Kx.cells x.KA x.keys ∧ x.keys.length ≤ x.kc ∧ x.kc ≤ maxLen ∧ ∀ y ∈ x.keys, Kx.In d w B y
theorem Kx.In.keep {w w' : World} {B : Nat} (hk : ∀ i, i < B → w'.heap[i]? = w.heap[i]?) : ∀ {d : Nat} {x : Kx}, Kx.In d w B x → Kx.In d w' B x
  | 0, _, h => h
  | d + 1, x, h => ⟨h.1, At.keep h.2.1 hk, h.2.2.1, h.2.2.2.1, h.2.2.2.2.1.keep hk, h.2.2.2.2.2.1, h.2.2.2.2.2.2.1, fun y hy => Kx.In.keep hk (h.2.2.2.2.2.2.2 y hy)⟩
theorem Kx.In.below {w w' : World} {B d : Nat} {x : Kx} (h : Kx.In d w B x) (hb : Below B w w') : Kx.In d w' B x := h.keep hb.block
theorem Kx.In.mono {w : World} {B B' : Nat} (hB : B ≤ B') : ∀ {d : Nat} {x : Kx}, Kx.In d w B x → Kx.In d w B' x
  | 0, _, h => h
  | d + 1, x, h => ⟨h.1, At.mono h.2.1 hB, h.2.2.1, h.2.2.2.1, h.2.2.2.2.1.mono hB, h.2.2.2.2.2.1, h.2.2.2.2.2.2.1, fun y hy => Kx.In.mono hB (h.2.2.2.2.2.2.2 y hy)⟩
section
variable {w w' : World} {B : Nat} {A : Option Addr}
theorem AtSet.row {ss : List Sn} (h : AtSet w B A ss) (hl : 0 < ss.length) : ∃ g off, A = some ⟨g, off, none⟩ ∧ g < B ∧ ∀ (k : Nat) (x : Sn), ss[k]? = some x →
    w.cell? ⟨g, off + k * 2, none⟩ = some (.int .i64 x.1) ∧ w.cell? ⟨g, off + k * 2 + 1, none⟩ = some (.int .i64 x.2) := by
  obtain ⟨g, off, ha, hg, hc⟩ := h hl
  exact ⟨g, off, ha, hg, fun k x hx => ⟨hc k x hx 0 _ rfl, hc k x hx 1 _ rfl⟩⟩
theorem AtMails.row {ms : List Ml} (h : AtMails w B A ms) (hl : 0 < ms.length) : ∃ g off, A = some ⟨g, off, none⟩ ∧ g < B ∧ ∀ (k : Nat) (x : Ml), ms[k]? = some x →
    w.cell? ⟨g, off + k * 3, none⟩ = some (.int .i64 x.uid) ∧ w.cell? ⟨g, off + k * 3 + 1, none⟩ = some (.int .i64 x.flags) ∧ w.cell? ⟨g, off + k * 3 + 2, none⟩ = some (.string x.text) := by
  obtain ⟨g, off, ha, hg, hc⟩ := h hl
  exact ⟨g, off, ha, hg, fun k x hx => ⟨hc k x hx 0 _ rfl, hc k x hx 1 _ rfl, hc k x hx 2 _ rfl⟩⟩
theorem keys_row {ks : List Kx} (h : At w B 5 Kx.cells A ks) (hl : 0 < ks.length) : ∃ g off, A = some ⟨g, off, none⟩ ∧ g < B ∧ ∀ (k : Nat) (x : Kx), ks[k]? = some x →
    w.cell? ⟨g, off + k * 5, none⟩ = some (.int .i64 x.kind) ∧ w.cell? ⟨g, off + k * 5 + 1, none⟩ = some (.int .i64 x.flag) ∧ w.cell? ⟨g, off + k * 5 + 2, none⟩ = some (.string x.text) ∧
    w.cell? ⟨g, off + k * 5 + 3, none⟩ = some (.slice x.A x.set.length x.c) ∧ w.cell? ⟨g, off + k * 5 + 4, none⟩ = some (.slice x.KA x.keys.length x.kc) := by
  obtain ⟨g, off, ha, hg, hc⟩ := h hl
  exact ⟨g, off, ha, hg, fun k x hx => ⟨hc k x hx 0 _ rfl, hc k x hx 1 _ rfl, hc k x hx 2 _ rfl, hc k x hx 3 _ rfl, hc k x hx 4 _ rfl⟩⟩
end
/-- the rows after some rounds of copying: these, then empty ones -/
def Ky.fill {α : Type} (z : α) (ms : List α) (n : Nat) : List α := ms ++ List.replicate (n - ms.length) z
section
variable {α : Type} {z : α}
theorem Ky.fill_len (ms : List α) (n : Nat) (h : ms.length ≤ n) : (Ky.fill z ms n).length = n := by unfold Ky.fill; rw [List.length_append, List.length_replicate]; omega
theorem Ky.fill_get (ms : List α) (n k : Nat) (hk : ms.length = k) (h : k < n) : (Ky.fill z ms n)[k]? = some z := by
  unfold Ky.fill
  rw [List.getElem?_append_right (by omega), List.getElem?_replicate, if_pos (by omega)]
theorem Ky.fill_set (ms : List α) (n k : Nat) (x : α) (hk : ms.length = k) (h : k < n) : (Ky.fill z ms n).set k x = Ky.fill z (ms ++ [x]) n := by
  unfold Ky.fill
  rw [List.set_append_right _ _ (by omega), hk, Nat.sub_self, List.length_append, List.length_singleton, hk]
  obtain ⟨m, hm⟩ : ∃ m, n - k = m + 1 := ⟨n - k - 1, by omega⟩
  rw [hm, List.replicate_succ, List.set_cons_zero, show n - (k + 1) = m by omega, List.append_assoc]; rfl
theorem Ky.fill_zero (n : Nat) : Ky.fill z [] n = List.replicate n z := by unfold Ky.fill; simp
theorem Ky.fill_all (ms : List α) : Ky.fill z ms ms.length = ms := by unfold Ky.fill; simp
theorem Ky.take_len {us : List α} {k : Nat} (h : k ≤ us.length) : (us.take k).length = k := by rw [List.length_take]; omega
theorem Ky.take_snoc {us : List α} {k : Nat} {u : α} (h : us[k]? = some u) : us.take (k + 1) = us.take k ++ [u] := by rw [List.take_add_one, h]; rfl
end
/-- a sum over a list, one more -/
theorem Ky.sum_snoc {α : Type} (f : α → Nat) {us : List α} {k : Nat} {u : α} (h : us[k]? = some u) : ((us.take (k + 1)).map f).sum = ((us.take k).map f).sum + f u := by
  rw [Ky.take_snoc h, List.map_append, List.sum_append]; simp
theorem Ky.sum_le {α : Type} (f : α → Nat) {us : List α} {k : Nat} : ((us.take k).map f).sum ≤ (us.map f).sum := by
  conv => rhs; rw [← List.take_append_drop k us]
  rw [List.map_append, List.sum_append]; omega
theorem Ky.mem_le {α : Type} (f : α → Nat) {us : List α} {u : α} (h : u ∈ us) : f u ≤ (us.map f).sum := by
  induction us with
  | nil => cases h
  | cons a r ih =>
    rw [List.map_cons, List.sum_cons]
    rcases List.mem_cons.1 h with rfl | h
    · omega
    · have := ih h; omega

theorem span_info : (Tryz.prog.info? 81).map (fun i => (i.zero, i.size, i.bytes)) = some (some (.agg #[.int .i64 0, .int .i64 0]), 2, 16) := by kernel_rfl
theorem mail_info : (Tryz.prog.info? 74).map (fun i => (i.zero, i.size, i.bytes)) = some (some (.agg #[.int .i64 0, .int .i64 0, .string ⟨#[]⟩]), 3, 32) := by kernel_rfl
theorem key_info : (Tryz.prog.info? 40).map (fun i => (i.zero, i.size, i.bytes)) = some (some (.agg #[.int .i64 0, .int .i64 0, .string ⟨#[]⟩, .slice none 0 0, .slice none 0 0]), 5, 80) := by kernel_rfl
end Go.Proofs.YtmlmdpdboigojaaGreatDoor
