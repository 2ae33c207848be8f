/- What certain lines do to a session: plain facts for the laws on one line. -/
import Derived.Test.YtnbggmmghopphaaGreatDoorSmP
import Derived.Test.YtnbggmmghopphaaGreatDoorUpPlain
import Derived.Test.YtnbggmmghopphaaGreatDoorPl
namespace Go.Proofs.YtnbggmmghopphaaGreatDoor
set_option linter.unusedVariables false
open Us (U)

theorem Ct.cutB_w0 {w r : List UInt8} {l : ByteArray} (hl : l.data.toList = w ++ 32 :: r) (hw : ∀ x ∈ w, x ≠ 32) : Ct.cutB 32 l = Ct.mk w :: (Ct.cut 32 r).map Ct.mk := by
  unfold Ct.cutB; rw [hl, Ct.cut_at 32 r w hw]; rfl
theorem Pa.behind_of {g l p : List UInt8} (h : l = g ++ p) : Pa.behind g l = Pa.path p := by
  subst h
  unfold Pa.behind
  rw [if_pos (List.prefix_append g p), List.drop_left]
theorem Pa.path_nil : Pa.path [60, 62] = none := by decide
theorem Pa.path_name {n : List UInt8} (h : Nm.nameOk n = true) (r : List UInt8) : Pa.path (n ++ r) = none := by
  have h1 := (Nm.nameOk_len h).1
  cases n with
  | nil => simp at h1
  | cons c n =>
    have hc : c ≠ 60 := Dm.all_ne (Dm.name_all h) (by decide : Nm.nb 60 = false) c (by simp)
    show Pa.path (c :: (n ++ r)) = none
    unfold Pa.path
    split
    · rename_i e; injection e with e _; exact absurd e hc
    · rfl
theorem B6.sign_ne (v : Nat) : B6.sign v ≠ 32 := by
  by_cases h : v < 64
  · have : ∀ v, v < 64 → B6.sign v ≠ 32 := by decide
    exact this v h
  · unfold B6.sign
    rw [List.getD_eq_getElem?_getD, List.getElem?_eq_none (by have : B6.tab.length = 64 := rfl; omega)]
    decide
theorem B6.enc_ne (l : List UInt8) : ∀ x ∈ B6.enc l, x ≠ 32 := by
  induction l using B6.enc.induct with
  | case1 => intro x hx; simp [B6.enc] at hx
  | case2 a =>
    intro x hx
    simp only [B6.enc, List.mem_cons, List.not_mem_nil, or_false] at hx
    rcases hx with rfl | rfl | rfl | rfl
    · exact B6.sign_ne _
    · exact B6.sign_ne _
    · decide
    · decide
  | case3 a b =>
    intro x hx
    simp only [B6.enc, List.mem_cons, List.not_mem_nil, or_false] at hx
    rcases hx with rfl | rfl | rfl | rfl
    · exact B6.sign_ne _
    · exact B6.sign_ne _
    · exact B6.sign_ne _
    · decide
  | case4 a b c r ih =>
    intro x hx
    simp only [B6.enc, List.cons_append, List.nil_append, List.mem_cons] at hx
    rcases hx with rfl | rfl | rfl | rfl | hx
    · exact B6.sign_ne _
    · exact B6.sign_ne _
    · exact B6.sign_ne _
    · exact B6.sign_ne _
    · exact ih x hx
theorem Pp.make_ne (u p : ByteArray) : ∀ x ∈ (Pp.make u p).data.toList, x ≠ 32 := by
  intro x hx
  unfold Pp.make at hx
  split at hx
  · exact B6.enc_ne _ x hx
  · exact absurd hx (by simp)

namespace Sm
theorem line_mail (us : List U) {d : ByteArray} {s : S} {l : ByteArray} {r : List UInt8} (h6 : ¬ s.st = 6) (h5 : ¬ s.st = 5) (hl : l.data.toList = begF ++ r) : line us d s l = mail d s l := by
  have hc := Ct.cutB_w0 (w := [77, 65, 73, 76]) (r := [70, 82, 79, 77, 58] ++ r) (l := l) (by rw [hl]; rfl) (by decide)
  unfold line
  rw [if_neg h6, if_neg h5, hc]
  unfold word
  dsimp only
  rw [if_neg (by decide), if_neg (by decide), if_pos (by decide)]
theorem line_rcpt (us : List U) {d : ByteArray} {s : S} {l : ByteArray} {r : List UInt8} (h6 : ¬ s.st = 6) (h5 : ¬ s.st = 5) (hl : l.data.toList = begT ++ r) : line us d s l = rcpt us d s l := by
  have hc := Ct.cutB_w0 (w := [82, 67, 80, 84]) (r := [84, 79, 58] ++ r) (l := l) (by rw [hl]; rfl) (by decide)
  unfold line
  rw [if_neg h6, if_neg h5, hc]
  unfold word
  dsimp only
  rw [if_neg (by decide), if_neg (by decide), if_neg (by decide), if_pos (by decide)]
theorem line_auth (us : List U) {d : ByteArray} {s : S} {l : ByteArray} {r : List UInt8} (h6 : ¬ s.st = 6) (h5 : ¬ s.st = 5) (hl : l.data.toList = [65, 85, 84, 72] ++ 32 :: r) : line us d s l = auth us s (⟨#[65, 85, 84, 72]⟩ :: (Ct.cut 32 r).map Ct.mk) := by
  have hc := Ct.cutB_w0 (w := [65, 85, 84, 72]) (r := r) (l := l) hl (by decide)
  unfold line
  rw [if_neg h6, if_neg h5, hc]
  unfold word
  dsimp only
  rw [if_neg (by decide), if_pos (by decide)]
  rfl
/-- the text of a path -/
def pathL (a b : List UInt8) : List UInt8 := 60 :: (a ++ 64 :: b) ++ [62]
theorem from_yes (us : List U) {d : ByteArray} {s : S} {l : ByteArray} (hs : s.st = 2) (hl : l.data.toList = begF ++ pathL s.user.data.toList d.data.toList) (hf : Nm.nameOk s.user.data.toList = true) (hd : Dm.ok d.data.toList = true) : line us d s l = ({ s with st := 3 }, 250) := by
  rw [line_mail us (by omega) (by omega) hl]
  unfold mail
  rw [if_neg (by omega), if_neg (by omega), Pa.behind_of hl]
  unfold pathL
  rw [Pa.path_mk hf hd]
  dsimp only
  rw [if_pos ⟨Ct.mk_self s.user, Ct.mk_self d⟩]
theorem from_no (us : List U) {d : ByteArray} {s : S} {l : ByteArray} (hs : s.st = 2) {a b : List UInt8} (hl : l.data.toList = begF ++ pathL a b) (ha : Nm.nameOk a = true) (hb : Dm.ok b = true) (hn : ¬ (Ct.mk a = s.user ∧ Ct.mk b = d)) : line us d s l = (s, 550) := by
  rw [line_mail us (by omega) (by omega) hl]
  unfold mail
  rw [if_neg (by omega), if_neg (by omega), Pa.behind_of hl]
  unfold pathL
  rw [Pa.path_mk ha hb]
  dsimp only
  rw [if_neg hn]
theorem from_nil (us : List U) {d : ByteArray} {s : S} {l : ByteArray} (hs : s.st = 2) (hl : l.data.toList = begF ++ [60, 62]) : line us d s l = (s, 501) := by
  rw [line_mail us (by omega) (by omega) hl]
  unfold mail
  rw [if_neg (by omega), if_neg (by omega), Pa.behind_of hl, Pa.path_nil]
theorem rcpt_early (us : List U) {d : ByteArray} {s : S} {l : ByteArray} {r : List UInt8} (hs : s.st ≤ 2) (hl : l.data.toList = begT ++ r) : line us d s l = (s, 503) := by
  rw [line_rcpt us (by omega) (by omega) hl]
  unfold rcpt
  rw [if_pos (by omega)]
theorem rcpt_none (us : List U) {d : ByteArray} {s : S} {l : ByteArray} {r : List UInt8} (hs : s.st = 3 ∨ s.st = 4) (hl : l.data.toList = begT ++ r) (hp : Pa.path r = none) : line us d s l = (s, 501) := by
  rw [line_rcpt us (by omega) (by omega) hl]
  unfold rcpt
  rw [if_neg (by omega), Pa.behind_of hl, hp]
theorem rcpt_no (us : List U) {d : ByteArray} {s : S} {l : ByteArray} (hs : s.st = 3 ∨ s.st = 4) {a b : List UInt8} (hl : l.data.toList = begT ++ pathL a b) (ha : Nm.nameOk a = true) (hb : Dm.ok b = true) (hn : ¬ (Ct.mk b = d ∧ knows us (Ct.mk a) = true)) : line us d s l = (s, 550) := by
  rw [line_rcpt us (by omega) (by omega) hl]
  unfold rcpt
  rw [if_neg (by omega), Pa.behind_of hl]
  unfold pathL
  rw [Pa.path_mk ha hb]
  dsimp only
  rw [if_neg hn]
theorem rcpt_yes (us : List U) {d : ByteArray} {s : S} {a l : ByteArray} (hs : s.st = 3 ∨ s.st = 4) (hl : l.data.toList = begT ++ pathL a.data.toList d.data.toList) (ha : Nm.nameOk a.data.toList = true) (hb : Dm.ok d.data.toList = true) (hn : knows us a = true) :
    line us d s l = if St.has s.tos a = true then (s, 250) else if 3 ≤ s.tos.length then (s, 452) else (⟨4, s.user, s.tos ++ [a], e0⟩, 250) := by
  rw [line_rcpt us (by omega) (by omega) hl]
  unfold rcpt
  rw [if_neg (by omega), Pa.behind_of hl]
  unfold pathL
  rw [Pa.path_mk ha hb]
  dsimp only
  rw [Ct.mk_self, Ct.mk_self, if_pos ⟨rfl, hn⟩]
theorem auth_wrong (us : List U) {d : ByteArray} {s : S} {l t : ByteArray} (hs : s.st = 1) (hl : l.data.toList = [65, 85, 84, 72, 32, 80, 76, 65, 73, 78, 32] ++ t.data.toList) (ht : ∀ x ∈ t.data.toList, x ≠ 32) (hn : Up.ans us t.data.toList = none) : line us d s l = (s, 535) := by
  rw [line_auth us (by omega) (by omega) (r := [80, 76, 65, 73, 78] ++ 32 :: t.data.toList) (by rw [hl]; rfl), Ct.cut_at 32 _ _ (by decide), Ct.cut_none 32 _ ht]
  unfold auth
  rw [if_neg (by omega)]
  show (if Ct.mk [80, 76, 65, 73, 78] = ⟨#[80, 76, 65, 73, 78]⟩ then _ else _) = _
  rw [if_pos (by decide)]
  show (match Up.ans us t.data.toList with | some n => _ | none => _) = _
  rw [hn]
theorem auth_login (us : List U) {d : ByteArray} {s : S} (hs : s.st = 1) : line us d s ⟨#[65, 85, 84, 72, 32, 76, 79, 71, 73, 78, 32, 120]⟩ = (s, 501) := by
  rw [line_auth us (by omega) (by omega) (r := [76, 79, 71, 73, 78, 32, 120]) (by rfl)]
  unfold auth
  rw [if_neg (by omega), show (Ct.cut 32 [76, 79, 71, 73, 78, 32, 120]).map Ct.mk = [⟨#[76, 79, 71, 73, 78]⟩, ⟨#[120]⟩] from rfl]
  dsimp only
  rw [if_neg (by decide)]
theorem auth_short (us : List U) {d : ByteArray} {s : S} (hs : s.st = 1) : line us d s ⟨#[65, 85, 84, 72, 32, 80, 76, 65, 73, 78]⟩ = (s, 501) := by
  rw [line_auth us (by omega) (by omega) (r := [80, 76, 65, 73, 78]) (by rfl)]
  unfold auth
  rw [if_neg (by omega), show (Ct.cut 32 [80, 76, 65, 73, 78]).map Ct.mk = [⟨#[80, 76, 65, 73, 78]⟩] from rfl]
theorem find_mem {us : List U} {u : U} (h : Us.usersOk us = true) (hu : u ∈ us) : Us.find us u.name = some u := by
  obtain ⟨k, hk⟩ := List.mem_iff_getElem?.1 hu
  exact Us.find_at h hk
theorem knows_mem {us : List U} {u : U} (h : Us.usersOk us = true) (hu : u ∈ us) : knows us u.name = true := by
  unfold knows; rw [find_mem h hu]; rfl
theorem name_mem {us : List U} {u : U} (h : Us.usersOk us = true) (hu : u ∈ us) : Nm.nameOk u.name.data.toList = true := by
  have := ((Us.usersOk_iff us).1 h).2.1 u hu
  unfold Us.valid at this
  simp only [Bool.and_eq_true] at this
  exact this.1.1.1
theorem pass_mem {us : List U} {u : U} (h : Us.usersOk us = true) (hu : u ∈ us) : Nm.nameOk u.pass.data.toList = true := by
  have := ((Us.usersOk_iff us).1 h).2.1 u hu
  unfold Us.valid at this
  simp only [Bool.and_eq_true] at this
  exact this.1.2
theorem pass_wrong {us : List U} {u : U} (h : Us.usersOk us = true) (hu : u ∈ us) : Up.ans us (Pp.make u.name (u.pass ++ ⟨#[97]⟩)).data.toList = none := by
  rw [Up.ans_make]
  cases hv : Us.proves us u.name (u.pass ++ ⟨#[97]⟩)
  · rfl
  · obtain ⟨u', h1, _, _, hp, _⟩ := Us.proves_inv hv
    have h2 : Us.ans us u.name = some u := by unfold Us.ans; rw [h]; exact find_mem h hu
    rw [h2] at h1
    injection h1 with h1
    subst h1
    have := congrArg ByteArray.size hp
    rw [ByteArray.size_append] at this
    exact absurd this (by show ¬ _ = _ + 1; omega)
theorem app_list (a b : ByteArray) : (a ++ b).data.toList = a.data.toList ++ b.data.toList := by rw [ByteArray.data_append, Array.toList_append]
/-- the texts of the laws -/
def zed : List UInt8 := [122, 101, 100]
theorem text5 (g : List UInt8) (G x y : ByteArray) (hG : G.data.toList = g ++ [60]) : (G ++ x ++ ByteArray.mk #[64] ++ y ++ ByteArray.mk #[62]).data.toList = g ++ pathL x.data.toList y.data.toList := by
  rw [app_list, app_list, app_list, app_list, hG]
  show g ++ [60] ++ x.data.toList ++ [64] ++ y.data.toList ++ [62] = _
  unfold pathL
  simp
theorem text3a (g : List UInt8) (G y : ByteArray) (hG : G.data.toList = g ++ [60, 122, 101, 100, 64]) : (G ++ y ++ ByteArray.mk #[62]).data.toList = g ++ pathL zed y.data.toList := by
  rw [app_list, app_list, hG]
  show g ++ [60, 122, 101, 100, 64] ++ y.data.toList ++ [62] = _
  unfold pathL zed
  simp
theorem text3b (g : List UInt8) (G x : ByteArray) (hG : G.data.toList = g ++ [60]) : (G ++ x ++ ByteArray.mk #[64, 122, 101, 100, 62]).data.toList = g ++ pathL x.data.toList zed := by
  rw [app_list, app_list, hG]
  show g ++ [60] ++ x.data.toList ++ [64, 122, 101, 100, 62] = _
  unfold pathL zed
  simp
theorem text4 (G x y : ByteArray) : (G ++ x ++ ByteArray.mk #[64] ++ y).data.toList = G.data.toList ++ (x.data.toList ++ 64 :: y.data.toList) := by
  rw [app_list, app_list, app_list]
  show G.data.toList ++ x.data.toList ++ [64] ++ y.data.toList = _
  simp
/-- a session of stage 2 -/
theorem ok_two {s : S} (h : ok s = true) (h2 : s.st = 2) : Nm.nameOk s.user.data.toList = true ∧ s.tos = [] ∧ s.text = e0 := by
  rcases ok_split h with ⟨a, _⟩ | ⟨a, b, c, e⟩ | ⟨a, _⟩ | ⟨a, _⟩
  · omega
  · exact ⟨b, c, e⟩
  · omega
  · omega
theorem ok_to3 {s : S} (h : ok s = true) (h2 : s.st = 3 ∨ s.st = 4) : s.text = e0 ∧ s.tos.length ≤ 3 := by
  refine ⟨?_, (ok_sizes h).2.1⟩
  rcases ok_split h with ⟨a, _⟩ | ⟨a, b, c, e⟩ | ⟨a, b, c, e⟩ | ⟨a, _⟩
  · omega
  · exact e
  · exact e
  · omega
theorem dom_size {d : ByteArray} (h : Dm.ok d.data.toList = true) : d.size ≤ 20 := by
  have := Dm.ok_len h
  rwa [Array.length_toList] at this
theorem name_size {d : ByteArray} (h : Nm.nameOk d.data.toList = true) : d.size ≤ 8 := by
  have := (Nm.nameOk_len h).2
  rwa [Array.length_toList] at this
theorem make_sz30 {u p : ByteArray} (hu : u.size ≤ 30) (hp : p.size ≤ 30) : (Pp.make u p).size ≤ 200 := by
  unfold Pp.make
  split
  · show (B6.enc _).toArray.size ≤ 200
    rw [List.size_toArray, B6.enc_len]
    simp only [List.length_cons, List.length_append, Array.length_toList]
    have : u.data.size = u.size := rfl
    have : p.data.size = p.size := rfl
    omega
  · exact Nat.zero_le _
theorem zed_ok : Nm.nameOk [122, 101, 100] = true := by decide
theorem zed_dm : Dm.ok [122, 101, 100] = true := by decide
end Sm
end Go.Proofs.YtnbggmmghopphaaGreatDoor
