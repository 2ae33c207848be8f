/- SmP: SmPlain SmPlain2, in one text. -/
import Derived.Test.YtpjifcljkgcnlaaGreatDoorPl
import Derived.Test.YtpjifcljkgcnlaaGreatDoorUpS
import Derived.Test.YtpjifcljkgcnlaaGreatDoorSbX
namespace Go.Proofs.YtpjifcljkgcnlaaGreatDoor
set_option linter.unusedVariables false
open Us (U)

structure Sm.S where
  st : Int
  user : ByteArray
  tos : List ByteArray
  text : ByteArray
namespace Sm
def e0 : ByteArray := ⟨#[]⟩
def ok (s : S) : Bool := Sb.ok s.st s.user s.tos s.text
def back (s : S) : S := ⟨if 2 ≤ s.st then 2 else s.st, s.user, [], e0⟩
/-- a line without its first dot -/
def strip (l : ByteArray) : ByteArray := if l.data.toList.head? = some 46 then l.extract 1 l.size else l
def cut21 (t : ByteArray) : ByteArray := t.extract 0 (min t.size 21)
def data (s : S) (l : ByteArray) : S × Int :=
  if l = ⟨#[46]⟩ then (back s, if 20 < s.text.size then 552 else 250)
  else ({ s with text := cut21 (s.text ++ strip l ++ ⟨#[10]⟩) }, 0)
def hello (s : S) (ws : List ByteArray) : S × Int := match ws with
  | [_, d] => if Dm.ok d.data.toList = true then (back { s with st := if s.st = 0 then 1 else s.st }, 250) else (s, 501)
  | _ => (s, 501)
def auth (us : List U) (s : S) (ws : List ByteArray) : S × Int :=
  if ¬ s.st = 1 then (s, 503) else match ws with
  | [_, m, t] => if m = ⟨#[80, 76, 65, 73, 78]⟩ then (match Up.ans us t.data.toList with
      | some n => (⟨2, Ct.mk n, [], e0⟩, 235)
      | none => (s, 535)) else (s, 501)
  | _ => (s, 501)
def begF : List UInt8 := [77, 65, 73, 76, 32, 70, 82, 79, 77, 58]
def begT : List UInt8 := [82, 67, 80, 84, 32, 84, 79, 58]
def mail (d : ByteArray) (s : S) (l : ByteArray) : S × Int :=
  if s.st < 2 then (s, 530) else if ¬ s.st = 2 then (s, 503) else match Pa.behind begF l.data.toList with
  | some (a, b) => if Ct.mk a = s.user ∧ Ct.mk b = d then ({ s with st := 3 }, 250) else (s, 550)
  | none => (s, 501)
def knows (us : List U) (n : ByteArray) : Bool := (Us.find us n).isSome
def rcpt (us : List U) (d : ByteArray) (s : S) (l : ByteArray) : S × Int :=
  if ¬ (s.st = 3 ∨ s.st = 4) then (s, 503) else match Pa.behind begT l.data.toList with
  | some (a, b) => if Ct.mk b = d ∧ knows us (Ct.mk a) = true then (if St.has s.tos (Ct.mk a) = true then (s, 250) else if 3 ≤ s.tos.length then (s, 452) else (⟨4, s.user, s.tos ++ [Ct.mk a], e0⟩, 250)) else (s, 550)
  | none => (s, 501)
def plain (s : S) (l : ByteArray) : S × Int :=
  if l = ⟨#[68, 65, 84, 65]⟩ then (if s.st = 4 then ({ s with st := 5 }, 354) else (s, 503))
  else if l = ⟨#[82, 83, 69, 84]⟩ then (back s, 250)
  else if l = ⟨#[78, 79, 79, 80]⟩ then (s, 250)
  else if l = ⟨#[81, 85, 73, 84]⟩ then (⟨6, e0, [], e0⟩, 221)
  else (s, 500)
def word (us : List U) (d : ByteArray) (s : S) (l : ByteArray) (ws : List ByteArray) : S × Int := match ws with
  | w0 :: _ => if w0 = ⟨#[69, 72, 76, 79]⟩ then hello s ws
    else if w0 = ⟨#[65, 85, 84, 72]⟩ then auth us s ws
    else if w0 = ⟨#[77, 65, 73, 76]⟩ then mail d s l
    else if w0 = ⟨#[82, 67, 80, 84]⟩ then rcpt us d s l
    else plain s l
  | [] => (s, 500)
/-- what a line does, and the reply -/
def line (us : List U) (d : ByteArray) (s : S) (l : ByteArray) : S × Int :=
  if s.st = 6 then (s, 503) else if s.st = 5 then data s l else word us d s l (Ct.cutB 32 l)

theorem empty_of {t : ByteArray} (h : t.toList.isEmpty = true) : t = e0 := by
  rw [Go.ByteArray.toList_eq] at h
  cases t with
  | mk d =>
    unfold e0
    congr
    exact Array.toList_inj.1 (by simpa using h)
theorem ok_split {s : S} (h : ok s = true) :
    ((s.st = 0 ∨ s.st = 1 ∨ s.st = 6) ∧ s.user = e0 ∧ s.tos = [] ∧ s.text = e0) ∨
    ((s.st = 2 ∨ s.st = 3) ∧ Nm.nameOk s.user.data.toList = true ∧ s.tos = [] ∧ s.text = e0) ∨
    (s.st = 4 ∧ Nm.nameOk s.user.data.toList = true ∧ Sb.recv s.tos = true ∧ s.text = e0) ∨
    (s.st = 5 ∧ Nm.nameOk s.user.data.toList = true ∧ Sb.recv s.tos = true ∧ s.text.size ≤ 21) := by
  unfold ok Sb.ok at h
  split at h
  · rename_i h1
    simp only [Bool.and_eq_true, decide_eq_true_eq] at h
    exact .inl ⟨h1, empty_of h.1, List.eq_nil_of_length_eq_zero h.2.1, empty_of h.2.2⟩
  · split at h
    · rename_i h1
      simp only [Bool.and_eq_true, decide_eq_true_eq] at h
      exact .inr (.inl ⟨h1, h.1, List.eq_nil_of_length_eq_zero h.2.1, empty_of h.2.2⟩)
    · split at h
      · rename_i h1
        simp only [Bool.and_eq_true] at h
        exact .inr (.inr (.inl ⟨h1, h.1, h.2.1, empty_of h.2.2⟩))
      · split at h
        · rename_i h1
          simp only [Bool.and_eq_true, decide_eq_true_eq] at h
          exact .inr (.inr (.inr ⟨h1, h.1, h.2.1, h.2.2⟩))
        · cases h
theorem e0_empty : e0.toList.isEmpty = true := by rw [Go.ByteArray.toList_eq]; rfl
theorem ok_idle {st : Int} (h : st = 0 ∨ st = 1 ∨ st = 6) : ok ⟨st, e0, [], e0⟩ = true := by
  unfold ok; dsimp only; rw [Sb.ok0 h, e0_empty]; rfl
theorem ok_user {st : Int} {u : ByteArray} (h : st = 2 ∨ st = 3) (hu : Nm.nameOk u.data.toList = true) : ok ⟨st, u, [], e0⟩ = true := by
  unfold ok; dsimp only; rw [Sb.ok2 h, hu, e0_empty]; rfl
theorem ok_to {u : ByteArray} {tos : List ByteArray} (hu : Nm.nameOk u.data.toList = true) (ht : Sb.recv tos = true) : ok ⟨4, u, tos, e0⟩ = true := by
  unfold ok; dsimp only; rw [Sb.ok4 rfl, hu, ht, e0_empty]; rfl
theorem ok_data {u t : ByteArray} {tos : List ByteArray} (hu : Nm.nameOk u.data.toList = true) (ht : Sb.recv tos = true) (h : t.size ≤ 21) : ok ⟨5, u, tos, t⟩ = true := by
  unfold ok; dsimp only; rw [Sb.ok5 rfl, hu, ht]; simp [h]
/-- sizes that a valid session has -/
theorem ok_sizes {s : S} (h : ok s = true) : s.user.size ≤ 8 ∧ s.tos.length ≤ 3 ∧ (∀ u ∈ s.tos, u.size ≤ 8) ∧ s.text.size ≤ 21 ∧ 0 ≤ s.st ∧ s.st ≤ 6 := by
  have hn : ∀ {u : ByteArray}, Nm.nameOk u.data.toList = true → u.size ≤ 8 := fun {u} h => by
    have := (Nm.nameOk_len h).2
    rwa [Array.length_toList] at this
  have hr : ∀ {tos : List ByteArray}, Sb.recv tos = true → tos.length ≤ 3 ∧ ∀ u ∈ tos, u.size ≤ 8 := fun {tos} h => by
    unfold Sb.recv at h
    simp only [Bool.and_eq_true] at h
    obtain ⟨h1, h2, _⟩ := (St.namesOk_iff tos).1 h.1
    exact ⟨h1, fun u hu => hn (h2 u hu)⟩
  have z : e0.size = 0 := rfl
  rcases ok_split h with ⟨h1, h2, h3, h4⟩ | ⟨h1, h2, h3, h4⟩ | ⟨h1, h2, h3, h4⟩ | ⟨h1, h2, h3, h4⟩
  · rw [h2, h3, h4]; simp [z]; omega
  · have := hn h2
    rw [h3, h4]; simp [z]; omega
  · have := hn h2
    obtain ⟨a, b⟩ := hr h3
    rw [h4]; exact ⟨this, a, b, by simp [z], by omega, by omega⟩
  · have := hn h2
    obtain ⟨a, b⟩ := hr h3
    exact ⟨this, a, b, h4, by omega, by omega⟩
theorem back_ok {s : S} (h : ok s = true) (h6 : ¬ s.st = 6) : ok (back s) = true := by
  unfold back
  rcases ok_split h with ⟨h1, h2, h3, h4⟩ | ⟨h1, h2, h3, h4⟩ | ⟨h1, h2, h3, h4⟩ | ⟨h1, h2, h3, h4⟩
  · rw [if_neg (by omega), h2]; exact ok_idle (by omega)
  all_goals rw [if_pos (by omega)]; exact ok_user (.inl rfl) h2
end Sm
end Go.Proofs.YtpjifcljkgcnlaaGreatDoor

namespace Go.Proofs.YtpjifcljkgcnlaaGreatDoor
set_option linter.unusedVariables false
open Us (U)

theorem Ct.mk_list (l : List UInt8) : (Ct.mk l).data.toList = l := rfl
theorem Ct.mk_inj {a b : List UInt8} (h : Ct.mk a = Ct.mk b) : a = b := by
  have := congrArg (fun x : ByteArray => x.data.toList) h
  exact this
theorem Pp.parse_names {t n p : List UInt8} (h : Pp.parse t = some (n, p)) : Nm.nameOk n = true ∧ Nm.nameOk p = true := by
  unfold Pp.parse at h
  split at h
  · unfold Pp.parts at h
    split at h
    · split at h
      · rename_i hk
        injection h with h
        injection h with h1 h2
        subst h1; subst h2
        exact ⟨hk.2.1, hk.2.2⟩
      · cases h
    · cases h
  · cases h
theorem Up.ans_inv {us : List U} {t n : List UInt8} (h : Up.ans us t = some n) : Nm.nameOk n = true ∧ ∃ p, Pp.parse t = some (n, p) ∧ Us.proves us (Ct.mk n) (Ct.mk p) = true := by
  cases hp : Pp.parse t with
  | none => rw [Up.ans_none hp] at h; cases h
  | some np =>
    obtain ⟨n', p⟩ := np
    cases hv : Us.proves us (Ct.mk n') (Ct.mk p)
    · rw [Up.ans_no hp hv] at h; cases h
    · rw [Up.ans_yes hp hv] at h
      injection h with h
      subst h
      exact ⟨(Pp.parse_names hp).1, p, rfl, hv⟩
theorem Pa.behind_some {g l a b : List UInt8} (h : Pa.behind g l = some (a, b)) : Nm.nameOk a = true ∧ Dm.ok b = true := by
  unfold Pa.behind at h
  split at h
  · obtain ⟨_, h2, h3⟩ := Pa.path_some h
    exact ⟨h2, h3⟩
  · cases h
theorem Sb.recv_snoc {us : List ByteArray} {u : ByteArray} (h : us = [] ∨ Sb.recv us = true) (hu : Nm.nameOk u.data.toList = true) (hh : St.has us u = false) (hl : us.length < 3) : Sb.recv (us ++ [u]) = true := by
  unfold Sb.recv
  rw [Bool.and_eq_true]
  refine ⟨(St.namesOk_iff _).2 ⟨by simp; omega, ?_, ?_⟩, by simp⟩
  · intro x hx
    rcases List.mem_append.1 hx with hx | hx
    · rcases h with rfl | h
      · cases hx
      · unfold Sb.recv at h
        rw [Bool.and_eq_true] at h
        exact ((St.namesOk_iff us).1 h.1).2.1 x hx
    · rw [List.mem_singleton] at hx; subst hx; exact hu
  · rw [List.nodup_append]
    refine ⟨?_, by simp, fun a ha b hb => ?_⟩
    · rcases h with rfl | h
      · exact List.nodup_nil
      · unfold Sb.recv at h
        rw [Bool.and_eq_true] at h
        exact ((St.namesOk_iff us).1 h.1).2.2
    · rw [List.mem_singleton] at hb; subst hb
      rintro rfl
      rw [(St.has_iff us a).2 ha] at hh
      cases hh

namespace Sm
theorem cut21_size (t : ByteArray) : (cut21 t).size ≤ 21 := by
  unfold cut21
  rw [ByteArray.size_extract]; omega
theorem data_ok {s : S} (h : ok s = true) (h5 : s.st = 5) (l : ByteArray) : ok (data s l).1 = true := by
  unfold data
  split
  · exact back_ok h (by omega)
  · rcases ok_split h with ⟨h1, _⟩ | ⟨h1, _⟩ | ⟨h1, _⟩ | ⟨h1, h2, h3, h4⟩
    · omega
    · omega
    · omega
    · dsimp only
      rw [h1]
      exact ok_data h2 h3 (cut21_size _)
theorem hello_ok {s : S} (h : ok s = true) (h6 : ¬ s.st = 6) (ws : List ByteArray) : ok (hello s ws).1 = true := by
  unfold hello
  split
  · split
    · by_cases h0 : s.st = 0
      · rcases ok_split h with ⟨h1, h2, h3, h4⟩ | ⟨h1, _⟩ | ⟨h1, _⟩ | ⟨h1, _⟩
        · refine back_ok ?_ ?_
          · rw [if_pos h0, h2, h3, h4]; exact ok_idle (by omega)
          · rw [if_pos h0]; dsimp only; omega
        all_goals omega
      · rw [if_neg h0]
        exact back_ok h h6
    · exact h
  · exact h
theorem auth_ok {us : List U} {s : S} (h : ok s = true) (ws : List ByteArray) : ok (auth us s ws).1 = true := by
  unfold auth
  split
  · exact h
  · split
    · split
      · split
        · rename_i n hn
          exact ok_user (.inl rfl) (Up.ans_inv hn).1
        · exact h
      · exact h
    · exact h
theorem mail_ok {d : ByteArray} {s : S} (h : ok s = true) (l : ByteArray) : ok (mail d s l).1 = true := by
  unfold mail
  split
  · exact h
  · split
    · exact h
    · rename_i h1 h2
      split
      · split
        · rcases ok_split h with ⟨h1, _⟩ | ⟨h1, h2, h3, h4⟩ | ⟨h1, _⟩ | ⟨h1, _⟩
          · omega
          · dsimp only
            rw [h3, h4]
            exact ok_user (.inr rfl) h2
          · omega
          · omega
        · exact h
      · exact h
theorem rcpt_ok {us : List U} {d : ByteArray} {s : S} (h : ok s = true) (l : ByteArray) : ok (rcpt us d s l).1 = true := by
  unfold rcpt
  split
  · exact h
  · rename_i hst
    split
    · rename_i a b hb
      split
      · split
        · exact h
        · split
          · exact h
          · rename_i hh hl
            dsimp only
            have hh : St.has s.tos (Ct.mk a) = false := by simpa using hh
            have ha := (Pa.behind_some hb).1
            rcases ok_split h with ⟨h1, _⟩ | ⟨h1, h2, h3, h4⟩ | ⟨h1, h2, h3, h4⟩ | ⟨h1, _⟩
            · omega
            · exact ok_to h2 (Sb.recv_snoc (.inl h3) ha hh (by omega))
            · exact ok_to h2 (Sb.recv_snoc (.inr h3) ha hh (by omega))
            · omega
      · exact h
    · exact h
theorem plain_ok {s : S} (h : ok s = true) (h6 : ¬ s.st = 6) (l : ByteArray) : ok (plain s l).1 = true := by
  unfold plain
  split
  · split
    · rcases ok_split h with ⟨h1, _⟩ | ⟨h1, _⟩ | ⟨h1, h2, h3, h4⟩ | ⟨h1, _⟩
      · omega
      · omega
      · dsimp only
        refine ok_data h2 h3 ?_
        rw [h4]; decide
      · omega
    · exact h
  · split
    · exact back_ok h h6
    · split
      · exact h
      · split
        · exact ok_idle (by omega)
        · exact h
theorem line_ok {us : List U} {d : ByteArray} {s : S} (h : ok s = true) (l : ByteArray) : ok (line us d s l).1 = true := by
  unfold line
  split
  · exact h
  · rename_i h6
    split
    · rename_i h5; exact data_ok h h5 l
    · unfold word
      split
      · split
        · exact hello_ok h h6 _
        · split
          · exact auth_ok h _
          · split
            · exact mail_ok h l
            · split
              · exact rcpt_ok h l
              · exact plain_ok h h6 l
      · exact h
end Sm
end Go.Proofs.YtpjifcljkgcnlaaGreatDoor
