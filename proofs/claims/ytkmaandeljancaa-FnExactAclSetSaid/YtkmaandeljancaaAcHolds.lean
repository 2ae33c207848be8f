/- What a map of grants holds: as a list, in whatever order. -/
import Derived.Test.YtkmaandeljancaaAcAt
import Derived.Test.YtkmaandeljancaaAcPlain3
import Derived.Sort.KeysCollected
import Derived.Sort.Walk0
namespace Go.Proofs.Ytkmaandeljancaa
set_option linter.unusedVariables false
open Go.RowKit Go.Maps Go.Sort
open Ac (G)

def Ac.enc (u : G) : Lit × DataW Unit := (.string u.user.data.toList, .lit (.int .i64 u.rights))
def Ac.Holds (D : DataW Unit) (us : List G) : Prop := ∃ es, D = .map es ∧ es.Perm (us.map Ac.enc)
theorem insert_perm {H : Type} (x : Lit × DataW H) : ∀ l, (DataW.insert x l).Perm (x :: l)
  | [] => List.Perm.refl _
  | y :: r => by
    unfold DataW.insert
    split
    · exact List.Perm.refl _
    · exact ((insert_perm x r).cons y).trans (List.Perm.swap ..)
theorem Ac.sameKey_enc (u : G) (s : ByteArray) : (Ac.enc u).1.sameKey (.string s.data.toList) = Ac.same u.user s := by
  show (u.user.data.toList == s.data.toList) = (u.user.toList == s.toList)
  rw [Go.ByteArray.toList_eq, Go.ByteArray.toList_eq]
theorem Ac.filter_enc (us : List G) (s : ByteArray) : (us.map Ac.enc).filter (fun p => !p.1.sameKey (.string s.data.toList)) = (Ac.drop us s).map Ac.enc := by
  unfold Ac.drop
  rw [List.filter_map]
  congr 1
  apply List.filter_congr
  intro u _
  show (!(Ac.enc u).1.sameKey (.string s.data.toList)) = _
  rw [Ac.sameKey_enc]
theorem Ac.Holds.del {D : DataW Unit} {us : List G} (h : Ac.Holds D us) (s : ByteArray) : Ac.Holds (D.del (.string s.data.toList)) (Ac.drop us s) := by
  obtain ⟨es, rfl, hp⟩ := h
  refine ⟨_, rfl, ?_⟩
  rw [← Ac.filter_enc]
  exact hp.filter _
theorem Ac.Holds.put {D : DataW Unit} {us : List G} (h : Ac.Holds D us) (s : ByteArray) (r : Int) : Ac.Holds (D.put (.string s.data.toList) (.lit (.int .i64 r))) (⟨s, r⟩ :: Ac.drop us s) := by
  obtain ⟨es, rfl, hp⟩ := h
  refine ⟨_, rfl, (insert_perm _ _).trans ?_⟩
  rw [List.map_cons, ← Ac.filter_enc]
  exact (hp.filter _).cons _
theorem Ac.Holds.perm {D : DataW Unit} {us vs : List G} (h : Ac.Holds D us) (hp : us.Perm vs) : Ac.Holds D vs := by
  obtain ⟨es, rfl, h1⟩ := h
  exact ⟨es, rfl, h1.trans (hp.map _)⟩
theorem Ac.Holds.size {D : DataW Unit} {us : List G} (h : Ac.Holds D us) : Maps.size D = us.length := by
  obtain ⟨es, rfl, hp⟩ := h
  rw [Maps.size_eq, hp.length_eq, List.length_map]
theorem Ac.Holds.keys {D : DataW Unit} {us : List G} (h : Ac.Holds D us) : (strKeys D).Perm (us.map fun u => u.user.data.toList) := by
  obtain ⟨es, rfl, hp⟩ := h
  have := hp.map (fun p => strOf p.1)
  rw [List.map_map] at this
  exact this
theorem Ac.Holds.at_ {D : DataW Unit} {us : List G} (h : Ac.Holds D us) (hp : us.Pairwise (fun a b => slt a.user b.user = true)) {u : G} (hu : u ∈ us) (z : DataW Unit) : D.atKey (.string u.user.data.toList) z = .lit (.int .i64 u.rights) := by
  obtain ⟨es, rfl, hpm⟩ := h
  have hm : Ac.enc u ∈ es := hpm.mem_iff.2 (List.mem_map.2 ⟨u, hu, rfl⟩)
  have hs : (es.find? (fun p => p.1.sameKey (.string u.user.data.toList))).isSome = true := by
    rw [List.find?_isSome]
    exact ⟨_, hm, by rw [Ac.sameKey_enc]; exact Ac.same_iff.2 rfl⟩
  obtain ⟨p, hf⟩ := Option.isSome_iff_exists.1 hs
  simp only [DataW.atKey, hf]
  have hpe := List.mem_of_find?_eq_some hf
  have hpk : p.1.sameKey (.string u.user.data.toList) = true := by simpa using List.find?_some hf
  obtain ⟨v, hv, rfl⟩ := List.mem_map.1 (hpm.mem_iff.1 hpe)
  rw [Ac.sameKey_enc, Ac.same_iff] at hpk
  have e : v = u := by
    obtain ⟨i, hi, rfl⟩ := List.mem_iff_getElem.1 hv
    obtain ⟨j, hj, rfl⟩ := List.mem_iff_getElem.1 hu
    rw [List.pairwise_iff_getElem] at hp
    rcases Nat.lt_trichotomy i j with h1 | h1 | h1
    · exact absurd hpk (slt_ne (hp i j hi hj h1))
    · subst h1; rfl
    · exact absurd hpk.symm (slt_ne (hp j i hj hi h1))
  subst e; rfl
theorem Ac.drop_fresh {us : List G} {s : ByteArray} (h : ∀ u ∈ us, u.user ≠ s) : Ac.drop us s = us := Ac.drop_all fun u hu => Ac.same_no.2 (h u hu)
theorem Ac.mapD_holds {us : List G} (hp : us.Pairwise (fun a b => slt a.user b.user = true)) : ∀ k, k ≤ us.length → Ac.Holds (Ac.mapD us k) (us.take k)
  | 0, _ => ⟨[], rfl, by simp⟩
  | k + 1, h => by
    have hu := List.getElem?_eq_getElem (by omega : k < us.length)
    have ht : us.take (k + 1) = us.take k ++ [us[k]] := by rw [List.take_add_one, hu]; rfl
    rw [Ac.mapD_succ hu, ht]
    refine ((Ac.mapD_holds hp k (by omega)).put us[k].user us[k].rights).perm ?_
    rw [Ac.drop_fresh (fun u hu => ?_)]
    · exact (List.perm_append_singleton _ _).symm
    · obtain ⟨i, hi, rfl⟩ := List.mem_take_iff_getElem.1 hu
      rw [List.pairwise_iff_getElem] at hp
      exact slt_ne (hp i k (by omega) (by omega) (by omega))
theorem Ac.ins_perm (us : List G) (s : ByteArray) (r : Int) : (⟨s, r⟩ :: us).Perm (Ac.ins us s r) := by
  induction us with
  | nil => exact List.Perm.refl _
  | cons u us ih =>
    rw [Ac.ins]
    split
    · exact (List.Perm.swap ..).trans (ih.cons u)
    · exact List.Perm.refl _
/-- the sorted names of a list in order are its names -/
theorem Ac.sorted_names {bs : List G} (hp : bs.Pairwise (fun a b => slt a.user b.user = true)) {ss : List (List UInt8)} (hs : ss.Perm (bs.map fun u => u.user.data.toList)) :
    ss.mergeSort leB = bs.map fun u => u.user.data.toList := by
  rw [mergeSort_of_perm hs]
  refine List.mergeSort_of_pairwise ?_
  rw [List.pairwise_map]
  refine hp.imp fun {a b} h => ?_
  simp only [leB, decide_eq_true_eq]
  unfold slt at h
  rw [bytesLess_eq, decide_eq_true_eq, Go.ByteArray.toList_eq, Go.ByteArray.toList_eq] at h
  exact List.le_of_lt h
def Ac.nameCell (u : G) : List Value := [.string u.user]
theorem Ac.nameCell_len (u : G) : (Ac.nameCell u).length = 1 := rfl
theorem Ac.enc_names (bs : List G) : (bs.map fun u => u.user.data.toList).map encStr = bs.flatMap Ac.nameCell := by
  induction bs with
  | nil => rfl
  | cons u bs ih =>
    rw [List.map_cons, List.map_cons, ih, List.flatMap_cons]
    show [encStr u.user.data.toList] ++ _ = [Value.string u.user] ++ _
    have e : encStr u.user.data.toList = .string u.user := by unfold encStr; rw [Array.toArray_toList]
    rw [e]; rfl

end Go.Proofs.Ytkmaandeljancaa
