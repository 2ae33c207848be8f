/- DomainValid, AddressParse, PathParse of the specification. -/
import Derived.Test.YtpjifcljkgcnlaaGreatDoorPl
import Derived.Test.YtpjifcljkgcnlaaGreatDoorCtS
import Derived.Test.YtpjifcljkgcnlaaGreatDoorRx
import Derived.Test.YtpjifcljkgcnlaaGreatDoorB6Y
import Derived.BigQuiet
import Derived.Deep.RegionHeld3
import Derived.StillTailTactics
namespace Go.Proofs.YtpjifcljkgcnlaaGreatDoor
set_option linter.unusedVariables false
open Go.RowKit

theorem Ct.cutB_size {c : UInt8} {s u : ByteArray} (h : u ∈ Ct.cutB c s) : u.size ≤ s.size := by
  unfold Ct.cutB at h
  obtain ⟨p, hp, rfl⟩ := List.mem_map.1 h
  have := Ct.cut_size c s.data.toList p hp
  have hl : s.data.toList.length = s.size := Array.length_toList
  show p.toArray.size ≤ s.size
  simp; omega
theorem Ct.cutB_len {c : UInt8} {s : ByteArray} : (Ct.cutB c s).length ≤ s.size + 1 := by
  unfold Ct.cutB
  rw [List.length_map]
  have := Ct.cut_len c s.data.toList
  have hl : s.data.toList.length = s.size := Array.length_toList
  omega
theorem Dm.ok_cut (s : ByteArray) : Dm.ok s.data.toList = ((Ct.cutB 46 s).all (fun u => Nm.nameOk u.data.toList) && decide ((Ct.cutB 46 s).length ≤ 3) && decide (s.size ≤ 20)) := by
  unfold Dm.ok Ct.cutB
  rw [List.all_map, List.length_map, Array.length_toList]
  rfl
theorem all_stop {us : List ByteArray} {k : Nat} {u : ByteArray} (hu : us[k]? = some u) (h : Nm.nameOk u.data.toList = false) : us.all (fun u => Nm.nameOk u.data.toList) = false := by
  rw [List.all_eq_false]
  exact ⟨u, List.mem_of_getElem? hu, by rw [h]; decide⟩

set_option maxRecDepth 100000 in
set_option maxHeartbeats 1600000 in
theorem sDomainValid_any (s : ByteArray) (hs : s.size ≤ 16777216) (w : World) :
    Calls Tryz.prog 22 #[.string s] w fun e w' => e = .returned (.bool (Dm.ok s.data.toList)) ∧ Below w.heap.size w w' := by
  go_enter Tryz.func22, Tryz.ntmps22
  go_wp2_with fail
  refine (l1Cut_any s 46 hs _).mono ?_
  rintro e w1 ⟨A, c, rfl, ho, hb⟩
  have HAT := Lib.hid (Pp.strs ho rfl (fun u hu => by have := Ct.cutB_size hu; unfold maxLen; omega))
  have HOK := Lib.hid (Dm.ok_cut s)
  have hlen := Ct.cutB_len (c := 46) (s := s)
  clear ho
  generalize Ct.cutB 46 s = us at HAT HOK hlen ⊢
  go_wp2_with fail
  go_loopg [4] us.length (fun g i wr => ∃ k : Nat, k ≤ us.length ∧ Hid (g = us.length - k) ∧ i = .int .i64 (k : Int) ∧ Hid ((us.take k).all (fun u => Nm.nameOk u.data.toList) = true) ∧ wr = w1)
  case atStart => exact ⟨0, by omega, Lib.hid rfl, rfl, Lib.hid rfl, rfl⟩
  case round =>
    obtain ⟨k, hk, HG, rfl, HN, rfl⟩ := hrel
    by_cases hlt : k < us.length
    · obtain ⟨g, off, rfl, hg, hc⟩ := HAT.out.1 (by omega)
      obtain ⟨u, hu⟩ : ∃ u, us[k]? = some u := ⟨_, List.getElem?_eq_getElem hlt⟩
      have c1 := hc k u hu
      have z1 := HAT.out.2 u (List.mem_of_getElem? hu)
      have HU := Lib.hid hu
      clear hu hc
      cases n1 : Nm.nameOk u.data.toList
      · have HF : Hid (Dm.ok s.data.toList = false) := Lib.hid (by rw [HOK.out, all_stop HU.out n1]; rfl)
        have HN1 := Lib.hid n1
        clear n1
        go_wp2_with fail
        refine (sNameValid_any u _ z1).mono ?_
        rintro e w3 ⟨rfl, rfl⟩
        rw [HN1.out]
        go_wp2_with fail
        go_ret
        exact ⟨by rw [HF.out]; rfl, hb⟩
      · have HT : Hid ((us.take (k + 1)).all (fun u => Nm.nameOk u.data.toList) = true) := Lib.hid (by
          rw [List.take_add_one, HU.out, List.all_append, HN.out]; simp [n1])
        have HN1 := Lib.hid n1
        clear n1
        go_wp2_with fail
        refine (sNameValid_any u _ z1).mono ?_
        rintro e w3 ⟨rfl, rfl⟩
        rw [HN1.out]
        go_wp2_with fail
        go_roundg (us.length - (k + 1))
        case measure => have := HG.out; omega
        case rel => exact ⟨k + 1, by omega, Lib.hid rfl, by go_num, HT, rfl⟩
    · obtain rfl : k = us.length := by omega
      have HA : Hid (us.all (fun u => Nm.nameOk u.data.toList) = true) := Lib.hid (by have := HN.out; rwa [List.take_length] at this)
      by_cases h3 : us.length ≤ 3
      · by_cases h20 : s.size ≤ 20
        · have HF : Hid (Dm.ok s.data.toList = true) := Lib.hid (by rw [HOK.out, HA.out]; simp [h3, h20])
          go_wp2_with fail
          go_ret
          exact ⟨by rw [HF.out]; first | rfl | (simp; omega), hb⟩
        · have HF : Hid (Dm.ok s.data.toList = false) := Lib.hid (by rw [HOK.out, HA.out]; simp [h3, h20])
          go_wp2_with fail
          go_ret
          exact ⟨by rw [HF.out]; first | rfl | (simp; omega), hb⟩
      · have HF : Hid (Dm.ok s.data.toList = false) := Lib.hid (by rw [HOK.out, HA.out]; simp [h3])
        go_wp2_with fail
        go_ret
        exact ⟨by rw [HF.out]; first | rfl | (simp; omega), hb⟩

set_option maxRecDepth 100000 in
set_option maxHeartbeats 1600000 in
theorem l1Address_any (u d : ByteArray) (hu : u.size ≤ 16777216) (hd : d.size ≤ 16777216) (w : World) :
    Calls Tryz.prog 92 #[.agg #[.string u, .string d]] w fun e w' => e = .returned (.bool (Nm.nameOk u.data.toList && Dm.ok d.data.toList)) ∧ Below w.heap.size w w' := by
  have hB0 : Below w.heap.size w (w.alloc (.cells #[.string u, .string d] 81)) := (Below.refl _ _).alloc (Nat.le_refl _) _
  cases n1 : Nm.nameOk u.data.toList
  · have HN1 := Lib.hid n1
    clear n1
    go_enter Tryz.func92, Tryz.ntmps92
    go_wp2_with fail
    refine (sNameValid_any u _ (by unfold maxLen; omega)).mono ?_
    rintro e w3 ⟨rfl, rfl⟩
    rw [HN1.out]
    go_wp2_with fail
    go_ret
    exact ⟨rfl, hB0⟩
  · have HN1 := Lib.hid n1
    clear n1
    go_enter Tryz.func92, Tryz.ntmps92
    go_wp2_with fail
    refine (sNameValid_any u _ (by unfold maxLen; omega)).mono ?_
    rintro e w3 ⟨rfl, rfl⟩
    rw [HN1.out]
    go_wp2_with fail
    refine (sDomainValid_any d hd _).mono ?_
    rintro e w4 ⟨rfl, hb⟩
    go_wp2_with fail
    go_ret
    exact ⟨by simp, hB0.trans (hb.mono hB0.size)⟩

/-- an address, and whether there is one -/
def Pa.val : Option (List UInt8 × List UInt8) → Value
  | some (a, b) => .tuple #[.agg #[.string (Ct.mk a), .string (Ct.mk b)], .bool true]
  | none => .tuple #[.agg #[.string ⟨#[]⟩, .string ⟨#[]⟩], .bool false]
theorem Pa.parse_cut {s u d : ByteArray} (h : Ct.cutB 64 s = [u, d]) : Pa.parse s.data.toList = if Nm.nameOk u.data.toList = true ∧ Dm.ok d.data.toList = true then some (u.data.toList, d.data.toList) else none := by
  unfold Ct.cutB at h
  unfold Pa.parse
  match hc : Ct.cut 64 s.data.toList, h with
  | [a, b], h =>
    simp only [List.map_cons, List.map_nil, List.cons.injEq, and_true] at h
    obtain ⟨rfl, rfl⟩ := h
    rfl
theorem Pa.parse_len {s : ByteArray} (h : ¬ (Ct.cutB 64 s).length = 2) : Pa.parse s.data.toList = none := by
  unfold Ct.cutB at h
  rw [List.length_map] at h
  unfold Pa.parse
  match hc : Ct.cut 64 s.data.toList with
  | [a, b] => rw [hc] at h; exact absurd rfl h
  | [] => rfl
  | [a] => rfl
  | a :: b :: c :: r => rfl

set_option maxRecDepth 100000 in
set_option maxHeartbeats 1600000 in
theorem sAddressParse_any (s : ByteArray) (hs : s.size ≤ 16777216) (w : World) :
    Calls Tryz.prog 78 #[.string s] w fun e w' => e = .returned (Pa.val (Pa.parse s.data.toList)) ∧ Below w.heap.size w w' := by
  have hx0 := heap_alloc_new w (.cells #[.string ⟨#[]⟩, .string ⟨#[]⟩] 81)
  have hB0 : Below w.heap.size w (w.alloc (.cells #[.string ⟨#[]⟩, .string ⟨#[]⟩] 81)) := (Below.refl _ _).alloc (Nat.le_refl _) _
  have hs0 : w.heap.size < (w.alloc (.cells #[.string ⟨#[]⟩, .string ⟨#[]⟩] 81)).heap.size := by simp
  go_enter Tryz.func78, Tryz.ntmps78
  go_upto_region 1 with fail
  generalize w.alloc (.cells #[.string ⟨#[]⟩, .string ⟨#[]⟩] 81) = w0 at hx0 hB0 hs0 ⊢
  go_wp2_with fail
  refine (l1Cut_any s 64 hs _).mono ?_
  rintro e w1 ⟨A, c, rfl, ho, hb⟩
  have hB1 := hB0.trans (hb.mono hB0.size)
  have hx1 := (hb.block _ hs0).trans hx0
  have hs1 : w.heap.size < w1.heap.size := Nat.lt_of_lt_of_le hs0 hb.size
  have r0 : w1.cell? ⟨w.heap.size, 0, none⟩ = some (.string ⟨#[]⟩) := cell_at hx1 0 _ rfl
  have r1 : w1.cell? ⟨w.heap.size, 1, none⟩ = some (.string ⟨#[]⟩) := cell_at hx1 1 _ rfl
  have z0 := free_at hx1 0
  have z1 := free_at hx1 1
  have HAT := Lib.hid (Pp.strs ho rfl (fun u hu => by have := Ct.cutB_size hu; unfold maxLen; omega))
  clear ho hx0 hb hB0 hs0
  by_cases h2 : (Ct.cutB 64 s).length = 2
  · obtain ⟨u, d, hus⟩ : ∃ u d, Ct.cutB 64 s = [u, d] := by
      match hc : Ct.cutB 64 s, h2 with
      | [a, b], _ => exact ⟨a, b, rfl⟩
    have hu := Ct.cutB_size (c := 64) (s := s) (u := u) (by rw [hus]; simp)
    have hd := Ct.cutB_size (c := 64) (s := s) (u := d) (by rw [hus]; simp)
    have HP := Lib.hid (Pa.parse_cut hus)
    rw [hus] at HAT ⊢
    clear hus h2
    obtain ⟨g, off, rfl, hg, hc⟩ := HAT.out.1 (by simp)
    have d0 : w1.cell? ⟨g, off, none⟩ = some (.string u) := hc 0 u rfl
    have d1 : w1.cell? ⟨g, off + 1, none⟩ = some (.string d) := hc 1 d rfl
    clear hc
    go_wp2_with fail
    go_region_held3 (fun w' => w'.cell? ⟨g, off, none⟩ = some (.string u) ∧ w'.cell? ⟨g, off + 1, none⟩ = some (.string d)) (first | exact ⟨d0, d1⟩ | go_keep) (fail)
    have hy1 : (w1.alloc (.cells #[.string u, .string d] 81)).drew.heap[w.heap.size]? = some (.cells #[.string ⟨#[]⟩, .string ⟨#[]⟩] 81 (0, 0)) := (Below.heap_alloc w1 _ _ hs1).trans hx1
    have hy2 : (w1.alloc (.cells #[.string u, .string d] 81)).drew.heap[w1.heap.size]? = some (.cells #[.string u, .string d] 81 (0, 0)) := heap_alloc_new w1 _
    have hB2 : Below w.heap.size w (w1.alloc (.cells #[.string u, .string d] 81)).drew := (hB1.alloc hB1.size _).drew
    have hs2 : w1.heap.size < (w1.alloc (.cells #[.string u, .string d] 81)).drew.heap.size := by simp [World.drew]
    rename_i hheld
    clear hheld r0 r1 z0 z1 d0 d1 HAT hx1 hB1
    generalize (w1.alloc (.cells #[.string u, .string d] 81)).drew = w2 at hy1 hy2 hB2 hs2 ⊢
    have q0 : w2.cell? ⟨w1.heap.size, 0, none⟩ = some (.string u) := cell_at hy2 0 _ rfl
    have q1 : w2.cell? ⟨w1.heap.size, 1, none⟩ = some (.string d) := cell_at hy2 1 _ rfl
    go_wp2_with fail
    refine (l1Address_any u d (by omega) (by omega) _).mono ?_
    rintro e w3 ⟨rfl, hb3⟩
    have hx3 := (hb3.block _ (by omega)).trans hy1
    have hx4 := (hb3.block _ hs2).trans hy2
    have hB3 := hB2.trans (hb3.mono hB2.size)
    have hs3 : w.heap.size < w3.heap.size := by have := hb3.size; omega
    have r0 : w3.cell? ⟨w.heap.size, 0, none⟩ = some (.string ⟨#[]⟩) := cell_at hx3 0 _ rfl
    have r1 : w3.cell? ⟨w.heap.size, 1, none⟩ = some (.string ⟨#[]⟩) := cell_at hx3 1 _ rfl
    have z0 := free_at hx3 0
    have z1 := free_at hx3 1
    have p0 : w3.cell? ⟨w1.heap.size, 0, none⟩ = some (.string u) := cell_at hx4 0 _ rfl
    have p1 : w3.cell? ⟨w1.heap.size, 1, none⟩ = some (.string d) := cell_at hx4 1 _ rfl
    clear q0 q1 hx3 hx4 hy1 hy2 hb3
    have HB4 : Hid (∀ a b, Below w.heap.size w ((w3.setCell ⟨w.heap.size, 0, none⟩ a).setCell ⟨w.heap.size, 1, none⟩ b)) := Lib.hid fun a b => (hB3.setCell (p := ⟨w.heap.size, 0, none⟩) (Nat.le_refl _) _).setCell (p := ⟨w.heap.size, 1, none⟩) (Nat.le_refl _) _
    have HYN : Hid ((Nm.nameOk u.data.toList && Dm.ok d.data.toList) = true → Pa.parse s.data.toList = some (u.data.toList, d.data.toList)) := Lib.hid fun h => by
      rw [Bool.and_eq_true] at h
      rw [HP.out, if_pos h]
    have HNN : Hid ((Nm.nameOk u.data.toList && Dm.ok d.data.toList) = false → Pa.parse s.data.toList = none) := Lib.hid fun h => by
      rw [HP.out, if_neg]
      intro k
      rw [k.1, k.2] at h; cases h
    cases hv : (Nm.nameOk u.data.toList && Dm.ok d.data.toList)
    · have HR := Lib.hid (HNN.out hv)
      clear hv HYN HNN
      go_wp2_with fail
      refine bodyPost_ret (v := .tuple #[.agg #[.string ⟨#[]⟩, .string ⟨#[]⟩], .bool false]) (by simp [results, Tryz.results78, go_sem, r0, r1]) rfl ⟨by rw [HR.out]; rfl, HB4.out _ _⟩
    · have HR := Lib.hid (HYN.out hv)
      clear hv HYN HNN
      go_wp2_with fail
      refine bodyPost_ret (v := .tuple #[.agg #[.string u, .string d], .bool true]) (by simp [results, Tryz.results78, go_sem, r0, r1]) rfl ⟨?_, HB4.out _ _⟩
      rw [HR.out]
      unfold Pa.val
      dsimp only
      rw [← Ct.ext (s := u) rfl, ← Ct.ext (s := d) rfl]
  · have HN := Lib.hid (Pa.parse_len h2)
    have h2i : ¬ (((Ct.cutB 64 s).length : Nat) : Int) = 2 := by omega
    clear HAT
    generalize (Ct.cutB 64 s).length = n at h2i ⊢
    clear h2
    go_wp2_with fail
    refine bodyPost_ret (v := .tuple #[.agg #[.string ⟨#[]⟩, .string ⟨#[]⟩], .bool false]) (by simp [results, Tryz.results78, go_sem, r0, r1]) rfl ⟨by rw [HN.out]; rfl, ?_⟩
    exact (hB1.setCell (p := ⟨w.heap.size, 0, none⟩) (Nat.le_refl _) _).setCell (p := ⟨w.heap.size, 1, none⟩) (Nat.le_refl _) _

/-- of a path, the empty one among them -/
def Pa.pval (l : List UInt8) : Value := if l = [60, 62] then .tuple #[.agg #[.string ⟨#[]⟩, .string ⟨#[]⟩], .bool true] else Pa.val (Pa.path l)
theorem Pa.path_cut {s : ByteArray} (h2 : 2 ≤ s.size) (h0 : s[0]'(by omega) = 60) (h1 : s[s.size - 1]'(by omega) = 62) : Pa.path s.data.toList = Pa.parse (s.extract 1 (s.size - 1)).data.toList := by
  have hl : s.data.toList.length = s.size := Array.length_toList
  have e0 : s.data.toList[0]? = some 60 := by rw [B6.at_size (by omega), h0]
  have e1 : s.data.toList[s.size - 1]? = some 62 := by rw [B6.at_size (by omega), h1]
  have ex : (s.extract 1 (s.size - 1)).data.toList = (s.data.toList.drop 1).take (s.size - 1 - 1) := by rw [Ct.extract_mk]; rfl
  rw [ex]
  generalize s.data.toList = L at hl e0 e1 ⊢
  match L, hl, e0, e1 with
  | a :: r, hl, e0, e1 =>
    simp at e0
    subst e0
    have hr : r.length = s.size - 1 := by simp at hl; omega
    have e3 : r.getLast? = some 62 := by
      rw [List.getLast?_eq_getElem?, hr]
      have : s.size - 1 = (s.size - 1 - 1) + 1 := by omega
      rw [this, List.getElem?_cons_succ] at e1
      exact e1
    show (if r.getLast? = some 62 then Pa.parse r.dropLast else none) = _
    rw [if_pos e3, List.dropLast_eq_take, hr]
    rfl
theorem Pa.path_bad {s : ByteArray} (h : ¬ (2 ≤ s.size ∧ s.data.toList[0]? = some 60 ∧ s.data.toList[s.size - 1]? = some 62)) : Pa.path s.data.toList = none := by
  cases hp : Pa.path s.data.toList with
  | none => rfl
  | some x =>
    obtain ⟨a, b⟩ := x
    obtain ⟨e, _, _⟩ := Pa.path_some hp
    have hl : s.data.toList.length = s.size := Array.length_toList
    have hz := congrArg List.length e
    rw [hl] at hz
    simp only [List.length_append, List.length_cons, List.length_nil] at hz
    refine absurd ⟨by omega, by rw [e]; rfl, ?_⟩ h
    rw [e, List.getElem?_append_right (by simp; omega)]
    have : s.size - 1 - (60 :: (a ++ 64 :: b)).length = 0 := by simp only [List.length_cons, List.length_append]; omega
    rw [this]; rfl

set_option maxRecDepth 100000 in
set_option maxHeartbeats 1600000 in
theorem sPathParse_any (s : ByteArray) (hs : s.size ≤ 16777216) (w : World) :
    Calls Tryz.prog 67 #[.string s] w fun e w' => e = .returned (Pa.pval s.data.toList) ∧ Below w.heap.size w w' := by
  have hx0 := heap_alloc_new w (.cells #[.string ⟨#[]⟩, .string ⟨#[]⟩] 81)
  have hB0 : Below w.heap.size w (w.alloc (.cells #[.string ⟨#[]⟩, .string ⟨#[]⟩] 81)) := (Below.refl _ _).alloc (Nat.le_refl _) _
  have hs0 : w.heap.size < (w.alloc (.cells #[.string ⟨#[]⟩, .string ⟨#[]⟩] 81)).heap.size := by simp
  have HSL : Hid (s.data.toList.length = s.size) := Lib.hid Array.length_toList
  have HPV : Hid (Pa.pval s.data.toList = if s.data.toList = [60, 62] then .tuple #[.agg #[.string ⟨#[]⟩, .string ⟨#[]⟩], .bool true] else Pa.val (Pa.path s.data.toList)) := Lib.hid rfl
  go_enter Tryz.func67, Tryz.ntmps67
  go_upto_region 1 with fail
  generalize w.alloc (.cells #[.string ⟨#[]⟩, .string ⟨#[]⟩] 81) = w0 at hx0 hB0 hs0 ⊢
  have r0 : w0.cell? ⟨w.heap.size, 0, none⟩ = some (.string ⟨#[]⟩) := cell_at hx0 0 _ rfl
  have r1 : w0.cell? ⟨w.heap.size, 1, none⟩ = some (.string ⟨#[]⟩) := cell_at hx0 1 _ rfl
  have z0 := free_at hx0 0
  have z1 := free_at hx0 1
  have HB4 : Hid (∀ a b, Below w.heap.size w ((w0.setCell ⟨w.heap.size, 0, none⟩ a).setCell ⟨w.heap.size, 1, none⟩ b)) := Lib.hid fun a b => (hB0.setCell (p := ⟨w.heap.size, 0, none⟩) (Nat.le_refl _) _).setCell (p := ⟨w.heap.size, 1, none⟩) (Nat.le_refl _) _
  by_cases hem : s.data.toList = [60, 62]
  · have hq : (s.toList == [60, 62]) = true := by rw [Go.ByteArray.toList_eq, hem]; rfl
    have HR := Lib.hid (HPV.out.trans (if_pos hem))
    clear hem
    go_wp2_with fail
    refine bodyPost_ret (v := .tuple #[.agg #[.string ⟨#[]⟩, .string ⟨#[]⟩], .bool true]) (by simp [results, Tryz.results67, go_sem, r0, r1]) rfl ⟨by rw [HR.out], HB4.out _ _⟩
  · have hq : (s.toList == [60, 62]) = false := by rw [Go.ByteArray.toList_eq]; simpa using hem
    have HR := Lib.hid (HPV.out.trans (if_neg hem))
    clear hem
    by_cases hok : 2 ≤ s.size ∧ s.data.toList[0]? = some 60 ∧ s.data.toList[s.size - 1]? = some 62
    · obtain ⟨h2, e0, e1⟩ := hok
      have f0 : s[0]'(by omega) = 60 := by rw [B6.at_size (by omega)] at e0; injection e0
      have f1 : s[s.size - 1]'(by omega) = 62 := by rw [B6.at_size (by omega)] at e1; injection e1
      have HC := Lib.hid (Pa.path_cut h2 f0 f1)
      have b0 : (((s[0]'(by omega)).toNat : Int) != 60) = false := by rw [f0]; rfl
      have b1 : (((s[s.size - 1]'(by omega)).toNat : Int) != 62) = false := by rw [f1]; rfl
      have c0 : ((s[0]'(by omega)).toNat : Int) = 60 := by rw [f0]; rfl
      have c1 : ((s[s.size - 1]'(by omega)).toNat : Int) = 62 := by rw [f1]; rfl
      have hz : (s.extract 1 (s.size - 1)).size ≤ 16777216 := by rw [ByteArray.size_extract]; omega
      have h2i : ¬ (s.size : Int) < 2 := by omega
      clear e0 e1 f0 f1
      go_wp2_with fail
      refine (sAddressParse_any _ hz _).mono ?_
      rintro e w3 ⟨rfl, hb3⟩
      rw [← HC.out]
      have hx3 := (hb3.block _ hs0).trans hx0
      have hB3 := hB0.trans (hb3.mono hB0.size)
      have hs3 : w.heap.size < w3.heap.size := by have := hb3.size; omega
      have q0 : w3.cell? ⟨w.heap.size, 0, none⟩ = some (.string ⟨#[]⟩) := cell_at hx3 0 _ rfl
      have q1 : w3.cell? ⟨w.heap.size, 1, none⟩ = some (.string ⟨#[]⟩) := cell_at hx3 1 _ rfl
      have y0 := free_at hx3 0
      have y1 := free_at hx3 1
      have HB5 : Hid (∀ a b, Below w.heap.size w ((w3.setCell ⟨w.heap.size, 0, none⟩ a).setCell ⟨w.heap.size, 1, none⟩ b)) := Lib.hid fun a b => (hB3.setCell (p := ⟨w.heap.size, 0, none⟩) (Nat.le_refl _) _).setCell (p := ⟨w.heap.size, 1, none⟩) (Nat.le_refl _) _
      clear hx3 hb3 r0 r1 z0 z1 hx0 HC
      cases hp : Pa.path s.data.toList with
      | none =>
        have HQ : Hid (Pa.pval s.data.toList = .tuple #[.agg #[.string ⟨#[]⟩, .string ⟨#[]⟩], .bool false]) := Lib.hid (by rw [HR.out, hp]; rfl)
        clear hp
        unfold Pa.val
        go_wp2_with fail
        refine bodyPost_ret (v := .tuple #[.agg #[.string ⟨#[]⟩, .string ⟨#[]⟩], .bool false]) (by simp [results, Tryz.results67, go_sem, q0, q1]) rfl ⟨by rw [HQ.out], HB5.out _ _⟩
      | some ab =>
        obtain ⟨a, b⟩ := ab
        have HQ : Hid (Pa.pval s.data.toList = .tuple #[.agg #[.string (Ct.mk a), .string (Ct.mk b)], .bool true]) := Lib.hid (by rw [HR.out, hp]; rfl)
        clear hp
        unfold Pa.val
        dsimp only
        obtain ⟨x, HX⟩ : ∃ x : ByteArray, Hid (Ct.mk a = x) := ⟨_, Lib.hid rfl⟩
        obtain ⟨y, HY⟩ : ∃ y : ByteArray, Hid (Ct.mk b = y) := ⟨_, Lib.hid rfl⟩
        rw [HX.out, HY.out] at HQ ⊢
        go_wp2_with fail
        refine bodyPost_ret (v := .tuple #[.agg #[.string x, .string y], .bool true]) (by simp [results, Tryz.results67, go_sem, q0, q1]) rfl ⟨by rw [HQ.out], HB5.out _ _⟩
    · have HN := Lib.hid (Pa.path_bad hok)
      have HQ : Hid (Pa.pval s.data.toList = .tuple #[.agg #[.string ⟨#[]⟩, .string ⟨#[]⟩], .bool false]) := Lib.hid (by rw [HR.out, HN.out]; rfl)
      by_cases h2 : 2 ≤ s.size
      · have h2i : ¬ (s.size : Int) < 2 := by omega
        have g0 : s.data.toList[0]? = some (s[0]'(by omega)) := B6.at_size (by omega)
        have g1 : s.data.toList[s.size - 1]? = some (s[s.size - 1]'(by omega)) := B6.at_size (by omega)
        by_cases f0 : s[0]'(by omega) = 60
        · have f1 : ¬ s[s.size - 1]'(by omega) = 62 := fun e => hok ⟨h2, by rw [g0, f0], by rw [g1, e]⟩
          have f1' : ¬ ((s[s.size - 1]'(by omega)).toNat : Int) = 62 := fun e => f1 (UInt8.toNat_inj.1 (by have : (62 : UInt8).toNat = 62 := rfl; omega))
          have b0 : (((s[0]'(by omega)).toNat : Int) != 60) = false := by rw [f0]; rfl
          have c0 : ((s[0]'(by omega)).toNat : Int) = 60 := by rw [f0]; rfl
          have b1 : (((s[s.size - 1]'(by omega)).toNat : Int) != 62) = true := by simpa using f1'
          clear f0 f1 g0 g1 hok
          go_wp2_with fail
          refine bodyPost_ret (v := .tuple #[.agg #[.string ⟨#[]⟩, .string ⟨#[]⟩], .bool false]) (by simp [results, Tryz.results67, go_sem, r0, r1]) rfl ⟨by rw [HQ.out], HB4.out _ _⟩
        · have f0' : ¬ ((s[0]'(by omega)).toNat : Int) = 60 := fun e => f0 (UInt8.toNat_inj.1 (by have : (60 : UInt8).toNat = 60 := rfl; omega))
          have b0 : (((s[0]'(by omega)).toNat : Int) != 60) = true := by simpa using f0'
          clear f0 g0 g1 hok
          go_wp2_with fail
          refine bodyPost_ret (v := .tuple #[.agg #[.string ⟨#[]⟩, .string ⟨#[]⟩], .bool false]) (by simp [results, Tryz.results67, go_sem, r0, r1]) rfl ⟨by rw [HQ.out], HB4.out _ _⟩
      · have h2i : (s.size : Int) < 2 := by omega
        clear hok
        go_wp2_with fail
        refine bodyPost_ret (v := .tuple #[.agg #[.string ⟨#[]⟩, .string ⟨#[]⟩], .bool false]) (by simp [results, Tryz.results67, go_sem, r0, r1]) rfl ⟨by rw [HQ.out], HB4.out _ _⟩
end Go.Proofs.YtpjifcljkgcnlaaGreatDoor
