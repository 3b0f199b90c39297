/- ReadMesh. Conditions: the size of a text; the library's variables lie. -/
import Derived.Test.YtikonccofaiceaaDoorReadWord
import Derived.Test.YtikonccofaiceaaDoorMeshText
import Derived.Test.YtikonccofaiceaaDoorAppendStep
import Derived.Deep.RegionWith
import Derived.Deep.DeepCutAuto
namespace Go.Ks
open Go.RowKit Go.Lib
def spotL (x : SpotD) : List UInt8 := Lib.itoa x.f0 ++ 44 :: Lib.itoa x.f1
def headL (C R : Int) : List UInt8 := Lib.itoa C ++ 120 :: Lib.itoa R
theorem spotL_split (x : SpotD) : splitC 44 (spotL x) = [Lib.itoa x.f0, Lib.itoa x.f1] := split_two (itoa_44 _) (itoa_44 _)
theorem headL_split (C R : Int) : splitC 120 (headL C R) = [Lib.itoa C, Lib.itoa R] := split_two (itoa_120 _) (itoa_120 _)
theorem cut_32 {a b : Int} {c : UInt8} (h : c ≠ 32) : (32 : UInt8) ∉ Lib.itoa a ++ c :: Lib.itoa b := fun hm => by
  rcases List.mem_append.1 hm with hm | hm
  · exact itoa_32 _ hm
  · rcases List.mem_cons.1 hm with hm | hm
    · exact h hm.symm
    · exact itoa_32 _ hm
theorem cut_ne {a b : Int} {c : UInt8} : Lib.itoa a ++ c :: Lib.itoa b ≠ [] := by simp
theorem joinTail_snoc (r : List (List UInt8)) (y sep : List UInt8) : Lib.joinTail sep (r ++ [y]) = Lib.joinTail sep r ++ (sep ++ y) := by simp [Lib.joinTail]
theorem mesh_list (C R : Int) (l : Nat → SpotD) : ∀ n, (meshTx C R l n).data.toList = Lib.join (headL C R :: (List.range n).map (fun j => spotL (l j))) [32]
  | 0 => by
    rw [show meshTx C R l 0 = decB C ++ (⟨#[120]⟩ : ByteArray) ++ decB R from rfl, text_list, text_list, dec_list, dec_list]
    simp [Lib.join_one, headL]
  | n + 1 => by
    rw [show meshTx C R l (n + 1) = meshTx C R l n ++ ((⟨#[32]⟩ : ByteArray) ++ decB (l n).f0 ++ (⟨#[44]⟩ : ByteArray) ++ decB (l n).f1) from rfl, text_list, mesh_list C R l n, text_list, text_list, text_list, dec_list, dec_list]
    rw [Lib.join_cons, Lib.join_cons, List.range_succ, List.map_append, List.map_cons, List.map_nil, joinTail_snoc]
    simp [spotL]
theorem mesh_words (C R : Int) (l : Nat → SpotD) (n : Nat) : splitC 32 (meshTx C R l n).data.toList = headL C R :: (List.range n).map (fun j => spotL (l j)) := by
  rw [mesh_list]
  refine splitC_join (cut_32 (by decide)) (fun y hy => ?_)
  obtain ⟨j, _, rfl⟩ := List.mem_map.1 hy
  exact cut_32 (by decide)
theorem msh_look {s : ByteArray} {C R : Int} {n : Nat} {l : Nat → SpotD} (h : meshTx C R l n = s) : (splitC 32 s.data.toList).length = n + 1 ∧ (splitC 32 s.data.toList).getD 0 [] = headL C R ∧ (∀ j, j < n → (splitC 32 s.data.toList).getD (j + 1) [] = spotL (l j)) ∧ ∀ x ∈ splitC 32 s.data.toList, x ≠ [] := by
  rw [← h, mesh_words]
  refine ⟨by simp, rfl, fun j hj => ?_, fun x hx => ?_⟩
  · rw [List.getD_cons_succ, List.getD_eq_getElem?_getD]
    simp [hj]
  · rcases List.mem_cons.1 hx with rfl | hx
    · exact cut_ne
    · obtain ⟨j, _, rfl⟩ := List.mem_map.1 hx
      exact cut_ne
theorem spotL_inj {x y : SpotD} (h : spotL x = spotL y) : x = y := by
  have hx := spotL_split x
  rw [h, spotL_split] at hx
  injection hx with h1 h2
  injection h2 with h2 _
  have e1 := itoa_inj h1
  have e2 := itoa_inj h2
  cases x; cases y
  simp only at e1 e2
  rw [e1, e2]
theorem msh_uniq {s : ByteArray} {C R C' R' : Int} {n n' : Nat} {l l' : Nat → SpotD} (h : meshTx C R l n = s) (h' : meshTx C' R' l' n' = s) : C = C' ∧ R = R' ∧ n = n' ∧ ∀ j, j < n → l j = l' j := by
  obtain ⟨a, b, c, _⟩ := msh_look h
  obtain ⟨a', b', c', _⟩ := msh_look h'
  have hh := headL_split C R
  rw [← b, b', headL_split] at hh
  injection hh with h1 h2
  injection h2 with h2 _
  have e : n = n' := by omega
  exact ⟨(itoa_inj h1).symm, (itoa_inj h2).symm, e, fun j hj => spotL_inj (by rw [← c j hj, c' j (by omega)])⟩
/-- words that are a mesh's words -/
theorem words_mesh {s : ByteArray} {C R : Int} {n : Nat} {l : Nat → SpotD} (hl : (splitC 32 s.data.toList).length = n + 1) (h0 : (splitC 32 s.data.toList).getD 0 [] = headL C R) (hw : ∀ j, j < n → (splitC 32 s.data.toList).getD (j + 1) [] = spotL (l j)) : meshTx C R l n = s := by
  have e : splitC 32 s.data.toList = headL C R :: (List.range n).map (fun j => spotL (l j)) := by
    generalize splitC 32 s.data.toList = ws at *
    apply List.ext_getElem?
    intro j
    by_cases hj : j < n + 1
    · cases j with
      | zero =>
        rw [List.getD_eq_getElem?_getD, List.getElem?_eq_getElem (by omega)] at h0
        rw [List.getElem?_eq_getElem (by omega)]
        simp only [Option.getD_some] at h0
        rw [h0]; rfl
      | succ j =>
        have h1 := hw j (by omega)
        rw [List.getD_eq_getElem?_getD, List.getElem?_eq_getElem (by omega)] at h1
        rw [List.getElem?_eq_getElem (by omega)]
        simp only [Option.getD_some] at h1
        rw [h1, List.getElem?_cons_succ]
        simp [show j < n by omega]
    · rw [List.getElem?_eq_none (by omega), List.getElem?_eq_none (by simp; omega)]
  have hj := join_splitC 32 s.data.toList
  rw [e, ← mesh_list] at hj
  exact text_eq hj
/-- the points read so far, and whether all is well -/
def SpN (x : SpotD) : Prop := (-1000000000000000000 < x.f0 ∧ x.f0 < 1000000000000000000) ∧ -1000000000000000000 < x.f1 ∧ x.f1 < 1000000000000000000
theorem num_head {p n0 n1 : List UInt8} (h : splitC 120 p = [n0, n1]) (h0 : numOk n0 = true) (h1 : numOk n1 = true) : p = headL (numV n0) (numV n1) := by
  unfold headL
  rw [(num_of h0).2, (num_of h1).2]
  exact two_join h
/-- one point more -/
def addSp (L : Nat → SpotD) (n : Nat) (x : SpotD) : Nat → SpotD := fun j => if j = n then x else L j
theorem addSp_old {L : Nat → SpotD} {n : Nat} {x : SpotD} (j : Nat) (hj : j < n * 2) : SpotC L j = SpotC (addSp L n x) j := by
  obtain ⟨q, hq⟩ : ∃ q, j = q * 2 ∨ j = q * 2 + 1 := ⟨j / 2, by omega⟩
  rcases hq with rfl | rfl
  · rw [SpotC0, SpotC0]; unfold addSp; rw [if_neg (by omega)]
  · rw [SpotC1, SpotC1]; unfold addSp; rw [if_neg (by omega)]
theorem addSp_new {W : World} {B : Nat} {L : Nat → SpotD} {n : Nat} {x : SpotD} {t : TypeId} (h : Blk W B t #[.int .i64 x.f0, .int .i64 x.f1]) : ∀ j, j < 2 → W.cell? ⟨B, j, none⟩ = some (SpotC (addSp L n x) (n * 2 + j)) := fun j hj => by
  match j, hj with
  | 0, _ => rw [h.cell 0, Nat.add_zero, SpotC0]; simp [addSp]
  | 1, _ => rw [h.cell 1, SpotC1]; simp [addSp]
theorem addSp_all {P : Nat → SpotD → Prop} {L : Nat → SpotD} {n : Nat} {x : SpotD} (h : ∀ j, j < n → P j (L j)) (h' : P n x) : ∀ j, j < n + 1 → P j (addSp L n x j) := fun j hj => by
  unfold addSp
  by_cases q : j = n
  · rw [if_pos q, q]; exact h'
  · rw [if_neg q]; exact h j (by omega)
theorem spc_one (l : Nat → SpotD) (n j : Nat) (hj : j < 2) : (SpotC l (n * 2 + j)).oneCell' = true := by
  match j, hj with
  | 0, _ => rw [Nat.add_zero, SpotC0]; rfl
  | 1, _ => rw [SpotC1]; rfl
end Go.Ks
namespace Go.Proofs.YtikonccofaiceaaDoor
open Go.RowKit Go.Lib Go.Ks
/-- the mesh with a text -/
def MshIs (s : ByteArray) (C R : Int) (n : Nat) (l : Nat → SpotD) : Prop := MeshOk C R n l ∧ meshTx C R l n = s
/-- no mesh has the text -/
def MshNo (s : ByteArray) : Prop := ∀ C R n l, ¬ MshIs s C R n l
theorem meshOk_congr {C R : Int} {n : Nat} {l l' : Nat → SpotD} (h : ∀ j, j < n → l j = l' j) (ok : MeshOk C R n l) : MeshOk C R n l' :=
  ⟨ok.1, ok.2.1, ok.2.2.1, fun k hk => by rw [← h k hk]; exact ok.2.2.2 k hk⟩
open Classical in
noncomputable def rmB (s : ByteArray) : Bool := if ∃ p : Int × Int × Nat × (Nat → SpotD), MshIs s p.1 p.2.1 p.2.2.1 p.2.2.2 then true else false
open Classical in
noncomputable def rmP (s : ByteArray) : Int × Int × Nat × (Nat → SpotD) := if h : ∃ p : Int × Int × Nat × (Nat → SpotD), MshIs s p.1 p.2.1 p.2.2.1 p.2.2.2 then h.choose else (0, 0, 0, fun _ => ⟨0, 0⟩)
noncomputable def mReadMeshA (s : ByteArray) : Int := (rmP s).1
noncomputable def mReadMeshB (s : ByteArray) : Int := (rmP s).2.1
noncomputable def mReadMeshN (s : ByteArray) : Nat := (rmP s).2.2.1
noncomputable def mReadMeshL (s : ByteArray) : Nat → SpotD := (rmP s).2.2.2
theorem rm_no {s : ByteArray} (h : MshNo s) : rmB s = false ∧ mReadMeshA s = 0 ∧ mReadMeshB s = 0 ∧ mReadMeshN s = 0 := by
  have hx : ¬ ∃ p : Int × Int × Nat × (Nat → SpotD), MshIs s p.1 p.2.1 p.2.2.1 p.2.2.2 := fun ⟨p, hp⟩ => h _ _ _ _ hp
  have e : rmP s = (0, 0, 0, fun _ => ⟨0, 0⟩) := dif_neg hx
  unfold mReadMeshA mReadMeshB mReadMeshN
  rw [e]
  exact ⟨if_neg hx, rfl, rfl, rfl⟩
theorem rm_yes {s : ByteArray} {C R : Int} {n : Nat} {l : Nat → SpotD} (h : MshIs s C R n l) : rmB s = true ∧ mReadMeshA s = C ∧ mReadMeshB s = R ∧ mReadMeshN s = n ∧ ∀ j, j < n → mReadMeshL s j = l j := by
  have hx : ∃ p : Int × Int × Nat × (Nat → SpotD), MshIs s p.1 p.2.1 p.2.2.1 p.2.2.2 := ⟨(C, R, n, l), h⟩
  have e : rmP s = hx.choose := by unfold rmP; rw [dif_pos hx]
  have hc := hx.choose_spec
  rw [← e] at hc
  obtain ⟨e1, e2, e3, e4⟩ := msh_uniq hc.2 h.2
  exact ⟨if_pos hx, e1, e2, e3, fun j hj => e4 j (by omega)⟩
theorem mesh_81' {C R : Int} {n : Nat} {l : Nat → SpotD} (ok : MeshOk C R n l) : n ≤ 81 := by
  obtain ⟨⟨C1, C2⟩, ⟨R1, R2⟩, hn, _⟩ := ok
  have h := mul_bd (a := C) (b := R) (m := 9) (n := 9) (by omega) (by omega) (by omega) (by omega) (by omega)
  omega
theorem mReadMesh_len (s : ByteArray) : mReadMeshN s ≤ 1048576 := by
  by_cases hx : ∃ p : Int × Int × Nat × (Nat → SpotD), MshIs s p.1 p.2.1 p.2.2.1 p.2.2.2
  · obtain ⟨p, hp⟩ := hx
    rw [(rm_yes hp).2.2.2.1]
    have := mesh_81' hp.1
    omega
  · rw [(rm_no (fun C R n l h => hx ⟨(C, R, n, l), h⟩)).2.2.2]; omega
/-- what a reader of meshes leaves -/
def RetRM (s : ByteArray) (w w' : World) (e : Ending) : Prop :=
  ∃ (A : Option Addr) (c : Nat), e = .returned (.tuple #[.agg #[.int .i64 (mReadMeshA s), .int .i64 (mReadMeshB s), .slice A (mReadMeshN s) c], .bool (rmB s)]) ∧ Own w' w.heap.size 49 2 A (mReadMeshN s) (SpotC (mReadMeshL s)) ∧ (A = none → c = 0)
theorem retRM_no {s : ByteArray} {w w' : World} (h : MshNo s) : RetRM s w w' (.returned (.tuple #[.agg #[.int .i64 0, .int .i64 0, .slice none 0 0], .bool false])) := by
  obtain ⟨e1, e2, e3, e4⟩ := rm_no h
  refine ⟨none, 0, by rw [e1, e2, e3, e4], ?_, fun _ => rfl⟩
  rw [e4]
  exact Own.nil _ _ _ _ _
theorem retRM_yes {s : ByteArray} {w w' : World} {C R : Int} {n c : Nat} {A : Option Addr} {l : Nat → SpotD} (h : MshIs s C R n l) (ho : Own w' w.heap.size 49 2 A n (SpotC l)) (hz : A = none → c = 0) : RetRM s w w' (.returned (.tuple #[.agg #[.int .i64 C, .int .i64 R, .slice A n c], .bool true])) := by
  obtain ⟨e1, e2, e3, e4, e5⟩ := rm_yes h
  refine ⟨A, c, by rw [e1, e2, e3, e4], ?_, hz⟩
  rw [e4]
  refine ho.congr (fun j hj => ?_)
  obtain ⟨q, hq⟩ : ∃ q, j = q * 2 ∨ j = q * 2 + 1 := ⟨j / 2, by omega⟩
  rcases hq with rfl | rfl
  · rw [SpotC0, SpotC0, e5 q (by omega)]
  · rw [SpotC1, SpotC1, e5 q (by omega)]
/-- a numeral with a minus -/
theorem minus_num {t : List UInt8} {v : Int} (h : IsNum t v) (hv : 0 < v) : IsNum (45 :: t) (-v) := by
  obtain ⟨⟨h1, h2⟩, h3⟩ := h
  obtain ⟨u, rfl⟩ := Int.eq_ofNat_of_zero_le (show 0 ≤ v by omega)
  refine ⟨by omega, ?_⟩
  rw [itoa_nonneg] at h3
  rw [itoa_neg u (by omega), h3]
theorem num_minus {t : List UInt8} {n : Int} (h : IsNum (45 :: t) n) : IsNum t (-n) ∧ 0 < -n := by
  obtain ⟨⟨h1, h2⟩, h3⟩ := h
  by_cases q : n < 0
  · obtain ⟨u, hu⟩ := Int.eq_ofNat_of_zero_le (show 0 ≤ -n by omega)
    obtain rfl : n = -(u : Int) := by omega
    rw [itoa_neg u (by omega)] at h3
    injection h3 with _ h3
    refine ⟨⟨by omega, ?_⟩, by omega⟩
    rw [show - -(u : Int) = (u : Int) by omega, itoa_nonneg, h3]
  · exfalso
    unfold Lib.itoa at h3
    rw [if_neg q] at h3
    have := dd_dg n.toNat 45 (by rw [h3]; simp)
    revert this; decide
set_option maxRecDepth 100000 in
set_option maxHeartbeats 2000000 in
theorem readSigned_any (p : List UInt8) (hp : p.length ≤ 1048576) (w : World) :
    Calls Tryd.prog 120 #[.string ⟨p.toArray⟩] w fun e w' => (∃ (X : Int) (b : Bool), e = .returned (.tuple #[.int .i64 X, .bool b]) ∧ (-1000000000000000000 < X ∧ X < 1000000000000000000) ∧ (b = true → IsNum p X) ∧ (b = false → ∀ n, ¬ IsNum p n)) ∧ w = w' := by
  have numv : ∀ l, -1000000000000000000 < numV l ∧ numV l < 1000000000000000000 := fun l => by
    by_cases h : ∃ n, IsNum l n
    · obtain ⟨n, hn⟩ := h
      rw [(num_yes hn).2]
      exact hn.1
    · rw [(num_no (fun n hn => h ⟨n, hn⟩)).2]
      omega
  have NV := Lib.hid numv
  clear numv
  have PLAIN := Lib.hid (number_eq p hp w)
  obtain ⟨s, hS⟩ : ∃ s : ByteArray, ⟨p.toArray⟩ = s := ⟨_, rfl⟩
  have hL : s.data.toList = p := by rw [← hS]
  have hz : s.size = p.length := by rw [← hS]; exact bytes_size p
  rw [hS] at PLAIN ⊢
  clear hS
  by_cases q : 1 < s.size ∧ bt s 0 = 45
  · obtain ⟨q1, q2⟩ := q
    obtain ⟨b, t, rfl⟩ : ∃ b t, p = b :: t := by
      cases p with
      | nil => rw [hz] at q1; simp at q1
      | cons b t => exact ⟨b, t, rfl⟩
    have hb : b = 45 := by
      have h := bt_list (s := s) (i := 0) (b := b) (by rw [hL]; rfl)
      apply UInt8.toNat_inj.1
      have : (45 : UInt8).toNat = 45 := rfl
      omega
    subst hb
    rw [List.length_cons] at hz hp
    have hx : s.extract 1 s.size = ⟨t.toArray⟩ := by
      rw [ext_list, hL]
      have : ((45 :: t).drop 1).take (s.size - 1) = t := List.take_of_length_le (by simp only [List.drop_succ_cons, List.drop_zero]; omega)
      rw [this]
    have NUM := Lib.hid (number_eq t (by omega) w)
    obtain ⟨td, htd⟩ : ∃ td : ByteArray, ⟨t.toArray⟩ = td := ⟨_, rfl⟩
    rw [htd] at hx NUM
    have hb0 := bt_at (s := s) (i := 0) (Nat.lt_trans Nat.zero_lt_one q1)
    have q2b : (bt s 0 == 45) = true := beq_iff_eq.2 q2
    have q1' : 1 < (s.size : Int) := by omega
    have HI := Lib.hid (show ∀ n, IsNum (45 :: t) n → numOk t = true ∧ 0 < numV t from fun n h => by
      obtain ⟨a, b⟩ := num_minus h
      exact ⟨(num_yes a).1, by rw [(num_yes a).2]; exact b⟩)
    have HO := Lib.hid (show numOk t = true → 0 < numV t → IsNum (45 :: t) (-numV t) from fun h1 h2 => minus_num (num_of h1) h2)
    obtain ⟨n1, n2⟩ := NV.out t
    clear htd hL hz q2 PLAIN
    obtain ⟨v, hv⟩ : ∃ v, numV t = v := ⟨_, rfl⟩
    obtain ⟨o, ho⟩ : ∃ o, numOk t = o := ⟨_, rfl⟩
    rw [hv, ho] at NUM HI HO
    rw [hv] at n1 n2
    clear hv ho
    have wn : IntKind.i64.wrap (-v) = -v := by rw [IntKind.wrap_i64]; omega
    go_enter Tryd.func120, Tryd.ntmps120
    go_wp2_with fail
    refine NUM.out.mono ?_
    rintro e w1 ⟨rfl, rfl⟩
    clear NUM
    cases o
    · go_wp2_with fail
      go_ret2
      exact ⟨⟨_, false, rfl, by omega, (fun h => by cases h), (fun _ n h => by have := (HI.out n h).1; simp at this)⟩, rfl⟩
    · by_cases qv : 0 < v
      · have qd : decide (0 < v) = true := decide_eq_true qv
        go_wp2_with fail
        go_ret2
        exact ⟨⟨_, true, rfl, by omega, (fun _ => HO.out (by simp) qv), (fun h => by cases h)⟩, rfl⟩
      · have qd : decide (0 < v) = false := decide_eq_false qv
        go_wp2_with fail
        go_ret2
        exact ⟨⟨_, false, rfl, by omega, (fun h => by cases h), (fun _ n h => by have := (HI.out n h).2; omega)⟩, rfl⟩
  · obtain ⟨n1, n2⟩ := NV.out p
    have HI := Lib.hid (show ∀ n, IsNum p n → numOk p = true from fun n h => (num_yes h).1)
    have HO := Lib.hid (show numOk p = true → IsNum p (numV p) from fun h1 => num_of h1)
    obtain ⟨v, hv⟩ : ∃ v, numV p = v := ⟨_, rfl⟩
    obtain ⟨o, ho⟩ : ∃ o, numOk p = o := ⟨_, rfl⟩
    rw [hv, ho] at PLAIN HO
    rw [ho] at HI
    rw [hv] at n1 n2
    clear hv ho hL hz
    have FIN := Lib.hid (show ∃ (X : Int) (b : Bool), Ending.returned (.tuple #[.int .i64 v, .bool o]) = .returned (.tuple #[.int .i64 X, .bool b]) ∧ (-1000000000000000000 < X ∧ X < 1000000000000000000) ∧ (b = true → IsNum p X) ∧ (b = false → ∀ n, ¬ IsNum p n) from ⟨v, o, rfl, ⟨n1, n2⟩, fun h => HO.out h, fun h n hn => by have := HI.out n hn; rw [h] at this; cases this⟩)
    by_cases q1 : 1 < s.size
    · have q1' : 1 < (s.size : Int) := by omega
      have hb0 := bt_at (s := s) (i := 0) (by omega)
      have q2b : (bt s 0 == 45) = false := beq_eq_false_iff_ne.2 (fun e => q ⟨q1, e⟩)
      clear q
      go_enter Tryd.func120, Tryd.ntmps120
      go_wp2_with fail
      refine PLAIN.out.mono ?_
      rintro e w1 ⟨rfl, rfl⟩
      go_wp2_with fail
      go_ret2
      exact ⟨FIN.out, rfl⟩
    · have q1' : ¬ 1 < (s.size : Int) := by omega
      clear q
      go_enter Tryd.func120, Tryd.ntmps120
      go_wp2_with fail
      refine PLAIN.out.mono ?_
      rintro e w1 ⟨rfl, rfl⟩
      go_wp2_with fail
      go_ret2
      exact ⟨FIN.out, rfl⟩
set_option maxRecDepth 100000 in
set_option maxHeartbeats 4000000 in
theorem readSpot_any (p : List UInt8) (hp : p.length ≤ 1048576) (w : World) :
    Calls Tryd.prog 95 #[.string ⟨p.toArray⟩] w fun e w' => (∃ (x : SpotD) (b : Bool), e = .returned (.tuple #[.agg #[.int .i64 x.f0, .int .i64 x.f1], .bool b]) ∧ SpN x ∧ (b = true → p = spotL x) ∧ (b = false → ∀ y, SpN y → p ≠ spotL y)) ∧ Below w.heap.size w w' := by
  have SP := Lib.hid (fun w => splitp_any p 44 44 rfl hp w)
  have PL := Lib.hid (fun x hx => Nat.le_trans (splitC_le (c := 44) p x hx) hp)
  obtain ⟨s, hS⟩ : ∃ s : ByteArray, ⟨p.toArray⟩ = s := ⟨_, rfl⟩
  rw [hS] at SP ⊢
  clear hS
  obtain ⟨ws, hws⟩ : ∃ ws, splitC 44 p = ws := ⟨_, rfl⟩
  rw [hws] at SP PL
  have WS := Lib.hid hws
  clear hws
  go_enter Tryd.func95, Tryd.ntmps95
  go_wp2_with fail
  generalize hV : World.alloc _ _ = w1
  have hb1 : Below w.heap.size w w1 := by rw [← hV]; exact (Below.refl _ _).alloc (Nat.le_refl _) _
  have r1 : Blk w1 w.heap.size 49 #[.int .i64 0, .int .i64 0] := by rw [← hV]; exact Blk.new w _ _
  clear hV
  refine (SP.out w1).mono ?_
  rintro e w2 ⟨⟨A2, c2, rfl, own2, _⟩, hb2⟩
  clear SP
  have HB2 := hb1.trans (hb2.mono hb1.size)
  have r2 := r1.below hb2 r1.lt
  clear r1
  have z0 := r2.cell 0
  have z1 := r2.cell 1
  simp at z0 z1
  have zl := r2.lt
  have zg0 := r2.frozen 0
  have zg1 := r2.frozen 1
  have H2 := Lib.hid (fun (u0 u1 : Value) => (HB2.setCell (p := ⟨w.heap.size, 0, none⟩) (Nat.le_refl _) u0).setCell (p := ⟨w.heap.size, 1, none⟩) (Nat.le_refl _) u1)
  by_cases q2 : ws.length = 2
  · obtain ⟨p0, p1, rfl⟩ := parts_two q2
    clear q2
    obtain ⟨B2, rfl, hB2, cw2⟩ := own_word (n := 1) own2
    have x0 := cw2 w2 0 (Below.refl _ _) (by omega)
    have x1 := cw2 w2 1 (Below.refl _ _) (by omega)
    simp only [List.getD_cons_zero, List.getD_cons_succ] at x0 x1
    have C0 := Lib.hid (readSigned_any p0 (PL.out p0 (by simp)) w2)
    have C1 := Lib.hid (readSigned_any p1 (PL.out p1 (by simp)) w2)
    clear cw2 own2 PL
    go_wp2_with fail
    refine C0.out.mono ?_
    rintro e w3 ⟨⟨X, bx, rfl, hX, hx1, hx0⟩, rfl⟩
    have HX := Lib.hid (And.intro hx1 hx0)
    clear C0 hx1 hx0
    go_wp2_with fail
    refine C1.out.mono ?_
    rintro e w3 ⟨⟨Y, bY, rfl, hY, hy1, hy0⟩, rfl⟩
    have HY := Lib.hid (And.intro hy1 hy0)
    clear C1 hy1 hy0
    have YES := Lib.hid (show bx = true → bY = true → p = spotL ⟨X, Y⟩ from fun h1 h2 => by
      unfold spotL
      rw [(HX.out.1 h1).2, (HY.out.1 h2).2]
      exact two_join WS.out)
    have NO := Lib.hid (show bx = false ∨ bY = false → ∀ y, SpN y → p ≠ spotL y from fun h y hy e => by
      have hw := WS.out
      rw [e, spotL_split] at hw
      injection hw with e0 hw
      injection hw with e1 _
      rcases h with h | h
      · exact HX.out.2 h y.f0 ⟨hy.1, e0⟩
      · exact HY.out.2 h y.f1 ⟨hy.2, e1⟩)
    clear HX HY
    cases bx
    · go_wp2_with fail
      refine bodyPost_ret (v := .tuple #[.agg #[.int .i64 X, .int .i64 Y], .bool false]) (by simp [results, Tryd.results95, go_sem, z0, z1]) rfl ⟨⟨⟨X, Y⟩, false, rfl, ⟨hX, hY⟩, (fun h => by cases h), (fun _ => NO.out (by simp))⟩, H2.out _ _⟩
    · cases bY
      · go_wp2_with fail
        refine bodyPost_ret (v := .tuple #[.agg #[.int .i64 X, .int .i64 Y], .bool false]) (by simp [results, Tryd.results95, go_sem, z0, z1]) rfl ⟨⟨⟨X, Y⟩, false, rfl, ⟨hX, hY⟩, (fun h => by cases h), (fun _ => NO.out (by simp))⟩, H2.out _ _⟩
      · go_wp2_with fail
        refine bodyPost_ret (v := .tuple #[.agg #[.int .i64 X, .int .i64 Y], .bool true]) (by simp [results, Tryd.results95, go_sem, z0, z1]) rfl ⟨⟨⟨X, Y⟩, true, rfl, ⟨hX, hY⟩, (fun _ => YES.out (by simp) (by simp)), (fun h => by cases h)⟩, H2.out _ _⟩
  · have nd : ((ws.length : Int) == 2) = false := beq_eq_false_iff_ne.2 (fun e => q2 (by omega))
    have NO := Lib.hid (show ∀ y, SpN y → p ≠ spotL y from fun y _ e => by
      have hw := WS.out
      rw [e, spotL_split] at hw
      rw [← hw] at q2
      exact q2 rfl)
    clear q2 own2
    go_wp2_with fail
    refine bodyPost_ret (v := .tuple #[.agg #[.int .i64 0, .int .i64 0], .bool false]) (by simp [results, Tryd.results95, go_sem, z0, z1]) rfl ⟨⟨⟨0, 0⟩, false, rfl, ⟨by decide, by decide⟩, (fun h => by cases h), (fun _ => NO.out)⟩, H2.out _ _⟩
theorem Tryd.infoSpt : (Tryd.prog.info? 49).map (fun i => (i.zero, i.size, i.bytes)) = some (some (.agg #[.int .i64 0, .int .i64 0]), 2, 16) := by kernel_rfl
theorem set3 {w w' : World} (h : Below w.heap.size w w') (u0 u1 u2 : Value) : Below w.heap.size w (((w'.setCell ⟨w.heap.size, 0, none⟩ u0).setCell ⟨w.heap.size, 1, none⟩ u1).setCell ⟨w.heap.size, 2, none⟩ u2) :=
  ((h.setCell (p := ⟨w.heap.size, 0, none⟩) (Nat.le_refl _) u0).setCell (p := ⟨w.heap.size, 1, none⟩) (Nat.le_refl _) u1).setCell (p := ⟨w.heap.size, 2, none⟩) (Nat.le_refl _) u2
theorem spn_64 {x : SpotD} (h : SpN x) : SpotOk x := by
  obtain ⟨⟨a, b⟩, c, d⟩ := h
  exact ⟨by omega, by omega⟩
theorem mesh_spn {C R : Int} {n : Nat} {l : Nat → SpotD} (ok : MeshOk C R n l) {j : Nat} (hj : j < n) : SpN (l j) := by
  obtain ⟨⟨a, b⟩, c, d⟩ := plane_iff.1 (ok.2.2.2 j hj)
  exact ⟨by omega, by omega⟩
set_option maxRecDepth 100000 in
set_option maxHeartbeats 8000000 in
theorem l11Read_any (s : ByteArray) (w : World) (hs : s.size ≤ 1048576) :
    Calls Tryd.prog 54 #[.string s] w fun e w' => RetRM s w w' e ∧ Below w.heap.size w w' := by
  obtain ⟨i0, hi, hz0, hz1, hz2⟩ := info_parts Tryd.infoSpt
  obtain ⟨p, hp⟩ : ∃ p, s.data.toList = p := ⟨_, rfl⟩
  obtain rfl : s = ⟨p.toArray⟩ := by rw [← hp]
  clear hp
  rw [bytes_size] at hs
  have SPL := Lib.hid (fun w => splitp_any p 32 32 rfl hs w)
  have PL := Lib.hid (fun k => Nat.le_trans (getD_le (c := 32) p k) hs)
  obtain ⟨s, hS⟩ : ∃ s : ByteArray, ⟨p.toArray⟩ = s := ⟨_, rfl⟩
  have hL : s.data.toList = p := by rw [← hS]
  rw [hS] at SPL ⊢
  rw [← hL] at SPL PL
  have hp' : p.length ≤ 1048576 := hs
  clear hS hs
  obtain ⟨ws, hws⟩ : ∃ ws, splitC 32 s.data.toList = ws := ⟨_, rfl⟩
  rw [hws] at SPL PL
  rw [hL] at SPL
  obtain ⟨M, hM⟩ : ∃ M, ws.length = M + 1 := by
    obtain ⟨a, t, e⟩ := splitC_cons 32 s.data.toList
    exact ⟨t.length, by rw [← hws, e]; rfl⟩
  have WS := Lib.hid hws
  have HM := Lib.hid hM
  rw [hM] at SPL
  clear hws hM hL
  go_enter Tryd.func54, Tryd.ntmps54
  go_wp2_with fail
  generalize hV : World.alloc _ _ = w1
  have hb1 : Below w.heap.size w w1 := by rw [← hV]; exact (Below.refl _ _).alloc (Nat.le_refl _) _
  have r1 : Blk w1 w.heap.size 29 #[.int .i64 0, .int .i64 0, .slice none 0 0] := by rw [← hV]; exact Blk.new w _ _
  clear hV
  refine (SPL.out w1).mono ?_
  rintro e w2 ⟨⟨A2, c2, rfl, own2, hMl⟩, hb2⟩
  clear SPL
  have HB2 := hb1.trans (hb2.mono hb1.size)
  have r2 := r1.below hb2 r1.lt
  clear r1
  obtain ⟨B2, rfl, hB2, cw2⟩ := own_word own2
  have CW := Lib.hid cw2
  have x0 := cw2 w2 0 (Below.refl _ _) (by omega)
  obtain ⟨h0, hh0⟩ : ∃ h, ws.getD 0 [] = h := ⟨_, rfl⟩
  rw [hh0] at x0
  have W0 := Lib.hid hh0
  have hl0 : h0.length ≤ 1048576 := by rw [← hh0]; exact PL.out 0
  have SP3 := Lib.hid (splitp_any h0 120 120 rfl hl0 w2)
  have PL3 := Lib.hid (fun x hx => Nat.le_trans (splitC_le (c := 120) h0 x hx) hl0)
  obtain ⟨ns, hns⟩ : ∃ ns, splitC 120 h0 = ns := ⟨_, rfl⟩
  rw [hns] at SP3 PL3
  have NS := Lib.hid hns
  clear hh0 hns cw2 own2
  have UH := Lib.hid (show ∀ C R n l, MshIs s C R n l → ns = [Lib.itoa C, Lib.itoa R] ∧ M = n ∧ ∀ j, j < n → ws.getD (j + 1) [] = spotL (l j) from fun C R n l h => by
    obtain ⟨a, b, c, _⟩ := msh_look h.2
    rw [WS.out] at a b c
    refine ⟨?_, ?_, c⟩
    · rw [← NS.out, ← W0.out, b, headL_split]
    · have := HM.out
      omega)
  go_wp2_with fail
  refine SP3.out.mono ?_
  rintro e w3 ⟨⟨A3, c3, rfl, own3, _⟩, hb3⟩
  clear SP3 x0
  have HB3 := HB2.trans (hb3.mono HB2.size)
  have r3 := r2.below hb3 r2.lt
  clear r2
  by_cases q2 : ns.length = 2
  case neg =>
    have E := Lib.hid (show MshNo s from fun C R n l h => q2 (by rw [(UH.out C R n l h).1]; rfl))
    have nd : ((ns.length : Int) == 2) = false := beq_eq_false_iff_ne.2 (fun e => q2 (by omega))
    clear q2 own3
    have z0 := r3.cell 0
    have z1 := r3.cell 1
    have z2 := r3.cell 2
    simp at z0 z1 z2
    have zl := r3.lt
    have zg0 := r3.frozen 0
    have zg1 := r3.frozen 1
    have zg2 := r3.frozen 2
    go_wp2_with fail
    refine bodyPost_ret (v := .tuple #[.agg #[.int .i64 0, .int .i64 0, .slice none 0 0], .bool false]) (by simp [results, Tryd.results54, go_sem, z0, z1, z2]) rfl ⟨retRM_no E.out, ?_⟩
    exact set3 HB3 _ _ _
  obtain ⟨p0, p1, rfl⟩ := parts_two q2
  clear q2
  obtain ⟨B3, rfl, hB3, cw3⟩ := own_word (n := 1) own3
  have y0 := cw3 w3 0 (Below.refl _ _) (by omega)
  have y1 := cw3 w3 1 (Below.refl _ _) (by omega)
  simp only [List.getD_cons_zero, List.getD_cons_succ] at y0 y1
  have C0 := Lib.hid (number_eq p0 (PL3.out p0 (by simp)) w3)
  have C1 := Lib.hid (number_eq p1 (PL3.out p1 (by simp)) w3)
  have UN := Lib.hid (show ∀ C R n l, MshIs s C R n l → (numOk p0 = true ∧ numOk p1 = true) ∧ (C = numV p0 ∧ R = numV p1) ∧ M = n ∧ ∀ j, j < n → ws.getD (j + 1) [] = spotL (l j) from fun C R n l h => by
    obtain ⟨a, b, c⟩ := UH.out C R n l h
    injection a with a0 a
    injection a with a1 _
    obtain ⟨⟨m1, m2⟩, ⟨m3, m4⟩, _⟩ := h.1
    have e0 := itoa_num (n := C) (by omega)
    have e1 := itoa_num (n := R) (by omega)
    rw [a0, a1]
    exact ⟨⟨e0.1, e1.1⟩, ⟨e0.2.symm, e1.2.symm⟩, b, c⟩)
  have HH := Lib.hid (show numOk p0 = true → numOk p1 = true → ws.getD 0 [] = headL (numV p0) (numV p1) from fun h1 h2 => by rw [W0.out]; exact num_head NS.out h1 h2)
  obtain ⟨a, ha⟩ : ∃ a, numV p0 = a := ⟨_, rfl⟩
  obtain ⟨b, hb⟩ : ∃ b, numV p1 = b := ⟨_, rfl⟩
  obtain ⟨oa, hoa⟩ : ∃ a, numOk p0 = a := ⟨_, rfl⟩
  obtain ⟨ob, hob⟩ : ∃ a, numOk p1 = a := ⟨_, rfl⟩
  rw [ha, hoa] at C0
  rw [hb, hob] at C1
  rw [ha, hb, hoa, hob] at UN HH
  clear ha hb hoa hob cw3 own3 UH PL3
  go_wp2_with fail
  refine C0.out.mono ?_
  rintro e w4 ⟨rfl, rfl⟩
  clear C0
  go_wp2_with fail
  refine C1.out.mono ?_
  rintro e w4 ⟨rfl, rfl⟩
  clear C1 y0 y1
  go_upto_region 8 with fail
  generalize hV : World.alloc w3 _ = w5
  have hb5 : Below w3.heap.size w3 w5 := by rw [← hV]; exact (Below.refl _ _).alloc (Nat.le_refl _) _
  have k5 : Blk w5 w3.heap.size 29 #[.int .i64 a, .int .i64 b, .slice none 0 0] := by rw [← hV]; exact Blk.new w3 _ _
  clear hV
  have s23 := hb3.size
  go_cut [11] (fun o wr => o = .bool (oa && ob) ∧ w5 = wr)
  case first =>
    cases oa <;> cases ob
    all_goals
      go_wp2_with fail
      go_meet
      exact ⟨rfl, rfl⟩
  obtain ⟨rfl, rfl⟩ := hcut
  go_wp2_with fail
  have OK0 := Lib.hid (show ((oa && ob) = true → oa = true ∧ ob = true) ∧ ((oa && ob) = false → MshNo s) by
    refine ⟨fun h => by simpa using h, fun h C R n l hm => ?_⟩
    obtain ⟨⟨h1, h2⟩, _⟩ := UN.out C R n l hm
    rw [h1, h2] at h
    cases h)
  generalize (oa && ob) = o0 at *
  go_loopw [11, 12, 13, 14] (fun o i _ _ wr => ∃ (k : Nat) (L : Nat → SpotD) (v : Value) (ok : Bool), k ≤ M ∧ o = .bool ok ∧ i = .int .i64 ((k : Int) + 1) ∧ Blk wr w3.heap.size 29 #[.int .i64 a, .int .i64 b, v] ∧ Row wr w3.heap.size 49 2 v k (SpotC L) ∧ (∀ j, j < k → SpN (L j)) ∧ ((ok = true → (oa = true ∧ ob = true) ∧ ∀ j, j < k → ws.getD (j + 1) [] = spotL (L j)) ∧ (ok = false → MshNo s)) ∧ Below w3.heap.size w3 wr) (fun _ i _ _ _ => M + 1 - (RowKit.intOf i).toNat)
  case atStart => exact ⟨0, fun _ => ⟨0, 0⟩, _, o0, Nat.zero_le _, rfl, rfl, k5, Row.nil _ _ _ _ _, fun j hj => by omega, ⟨fun h => ⟨OK0.out.1 h, fun j hj => by omega⟩, OK0.out.2⟩, hb5⟩
  case round =>
    obtain ⟨k, L, v, ok, hk, rfl, rfl, kb, row, hsp, hok, hbl⟩ := hrel
    have HSP := Lib.hid hsp
    have HOK := Lib.hid hok
    clear hsp hok
    have bsz := hbl.size
    by_cases hlt : k < M
    · have hlt' : (k : Int) < (M : Int) := by omega
      have hbw2 : Below w2.heap.size w2 wr := hb3.trans (hbl.mono hb3.size)
      have cw := CW.out wr (k + 1) hbw2 (by omega)
      have bl2 : B2 < wr.heap.size := by have := hbw2.size; omega
      obtain ⟨x, hx⟩ : ∃ x, ws.getD (k + 1) [] = x := ⟨_, rfl⟩
      have pl : x.length ≤ 1048576 := by rw [← hx]; exact PL.out (k + 1)
      rw [hx] at cw
      have HX := Lib.hid hx
      clear hx
      have RS := Lib.hid (readSpot_any x pl wr)
      go_wp2_with fail
      refine RS.out.mono ?_
      rintro e w6 ⟨⟨y, by_, rfl, hy, hy1, hy0⟩, hb6⟩
      have HY := Lib.hid (And.intro hy1 hy0)
      clear RS hy1 hy0 cw
      have kb6 := kb.below hb6 kb.lt
      have row6 := row.below hb6
      have hbl6 := hbl.trans (hb6.mono hbl.size)
      clear kb row
      go_upto_region 13 with fail
      generalize hV : World.alloc w6 _ = w7
      have hb7 : Below w6.heap.size w6 w7 := by rw [← hV]; exact (Below.refl _ _).alloc (Nat.le_refl _) _
      have p7 : Blk w7 w6.heap.size 49 #[.int .i64 y.f0, .int .i64 y.f1] := by rw [← hV]; exact Blk.new w6 _ _
      clear hV
      have kb7 := kb6.below hb7 kb6.lt
      have row7 := row6.below hb7
      have hbl7 := hbl6.trans (hb7.mono hbl6.size)
      have s37 := hbl7.size
      clear kb6 row6
      go_cut [11] (fun o wr => o = .bool (ok && by_) ∧ w7 = wr)
      case first =>
        cases ok <;> cases by_
        all_goals
          go_wp2_with fail
          go_meet
          exact ⟨rfl, rfl⟩
      obtain ⟨rfl, rfl⟩ := hcut
      have OK1 := Lib.hid (show ((ok && by_) = true → (oa = true ∧ ob = true) ∧ ∀ j, j < k + 1 → ws.getD (j + 1) [] = spotL (addSp L k y j)) ∧ ((ok && by_) = false → MshNo s) by
        refine ⟨fun h => ?_, fun h => ?_⟩
        · have h2 : ok = true ∧ by_ = true := by simpa using h
          obtain ⟨e1, e2⟩ := HOK.out.1 h2.1
          exact ⟨e1, addSp_all (P := fun j q => ws.getD (j + 1) [] = spotL q) e2 (by rw [HX.out]; exact HY.out.1 h2.2)⟩
        · cases ok
          · exact HOK.out.2 rfl
          · intro C R n l hm
            obtain ⟨_, _, hn, hw⟩ := UN.out C R n l hm
            have h2 : by_ = false := by simpa using h
            refine HY.out.2 h2 (l k) (mesh_spn hm.1 (by omega)) ?_
            rw [← HX.out]
            exact hw k (by omega))
      generalize (ok && by_) = o1 at *
      have row8 := row7.congr (f' := SpotC (addSp L k y)) (fun j hj => addSp_old j hj)
      have u0 := p7.cell 0
      have u1 := p7.cell 1
      simp at u0 u1
      have lu := p7.lt
      have o2 := kb7.cell 2
      simp at o2
      have lo := kb7.lt
      go_wp2_with (at_builtin; refine wpList_append_row rfl _ _ 27 rfl w3.heap.size 49 i0 _ 2 16 Tryd.underlying27 hi hz0 hz1 hz2 rfl (by decide) _ k (SpotC (addSp L k y)) rfl (row8.alloc _) w7.heap.size 1 rfl ?c1 (spc_one _ k) ?c3 ?c4 ?c5 ?_)
      case c1 => exact addSp_new (Blk.new w7 _ _)
      case c3 => omega
      case c4 => omega
      case c5 => first | omega | (simp; omega)
      intro v9 w9 row9 hg9
      have kbA := kb7.alloc (.cells #[.int .i64 y.f0, .int .i64 y.f1] 49)
      have hb9 := Row.after (hbl7.alloc s37 _) (Nat.le_refl _) (by simp; omega) (row8.alloc _) hg9 row9
      have kb9 := kbA.row (row8.alloc _) hg9 (by decide)
      clear hg9 o2 lo u0 u1 lu
      have f9 := kb9.cell 2
      simp at f9
      have g9 := kb9.frozen 2
      have l9 := kb9.lt
      have rowA := row9.set kb9 (by decide) 2 v9
      have kbB := kb9.set_ 2 v9
      have hbA := hb9.setCell (p := ⟨w3.heap.size, 2, none⟩) (Nat.le_refl _) v9
      obtain ⟨Av, cv, rfl, _, _, _⟩ := row9.own
      go_wp2_with fail
      go_roundw
      case rel => exact ⟨k + 1, addSp L k y, _, o1, by omega, rfl, by go_num, kbB, rowA, addSp_all (P := fun _ q => SpN q) HSP.out hy, OK1.out, hbA⟩
      case measure => simp [RowKit.intOf]; omega
    · obtain rfl : k = M := by omega
      obtain ⟨Av, cv, rfl, _, ownv, hzv⟩ := row.own
      have HBr := HB3.trans (hbl.mono HB3.size)
      have rr := r3.below hbl r3.lt
      have kM : k ≤ 1048576 := by omega
      clear row
      have z0 := rr.cell 0
      have z1 := rr.cell 1
      have z2 := rr.cell 2
      simp at z0 z1 z2
      have zl := rr.lt
      have zg0 := rr.frozen 0
      have zg1 := rr.frozen 1
      have zg2 := rr.frozen 2
      cases ok
      · have E := Lib.hid (HOK.out.2 rfl)
        go_wp2_with fail
        refine bodyPost_ret (v := .tuple #[.agg #[.int .i64 0, .int .i64 0, .slice none 0 0], .bool false]) (by simp [results, Tryd.results54, go_sem, z0, z1, z2]) rfl ⟨retRM_no E.out, ?_⟩
        exact set3 HBr _ _ _
      · obtain ⟨⟨rfl, rfl⟩, hww⟩ := HOK.out.1 rfl
        have TX := Lib.hid (words_mesh (s := s) (C := a) (R := b) (n := k) (l := L) (by rw [WS.out]; exact HM.out) (by rw [WS.out]; exact HH.out rfl rfl) (by rw [WS.out]; exact hww))
        clear hww
        have c0 := kb.cell 0
        have c1 := kb.cell 1
        have c2' := kb.cell 2
        simp at c0 c1 c2'
        have cl := kb.lt
        have MP := Lib.hid (show MeshP wr w3.heap.size a b Av k cv from ⟨cl, c0, c1, c2'⟩)
        have SV := Lib.hid ownv.sl
        go_wp2_with fail
        refine (l11Ok_any w3.heap.size a b Av k cv L _ kM SV.out MP.out).mono ?_
        rintro e w9 ⟨rfl, hb9⟩
        have HB9 := HBr.trans (hb9.mono HBr.size)
        have r9 := rr.below hb9 rr.lt
        have k9 := kb.below hb9 kb.lt
        have own9 := (ownv.below hb9).mono (base' := w.heap.size) (by have := HB3.size; omega)
        clear c0 c1 c2' cl z0 z1 z2 zl
        have y0 := r9.cell 0
        have y1 := r9.cell 1
        have y2 := r9.cell 2
        simp at y0 y1 y2
        have yl := r9.lt
        have yg0 := r9.frozen 0
        have yg1 := r9.frozen 1
        have yg2 := r9.frozen 2
        have c0 := k9.cell 0
        have c1 := k9.cell 1
        have c2' := k9.cell 2
        simp at c0 c1 c2'
        have cl := k9.lt
        rcases b_cases (meshOk a b k L) with q | q
        · have E := Lib.hid (show MshNo s from fun C R n l h => by
            obtain ⟨e1, e2, e3, e4⟩ := msh_uniq h.2 TX.out
            subst e1; subst e2; subst e3
            rw [meshOk_yes (meshOk_congr e4 h.1)] at q
            cases q)
          rw [q]
          clear q
          go_wp2_with fail
          refine bodyPost_ret (v := .tuple #[.agg #[.int .i64 0, .int .i64 0, .slice none 0 0], .bool false]) (by simp [results, Tryd.results54, go_sem, y0, y1, y2]) rfl ⟨retRM_no E.out, ?_⟩
          exact set3 HB9 _ _ _
        · have OKM := Lib.hid (meshOk_of q)
          rw [q]
          clear q
          have ownF := ((own9.set r9 (by decide) 0 (.int .i64 a)).set (r9.set_ 0 _) (by decide) 1 (.int .i64 b)).set ((r9.set_ 0 _).set_ 1 _) (by decide) 2 (.slice Av k cv)
          go_wp2_with fail
          refine bodyPost_ret (v := .tuple #[.agg #[.int .i64 a, .int .i64 b, .slice Av k cv], .bool true]) (by simp [results, Tryd.results54, go_sem, y0, y1, y2]) rfl ⟨retRM_yes ⟨OKM.out, TX.out⟩ ownF hzv, ?_⟩
          exact set3 HB9 _ _ _
set_option maxRecDepth 100000 in
theorem specReadMesh_any (s : ByteArray) (w : World) (hs : s.size ≤ 1048576) :
    Calls Tryd.prog 15 #[.string s] w fun e w' => RetRM s w w' e ∧ Below w.heap.size w w' := by
  obtain ⟨n0, h0⟩ : ∃ x, mReadMeshA s = x := ⟨_, rfl⟩
  obtain ⟨n1, h1⟩ : ∃ x, mReadMeshB s = x := ⟨_, rfl⟩
  obtain ⟨n2, h2⟩ : ∃ x, mReadMeshN s = x := ⟨_, rfl⟩
  obtain ⟨n4, h4⟩ : ∃ x, mReadMeshL s = x := ⟨_, rfl⟩
  obtain ⟨n3, h3⟩ : ∃ x, rmB s = x := ⟨_, rfl⟩
  have RD := Lib.hid (fun w => l11Read_any s w hs)
  unfold RetRM at RD ⊢
  rw [h0, h1, h2, h3, h4] at RD ⊢
  clear h0 h1 h2 h3 h4
  go_enter Tryd.func15, Tryd.ntmps15
  go_wp2_with fail
  generalize hV : World.alloc _ _ = w1
  have hb1 : Below w.heap.size w w1 := by rw [← hV]; exact (Below.refl _ _).alloc (Nat.le_refl _) _
  have r1 : Blk w1 w.heap.size 29 #[.int .i64 0, .int .i64 0, .slice none 0 0] := by rw [← hV]; exact Blk.new w _ _
  clear hV
  refine (RD.out w1).mono ?_
  rintro e w2 ⟨⟨A2, c2, rfl, own2, hz2⟩, hb2⟩
  have HB2 := hb1.trans (hb2.mono hb1.size)
  have r2 := r1.below hb2 r1.lt
  have own3 := own2.mono (base' := w.heap.size) (by have := hb1.size; omega)
  have ownF := ((own3.set r2 (by decide) 0 (.int .i64 n0)).set (r2.set_ 0 _) (by decide) 1 (.int .i64 n1)).set ((r2.set_ 0 _).set_ 1 _) (by decide) 2 (.slice A2 n2 c2)
  have z0 := r2.cell 0
  have z1 := r2.cell 1
  have z2 := r2.cell 2
  simp at z0 z1 z2
  have zl := r2.lt
  have zg0 := r2.frozen 0
  have zg1 := r2.frozen 1
  have zg2 := r2.frozen 2
  go_wp2_with fail
  refine bodyPost_ret (v := .tuple #[.agg #[.int .i64 n0, .int .i64 n1, .slice A2 n2 c2], .bool n3]) (by simp [results, Tryd.results15, go_sem, z0, z1, z2]) rfl ⟨⟨A2, c2, rfl, ownF, hz2⟩, ?_⟩
  exact set3 HB2 _ _ _
end Go.Proofs.YtikonccofaiceaaDoor
