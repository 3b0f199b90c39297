/- ReadMesh. Conditions: the size of a text; the library's variables lie. -/
import Derived.Test.YthjllledhcfnhaaDoorReadWord
import Derived.Test.YthjllledhcfnhaaDoorMeshText
import Derived.Test.YthjllledhcfnhaaDoorAppendStep
import Derived.Deep.RegionWith
import Derived.Deep.DeepCutAuto
namespace Go.Ks
open Go.RowKit Go.Lib
def spotL (x : SpotD) : List UInt8 := Lib.itoa x.f0 ++ 44 :: Lib.itoa x.f1
def headL (C R : Int) : List UInt8 := Lib.itoa C ++ 120 :: Lib.itoa R
theorem spotL_split (x : SpotD) : splitC 44 (spotL x) = [Lib.itoa x.f0, Lib.itoa x.f1] := split_two (itoa_44 _) (itoa_44 _)
theorem headL_split (C R : Int) : splitC 120 (headL C R) = [Lib.itoa C, Lib.itoa R] := split_two (itoa_120 _) (itoa_120 _)
theorem cut_32 {a b : Int} {c : UInt8} (h : c ≠ 32) : (32 : UInt8) ∉ Lib.itoa a ++ c :: Lib.itoa b := fun hm => by
  rcases List.mem_append.1 hm with hm | hm
  · exact itoa_32 _ hm
  · rcases List.mem_cons.1 hm with hm | hm
    · exact h hm.symm
    · exact itoa_32 _ hm
theorem cut_ne {a b : Int} {c : UInt8} : Lib.itoa a ++ c :: Lib.itoa b ≠ [] := by simp
theorem joinTail_snoc (r : List (List UInt8)) (y sep : List UInt8) : Lib.joinTail sep (r ++ [y]) = Lib.joinTail sep r ++ (sep ++ y) := by simp [Lib.joinTail]
theorem mesh_list (C R : Int) (l : Nat → SpotD) : ∀ n, (meshTx C R l n).data.toList = Lib.join (headL C R :: (List.range n).map (fun j => spotL (l j))) [32]
  | 0 => by
    rw [show meshTx C R l 0 = decB C ++ (⟨#[120]⟩ : ByteArray) ++ decB R from rfl, text_list, text_list, dec_list, dec_list]
    simp [Lib.join_one, headL]
  | n + 1 => by
    rw [show meshTx C R l (n + 1) = meshTx C R l n ++ ((⟨#[32]⟩ : ByteArray) ++ decB (l n).f0 ++ (⟨#[44]⟩ : ByteArray) ++ decB (l n).f1) from rfl, text_list, mesh_list C R l n, text_list, text_list, text_list, dec_list, dec_list]
    rw [Lib.join_cons, Lib.join_cons, List.range_succ, List.map_append, List.map_cons, List.map_nil, joinTail_snoc]
    simp [spotL]
theorem mesh_words (C R : Int) (l : Nat → SpotD) (n : Nat) : splitC 32 (meshTx C R l n).data.toList = headL C R :: (List.range n).map (fun j => spotL (l j)) := by
  rw [mesh_list]
  refine splitC_join (cut_32 (by decide)) (fun y hy => ?_)
  obtain ⟨j, _, rfl⟩ := List.mem_map.1 hy
  exact cut_32 (by decide)
theorem msh_look {s : ByteArray} {C R : Int} {n : Nat} {l : Nat → SpotD} (h : meshTx C R l n = s) : (splitC 32 s.data.toList).length = n + 1 ∧ (splitC 32 s.data.toList).getD 0 [] = headL C R ∧ (∀ j, j < n → (splitC 32 s.data.toList).getD (j + 1) [] = spotL (l j)) ∧ ∀ x ∈ splitC 32 s.data.toList, x ≠ [] := by
  rw [← h, mesh_words]
  refine ⟨by simp, rfl, fun j hj => ?_, fun x hx => ?_⟩
  · rw [List.getD_cons_succ, List.getD_eq_getElem?_getD]
    simp [hj]
  · rcases List.mem_cons.1 hx with rfl | hx
    · exact cut_ne
    · obtain ⟨j, _, rfl⟩ := List.mem_map.1 hx
      exact cut_ne
theorem spotL_inj {x y : SpotD} (h : spotL x = spotL y) : x = y := by
  have hx := spotL_split x
  rw [h, spotL_split] at hx
  injection hx with h1 h2
  injection h2 with h2 _
  have e1 := itoa_inj h1
  have e2 := itoa_inj h2
  cases x; cases y
  simp only at e1 e2
  rw [e1, e2]
theorem msh_uniq {s : ByteArray} {C R C' R' : Int} {n n' : Nat} {l l' : Nat → SpotD} (h : meshTx C R l n = s) (h' : meshTx C' R' l' n' = s) : C = C' ∧ R = R' ∧ n = n' ∧ ∀ j, j < n → l j = l' j := by
  obtain ⟨a, b, c, _⟩ := msh_look h
  obtain ⟨a', b', c', _⟩ := msh_look h'
  have hh := headL_split C R
  rw [← b, b', headL_split] at hh
  injection hh with h1 h2
  injection h2 with h2 _
  have e : n = n' := by omega
  exact ⟨(itoa_inj h1).symm, (itoa_inj h2).symm, e, fun j hj => spotL_inj (by rw [← c j hj, c' j (by omega)])⟩
/-- words that are a mesh's words -/
theorem words_mesh {s : ByteArray} {C R : Int} {n : Nat} {l : Nat → SpotD} (hl : (splitC 32 s.data.toList).length = n + 1) (h0 : (splitC 32 s.data.toList).getD 0 [] = headL C R) (hw : ∀ j, j < n → (splitC 32 s.data.toList).getD (j + 1) [] = spotL (l j)) : meshTx C R l n = s := by
  have e : splitC 32 s.data.toList = headL C R :: (List.range n).map (fun j => spotL (l j)) := by
    generalize splitC 32 s.data.toList = ws at *
    apply List.ext_getElem?
    intro j
    by_cases hj : j < n + 1
    · cases j with
      | zero =>
        rw [List.getD_eq_getElem?_getD, List.getElem?_eq_getElem (by omega)] at h0
        rw [List.getElem?_eq_getElem (by omega)]
        simp only [Option.getD_some] at h0
        rw [h0]; rfl
      | succ j =>
        have h1 := hw j (by omega)
        rw [List.getD_eq_getElem?_getD, List.getElem?_eq_getElem (by omega)] at h1
        rw [List.getElem?_eq_getElem (by omega)]
        simp only [Option.getD_some] at h1
        rw [h1, List.getElem?_cons_succ]
        simp [show j < n by omega]
    · rw [List.getElem?_eq_none (by omega), List.getElem?_eq_none (by simp; omega)]
  have hj := join_splitC 32 s.data.toList
  rw [e, ← mesh_list] at hj
  exact text_eq hj
/-- the points read so far, and whether all is well -/
def SpN (x : SpotD) : Prop := (-1000000000000000000 < x.f0 ∧ x.f0 < 1000000000000000000) ∧ -1000000000000000000 < x.f1 ∧ x.f1 < 1000000000000000000
theorem num_head {p n0 n1 : List UInt8} (h : splitC 120 p = [n0, n1]) (h0 : numOk n0 = true) (h1 : numOk n1 = true) : p = headL (numV n0) (numV n1) := by
  unfold headL
  rw [(num_of h0).2, (num_of h1).2]
  exact two_join h
/-- one point more -/
def addSp (L : Nat → SpotD) (n : Nat) (x : SpotD) : Nat → SpotD := fun j => if j = n then x else L j
theorem addSp_old {L : Nat → SpotD} {n : Nat} {x : SpotD} (j : Nat) (hj : j < n * 2) : SpotC L j = SpotC (addSp L n x) j := by
  obtain ⟨q, hq⟩ : ∃ q, j = q * 2 ∨ j = q * 2 + 1 := ⟨j / 2, by omega⟩
  rcases hq with rfl | rfl
  · rw [SpotC0, SpotC0]; unfold addSp; rw [if_neg (by omega)]
  · rw [SpotC1, SpotC1]; unfold addSp; rw [if_neg (by omega)]
theorem addSp_new {W : World} {B : Nat} {L : Nat → SpotD} {n : Nat} {x : SpotD} {t : TypeId} (h : Blk W B t #[.int .i64 x.f0, .int .i64 x.f1]) : ∀ j, j < 2 → W.cell? ⟨B, j, none⟩ = some (SpotC (addSp L n x) (n * 2 + j)) := fun j hj => by
  match j, hj with
  | 0, _ => rw [h.cell 0, Nat.add_zero, SpotC0]; simp [addSp]
  | 1, _ => rw [h.cell 1, SpotC1]; simp [addSp]
theorem addSp_all {P : Nat → SpotD → Prop} {L : Nat → SpotD} {n : Nat} {x : SpotD} (h : ∀ j, j < n → P j (L j)) (h' : P n x) : ∀ j, j < n + 1 → P j (addSp L n x j) := fun j hj => by
  unfold addSp
  by_cases q : j = n
  · rw [if_pos q, q]; exact h'
  · rw [if_neg q]; exact h j (by omega)
theorem spc_one (l : Nat → SpotD) (n j : Nat) (hj : j < 2) : (SpotC l (n * 2 + j)).oneCell' = true := by
  match j, hj with
  | 0, _ => rw [Nat.add_zero, SpotC0]; rfl
  | 1, _ => rw [SpotC1]; rfl
end Go.Ks
namespace Go.Proofs.YthjllledhcfnhaaDoor
open Go.RowKit Go.Lib Go.Ks
/-- the mesh with a text -/
def MshIs (s : ByteArray) (C R : Int) (n : Nat) (l : Nat → SpotD) : Prop := MeshOk C R n l ∧ meshTx C R l n = s
/-- no mesh has the text -/
def MshNo (s : ByteArray) : Prop := ∀ C R n l, ¬ MshIs s C R n l
theorem meshOk_congr {C R : Int} {n : Nat} {l l' : Nat → SpotD} (h : ∀ j, j < n → l j = l' j) (ok : MeshOk C R n l) : MeshOk C R n l' :=
  ⟨ok.1, ok.2.1, ok.2.2.1, fun k hk => by rw [← h k hk]; exact ok.2.2.2 k hk⟩
open Classical in
noncomputable def rmB (s : ByteArray) : Bool := if ∃ p : Int × Int × Nat × (Nat → SpotD), MshIs s p.1 p.2.1 p.2.2.1 p.2.2.2 then true else false
open Classical in
noncomputable def rmP (s : ByteArray) : Int × Int × Nat × (Nat → SpotD) := if h : ∃ p : Int × Int × Nat × (Nat → SpotD), MshIs s p.1 p.2.1 p.2.2.1 p.2.2.2 then h.choose else (0, 0, 0, fun _ => ⟨0, 0⟩)
noncomputable def mReadMeshA (s : ByteArray) : Int := (rmP s).1
noncomputable def mReadMeshB (s : ByteArray) : Int := (rmP s).2.1
noncomputable def mReadMeshN (s : ByteArray) : Nat := (rmP s).2.2.1
noncomputable def mReadMeshL (s : ByteArray) : Nat → SpotD := (rmP s).2.2.2
theorem rm_no {s : ByteArray} (h : MshNo s) : rmB s = false ∧ mReadMeshA s = 0 ∧ mReadMeshB s = 0 ∧ mReadMeshN s = 0 := by
  have hx : ¬ ∃ p : Int × Int × Nat × (Nat → SpotD), MshIs s p.1 p.2.1 p.2.2.1 p.2.2.2 := fun ⟨p, hp⟩ => h _ _ _ _ hp
  have e : rmP s = (0, 0, 0, fun _ => ⟨0, 0⟩) := dif_neg hx
  unfold mReadMeshA mReadMeshB mReadMeshN
  rw [e]
  exact ⟨if_neg hx, rfl, rfl, rfl⟩
theorem rm_yes {s : ByteArray} {C R : Int} {n : Nat} {l : Nat → SpotD} (h : MshIs s C R n l) : rmB s = true ∧ mReadMeshA s = C ∧ mReadMeshB s = R ∧ mReadMeshN s = n ∧ ∀ j, j < n → mReadMeshL s j = l j := by
  have hx : ∃ p : Int × Int × Nat × (Nat → SpotD), MshIs s p.1 p.2.1 p.2.2.1 p.2.2.2 := ⟨(C, R, n, l), h⟩
  have e : rmP s = hx.choose := by unfold rmP; rw [dif_pos hx]
  have hc := hx.choose_spec
  rw [← e] at hc
  obtain ⟨e1, e2, e3, e4⟩ := msh_uniq hc.2 h.2
  exact ⟨if_pos hx, e1, e2, e3, fun j hj => e4 j (by omega)⟩
theorem mesh_81' {C R : Int} {n : Nat} {l : Nat → SpotD} (ok : MeshOk C R n l) : n ≤ 81 := by
  obtain ⟨⟨C1, C2⟩, ⟨R1, R2⟩, hn, _⟩ := ok
  have h := mul_bd (a := C) (b := R) (m := 9) (n := 9) (by omega) (by omega) (by omega) (by omega) (by omega)
  omega
theorem mReadMesh_len (s : ByteArray) : mReadMeshN s ≤ 1048576 := by
  by_cases hx : ∃ p : Int × Int × Nat × (Nat → SpotD), MshIs s p.1 p.2.1 p.2.2.1 p.2.2.2
  · obtain ⟨p, hp⟩ := hx
    rw [(rm_yes hp).2.2.2.1]
    have := mesh_81' hp.1
    omega
  · rw [(rm_no (fun C R n l h => hx ⟨(C, R, n, l), h⟩)).2.2.2]; omega
/-- what a reader of meshes leaves -/
def RetRM (s : ByteArray) (w w' : World) (e : Ending) : Prop :=
  ∃ (A : Option Addr) (c : Nat), e = .returned (.tuple #[.agg #[.int .i64 (mReadMeshA s), .int .i64 (mReadMeshB s), .slice A (mReadMeshN s) c], .bool (rmB s)]) ∧ Own w' w.heap.size 81 2 A (mReadMeshN s) (SpotC (mReadMeshL s)) ∧ (A = none → c = 0)
theorem retRM_no {s : ByteArray} {w w' : World} (h : MshNo s) : RetRM s w w' (.returned (.tuple #[.agg #[.int .i64 0, .int .i64 0, .slice none 0 0], .bool false])) := by
  obtain ⟨e1, e2, e3, e4⟩ := rm_no h
  refine ⟨none, 0, by rw [e1, e2, e3, e4], ?_, fun _ => rfl⟩
  rw [e4]
  exact Own.nil _ _ _ _ _
theorem retRM_yes {s : ByteArray} {w w' : World} {C R : Int} {n c : Nat} {A : Option Addr} {l : Nat → SpotD} (h : MshIs s C R n l) (ho : Own w' w.heap.size 81 2 A n (SpotC l)) (hz : A = none → c = 0) : RetRM s w w' (.returned (.tuple #[.agg #[.int .i64 C, .int .i64 R, .slice A n c], .bool true])) := by
  obtain ⟨e1, e2, e3, e4, e5⟩ := rm_yes h
  refine ⟨A, c, by rw [e1, e2, e3, e4], ?_, hz⟩
  rw [e4]
  refine ho.congr (fun j hj => ?_)
  obtain ⟨q, hq⟩ : ∃ q, j = q * 2 ∨ j = q * 2 + 1 := ⟨j / 2, by omega⟩
  rcases hq with rfl | rfl
  · rw [SpotC0, SpotC0, e5 q (by omega)]
  · rw [SpotC1, SpotC1, e5 q (by omega)]
/-- a numeral with a minus -/
theorem minus_num {t : List UInt8} {v : Int} (h : IsNum t v) (hv : 0 < v) : IsNum (45 :: t) (-v) := by
  obtain ⟨⟨h1, h2⟩, h3⟩ := h
  obtain ⟨u, rfl⟩ := Int.eq_ofNat_of_zero_le (show 0 ≤ v by omega)
  refine ⟨by omega, ?_⟩
  rw [itoa_nonneg] at h3
  rw [itoa_neg u (by omega), h3]
theorem num_minus {t : List UInt8} {n : Int} (h : IsNum (45 :: t) n) : IsNum t (-n) ∧ 0 < -n := by
  obtain ⟨⟨h1, h2⟩, h3⟩ := h
  by_cases q : n < 0
  · obtain ⟨u, hu⟩ := Int.eq_ofNat_of_zero_le (show 0 ≤ -n by omega)
    obtain rfl : n = -(u : Int) := by omega
    rw [itoa_neg u (by omega)] at h3
    injection h3 with _ h3
    refine ⟨⟨by omega, ?_⟩, by omega⟩
    rw [show - -(u : Int) = (u : Int) by omega, itoa_nonneg, h3]
  · exfalso
    unfold Lib.itoa at h3
    rw [if_neg q] at h3
    have := dd_dg n.toNat 45 (by rw [h3]; simp)
    revert this; decide
theorem Tryd.infoSpt : (Tryd.prog.info? 81).map (fun i => (i.zero, i.size, i.bytes)) = some (some (.agg #[.int .i64 0, .int .i64 0]), 2, 16) := by kernel_rfl
theorem set3 {w w' : World} (h : Below w.heap.size w w') (u0 u1 u2 : Value) : Below w.heap.size w (((w'.setCell ⟨w.heap.size, 0, none⟩ u0).setCell ⟨w.heap.size, 1, none⟩ u1).setCell ⟨w.heap.size, 2, none⟩ u2) :=
  ((h.setCell (p := ⟨w.heap.size, 0, none⟩) (Nat.le_refl _) u0).setCell (p := ⟨w.heap.size, 1, none⟩) (Nat.le_refl _) u1).setCell (p := ⟨w.heap.size, 2, none⟩) (Nat.le_refl _) u2
theorem spn_64 {x : SpotD} (h : SpN x) : SpotOk x := by
  obtain ⟨⟨a, b⟩, c, d⟩ := h
  exact ⟨by omega, by omega⟩
theorem mesh_spn {C R : Int} {n : Nat} {l : Nat → SpotD} (ok : MeshOk C R n l) {j : Nat} (hj : j < n) : SpN (l j) := by
  obtain ⟨⟨a, b⟩, c, d⟩ := plane_iff.1 (ok.2.2.2 j hj)
  exact ⟨by omega, by omega⟩
end Go.Proofs.YthjllledhcfnhaaDoor
