/- R8Mesh hands out a valid mesh. Conditions: the code is shorter than 2^20. -/
import Derived.Test.YthjllledhcfnhaaDoorDrawMesh
import Derived.Test.YthjllledhcfnhaaDoorR8
namespace Go.Proofs.YthjllledhcfnhaaDoor
open Go.RowKit Go.Lib Go.Ks
theorem below_of_grown {w w1 w2 : World} {s : Nat} (h : Below w.heap.size w w1) (hg : w1.grownBy w2 (some s)) (hs : w.heap.size ≤ s) : Below w.heap.size w w2 :=
  ⟨hg.os.trans h.os, hg.tape.trans h.tape, hg.output.trans h.output, Nat.le_trans h.size hg.size, fun k hk => (hg.block k (Nat.lt_of_lt_of_le hk h.size) (fun e => by injection e with e; omega)).trans (h.block k hk)⟩
set_option maxRecDepth 100000 in
set_option maxHeartbeats 2000000 in
theorem r8Mesh_any (A : Option Addr) (n c : Nat) (l : Nat → Int) (w : World) (hn : n ≤ 1048576) (hs : Sl w A (n * 1) (ByteC l)) (hl : ∀ j, j < n → 0 ≤ l j ∧ l j ≤ 255) :
    Calls Tryd.prog 40 #[.slice A n c] w fun e w' => RetD w w' e ∧ Below w.heap.size w w' := by
  go_enter Tryd.func40, Tryd.ntmps40
  go_wp2_with fail
  generalize hV : World.alloc _ _ = w1
  have h1 : Below w.heap.size w w1 := by rw [← hV]; exact (Below.refl _ _).alloc (Nat.le_refl _) _
  have r1 : Blk w1 w.heap.size 69 #[.int .i64 0, .int .i64 0, .slice none 0 0] := by rw [← hV]; exact Blk.new w _ _
  clear hV
  refine (from_any A n c l _ (hs.below h1) hl (fun ad e hm => by obtain ⟨b, off, e2, hb, _⟩ := (hs.below h1) hm; rw [e] at e2; injection e2 with e2; rw [e2]; exact hb)).mono ?_
  rintro e w2 ⟨rfl, hs2, hb2⟩
  have e1 := h1.size
  have e2 := hb2.size
  go_wp2_with fail
  refine (l11Draw_any w1.heap.size A n c l 0 _ hn (by omega) hs2).mono ?_
  rintro e w3 ⟨⟨C, R, A3, n3, c3, L, rfl, hok, own3⟩, hg3⟩
  have hb3 := below_of_grown (h1.trans (hb2.mono e1)) hg3 e1
  have r3 := blk_grown (r1.below hb2 r1.lt) hg3 (fun e => by injection e with e; have := r1.lt; omega)
  have hne : Own w3 w.heap.size 81 2 A3 n3 (SpotC L) := own3.mono (by omega)
  go_wp2_with fail
  generalize hV : World.alloc _ _ = w4
  have h4 : Below w3.heap.size w3 w4 := by rw [← hV]; exact (Below.refl _ _).alloc (Nat.le_refl _) _
  have m4 : Blk w4 w3.heap.size 69 #[.int .i64 C, .int .i64 R, .slice A3 n3 c3] := by rw [← hV]; exact Blk.new w3 _ _
  clear hV
  have own4 := hne.below h4
  have r4 := r3.below h4 r3.lt
  have HOK := Lib.hid hok
  obtain ⟨⟨C1, C2⟩, ⟨R1, R2⟩, hn3, _⟩ := hok
  have n81 : n3 ≤ 81 := by
    have h := mul_bd (a := C) (b := R) (m := 9) (n := 9) (by omega) (by omega) (by omega) (by omega) (by omega)
    omega
  clear hn3
  refine (l11Ok_any w3.heap.size C R A3 n3 c3 L _ (by omega) own4.sl ⟨m4.lt, m4.cell 0, m4.cell 1, m4.cell 2⟩).mono ?_
  rintro e w5 ⟨rfl, hb5⟩
  rw [meshOk_yes HOK.out]
  have m5 := m4.below hb5 m4.lt
  have r5 := r4.below hb5 r4.lt
  have own5 := own4.below hb5
  have d0 := m5.cell 0
  have d1 := m5.cell 1
  have d2 := m5.cell 2
  simp at d0 d1 d2
  have dl := m5.lt
  have c0 := r5.cell 0
  have c1 := r5.cell 1
  have c2 := r5.cell 2
  simp at c0 c1 c2
  have cl := r5.lt
  have og0 := r5.frozen 0
  have og1 := r5.frozen 1
  have og2 := r5.frozen 2
  have HB := hb3.trans ((h4.mono hb3.size).trans (hb5.mono (Nat.le_trans hb3.size h4.size)))
  have o1 := own5.set r5 (by decide) 0 (.int .i64 C)
  have o2 := o1.set (r5.set_ 0 _) (by decide) 1 (.int .i64 R)
  have o3 := o2.set ((r5.set_ 0 _).set_ 1 _) (by decide) 2 (.slice A3 n3 c3)
  have kr' := ((r5.set_ 0 (.int .i64 C)).set_ 1 (.int .i64 R)).set_ 2 (.slice A3 n3 c3)
  have z0 := kr'.cell 0
  have z1 := kr'.cell 1
  have z2 := kr'.cell 2
  simp at z0 z1 z2
  go_wp2_with fail
  refine bodyPost_ret (v := .agg #[.int .i64 C, .int .i64 R, .slice A3 n3 c3]) (by simp [results, Tryd.results40, go_sem, z0, z1, z2]) rfl ⟨⟨C, R, A3, n3, c3, L, rfl, HOK.out, o3⟩, ?_⟩
  exact ((HB.setCell (p := ⟨w.heap.size, 0, none⟩) (Nat.le_refl _) (.int .i64 C)).setCell (p := ⟨w.heap.size, 1, none⟩) (Nat.le_refl _) (.int .i64 R)).setCell (p := ⟨w.heap.size, 2, none⟩) (Nat.le_refl _) (.slice A3 n3 c3)
end Go.Proofs.YthjllledhcfnhaaDoor
