/- ProjectorText. Conditions: the sizes of strings; the library's table of powers of ten lies. -/
import Derived.Test.YtikonccofaiceaaDoorText
import Derived.Test.YtikonccofaiceaaDoorProj
namespace Go.Ks
/-- the text of a projector -/
def projTx (x : ProjectorD) : ByteArray := x.f0 ++ (⟨#[32]⟩ : ByteArray) ++ angB x.f1 ++ (⟨#[32]⟩ : ByteArray) ++ angB x.f2 ++ (⟨#[32]⟩ : ByteArray) ++ angB x.f3 ++ (⟨#[32]⟩ : ByteArray) ++ decB x.f4
end Go.Ks
namespace Go.Proofs.YtikonccofaiceaaDoor
open Go.RowKit Go.Lib Go.Ks
noncomputable def mPT (x : ProjectorD) : ByteArray := if projB x = true then projTx x else ⟨#[]⟩
theorem name_size {s : ByteArray} (h : NameOk s) : s.size ≤ 32 := by
  have := h.2.1
  omega
theorem b_cases (b : Bool) : b = false ∨ b = true := by cases b <;> simp
theorem one_size (x : UInt8) : (⟨#[x]⟩ : ByteArray).size = 1 := rfl
set_option maxRecDepth 100000 in
set_option maxHeartbeats 2000000 in
theorem l10Text_any (b o : Nat) (x : ProjectorD) (w : World) (hx : ProjectorAt w b o x) (hok : projB x = true) :
    Calls Tryd.prog 74 #[.pointer (some ⟨b, o, none⟩)] w fun e w' => e = .returned (.string (projTx x)) ∧ Below w.heap.size w w' := by
  obtain ⟨hlt, c0, c1, c2, c3, c4⟩ := hx
  have ns := name_size (projB_iff.1 hok).1
  obtain ⟨⟨a1, a2⟩, ⟨a3, a4⟩, ⟨a5, a6⟩, a7, a8⟩ := proj_dir hok
  have s1 := angB_size (a := x.f1) (by omega)
  have s2 := angB_size (a := x.f2) (by omega)
  have s3 := angB_size (a := x.f3) (by omega)
  have s4 := decB_size (n := x.f4) (by omega)
  have E := Lib.hid (show projTx x = _ from rfl)
  clear hok
  go_enter Tryd.func74, Tryd.ntmps74
  go_wp2_with fail
  refine wp_region_ext (by kernel_rfl) (by kernel_rfl) ?_
  repeat (go_big_quiet_step ((first | (go_at_call 107; exact quiet_ext (l02Text_any _ (by omega) _)) | (go_at_call 88; exact quiet_ext (l01Dec_any _ (by omega) _)))))
  refine wpQuiet_nil ?_
  intro e1
  go_wp2_with fail
  go_ret
  exact ⟨rfl, e1.below⟩
set_option maxRecDepth 100000 in
set_option maxHeartbeats 2000000 in
theorem specProjectorText_any (x0 : ByteArray) (x1 x2 x3 x4 : Int) (w : World) (g0 : x0.size ≤ 9223372036854775807) (g1 : -9223372036854775808 ≤ x1 ∧ x1 ≤ 9223372036854775807) (g2 : -9223372036854775808 ≤ x2 ∧ x2 ≤ 9223372036854775807) (g3 : -9223372036854775808 ≤ x3 ∧ x3 ≤ 9223372036854775807) (g4 : -9223372036854775808 ≤ x4 ∧ x4 ≤ 9223372036854775807) :
    Calls Tryd.prog 34 #[.agg #[.string x0, .int .i64 x1, .int .i64 x2, .int .i64 x3, .int .i64 x4]] w fun e w' => e = .returned (.string (mPT ⟨x0, x1, x2, x3, x4⟩)) ∧ Below w.heap.size w w' := by
  have GK := Lib.hid (show ProjectorOk ⟨x0, x1, x2, x3, x4⟩ from ⟨g0, g1, g2, g3, g4⟩)
  clear g0 g1 g2 g3 g4
  go_enter Tryd.func34, Tryd.ntmps34
  go_wp2_with fail
  generalize hV : World.alloc _ _ = w1
  have h1 : Below w.heap.size w w1 := by rw [← hV]; exact (Below.refl _ _).alloc (Nat.le_refl _) _
  have x1' : ProjectorAt w1 w.heap.size 0 ⟨x0, x1, x2, x3, x4⟩ := by
    have hk := Blk.new w 59 #[.string x0, .int .i64 x1, .int .i64 x2, .int .i64 x3, .int .i64 x4]
    rw [← hV]
    exact ⟨hk.lt, hk.cell 0, hk.cell 1, hk.cell 2, hk.cell 3, hk.cell 4⟩
  clear hV
  have XH := Lib.hid x1'
  clear x1'
  refine (l10One_any _ _ ⟨x0, x1, x2, x3, x4⟩ _ XH.out GK.out).mono ?_
  rintro e w2 ⟨rfl, rfl⟩
  rcases b_cases (projB ⟨x0, x1, x2, x3, x4⟩) with q | q
  · have E := Lib.hid (show mPT ⟨x0, x1, x2, x3, x4⟩ = ⟨#[]⟩ by unfold mPT; rw [q]; rfl)
    rw [q]
    go_wp2_with fail
    go_ret
    exact ⟨by rw [E.out] <;> rfl, h1⟩
  · have E := Lib.hid (show mPT ⟨x0, x1, x2, x3, x4⟩ = projTx ⟨x0, x1, x2, x3, x4⟩ by unfold mPT; rw [q]; rfl)
    have Q := Lib.hid q
    rw [q]
    clear q
    go_wp2_with fail
    refine (l10Text_any _ _ ⟨x0, x1, x2, x3, x4⟩ _ XH.out Q.out).mono ?_
    rintro e w3 ⟨rfl, hb3⟩
    go_wp2_with fail
    go_ret
    exact ⟨by rw [E.out] <;> rfl, h1.trans (hb3.mono h1.size)⟩
set_option maxRecDepth 100000 in
set_option maxHeartbeats 2000000 in
theorem implProjectorText_any (x0 : ByteArray) (x1 x2 x3 x4 : Int) (w : World) (g0 : x0.size ≤ 9223372036854775807) (g1 : -9223372036854775808 ≤ x1 ∧ x1 ≤ 9223372036854775807) (g2 : -9223372036854775808 ≤ x2 ∧ x2 ≤ 9223372036854775807) (g3 : -9223372036854775808 ≤ x3 ∧ x3 ≤ 9223372036854775807) (g4 : -9223372036854775808 ≤ x4 ∧ x4 ≤ 9223372036854775807) (hT : Tab w) :
    Calls Tryd.prog 36 #[.agg #[.string x0, .int .i64 x1, .int .i64 x2, .int .i64 x3, .int .i64 x4]] w fun e w' => e = .returned (.string (mPT ⟨x0, x1, x2, x3, x4⟩)) ∧ Below w.heap.size w w' := by
  have GK := Lib.hid (show ProjectorOk ⟨x0, x1, x2, x3, x4⟩ from ⟨g0, g1, g2, g3, g4⟩)
  have HT := Lib.hid hT
  clear g0 g1 g2 g3 g4 hT
  go_enter Tryd.func36, Tryd.ntmps36
  go_wp2_with fail
  generalize hV : World.alloc _ _ = w1
  have h1 : Below w.heap.size w w1 := by rw [← hV]; exact (Below.refl _ _).alloc (Nat.le_refl _) _
  have k1 : Blk w1 w.heap.size 59 #[.string x0, .int .i64 x1, .int .i64 x2, .int .i64 x3, .int .i64 x4] := by rw [← hV]; exact Blk.new w _ _
  clear hV
  have c0 := k1.cell 0
  have c1 := k1.cell 1
  have c2 := k1.cell 2
  have c3 := k1.cell 3
  have c4 := k1.cell 4
  simp at c0 c1 c2 c3 c4
  have cl := k1.lt
  refine (validProjector_any ⟨x0, x1, x2, x3, x4⟩ _ GK.out).mono ?_
  rintro e w2 ⟨rfl, hb2⟩
  have HB2 := h1.trans (hb2.mono h1.size)
  have k2 := k1.below hb2 k1.lt
  clear c0 c1 c2 c3 c4 cl
  rcases b_cases (projB ⟨x0, x1, x2, x3, x4⟩) with q | q
  · have E := Lib.hid (show mPT ⟨x0, x1, x2, x3, x4⟩ = ⟨#[]⟩ by unfold mPT; rw [q]; rfl)
    rw [q]
    go_wp2_with fail
    go_ret
    exact ⟨by rw [E.out] <;> rfl, HB2⟩
  · have E := Lib.hid (show mPT ⟨x0, x1, x2, x3, x4⟩ = projTx ⟨x0, x1, x2, x3, x4⟩ by unfold mPT; rw [q]; rfl)
    have ns : x0.size ≤ 32 := name_size (projB_iff.1 q).1
    have PD := proj_dir q
    simp only at PD
    obtain ⟨⟨a1, a2⟩, ⟨a3, a4⟩, ⟨a5, a6⟩, a7, a8⟩ := PD
    have s1 := angB_size (a := x1) (by omega)
    have s2 := angB_size (a := x2) (by omega)
    have s3 := angB_size (a := x3) (by omega)
    have s4 := decB_size (n := x4) (by omega)
    rw [q]
    clear q
    have d0 := k2.cell 0
    have d1 := k2.cell 1
    have d2 := k2.cell 2
    have d3 := k2.cell 3
    have d4 := k2.cell 4
    simp at d0 d1 d2 d3 d4
    have dl := k2.lt
    have TT := Lib.hid (HT.out.below HB2)
    go_wp2_with fail
    refine wp_region_ext (by kernel_rfl) (by kernel_rfl) ?_
    repeat (go_big_quiet_step ((first | (go_at_call 76; exact quiet_ext (angleText_any _ (by omega) _ (TT.out.below (ExtW.below _)))) | (go_at_call 52; exact quiet_ext (decimal_any _ (by omega) _ (TT.out.below (ExtW.below _)))))))
    refine wpQuiet_nil ?_
    intro e1
    have HB3 := HB2.trans (e1.below.mono HB2.size)
    go_wp2_with fail
    go_ret
    exact ⟨by rw [E.out] <;> rfl, HB3⟩
end Go.Proofs.YtikonccofaiceaaDoor
