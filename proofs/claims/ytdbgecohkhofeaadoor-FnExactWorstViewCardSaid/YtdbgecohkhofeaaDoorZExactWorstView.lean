/- The statement about FnExactWorstView. No condition. -/
import Derived.Test.YtdbgecohkhofeaaDoorLExactWorstView
import Derived.Test.YtdbgecohkhofeaaDoorRowBase
import Derived.Test.YtdbgecohkhofeaaDoorRowVars
import Derived.Test.YtdbgecohkhofeaaDoorTabRow
import Derived.Test.YtdbgecohkhofeaaDoorTie
import Derived.Test.YtdbgecohkhofeaaDoorCards
import Derived.SevenTiedAt
import Derived.LaidMore
namespace Go.Proofs.YtdbgecohkhofeaaDoor
open Go.ChangeShapes Go.WideShapes Go.ChangeAt Go.RowKit Go.Ks
set_option linter.unusedVariables false

set_option maxRecDepth 100000 in
theorem openDomeV {H : Type} {enc : TypeId × Value → H} {w : World} {base : Nat} {held : Bool} {r : Reach} {b0 : Nat} {v : Value} {d : DataW H} {p : List MemPlace}
    (hv : Value.okWide Tryd.prog w r b0 31 v) (h : DataW.Trod enc Tryd.prog w base (fun _ => true) held 31 v d p) :
    ∃ x0 x1 x2, v = .agg #[.string x0, .int .i64 x1, .int .i64 x2] ∧ x0.size ≤ 9223372036854775807 ∧ (-9223372036854775808 ≤ x1 ∧ x1 ≤ 9223372036854775807) ∧ (-9223372036854775808 ≤ x2 ∧ x2 ≤ 9223372036854775807) := by
  obtain ⟨cs, ys, n, rfl, hsz, _, _, hf⟩ := open_agg Tryd.underlying31 (by kernel_rfl) (by kernel_rfl) hv h
  obtain ⟨u0, y0, c0, _, t0⟩ := hf 0 _ rfl
  obtain ⟨u1, y1, c1, _, t1⟩ := hf 1 _ rfl
  obtain ⟨u2, y2, c2, _, t2⟩ := hf 2 _ rfl
  obtain ⟨x0, q0, _, w0⟩ := DataW.trod_string Tryd.underlying9 t0
  obtain ⟨x1, q1, _, w1⟩ := DataW.trod_int Tryd.underlying2 t1
  obtain ⟨x2, q2, _, w2⟩ := DataW.trod_int Tryd.underlying2 t2
  injection q0 with q0; subst q0
  injection q1 with q1; subst q1
  injection q2 with q2; subst q2
  refine ⟨x0, x1, x2, ?_, w0, wf_b w1, wf_b w2⟩
  congr 1
  apply Array.ext_getElem?
  intro j
  match j with
  | 0 => rw [c0]; rfl
  | 1 => rw [c1]; rfl
  | 2 => rw [c2]; rfl
  | j + 3 => rw [Array.getElem?_eq_none (by rw [hsz]; simp), Array.getElem?_eq_none (by simp)]

set_option maxRecDepth 100000 in
theorem openVectorV {H : Type} {enc : TypeId × Value → H} {w : World} {base : Nat} {held : Bool} {r : Reach} {b0 : Nat} {v : Value} {d : DataW H} {p : List MemPlace}
    (hv : Value.okWide Tryd.prog w r b0 49 v) (h : DataW.Trod enc Tryd.prog w base (fun _ => true) held 49 v d p) :
    ∃ x0 x1 x2, v = .agg #[.int .i64 x0, .int .i64 x1, .int .i64 x2] ∧ (-9223372036854775808 ≤ x0 ∧ x0 ≤ 9223372036854775807) ∧ (-9223372036854775808 ≤ x1 ∧ x1 ≤ 9223372036854775807) ∧ (-9223372036854775808 ≤ x2 ∧ x2 ≤ 9223372036854775807) := by
  obtain ⟨cs, ys, n, rfl, hsz, _, _, hf⟩ := open_agg Tryd.underlying49 (by kernel_rfl) (by kernel_rfl) hv h
  obtain ⟨u0, y0, c0, _, t0⟩ := hf 0 _ rfl
  obtain ⟨u1, y1, c1, _, t1⟩ := hf 1 _ rfl
  obtain ⟨u2, y2, c2, _, t2⟩ := hf 2 _ rfl
  obtain ⟨x0, q0, _, w0⟩ := DataW.trod_int Tryd.underlying2 t0
  obtain ⟨x1, q1, _, w1⟩ := DataW.trod_int Tryd.underlying2 t1
  obtain ⟨x2, q2, _, w2⟩ := DataW.trod_int Tryd.underlying2 t2
  injection q0 with q0; subst q0
  injection q1 with q1; subst q1
  injection q2 with q2; subst q2
  refine ⟨x0, x1, x2, ?_, wf_b w0, wf_b w1, wf_b w2⟩
  congr 1
  apply Array.ext_getElem?
  intro j
  match j with
  | 0 => rw [c0]; rfl
  | 1 => rw [c1]; rfl
  | 2 => rw [c2]; rfl
  | j + 3 => rw [Array.getElem?_eq_none (by rw [hsz]; simp), Array.getElem?_eq_none (by simp)]

namespace fnExactWorstView
theorem own : ownKnob Tryd.prog.godebug = none := by kernel_rfl
theorem pts : (Tryd.f11.params.toList.all fun t => Tryd.prog.readableRec t && decide (t < Tryd.prog.types.size)) = true := by kernel_rfl
theorem laid : laidOutB Tryd.prog = true := by kernel_rfl
theorem door_met (os : Os) (args : Array Value) : laidMetH Tryd.prog [("loop.example/g00955/impl.sines", Rows.laid_loop_example_g00955_impl_sines)] ((World.doorLaid Tryd.prog 14 os).forCall (fun _ _ => 0) ⟨#[], args, []⟩).memory :=
  laidMetH_of_parts3 (fuel := 8) (laidMet_of_run' 8 (by kernel_rfl) (by kernel_rfl)) (by kernel_rfl) (by kernel_rfl)
set_option maxRecDepth 100000 in
theorem lifted (os : Os) (started : os.Started) (H : Type) (enc : TypeId × Value → H) :
    ReturnsInHanded {} Tryd.checked os 11 .any (fun w args => (Rows.fnExactWorstViewSpec.pre enc Tryd.prog Tryd.f11 [] false w args ∧ laidMetH Tryd.prog [("loop.example/g00955/impl.sines", Rows.laid_loop_example_g00955_impl_sines)] w) ∧ sizedMet enc Tryd.prog Tryd.f11 (OpenSpec.ofChange Rows.fnExactWorstViewSpec) false w args)
      (Rows.fnExactWorstViewSpec.post enc Tryd.prog Tryd.f11 false true false false) := by
  refine returnsInHanded_of_change_and (C := Tryd.checked) (X := fun w _ => laidMetH Tryd.prog [("loop.example/g00955/impl.sines", Rows.laid_loop_example_g00955_impl_sines)] w) (fun _ _ _ hh h => h.of_heap hh) own started (by kernel_rfl) Tryd.func11
    (ChangeSpec.witness_shaped (enc := enc) (C := Tryd.checked) (os := os) (X := fun w _ => laidMetH Tryd.prog [("loop.example/g00955/impl.sines", Rows.laid_loop_example_g00955_impl_sines)] w) false (World.doorLaid Tryd.prog 14 os) #[.agg #[.string .empty, .int .i64 0, .int .i64 0], .agg #[.int .i64 0, .int .i64 0, .int .i64 0], .int .i64 0] 12 rfl (World.shaped_of_RefB (by kernel_rfl) (by kernel_rfl)) (by kernel_rfl) (by kernel_rfl) (by kernel_rfl) (door_met os _)) ?_
  intro W base args ds gs before hval0 hW _ _ hL _
  have hT := tab_of_laid hL
  have hval : ∀ (j : Nat) t v, Tryd.f11.params[j]? = some t → args[j]? = some v → Value.okWide Tryd.prog W .any base t v := hval0
  have hW' := hW
  obtain ⟨p, q, hA0, hV, rfl, hfz, hnd⟩ := hW
  have hA : DataW.TrodAll enc Tryd.prog W 0 (fun _ => true) true Tryd.f11.params.toList args.toList ds p := hA0
  rw [Tryd.params11] at hA hval
  obtain ⟨v0, vs0, d0, ds0, p0, q0, hargs, rfl, rfl, h0, r0⟩ := trodAll_cons hA
  obtain ⟨v1, vs1, d1, ds1, p1, q1, rfl, rfl, rfl, h1, r1⟩ := trodAll_cons r0
  obtain ⟨v2, vs2, d2, ds2, p2, q2, rfl, rfl, rfl, h2, r2⟩ := trodAll_cons r1
  obtain ⟨rfl, rfl, rfl⟩ := trodAll_nil r2
  obtain rfl : args = #[v0, v1, v2] := by cases args; simp_all
  obtain ⟨g0, gs0, qv0, rfl, hV0⟩ := trodVars_cons (show DataW.TrodVars enc Tryd.prog W (fun _ => true) ["loop.example/g00955/impl.sines"] gs q from hV)
  obtain ⟨rfl, _⟩ := trodVars_none hV0
  have hlt := fun x hx => hW'.lt x hx
  have hlt := fun x hx => hlt x (List.mem_append_left _ hx)
  simp only [List.append_nil, List.mem_append] at hlt
  obtain ⟨x0_0, x0_1, x0_2, rfl, y0_0, y0_1, y0_2⟩ := openDomeV (hval 0 31 v0 rfl rfl) h0
  obtain ⟨x1_0, x1_1, x1_2, rfl, y1_0, y1_1, y1_2⟩ := openVectorV (hval 1 49 v1 rfl rfl) h1
  obtain ⟨a2, rfl, rfl, rfl, w2⟩ := open_int Tryd.underlying2 (hval 2 2 v2 rfl rfl) h2
  refine (lawWorstView x0_0 x0_1 x0_2 x1_0 x1_1 x1_2 a2 W y0_0 y0_1 y0_2 y1_0 y1_1 y1_2 (wf_b w2) hT).mono fun e W' ⟨he, hb⟩ => ?_
  subst he
  exact ⟨_, rfl, law_postV laid (all_types pts) (varsOk_of (by kernel_rfl)) rfl Tryd.underlying4 hW' rfl rfl rfl hb⟩
theorem row_holds : Rows.FnExactWorstViewSaid :=
  OpenClaim.holds_of_wide 11 Tryd.f11 rfl rfl rfl rfl rfl rfl rfl ⟨rfl, rfl, rfl, rfl, rfl⟩ rfl rfl rfl rfl rfl (by kernel_rfl) Tryd.func11 (by kernel_rfl)
    (of_decide_eq_true (by kernel_rfl)) (by unfold Func.isWrapper; first | (rw [if_pos (by decide +kernel)]; kernel_rfl) | (rw [if_neg (by decide +kernel)]; exact ⟨rfl, rfl⟩))
    (fun os started H enc _ => lifted os started H enc)
theorem proved : Rows.FnExactWorstViewCardSaid :=
  Claim7.holds_tied_plain_at .later [] [.data] true (true, "fc22c7cf60cc4bb22dea592f9952a79c15ff0d2b22a687e2ebf93a93f5d2c595") false
    row_holds (fun _ h => by cases h) (by kernel_rfl) (fun _ h => by cases h) fnExactWorstView_row_tie rfl ⟨rfl, rfl⟩ (by kernel_rfl) rfl
    (fun f fn hf hfn => by
      obtain rfl : f = 11 := Option.some.inj ((show Tryd.prog.funcNamed "loop.example/g00955/laws.FnExactWorstView" = some 11 by kernel_rfl).symm.trans hf) |>.symm
      obtain rfl : fn = Tryd.f11 := (Option.some.inj (Tryd.func11.symm.trans hfn)).symm
      exact ⟨by kernel_rfl, fun j t ht => by
        rw [Tryd.params11] at ht
        have hm : t ∈ [31, 49, 2] := by simpa using Array.mem_of_getElem? ht
        have hall : ([31, 49, 2].all fun u => !Tryd.prog.wantsStandIn u) = true := by kernel_rfl
        exact (show Tryd.prog.wantsStandIn t = false by simpa using List.all_eq_true.1 hall t hm)⟩)
    (by kernel_rfl)
#print axioms proved
end fnExactWorstView

end Go.Proofs.YtdbgecohkhofeaaDoor
