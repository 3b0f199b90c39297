/- The statement about FnExactFewestProjectors. No condition. -/
import Derived.Test.YthjllledhcfnhaaDoorLExactFewestProjectors
import Derived.Test.YthjllledhcfnhaaDoorRowBase
import Derived.Test.YthjllledhcfnhaaDoorRowVars
import Derived.Test.YthjllledhcfnhaaDoorTabRow
import Derived.Test.YthjllledhcfnhaaDoorTie
import Derived.Test.YthjllledhcfnhaaDoorCards
import Derived.SevenTiedAt
import Derived.LaidMore
namespace Go.Proofs.YthjllledhcfnhaaDoor
open Go.ChangeShapes Go.WideShapes Go.ChangeAt Go.RowKit Go.Ks
set_option linter.unusedVariables false

set_option maxRecDepth 100000 in
theorem openProjectorS {H : Type} {enc : TypeId × Value → H} {w : World} {base : Nat} {held : Bool} {r : Reach} {b0 : Nat} {v : Value} {d : DataW H} {p : List MemPlace}
    (hv : Value.okWide Tryd.prog w r b0 22 v) (h : DataW.Trod enc Tryd.prog w base (fun _ => true) held 22 v d p) (hlt : ∀ x ∈ p, x.block < w.heap.size) :
    ∃ (A : Option Addr) (n c : Nat) (l : Nat → ProjectorD), v = .slice A n c ∧ n ≤ 9223372036854775807 ∧ Sl w A (n * 5) (ProjectorC l) ∧ ∀ k, k < n → ProjectorOk (l k) := by
  obtain ⟨A, n, c, l, h1, h2, h3, h4, h5⟩ := open_rows ProjectorF ProjectorOk Tryd.underlying22 Tryd.underlying87 (by kernel_rfl) (by kernel_rfl) (by decide) (fun c hc => by
    obtain ⟨_, _, t0⟩ := hc 0 _ rfl
    obtain ⟨_, _, t1⟩ := hc 1 _ rfl
    obtain ⟨_, _, t2⟩ := hc 2 _ rfl
    obtain ⟨_, _, t3⟩ := hc 3 _ rfl
    obtain ⟨_, _, t4⟩ := hc 4 _ rfl
    obtain ⟨x0, q0, _, w0⟩ := DataW.trod_string Tryd.underlying9 t0
    obtain ⟨x1, q1, _, w1⟩ := DataW.trod_int Tryd.underlying2 t1
    obtain ⟨x2, q2, _, w2⟩ := DataW.trod_int Tryd.underlying2 t2
    obtain ⟨x3, q3, _, w3⟩ := DataW.trod_int Tryd.underlying2 t3
    obtain ⟨x4, q4, _, w4⟩ := DataW.trod_int Tryd.underlying2 t4
    refine ⟨⟨x0, x1, x2, x3, x4⟩, ⟨w0, wf_b w1, wf_b w2, wf_b w3, wf_b w4⟩, fun l k hl j hj => ?_⟩
    match j, hj with
    | 0, _ => show Value.string (l k).f0 = c 0; rw [hl]; injection q0 with q; exact q.symm
    | 1, _ => show Value.int .i64 (l k).f1 = c 1; rw [hl]; injection q1 with q; exact q.symm
    | 2, _ => show Value.int .i64 (l k).f2 = c 2; rw [hl]; injection q2 with q; exact q.symm
    | 3, _ => show Value.int .i64 (l k).f3 = c 3; rw [hl]; injection q3 with q; exact q.symm
    | 4, _ => show Value.int .i64 (l k).f4 = c 4; rw [hl]; injection q4 with q; exact q.symm
    ) hv h hlt
  exact ⟨A, n, c, l, h1, by unfold maxLen at h3; omega, h4, h5⟩

namespace fnExactFewestProjectors
theorem own : ownKnob Tryd.prog.godebug = none := by kernel_rfl
theorem pts : (Tryd.f3.params.toList.all fun t => Tryd.prog.readableRec t && decide (t < Tryd.prog.types.size)) = true := by kernel_rfl
theorem laid : laidOutB Tryd.prog = true := by kernel_rfl
theorem door_met (os : Os) (args : Array Value) : laidMetH Tryd.prog [("loop.example/g00955/impl.sines", Rows.laid_loop_example_g00955_impl_sines)] ((World.doorLaid Tryd.prog 77 os).forCall (fun _ _ => 0) ⟨#[], args, []⟩).memory :=
  laidMetH_of_parts3 (fuel := 8) (laidMet_of_run' 8 (by kernel_rfl) (by kernel_rfl)) (by kernel_rfl) (by kernel_rfl)
set_option maxRecDepth 100000 in
theorem lifted (os : Os) (started : os.Started) (H : Type) (enc : TypeId × Value → H) :
    ReturnsInHanded {} Tryd.checked os 3 .any (fun w args => (Rows.fnExactFewestProjectorsSpec.pre enc Tryd.prog Tryd.f3 [] false w args ∧ laidMetH Tryd.prog [("loop.example/g00955/impl.sines", Rows.laid_loop_example_g00955_impl_sines)] w) ∧ sizedMet enc Tryd.prog Tryd.f3 (OpenSpec.ofChange Rows.fnExactFewestProjectorsSpec) false w args)
      (Rows.fnExactFewestProjectorsSpec.post enc Tryd.prog Tryd.f3 false true false false) := by
  refine returnsInHanded_of_change_and (C := Tryd.checked) (X := fun w _ => laidMetH Tryd.prog [("loop.example/g00955/impl.sines", Rows.laid_loop_example_g00955_impl_sines)] w) (fun _ _ _ hh h => h.of_heap hh) own started (by kernel_rfl) Tryd.func3
    (ChangeSpec.witness_shaped (enc := enc) (C := Tryd.checked) (os := os) (X := fun w _ => laidMetH Tryd.prog [("loop.example/g00955/impl.sines", Rows.laid_loop_example_g00955_impl_sines)] w) false (World.doorLaid Tryd.prog 77 os) #[.slice none 0 0, .int .i64 0, .int .i64 0] 12 rfl (World.shaped_of_RefB (by kernel_rfl) (by kernel_rfl)) (by kernel_rfl) (by kernel_rfl) (by kernel_rfl) (door_met os _)) ?_
  intro W base args ds gs before hval0 hW _ _ hL _
  have hT := tab_of_laid hL
  have hval : ∀ (j : Nat) t v, Tryd.f3.params[j]? = some t → args[j]? = some v → Value.okWide Tryd.prog W .any base t v := hval0
  have hW' := hW
  obtain ⟨p, q, hA0, hV, rfl, hfz, hnd⟩ := hW
  have hA : DataW.TrodAll enc Tryd.prog W 0 (fun _ => true) true Tryd.f3.params.toList args.toList ds p := hA0
  rw [Tryd.params3] at hA hval
  obtain ⟨v0, vs0, d0, ds0, p0, q0, hargs, rfl, rfl, h0, r0⟩ := trodAll_cons hA
  obtain ⟨v1, vs1, d1, ds1, p1, q1, rfl, rfl, rfl, h1, r1⟩ := trodAll_cons r0
  obtain ⟨v2, vs2, d2, ds2, p2, q2, rfl, rfl, rfl, h2, r2⟩ := trodAll_cons r1
  obtain ⟨rfl, rfl, rfl⟩ := trodAll_nil r2
  obtain rfl : args = #[v0, v1, v2] := by cases args; simp_all
  obtain ⟨g0, gs0, qv0, rfl, hV0⟩ := trodVars_cons (show DataW.TrodVars enc Tryd.prog W (fun _ => true) ["loop.example/g00955/impl.sines"] gs q from hV)
  obtain ⟨rfl, _⟩ := trodVars_none hV0
  have hlt := fun x hx => hW'.lt x hx
  have hlt := fun x hx => hlt x (List.mem_append_left _ hx)
  simp only [List.append_nil, List.mem_append] at hlt
  obtain ⟨A0, n0, c0, l0, rfl, b0, s0, g0⟩ := openProjectorS (hval 0 22 v0 rfl rfl) h0 (fun x hx => hlt x (.inl hx))
  obtain ⟨a1, rfl, rfl, rfl, w1⟩ := open_int Tryd.underlying2 (hval 1 2 v1 rfl rfl) h1
  obtain ⟨a2, rfl, rfl, rfl, w2⟩ := open_int Tryd.underlying2 (hval 2 2 v2 rfl rfl) h2
  refine (lawFewestProjectors A0 n0 c0 l0 a1 a2 W b0 s0 g0 (wf_b w1) (wf_b w2) hT).mono fun e W' ⟨he, hb⟩ => ?_
  subst he
  exact ⟨_, rfl, law_postV laid (all_types pts) (varsOk_of (by kernel_rfl)) rfl Tryd.underlying4 hW' rfl rfl rfl hb⟩
theorem row_holds : Rows.FnExactFewestProjectorsSaid :=
  OpenClaim.holds_of_wide 3 Tryd.f3 rfl rfl rfl rfl rfl rfl rfl ⟨rfl, rfl, rfl, rfl, rfl⟩ rfl rfl rfl rfl rfl (by kernel_rfl) Tryd.func3 (by kernel_rfl)
    (of_decide_eq_true (by kernel_rfl)) (by unfold Func.isWrapper; first | (rw [if_pos (by decide +kernel)]; kernel_rfl) | (rw [if_neg (by decide +kernel)]; exact ⟨rfl, rfl⟩))
    (fun os started H enc _ => lifted os started H enc)
theorem proved : Rows.FnExactFewestProjectorsCardSaid :=
  Claim7.holds_tied_plain_at .later [] [.data] true (true, "48f408a8388de9c9087dae9f2fd3acbfee9ce60468a7b09b9d336ab8d33415ea") true
    row_holds (fun _ h => by cases h) (by kernel_rfl) (fun _ h => by cases h) fnExactFewestProjectors_row_tie rfl ⟨rfl, rfl⟩ (by kernel_rfl) rfl
    (fun f fn hf hfn => by
      obtain rfl : f = 3 := Option.some.inj ((show Tryd.prog.funcNamed "loop.example/g00955/laws.FnExactFewestProjectors" = some 3 by kernel_rfl).symm.trans hf) |>.symm
      obtain rfl : fn = Tryd.f3 := (Option.some.inj (Tryd.func3.symm.trans hfn)).symm
      exact ⟨by kernel_rfl, fun j t ht => by
        rw [Tryd.params3] at ht
        have hm : t ∈ [22, 2, 2] := by simpa using Array.mem_of_getElem? ht
        have hall : ([22, 2, 2].all fun u => !Tryd.prog.wantsStandIn u) = true := by kernel_rfl
        exact (show Tryd.prog.wantsStandIn t = false by simpa using List.all_eq_true.1 hall t hm)⟩)
    (by kernel_rfl)
#print axioms proved
end fnExactFewestProjectors

end Go.Proofs.YthjllledhcfnhaaDoor
