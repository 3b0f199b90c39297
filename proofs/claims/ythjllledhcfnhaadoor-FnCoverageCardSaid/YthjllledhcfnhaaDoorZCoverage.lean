/- The statement about FnCoverage. No condition. -/
import Derived.Test.YthjllledhcfnhaaDoorFnCoverage
import Derived.Test.YthjllledhcfnhaaDoorRowBase
import Derived.Test.YthjllledhcfnhaaDoorRowVars
import Derived.Test.YthjllledhcfnhaaDoorTabRow
import Derived.Test.YthjllledhcfnhaaDoorTie
import Derived.Test.YthjllledhcfnhaaDoorCards
import Derived.SevenTiedAt
import Derived.LaidMore
namespace Go.Proofs.YthjllledhcfnhaaDoor
open Go.ChangeShapes Go.WideShapes Go.ChangeAt Go.RowKit Go.Ks
set_option linter.unusedVariables false

set_option maxRecDepth 100000 in
theorem openBytes {H : Type} {enc : TypeId × Value → H} {w : World} {base : Nat} {held : Bool} {r : Reach} {b0 : Nat} {v : Value} {d : DataW H} {p : List MemPlace}
    (hv : Value.okWide Tryd.prog w r b0 34 v) (h : DataW.Trod enc Tryd.prog w base (fun _ => true) held 34 v d p) (hlt : ∀ x ∈ p, x.block < w.heap.size) :
    ∃ (A : Option Addr) (n c : Nat) (l : Nat → Int), v = .slice A n c ∧ n ≤ 9223372036854775807 ∧ Sl w A (n * 1) (ByteC l) ∧ ∀ k, k < n → 0 ≤ l k ∧ l k ≤ 255 := by
  obtain ⟨A, n, c, l, h1, h2, h3, h4, h5⟩ := open_nums Tryd.underlying34 Tryd.underlying5 (by kernel_rfl) hv h hlt
  exact ⟨A, n, c, l, h1, by unfold maxLen at h3; omega, h4, fun k hk => by have := h5 k hk; simpa [Lit.wf, IntKind.min, IntKind.max, IntKind.signed, IntKind.bits] using this⟩

namespace fnCoverage
theorem own : ownKnob Tryd.prog.godebug = none := by kernel_rfl
theorem pts : (Tryd.f5.params.toList.all fun t => Tryd.prog.readableRec t && decide (t < Tryd.prog.types.size)) = true := by kernel_rfl
theorem laid : laidOutB Tryd.prog = true := by kernel_rfl
theorem door_met (os : Os) (args : Array Value) : laidMetH Tryd.prog [("loop.example/g00955/impl.sines", Rows.laid_loop_example_g00955_impl_sines)] ((World.doorLaid Tryd.prog 77 os).forCall (fun _ _ => 0) ⟨#[], args, []⟩).memory :=
  laidMetH_of_parts3 (fuel := 8) (laidMet_of_run' 8 (by kernel_rfl) (by kernel_rfl)) (by kernel_rfl) (by kernel_rfl)
set_option maxRecDepth 100000 in
theorem lifted (os : Os) (started : os.Started) (H : Type) (enc : TypeId × Value → H) :
    ReturnsInHanded {} Tryd.checked os 5 .any (fun w args => (Rows.fnCoverageSpec.pre enc Tryd.prog Tryd.f5 [] false w args ∧ laidMetH Tryd.prog [("loop.example/g00955/impl.sines", Rows.laid_loop_example_g00955_impl_sines)] w) ∧ sizedMet enc Tryd.prog Tryd.f5 (OpenSpec.ofChange Rows.fnCoverageSpec) false w args)
      (Rows.fnCoverageSpec.post enc Tryd.prog Tryd.f5 false true false false) := by
  refine returnsInHanded_of_change_and (C := Tryd.checked) (X := fun w _ => laidMetH Tryd.prog [("loop.example/g00955/impl.sines", Rows.laid_loop_example_g00955_impl_sines)] w) (fun _ _ _ hh h => h.of_heap hh) own started (by kernel_rfl) Tryd.func5
    (ChangeSpec.witness_shaped (enc := enc) (C := Tryd.checked) (os := os) (X := fun w _ => laidMetH Tryd.prog [("loop.example/g00955/impl.sines", Rows.laid_loop_example_g00955_impl_sines)] w) false (World.doorLaid Tryd.prog 77 os) #[.slice none 0 0, .slice none 0 0] 12 rfl (World.shaped_of_RefB (by kernel_rfl) (by kernel_rfl)) (by kernel_rfl) (by kernel_rfl) (by kernel_rfl) (door_met os _)) ?_
  intro W base args ds gs before hval0 hW _ _ hL _
  have hT := tab_of_laid hL
  have hval : ∀ (j : Nat) t v, Tryd.f5.params[j]? = some t → args[j]? = some v → Value.okWide Tryd.prog W .any base t v := hval0
  have hW' := hW
  obtain ⟨p, q, hA0, hV, rfl, hfz, hnd⟩ := hW
  have hA : DataW.TrodAll enc Tryd.prog W 0 (fun _ => true) true Tryd.f5.params.toList args.toList ds p := hA0
  rw [Tryd.params5] at hA hval
  obtain ⟨v0, vs0, d0, ds0, p0, q0, hargs, rfl, rfl, h0, r0⟩ := trodAll_cons hA
  obtain ⟨v1, vs1, d1, ds1, p1, q1, rfl, rfl, rfl, h1, r1⟩ := trodAll_cons r0
  obtain ⟨rfl, rfl, rfl⟩ := trodAll_nil r1
  obtain rfl : args = #[v0, v1] := by cases args; simp_all
  obtain ⟨g0, gs0, qv0, rfl, hV0⟩ := trodVars_cons (show DataW.TrodVars enc Tryd.prog W (fun _ => true) ["loop.example/g00955/impl.sines"] gs q from hV)
  obtain ⟨rfl, _⟩ := trodVars_none hV0
  have hlt := fun x hx => hW'.lt x hx
  have hlt := fun x hx => hlt x (List.mem_append_left _ hx)
  simp only [List.append_nil, List.mem_append] at hlt
  obtain ⟨A0, n0, c0, l0, rfl, b0, s0, g0⟩ := openBytes (hval 0 34 v0 rfl rfl) h0 (fun x hx => hlt x (.inl hx))
  obtain ⟨A1, n1, c1, l1, rfl, b1, s1, g1⟩ := openBytes (hval 1 34 v1 rfl rfl) h1 (fun x hx => hlt x (.inr (hx)))
  refine (fnCoverage_any A0 n0 c0 l0 A1 n1 c1 l1 W b0 s0 g0 b1 s1 g1 hT).mono fun e W' ⟨he, hb⟩ => ?_
  subst he
  exact ⟨_, rfl, law_postV laid (all_types pts) (varsOk_of (by kernel_rfl)) rfl Tryd.underlying4 hW' rfl rfl rfl hb⟩
theorem row_holds : Rows.FnCoverageSaid :=
  OpenClaim.holds_of_wide 5 Tryd.f5 rfl rfl rfl rfl rfl rfl rfl ⟨rfl, rfl, rfl, rfl, rfl⟩ rfl rfl rfl rfl rfl (by kernel_rfl) Tryd.func5 (by kernel_rfl)
    (of_decide_eq_true (by kernel_rfl)) (by unfold Func.isWrapper; first | (rw [if_pos (by decide +kernel)]; kernel_rfl) | (rw [if_neg (by decide +kernel)]; exact ⟨rfl, rfl⟩))
    (fun os started H enc _ => lifted os started H enc)
theorem proved : Rows.FnCoverageCardSaid :=
  Claim7.holds_tied_plain_at .later [] [.data] true (true, "48f408a8388de9c9087dae9f2fd3acbfee9ce60468a7b09b9d336ab8d33415ea") true
    row_holds (fun _ h => by cases h) (by kernel_rfl) (fun _ h => by cases h) fnCoverage_row_tie rfl ⟨rfl, rfl⟩ (by kernel_rfl) rfl
    (fun f fn hf hfn => by
      obtain rfl : f = 5 := Option.some.inj ((show Tryd.prog.funcNamed "loop.example/g00955/laws.FnCoverage" = some 5 by kernel_rfl).symm.trans hf) |>.symm
      obtain rfl : fn = Tryd.f5 := (Option.some.inj (Tryd.func5.symm.trans hfn)).symm
      exact ⟨by kernel_rfl, fun j t ht => by
        rw [Tryd.params5] at ht
        have hm : t ∈ [34, 34] := by simpa using Array.mem_of_getElem? ht
        have hall : ([34, 34].all fun u => !Tryd.prog.wantsStandIn u) = true := by kernel_rfl
        exact (show Tryd.prog.wantsStandIn t = false by simpa using List.all_eq_true.1 hall t hm)⟩)
    (by kernel_rfl)
#print axioms proved
end fnCoverage

end Go.Proofs.YthjllledhcfnhaaDoor
