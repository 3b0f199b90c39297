/- The statement about FnExactCurveText. No condition. -/
import Derived.Test.YtjomlcjchndkeaaDoorLExactCurveText
import Derived.Test.YtjomlcjchndkeaaDoorRowBase
import Derived.Test.YtjomlcjchndkeaaDoorRowVars
import Derived.Test.YtjomlcjchndkeaaDoorTabTen
import Derived.Test.YtjomlcjchndkeaaDoorTie
import Derived.Test.YtjomlcjchndkeaaDoorCards
import Derived.SevenTiedAt
import Derived.LaidMore
namespace Go.Proofs.YtjomlcjchndkeaaDoor
open Go.ChangeShapes Go.WideShapes Go.ChangeAt Go.RowKit Go.Ks
set_option linter.unusedVariables false

set_option maxRecDepth 100000 in
theorem openKnotS {H : Type} {enc : TypeId × Value → H} {w : World} {base : Nat} {held : Bool} {r : Reach} {b0 : Nat} {v : Value} {d : DataW H} {p : List MemPlace}
    (hv : Value.okWide Tryd.prog w r b0 22 v) (h : DataW.Trod enc Tryd.prog w base (fun _ => true) held 22 v d p) (hlt : ∀ x ∈ p, x.block < w.heap.size) :
    ∃ (A : Option Addr) (n c : Nat) (l : Nat → KnotD), v = .slice A n c ∧ n ≤ 9223372036854775807 ∧ Sl w A (n * 2) (KnotC l) ∧ ∀ k, k < n → KnotOk (l k) := by
  obtain ⟨A, n, c, l, h1, h2, h3, h4, h5⟩ := open_rows KnotF KnotOk Tryd.underlying22 Tryd.underlying37 (by kernel_rfl) (by kernel_rfl) (by decide) (fun c hc => by
    obtain ⟨_, _, t0⟩ := hc 0 _ rfl
    obtain ⟨_, _, t1⟩ := hc 1 _ rfl
    obtain ⟨x0, q0, _, w0⟩ := DataW.trod_int Tryd.underlying2 t0
    obtain ⟨x1, q1, _, w1⟩ := DataW.trod_int Tryd.underlying2 t1
    refine ⟨⟨x0, x1⟩, ⟨wf_b w0, wf_b w1⟩, fun l k hl j hj => ?_⟩
    match j, hj with
    | 0, _ => show Value.int .i64 (l k).f0 = c 0; rw [hl]; injection q0 with q; exact q.symm
    | 1, _ => show Value.int .i64 (l k).f1 = c 1; rw [hl]; injection q1 with q; exact q.symm
    ) hv h hlt
  exact ⟨A, n, c, l, h1, by unfold maxLen at h3; omega, h4, h5⟩

namespace fnExactCurveText
theorem own : ownKnob Tryd.prog.godebug = none := by kernel_rfl
theorem pts : (Tryd.f3.params.toList.all fun t => Tryd.prog.readableRec t && decide (t < Tryd.prog.types.size)) = true := by kernel_rfl
theorem laid : laidOutB Tryd.prog = true := by kernel_rfl
theorem door_met (os : Os) (args : Array Value) : laidMetH Tryd.prog [("math/bits.deBruijn32tab", Rows.laid_math_bits_deBruijn32tab), ("math/bits.deBruijn64tab", Rows.laid_math_bits_deBruijn64tab), ("internal/strconv.uint64pow10", Rows.laid_internal_strconv_uint64pow10)] ((World.doorLaid Tryd.prog 72 os).forCall (fun _ _ => 0) ⟨#[], args, []⟩).memory :=
  laidMetH_of_parts3 (fuel := 8) (laidMet_of_run' 8 (by kernel_rfl) (by kernel_rfl)) (by kernel_rfl) (by kernel_rfl)
set_option maxRecDepth 100000 in
theorem lifted (os : Os) (started : os.Started) (H : Type) (enc : TypeId × Value → H) :
    ReturnsInHanded {} Tryd.checked os 3 .any (fun w args => (Rows.fnExactCurveTextSpec.pre enc Tryd.prog Tryd.f3 [] false w args ∧ laidMetH Tryd.prog [("math/bits.deBruijn32tab", Rows.laid_math_bits_deBruijn32tab), ("math/bits.deBruijn64tab", Rows.laid_math_bits_deBruijn64tab), ("internal/strconv.uint64pow10", Rows.laid_internal_strconv_uint64pow10)] w) ∧ sizedMet enc Tryd.prog Tryd.f3 (OpenSpec.ofChange Rows.fnExactCurveTextSpec) false w args)
      (Rows.fnExactCurveTextSpec.post enc Tryd.prog Tryd.f3 false true false false) := by
  refine returnsInHanded_of_change_and (C := Tryd.checked) (X := fun w _ => laidMetH Tryd.prog [("math/bits.deBruijn32tab", Rows.laid_math_bits_deBruijn32tab), ("math/bits.deBruijn64tab", Rows.laid_math_bits_deBruijn64tab), ("internal/strconv.uint64pow10", Rows.laid_internal_strconv_uint64pow10)] w) (fun _ _ _ hh h => h.of_heap hh) own started (by kernel_rfl) Tryd.func3
    (ChangeSpec.witness_shaped (enc := enc) (C := Tryd.checked) (os := os) (X := fun w _ => laidMetH Tryd.prog [("math/bits.deBruijn32tab", Rows.laid_math_bits_deBruijn32tab), ("math/bits.deBruijn64tab", Rows.laid_math_bits_deBruijn64tab), ("internal/strconv.uint64pow10", Rows.laid_internal_strconv_uint64pow10)] w) false (World.doorLaid Tryd.prog 72 os) #[.slice none 0 0] 12 rfl (World.shaped_of_RefB (by kernel_rfl) (by kernel_rfl)) (by kernel_rfl) (by kernel_rfl) (by kernel_rfl) (door_met os _)) ?_
  intro W base args ds gs before hval0 hW _ _ hL _
  have hL2 := hL
  rw [MakeChecks.laidMetH_plain _ _ _ (by kernel_rfl)] at hL2
  have hT := tab_of_laid hL2
  have hval : ∀ (j : Nat) t v, Tryd.f3.params[j]? = some t → args[j]? = some v → Value.okWide Tryd.prog W .any base t v := hval0
  have hW' := hW
  obtain ⟨p, q, hA0, hV, rfl, hfz, hnd⟩ := hW
  have hA : DataW.TrodAll enc Tryd.prog W 0 (fun _ => true) true Tryd.f3.params.toList args.toList ds p := hA0
  rw [Tryd.params3] at hA hval
  obtain ⟨v0, vs0, d0, ds0, p0, q0, hargs, rfl, rfl, h0, r0⟩ := trodAll_cons hA
  obtain ⟨rfl, rfl, rfl⟩ := trodAll_nil r0
  obtain rfl : args = #[v0] := by cases args; simp_all
  obtain ⟨rfl, rfl⟩ := trodVars_none hV
  have hlt := fun x hx => hW'.lt x hx
  simp only [List.append_nil] at hlt
  obtain ⟨A0, n0, c0, l0, rfl, b0, s0, g0⟩ := openKnotS (hval 0 22 v0 rfl rfl) h0 (fun x hx => hlt x (hx))
  refine (lawCurveText A0 n0 c0 l0 W b0 s0 g0 hT).mono fun e W' ⟨he, hb⟩ => ?_
  subst he
  exact ⟨_, rfl, law_post laid (all_types pts) rfl Tryd.underlying4 rfl hW' rfl rfl rfl hb⟩
theorem row_holds : Rows.FnExactCurveTextSaid :=
  OpenClaim.holds_of_wide 3 Tryd.f3 rfl rfl rfl rfl rfl rfl rfl ⟨rfl, rfl, rfl, rfl, rfl⟩ rfl rfl rfl rfl rfl (by kernel_rfl) Tryd.func3 (by kernel_rfl)
    (of_decide_eq_true (by kernel_rfl)) (by unfold Func.isWrapper; first | (rw [if_pos (by decide +kernel)]; kernel_rfl) | (rw [if_neg (by decide +kernel)]; exact ⟨rfl, rfl⟩))
    (fun os started H enc _ => lifted os started H enc)
theorem proved : Rows.FnExactCurveTextCardSaid :=
  Claim7.holds_tied_plain_at .later [] [.data, .data, .data] true (true, "18b742890b9a8c22f5580c4623b1e1289df1606586ce9238bf3751692e137184") true
    row_holds (fun _ h => by cases h) (by kernel_rfl) (fun _ h => by cases h) fnExactCurveText_row_tie rfl ⟨rfl, rfl⟩ (by kernel_rfl) rfl
    (fun f fn hf hfn => by
      obtain rfl : f = 3 := Option.some.inj ((show Tryd.prog.funcNamed "loop.example/g00955/laws.FnExactCurveText" = some 3 by kernel_rfl).symm.trans hf) |>.symm
      obtain rfl : fn = Tryd.f3 := (Option.some.inj (Tryd.func3.symm.trans hfn)).symm
      exact ⟨by kernel_rfl, fun j t ht => by
        rw [Tryd.params3] at ht
        have hm : t ∈ [22] := by simpa using Array.mem_of_getElem? ht
        have hall : ([22].all fun u => !Tryd.prog.wantsStandIn u) = true := by kernel_rfl
        exact (show Tryd.prog.wantsStandIn t = false by simpa using List.all_eq_true.1 hall t hm)⟩)
    (by kernel_rfl)
#print axioms proved
end fnExactCurveText

end Go.Proofs.YtjomlcjchndkeaaDoor
