/- The row's conditions on the library's variables and on the table of sines, together. -/
import Derived.Test.YthjllledhcfnhaaGreatDoorTrigImpl
import Derived.Test.YthjllledhcfnhaaGreatDoorRows
import Derived.LaidMore
import Derived.Lib.LaidTab
import Derived.ProofKit
import Derived.Test.YthjllledhcfnhaaGreatDoorReadImpl
import Derived.Shelf.Vars
import Derived.Handed
import Derived.HandedShaped
import Derived.ChangeMaps5
import Derived.Test.YthjllledhcfnhaaGreatDoorText
import Derived.Stop.LaidErr
namespace Go.Proofs.YthjllledhcfnhaaGreatDoor.Tx
open Go.RowKit Go.Lib Go.Ks Go.Ks.Tx
theorem gPow : Tryz.prog.globalNamed "internal/strconv.uint64pow10" = some 3 := by kernel_rfl
theorem tPow : (Tryz.prog.globals[3]?).map (·.type) = some 182 := by kernel_rfl
theorem uPow : Tryz.prog.underlying 182 = some (.array 20 103) := by kernel_rfl
theorem uPow1 : Tryz.prog.underlying 103 = some (.int .u64) := by kernel_rfl
theorem cPow1 : Tryz.prog.cellsOf 103 = 1 := by kernel_rfl
theorem cPow : Tryz.prog.cellsOf 182 = 20 := by kernel_rfl
theorem pow_data : (Rows.laid_internal_strconv_uint64pow10 : DataW Unit) = tabData .u64 pow10Tab := by kernel_rfl
theorem tab_of_laid {x y : String × DataW Unit} {r : List (String × DataW Unit)} {W : World} (h : laidMet Tryz.prog (x :: y :: ("internal/strconv.uint64pow10", Rows.laid_internal_strconv_uint64pow10) :: r) W) : Tab W := by
  have h2 := h.tail.tail
  rw [pow_data] at h2
  exact tabIs_of_head gPow tPow uPow uPow1 cPow1 cPow h2
end Go.Proofs.YthjllledhcfnhaaGreatDoor.Tx
namespace Go.Ks.Tx
open Go.ChangeShapes Go.WideShapes Go.RowKit
/-- as the plain wrap at a row that lists variables, the world's shape kept -/
theorem handed_and_shaped {H : Type} {enc : TypeId × Value → H} {a : Assume} {C : Checked} {os : Os} {f : FuncId} {fn : Func} {s : ChangeSpec} {conds : List PathCond} {apart fresh handsOn again : Bool} {X : World → Array Value → Prop}
    (hX : ∀ (w w' : World) (args : Array Value), w.heap = w'.heap → X w args → X w' args)
    (own : ownKnob C.prog.godebug = none) (started : os.Started) (noInit : C.prog.inits.idxOf? f = none) (hfn : C.prog.funcs[f]? = some fn)
    (witness : ∃ (w : World) (tape : Tape) (i : Input), w.os = os ∧ (w.forCall tape i).Shaped C.prog ∧ i.vars = [] ∧ Input.okWide C.prog (w.forCall tape i) .any w.heap.size f i ∧
      ((s.pre enc C.prog fn conds apart (w.forCall tape i).memory i.args ∧ X (w.forCall tape i).memory i.args) ∧ sizedMet enc C.prog fn (OpenSpec.ofChange s) apart (w.forCall tape i).memory i.args) ∧ a.holds C.prog (lone (Frame.enter C.prog f i.args .normal) [] (w.forCall tape i)))
    (contract : ∀ (W : World) (base : Nat) (args : Array Value) (ds gs : List (DataW H)) (before : List MemPlace),
      (∀ (j : Nat) t v, fn.params[j]? = some t → args[j]? = some v → Value.okWide C.prog W .any base t v) →
      DataW.Whole enc C.prog fn.params.toList s.vars apart W args.toList ds gs before → X W args → W.ShapedOpen C.prog →
      Calls C.prog f args W fun e W' => ∃ v, e = .returned v ∧ s.post enc C.prog fn apart fresh handsOn again W args v W') :
    ReturnsInHanded a C os f .any (fun w args => (s.pre enc C.prog fn conds apart w args ∧ X w args) ∧ sizedMet enc C.prog fn (OpenSpec.ofChange s) apart w args) (s.post enc C.prog fn apart fresh handsOn again) := by
  refine returnsInHanded_of_calls own started noInit witness ?_
  intro w tape i _ hsh _ hok hpre _
  obtain ⟨_, _, _, fn', hfn', _, _, _, _, hval⟩ := hok
  obtain rfl : fn' = fn := Option.some.inj (hfn'.symm.trans hfn)
  obtain ⟨⟨⟨ds, gs, before, hw, _⟩, hx⟩, _⟩ := hpre
  refine (contract (w.forCall tape i) w.heap.size i.args ds gs before hval (DataW.Whole.of_heap (w' := w.forCall tape i) (by rfl) hw) (hX _ _ _ (by rfl) hx) hsh).mono fun e W' ⟨v, he, hp⟩ => ?_
  subst he
  exact ChangeSpec.post_blind hp
theorem iface_of_laid {P : Program} {n nm : String} {d : DataW Unit} {r : List (String × DataW Unit)} {W : World} {g : Nat} {ti : TypeId} {ms : Array (String × TypeId)}
    (h : laidMet P ((n, .iface nm d) :: r) W) (hg : P.globalNamed n = some g) (ht : (P.globals[g]?).map (·.type) = some ti) (hi : P.underlying ti = some (.interface ms)) :
    ∃ ev, W.cell? ⟨g, 0, none⟩ = some ev ∧ (ev = .nilIface ∨ ∃ te pe, ev = .iface te pe) := by
  obtain ⟨ps, ⟨g0, t0, cs0, f0, p0, q0, hg0, ht0, hv0, hd0, _, e0⟩, _, _⟩ := h
  obtain rfl := Option.some.inj (hg.symm.trans hg0)
  obtain rfl := Option.some.inj (ht.symm.trans ht0)
  obtain ⟨l0⟩ := cs0
  obtain ⟨f1, u, v, rfl, _, _⟩ := iface_of_trod hi hd0
  exact ⟨.iface u v, by simpa using World.var?_cell hg0 hv0 0, .inr ⟨u, v, rfl⟩⟩
end Go.Ks.Tx
namespace Go.Proofs.YthjllledhcfnhaaGreatDoor.Tx
open Go.RowKit Go.Lib Go.Ks Go.Ks.Tx
theorem gErrR : Tryz.prog.globalNamed "strconv.ErrRange" = some 5 := by kernel_rfl
theorem tErrR : (Tryz.prog.globals[5]?).map (·.type) = some 117 := by kernel_rfl
theorem gErrS : Tryz.prog.globalNamed "strconv.ErrSyntax" = some 4 := by kernel_rfl
theorem tErrS : (Tryz.prog.globals[4]?).map (·.type) = some 117 := by kernel_rfl
theorem maxLen_of {W : World} (h : W.ShapedOpen Tryz.prog) : ∃ m, W.cell? ⟨2, 0, none⟩ = some (.int .i64 m) :=
  cell_of_shapedOpen_int (zero := #[.int .i64 0]) (t := 3) h (of_decide_eq_true (by kernel_rfl)) (by kernel_rfl) rfl (by kernel_rfl) (by kernel_rfl) Tryz.underlying3
theorem libv_of_laid {x y z : String × DataW Unit} {r : List (String × DataW Unit)} {W : World} (h : laidMet Tryz.prog (x :: y :: ("internal/strconv.uint64pow10", Rows.laid_internal_strconv_uint64pow10) :: z :: ("strconv.ErrRange", Rows.laid_strconv_ErrRange) :: ("strconv.ErrSyntax", Rows.laid_strconv_ErrSyntax) :: r) W) (hs : W.ShapedOpen Tryz.prog) : LibV W :=
  ⟨tab_of_laid h, maxLen_of hs, iface_of_laid h.tail.tail.tail.tail.tail gErrS tErrS Tryz.underlying117, iface_of_laid h.tail.tail.tail.tail gErrR tErrR Tryz.underlying117⟩
end Go.Proofs.YthjllledhcfnhaaGreatDoor.Tx
namespace Go.Proofs.YthjllledhcfnhaaGreatDoor
open Go.RowKit Go.Lib Go.Ks
theorem gSines : Tryz.prog.globalNamed "loop.example/g00955/impl.sines" = some 0 := by kernel_rfl
theorem tSines : (Tryz.prog.globals[0]?).map (·.type) = some 130 := by kernel_rfl
theorem uSines : Tryz.prog.underlying 130 = some (.array 91 2) := by kernel_rfl
theorem uSine : Tryz.prog.underlying 2 = some (.int .i64) := by kernel_rfl
theorem cSine : Tryz.prog.cellsOf 2 = 1 := by kernel_rfl
theorem cSines : Tryz.prog.cellsOf 130 = 91 := by kernel_rfl
theorem sines_data : (Rows.laid_loop_example_g00955_impl_sines : DataW Unit) = tabData .i64 sinT := rfl
theorem cell_lt {w : World} {B o : Nat} {v : Value} (h : w.cell? ⟨B, o, none⟩ = some v) : B < w.heap.size := by
  rcases Nat.lt_or_ge B w.heap.size with hlt | hge
  · exact hlt
  · unfold World.cell? at h
    simp [Array.getElem?_eq_none hge] at h
theorem tab_of_laid {W : World} (h : laidMetH Tryz.prog [("loop.example/g00955/impl.sines", Rows.laid_loop_example_g00955_impl_sines)] W) : Tab W := by
  rw [MakeChecks.laidMetH_plain _ _ _ (by kernel_rfl), sines_data] at h
  have hT := tabIs_of_head gSines tSines uSines uSine cSine cSines h
  have hc : ∀ k, k < 91 → W.cell? ⟨0, k, none⟩ = some (.int .i64 (tab k)) := fun k hk => by
    rw [hT.cell gSines k hk]
    have : ∀ k : Nat, k < 91 → sinT.getD k 0 = tab k := by decide
    rw [this k hk]
  exact ⟨cell_lt (hc 0 (by omega)), hc⟩
end Go.Proofs.YthjllledhcfnhaaGreatDoor
namespace Go.Proofs.YthjllledhcfnhaaGreatDoor
open Go.RowKit Go.Lib Go.Ks
theorem tab_of_plain {W : World} {r : List (String × DataW Unit)} (h : laidMet Tryz.prog (("loop.example/g00955/impl.sines", Rows.laid_loop_example_g00955_impl_sines) :: r) W) : Tab W := by
  rw [sines_data] at h
  have hT := tabIs_of_head gSines tSines uSines uSine cSine cSines h
  have hc : ∀ k, k < 91 → W.cell? ⟨0, k, none⟩ = some (.int .i64 (tab k)) := fun k hk => by
    rw [hT.cell gSines k hk]
    have : ∀ k : Nat, k < 91 → sinT.getD k 0 = tab k := by decide
    rw [this k hk]
  exact ⟨cell_lt (hc 0 (by omega)), hc⟩
theorem both_of_laid {x y z : String × DataW Unit} {r : List (String × DataW Unit)} {W : World} (h : laidMet Tryz.prog (x :: y :: ("internal/strconv.uint64pow10", Rows.laid_internal_strconv_uint64pow10) :: z :: ("strconv.ErrRange", Rows.laid_strconv_ErrRange) :: ("strconv.ErrSyntax", Rows.laid_strconv_ErrSyntax) :: ("loop.example/g00955/impl.sines", Rows.laid_loop_example_g00955_impl_sines) :: r) W) (hs : W.ShapedOpen Tryz.prog) : Tab W ∧ Tx.LibV W :=
  ⟨tab_of_plain h.tail.tail.tail.tail.tail.tail, Tx.libv_of_laid h hs⟩
end Go.Proofs.YthjllledhcfnhaaGreatDoor
