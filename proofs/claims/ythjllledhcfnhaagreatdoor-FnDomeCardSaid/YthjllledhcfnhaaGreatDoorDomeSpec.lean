/- Domes of the reference. Conditions: the arguments are int64; the sizes of strings. -/
import Derived.Test.YthjllledhcfnhaaGreatDoorVecImpl
import Derived.Test.YthjllledhcfnhaaGreatDoorDomeMath
import Derived.Test.YthjllledhcfnhaaGreatDoorName
namespace Go.Proofs.YthjllledhcfnhaaGreatDoor
open Go.RowKit Go.Lib Go.Ks
theorem ret_tup4 {a a' b b' c c' d d' : Int} (h : a = a') (h' : b = b') (h'' : c = c') (h3 : d = d') : Ending.returned (.tuple #[.int .i64 a, .int .i64 b, .int .i64 c, .int .i64 d]) = .returned (.tuple #[.int .i64 a', .int .i64 b', .int .i64 c', .int .i64 d']) := by rw [h, h', h'', h3]
theorem ret_spot2 {a a' b b' c c' : Int} (h : a = a') (h' : b = b') (h'' : c = c') : Ending.returned (.tuple #[.agg #[.int .i64 a, .int .i64 b], .int .i64 c]) = .returned (.tuple #[.agg #[.int .i64 a', .int .i64 b'], .int .i64 c']) := by rw [h, h', h'']
theorem ret_vec {a a' b b' c c' d d' : Int} (h : a = a') (h' : b = b') (h'' : c = c') (h3 : d = d') : Ending.returned (.tuple #[.agg #[.int .i64 a, .int .i64 b, .int .i64 c], .int .i64 d]) = .returned (.tuple #[.agg #[.int .i64 a', .int .i64 b', .int .i64 c'], .int .i64 d']) := by rw [h, h', h'', h3]
theorem results_t3 {fn : Func} {t u v : Tmp} (h : fn.results = #[.tmp t, .tmp u, .tmp v]) (tmps : Array Value) (P : Program) (w : World) :
    (results fn tmps).run P w = .ok (.tuple #[tmps.getD t undef, tmps.getD u undef, tmps.getD v undef]) w := by
  simp [results, h]
theorem results_t4 {fn : Func} {t u v s : Tmp} (h : fn.results = #[.tmp t, .tmp u, .tmp v, .tmp s]) (tmps : Array Value) (P : Program) (w : World) :
    (results fn tmps).run P w = .ok (.tuple #[tmps.getD t undef, tmps.getD u undef, tmps.getD v undef, tmps.getD s undef]) w := by
  simp [results, h]
theorem below_alloc {w w' : World} {o : Obj} (h : w.alloc o = w') : Below w.heap.size w w' := by rw [← h]; exact (Below.refl _ _).alloc (Nat.le_refl _) _
theorem blk_alloc {w w' : World} {cs : Array Value} {t : TypeId} (h : w.alloc (.cells cs t) = w') : Blk w' w.heap.size t cs := by rw [← h]; exact Blk.new w t cs
/-- a valid dome -/
def DomeOk1 (x : DomeD) : Prop := NameOk x.f0 ∧ inB x.f1 1000 30000 = true ∧ inB x.f2 0 45000 = true
open Classical in
noncomputable def domeB (x : DomeD) : Bool := decide (DomeOk1 x)
theorem domeB_no {x : DomeD} (h : ¬ DomeOk1 x) : domeB x = false := by simp [domeB, h]
theorem domeB_yes {x : DomeD} (h : DomeOk1 x) : domeB x = true := by simp [domeB, h]
theorem domeB_iff {x : DomeD} : domeB x = true ↔ DomeOk1 x := by simp [domeB]
theorem dome_nums {x : DomeD} (h : domeB x = true) : (1000 ≤ x.f1 ∧ x.f1 ≤ 30000) ∧ 0 ≤ x.f2 ∧ x.f2 ≤ 45000 := ⟨inB_iff.1 (domeB_iff.1 h).2.1, inB_iff.1 (domeB_iff.1 h).2.2⟩
theorem dome_split (x : DomeD) : (nameB x.f0 = false ∧ domeB x = false) ∨ (nameB x.f0 = true ∧ inB x.f1 1000 30000 = false ∧ domeB x = false) ∨ (nameB x.f0 = true ∧ inB x.f1 1000 30000 = true ∧ domeB x = inB x.f2 0 45000) := by
  cases h0 : nameB x.f0
  · exact .inl ⟨rfl, domeB_no (fun h => by rw [nameB_yes h.1] at h0; cases h0)⟩
  refine .inr ?_
  cases h1 : inB x.f1 1000 30000
  · exact .inl ⟨rfl, rfl, domeB_no (fun h => by rw [h.2.1] at h1; cases h1)⟩
  refine .inr ⟨rfl, rfl, ?_⟩
  cases h2 : inB x.f2 0 45000
  · exact domeB_no (fun h => by rw [h.2.2] at h2; cases h2)
  · exact domeB_yes ⟨nameB_iff.1 h0, h1, h2⟩
/-- a direction: azimuth and altitude -/
def dirB (a h : Int) : Bool := inB a 0 359999 && inB h (-90000) 90000
theorem dirB_no1 {a h : Int} (q : inB a 0 359999 = false) : dirB a h = false := by simp [dirB, q]
theorem dirB_eq {a h : Int} (q : inB a 0 359999 = true) : dirB a h = inB h (-90000) 90000 := by simp [dirB, q]
theorem dirB_iff {a h : Int} : dirB a h = true ↔ (0 ≤ a ∧ a ≤ 359999) ∧ (-90000 ≤ h ∧ h ≤ 90000) := by simp [dirB, inB_iff]
theorem r_sine {r s : Int} (h0 : 0 ≤ r) (h1 : r ≤ 1000000) (h2 : -1000000 ≤ s ∧ s ≤ 1000000) : -1000000000000 ≤ r * s ∧ r * s ≤ 1000000000000 := by
  have := mul_bd2 (a := r) (b := s) (m := 1000000) (n := 1000000) (by omega) h1 h2.1 h2.2 (by omega)
  omega
end Go.Proofs.YthjllledhcfnhaaGreatDoor
