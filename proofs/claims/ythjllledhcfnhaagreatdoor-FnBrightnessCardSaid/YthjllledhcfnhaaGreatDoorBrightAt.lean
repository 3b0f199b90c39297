/- BrightnessAt. Conditions: the slice reads as projectors; the variable sines holds its table. -/
import Derived.Test.YthjllledhcfnhaaGreatDoorSpots
import Derived.Test.YthjllledhcfnhaaGreatDoorAllocs
import Derived.Test.YthjllledhcfnhaaGreatDoorInts
import Derived.Test.YthjllledhcfnhaaGreatDoorAppendStep
import Derived.Test.YthjllledhcfnhaaGreatDoorProj
import Derived.Test.YthjllledhcfnhaaGreatDoorVecImpl
namespace Go.Ks
/-- the weight of a projector at a direction -/
def rawP (x : ProjectorD) (az alt : Int) : Int := if x.f3 < sepV (dirV x.f1 x.f2) (dirV az alt) then 0 else 1000 * (x.f3 - sepV (dirV x.f1 x.f2) (dirV az alt)) / x.f3 + 1
theorem rawP_far {x : ProjectorD} {az alt : Int} (h : x.f3 < sepV (dirV x.f1 x.f2) (dirV az alt)) : rawP x az alt = 0 := if_pos h
theorem rawP_near {x : ProjectorD} {az alt : Int} (h : ¬ x.f3 < sepV (dirV x.f1 x.f2) (dirV az alt)) : rawP x az alt = 1000 * (x.f3 - sepV (dirV x.f1 x.f2) (dirV az alt)) / x.f3 + 1 := if_neg h
theorem raw_quot {f d : Int} (hf : 5000 ≤ f) (h0 : 0 ≤ d) (h1 : d ≤ f) : 0 ≤ 1000 * (f - d) / f ∧ 1000 * (f - d) / f ≤ 1000 := by
  refine ⟨Int.ediv_nonneg (by omega) (by omega), ?_⟩
  have : 1000 * (f - d) ≤ 1000 * f := by omega
  exact Int.ediv_le_of_le_mul (by omega) this
theorem rawP_bd {x : ProjectorD} {az alt : Int} (hf : 5000 ≤ x.f3) : 0 ≤ rawP x az alt ∧ rawP x az alt ≤ 1001 := by
  obtain ⟨s0, _⟩ := sepV_bd (dirV x.f1 x.f2) (dirV az alt)
  by_cases h : x.f3 < sepV (dirV x.f1 x.f2) (dirV az alt)
  · rw [rawP_far h]; omega
  · rw [rawP_near h]
    have := raw_quot hf s0 (by omega)
    omega
end Go.Ks
namespace Go.Proofs.YthjllledhcfnhaaGreatDoor
open Go.RowKit Go.Lib Go.Ks
set_option maxRecDepth 100000 in
set_option maxHeartbeats 4000000 in
theorem rawWeight_any (x : ProjectorD) (az alt : Int) (w : World) (hp : projB x = true) (ha : I64 az) (hl : I64 alt) (hT : Tab w) :
    Calls Tryz.prog 90 #[.agg #[.string x.f0, .int .i64 x.f1, .int .i64 x.f2, .int .i64 x.f3, .int .i64 x.f4], .int .i64 az, .int .i64 alt] w fun e w' => e = .returned (.int .i64 (rawP x az alt)) ∧ Below w.heap.size w w' := by
  obtain ⟨⟨p1, p1'⟩, ⟨p2, p2'⟩, ⟨p3, p3'⟩, p4, p4'⟩ := proj_dir hp
  have v1 := (dirV_bd x.f1 x.f2).mono (n := 2000000) (by omega)
  have v2 := (dirV_bd az alt).mono (n := 2000000) (by omega)
  obtain ⟨s0, s1⟩ := sepV_bd (dirV x.f1 x.f2) (dirV az alt)
  have RF := Lib.hid (rawP_far (x := x) (az := az) (alt := alt))
  have RN := Lib.hid (rawP_near (x := x) (az := az) (alt := alt))
  have HT := Lib.hid hT
  have HA := Lib.hid ha
  have HL := Lib.hid hl
  clear hT ha hl
  go_enter Tryz.func90, Tryz.ntmps90
  go_wp2_with fail
  generalize hW : World.alloc w _ = w1
  have HB : Below w.heap.size w w1 := by rw [← hW]; repeat (first | with_reducible exact Below.refl _ _ | with_reducible assumption | with_reducible refine Below.setCell ?_ (by simp <;> omega) _ | with_reducible refine Below.alloc ?_ (by simp <;> omega) _ | with_reducible refine Below.drew ?_)
  have x0 : Blk w1 w.heap.size 125 #[.string x.f0, .int .i64 x.f1, .int .i64 x.f2, .int .i64 x.f3, .int .i64 x.f4] := by rw [← hW]; exact Blk.new w _ _
  clear hW
  refine (directionOf_any _ _ ⟨by omega, by omega⟩ ⟨by omega, by omega⟩ _ (HT.out.below HB)).mono ?_
  rintro e w2 ⟨rfl, hb2⟩
  replace HB := HB.trans (hb2.mono HB.size)
  replace x0 := x0.below hb2 x0.lt
  go_wp2_with fail
  refine (directionOf_any _ _ HA.out HL.out _ (HT.out.below HB)).mono ?_
  rintro e w3 ⟨rfl, hb3⟩
  replace HB := HB.trans (hb3.mono HB.size)
  replace x0 := x0.below hb3 x0.lt
  go_wp2_with fail
  refine (separation_any (dirV x.f1 x.f2) (dirV az alt) v1 v2 _ (HT.out.below HB)).mono ?_
  rintro e w4 ⟨rfl, hb4⟩
  replace HB := HB.trans (hb4.mono HB.size)
  replace x0 := x0.below hb4 x0.lt
  have c0 := x0.cell 0
  have c1 := x0.cell 1
  have c2 := x0.cell 2
  have c3 := x0.cell 3
  have c4 := x0.cell 4
  simp at c0 c1 c2 c3 c4
  have cl := x0.lt
  by_cases far : x.f3 < sepV (dirV x.f1 x.f2) (dirV az alt)
  · have E := Lib.hid (RF.out (by omega))
    go_wp2_with fail
    go_ret
    exact ⟨ret_int E.out.symm, HB⟩
  · have E := Lib.hid (RN.out (by omega))
    have q := raw_quot p3 s0 (by omega)
    obtain ⟨q0, q1⟩ := q
    go_wp2_with fail
    go_ret
    exact ⟨ret_int E.out.symm, HB⟩
open Classical in
noncomputable def mRawV (x : ProjectorD) (az alt : Int) : Int := if projB x = true ∧ upB az alt = true then rawP x az alt else 0
noncomputable def mRawC (x : ProjectorD) (az alt : Int) : Int := if projB x = true then (if upB az alt = true then 0 else 2) else 1
theorem mRaw_no {x : ProjectorD} {az alt : Int} (h : projB x = false) : mRawV x az alt = 0 ∧ mRawC x az alt = 1 := by unfold mRawV mRawC; rw [h]; exact ⟨if_neg (fun h => by cases h.1), if_neg (by decide)⟩
theorem mRaw_out {x : ProjectorD} {az alt : Int} (h : projB x = true) (h' : upB az alt = false) : mRawV x az alt = 0 ∧ mRawC x az alt = 2 := by unfold mRawV mRawC; rw [h, h']; exact ⟨if_neg (fun h => by cases h.2), by rw [if_pos rfl, if_neg (by decide)]⟩
theorem mRaw_in {x : ProjectorD} {az alt : Int} (h : projB x = true) (h' : upB az alt = true) : mRawV x az alt = rawP x az alt ∧ mRawC x az alt = 0 := by unfold mRawV mRawC; rw [h, h']; exact ⟨if_pos ⟨rfl, rfl⟩, by rw [if_pos rfl, if_pos rfl]⟩
end Go.Proofs.YthjllledhcfnhaaGreatDoor
namespace Go.Ks
open Go.RowKit Go.Lib
def sumTo (f : Nat → Int) : Nat → Int
  | 0 => 0
  | k + 1 => sumTo f k + f k
theorem sumTo_bd {f : Nat → Int} {m : Int} (h0 : 0 ≤ m) : ∀ k, (∀ j, j < k → 0 ≤ f j ∧ f j ≤ m) → 0 ≤ sumTo f k ∧ sumTo f k ≤ m * (k : Int)
  | 0, _ => by simp [sumTo]
  | k + 1, h => by
    have ih := sumTo_bd h0 k (fun j hj => h j (by omega))
    have hk := h k (by omega)
    have e : m * ((k + 1 : Nat) : Int) = m * (k : Int) + m := by rw [Int.natCast_add, Int.mul_add]; simp
    rw [e]
    unfold sumTo
    omega
theorem sumTo_congr {f g : Nat → Int} : ∀ k, (∀ j, j < k → f j = g j) → sumTo f k = sumTo g k
  | 0, _ => rfl
  | k + 1, h => by unfold sumTo; rw [sumTo_congr k (fun j hj => h j (by omega)), h k (by omega)]
/-- the first greatest of f 0 .. f k -/
def bestTo (f : Nat → Int) : Nat → Nat
  | 0 => 0
  | k + 1 => if f (bestTo f k) < f (k + 1) then k + 1 else bestTo f k
theorem bestTo_le (f : Nat → Int) : ∀ k, bestTo f k ≤ k
  | 0 => Nat.le_refl _
  | k + 1 => by
    have ih := bestTo_le f k
    unfold bestTo
    split <;> omega
theorem best_yes {f : Nat → Int} {k : Nat} (h : f (bestTo f k) < f (k + 1)) : bestTo f (k + 1) = k + 1 := by rw [bestTo, if_pos h]
theorem best_no {f : Nat → Int} {k : Nat} (h : ¬ f (bestTo f k) < f (k + 1)) : bestTo f (k + 1) = bestTo f k := by rw [bestTo, if_neg h]
def upd (f : Nat → Int) (i : Nat) (v : Int) : Nat → Int := fun j => if j = i then v else f j
theorem upd_at (f : Nat → Int) (i : Nat) (v : Int) : upd f i v i = v := if_pos rfl
/-- the shares and the rests after k steps -/
def stepO (n : Nat) (q r : Nat → Int) : Nat → (Nat → Int) × (Nat → Int)
  | 0 => (q, r)
  | k + 1 => (upd (stepO n q r k).1 (bestTo (stepO n q r k).2 (n - 1)) ((stepO n q r k).1 (bestTo (stepO n q r k).2 (n - 1)) + 1), upd (stepO n q r k).2 (bestTo (stepO n q r k).2 (n - 1)) (-1))
theorem stepO_bd {n : Nat} {q r : Nat → Int} {m : Int} (h : ∀ j, j < n → 0 ≤ q j ∧ q j ≤ m) : ∀ k j, j < n → 0 ≤ (stepO n q r k).1 j ∧ (stepO n q r k).1 j ≤ m + (k : Int)
  | 0, j, hj => by have := h j hj; simp [stepO]; omega
  | k + 1, j, hj => by
    have ih := stepO_bd (r := r) h k
    have hb := bestTo_le (stepO n q r k).2 (n - 1)
    have i1 := ih j hj
    have i2 := ih (bestTo (stepO n q r k).2 (n - 1)) (by omega)
    simp only [stepO, upd]
    split <;> omega
variable (l : Nat → ProjectorD) (az alt : Int) (n : Nat)
def rawF (k : Nat) : Int := rawP (l k) az alt
def rawS : Int := sumTo (rawF l az alt) n
def quoF (k : Nat) : Int := 1000 * rawF l az alt k / rawS l az alt n
def remF (k : Nat) : Int := 1000 * rawF l az alt k % rawS l az alt n
def leftN : Int := 1000 - sumTo (quoF l az alt n) n
def sharesL : Nat → Int := (stepO n (quoF l az alt n) (remF l az alt n) (leftN l az alt n).toNat).1
def sharesN : Nat := if rawS l az alt n = 0 then 0 else n
variable {l az alt n}
theorem rawF_bd {n : Nat} (h : ∀ k, k < n → 5000 ≤ (l k).f3) {k : Nat} (hk : k < n) : 0 ≤ rawF l az alt k ∧ rawF l az alt k ≤ 1001 := rawP_bd (h k hk)
theorem rawS_bd (h : ∀ k, k < n → 5000 ≤ (l k).f3) {k : Nat} (hk : k ≤ n) : 0 ≤ sumTo (rawF l az alt) k ∧ sumTo (rawF l az alt) k ≤ 1001 * (k : Int) := sumTo_bd (by omega) k (fun j hj => rawF_bd h (by omega))
theorem quo_small {a s : Int} (h0 : 0 ≤ a) (h1 : a ≤ 1001) (hs : 0 < s) : 0 ≤ 1000 * a / s ∧ 1000 * a / s ≤ 1001000 := by
  refine ⟨Int.ediv_nonneg (by omega) (by omega), Int.ediv_le_of_le_mul hs ?_⟩
  have : 1001000 * 1 ≤ 1001000 * s := Int.mul_le_mul_of_nonneg_left (by omega) (by omega)
  omega
theorem quoF_bd (h : ∀ k, k < n → 5000 ≤ (l k).f3) (hs : rawS l az alt n ≠ 0) {k : Nat} (hk : k < n) : 0 ≤ quoF l az alt n k ∧ quoF l az alt n k ≤ 1001000 := by
  have r := rawF_bd (az := az) (alt := alt) h hk
  have s := (rawS_bd (az := az) (alt := alt) h (Nat.le_refl n)).1
  exact quo_small r.1 r.2 (by unfold rawS at *; omega)
theorem quoS_bd (h : ∀ k, k < n → 5000 ≤ (l k).f3) (hs : rawS l az alt n ≠ 0) {k : Nat} (hk : k ≤ n) : 0 ≤ sumTo (quoF l az alt n) k ∧ sumTo (quoF l az alt n) k ≤ 1001000 * (k : Int) := sumTo_bd (by omega) k (fun j hj => quoF_bd h hs (by omega))
theorem sharesL_bd (h : ∀ k, k < n → 5000 ≤ (l k).f3) (hs : rawS l az alt n ≠ 0) {k : Nat} (hk : k < n) : 0 ≤ sharesL l az alt n k ∧ sharesL l az alt n k ≤ 1002000 := by
  have b := stepO_bd (q := quoF l az alt n) (r := remF l az alt n) (m := 1001000) (fun j hj => quoF_bd (az := az) (alt := alt) h hs hj) (leftN l az alt n).toNat k hk
  have q := (quoS_bd (az := az) (alt := alt) h hs (Nat.le_refl n)).1
  unfold sharesL
  have : (leftN l az alt n).toNat ≤ 1000 := by unfold leftN; omega
  omega
theorem sharesN_pos (hs : rawS l az alt n ≠ 0) : sharesN l az alt n = n ∧ 0 < n := by
  refine ⟨if_neg hs, ?_⟩
  rcases Nat.eq_zero_or_pos n with rfl | h
  · exact absurd rfl hs
  · exact h
section
variable {P : Program} {w w' : World} {base : Nat} {e : TypeId} {size : Nat} {v : Value} {n : Nat} {f : Nat → Value}
/-- append of one element; the row's block is the old one or a new one -/
theorem wpList_append_at {ops : Array Oper} {rest : List Oper} {o : Oper} {a : Act} {Q : Exit → Act → World → Prop} (hgd : o.guard = none) (s x : Operand) (t : TypeId)
    (ho : o.op = .call { callee := .builtin .append, args := #[s, x], argTypes := #[t, t] })
    (base : Nat) (e : TypeId) (i : TypeInfo) (z : Value) (size bytes : Nat) (ht : P.underlying t = some (.slice e)) (hi : P.info? e = some i) (hz : i.zero = some z)
    (hsize : i.size = size) (hby : i.bytes = bytes) (hzs : z.cells.size = size) (hsz : 0 < size)
    (v : Value) (n : Nat) (f : Nat → Value) (hs : a.eval s = v) (hown : Row w base e size v n f)
    (g c : Nat) (hx : a.eval x = .slice (some ⟨g, 0, none⟩) 1 c) (hnews : ∀ j, j < size → w.cell? ⟨g, j, none⟩ = some (f (n * size + j))) (h1 : ∀ j, j < size → (f (n * size + j)).oneCell' = true)
    (hbytes : (n + 1) * bytes ≤ 140737488355328) (hn : n ≤ 4611686018427387904) (hbase : base ≤ w.heap.size)
    (h : ∀ g' cap w', Row w' base e size (.slice (some ⟨g', 0, none⟩) (n + 1) cap) (n + 1) f → w.grownBy w' v.ownBlock → (v.ownBlock = some g' ∨ g' = w.heap.size) → g' < w'.heap.size → wpList P ops Q rest (a.put o.dst (.slice (some ⟨g', 0, none⟩) (n + 1) cap)) w') : wpList P ops Q (o :: rest) a w := by
  refine wpList_append_lies w hgd s x t ho base e i z size bytes ht hi hz hsize hby hzs hsz v n _ hs hown ⟨g, 0, none⟩ 1 c ((List.range size).map (fun j => f (n * size + j))) hx (by simp) ?_ ?_ (by omega) (by unfold maxLen; omega) hbytes hbase _ rfl ?_
  · intro j u hu
    have hj : j < size := by
      have := (List.getElem?_eq_some_iff.1 hu).1
      simpa using this
    have : (⟨g, 0, none⟩ : Addr).add j = ⟨g, j, none⟩ := by
      unfold Addr.add
      by_cases h0 : j = 0
      · subst h0; rfl
      · rw [if_neg h0]; simp
    rw [this, hnews j hj]
    simp [hj] at hu
    rw [hu]
  · intro u hu
    obtain ⟨j, hj, rfl⟩ := List.mem_map.1 hu
    exact h1 j (by simpa using hj)
  · intro g' cap w' h2 h3 h4 h5
    refine h g' cap w' ?_ h3 h4 h5
    unfold Row
    rw [Nat.add_mul, Nat.one_mul, cellsTo_add]
    exact h2
/-- a row that lies elsewhere stays at an append -/
theorem Row.kept {v2 : Value} {n2 : Nat} {f2 : Nat → Value} {row : Option Nat} (h : Row w base e size v2 n2 f2) (hg : w.grownBy w' row) (hd : ∀ k, v2.ownBlock = some k → row ≠ some k) : Row w' base e size v2 n2 f2 := by
  refine ⟨h.1, ?_⟩
  rcases h.2 with h2 | ⟨g, cap, cur, hv, hg2, hh, r⟩
  · exact .inl h2
  · refine .inr ⟨g, cap, cur, hv, hg2, ?_, r⟩
    exact (hg.block g (Array.getElem?_eq_some_iff.1 hh).1 (fun q => hd g (by rw [hv]; rfl) q.symm)).trans hh
end
end Go.Ks
namespace Go.Ks
/-- the first k projectors that reach a direction -/
def cntTo (l : Nat → ProjectorD) (az alt : Int) : Nat → Int
  | 0 => 0
  | k + 1 => cntTo l az alt k + if 0 < rawP (l k) az alt then 1 else 0
theorem cnt_yes {l : Nat → ProjectorD} {az alt : Int} {k : Nat} (h : 0 < rawP (l k) az alt) : cntTo l az alt (k + 1) = cntTo l az alt k + 1 := by rw [cntTo, if_pos h]
theorem cnt_no {l : Nat → ProjectorD} {az alt : Int} {k : Nat} (h : ¬ 0 < rawP (l k) az alt) : cntTo l az alt (k + 1) = cntTo l az alt k := by rw [cntTo, if_neg h, Int.add_zero]
theorem cnt_bd (l : Nat → ProjectorD) (az alt : Int) : ∀ k, 0 ≤ cntTo l az alt k ∧ cntTo l az alt k ≤ (k : Int)
  | 0 => ⟨Int.le_refl _, Int.le_refl _⟩
  | k + 1 => by
    have ih := cnt_bd l az alt k
    unfold cntTo
    split <;> omega
end Go.Ks
namespace Go.Proofs.YthjllledhcfnhaaGreatDoor
open Go.RowKit Go.Lib Go.Ks
def vecG (u : Value) : Prop := ∃ x y z : Int, u = .agg #[.int .i64 x, .int .i64 y, .int .i64 z]
def vecC : Value → Array Value | .agg c => c | _ => #[]
theorem allocVec : AllocRun Tryz.prog 97 #[.int .i64 0, .int .i64 0, .int .i64 0] := fun w => by
  simp [go_sem, Instr.alloc]
theorem storeVec : StoreRun Tryz.prog 97 #[.int .i64 0, .int .i64 0, .int .i64 0] vecG vecC := by
  rintro w B u ⟨x, y, z, rfl⟩ hb
  have h0 := hb.cell 0
  have h1 := hb.cell 1
  have h2 := hb.cell 2
  have g0 := hb.frozen 0
  have g1 := hb.frozen 1
  have g2 := hb.frozen 2
  have hl := hb.lt
  simp at h0 h1 h2
  refine ⟨((w.setCell ⟨B, 0, none⟩ (.int .i64 x)).setCell ⟨B, 1, none⟩ (.int .i64 y)).setCell ⟨B, 2, none⟩ (.int .i64 z), ?_, by simp [World.setCell], fun base hbase => ?_, ((hb.set_ 0 _).set_ 1 _).set_ 2 _, fun B' c hne hB => ((hB.far (p := ⟨B, 0, none⟩) hne _).far (p := ⟨B, 1, none⟩) hne _).far (p := ⟨B, 2, none⟩) hne _⟩
  · simp [go_sem, Instr.storeAt, h0, h1, h2, g0, g1, g2]
  · exact ((Below.setCell (Below.refl _ _) hbase _).setCell hbase _).setCell hbase _
/-- a pair of numbers lies there -/
def PairAt (w : World) (g : Nat) (x y : Int) : Prop := g < w.heap.size ∧ w.cell? ⟨g, 0, none⟩ = some (.int .i64 x) ∧ w.cell? ⟨g, 1, none⟩ = some (.int .i64 y)
theorem PairAt.below {w w' : World} {g : Nat} {x y : Int} (h : PairAt w g x y) (hb : Below w.heap.size w w') : PairAt w' g x y := ⟨Nat.lt_of_lt_of_le h.1 hb.size, (hb.cell (p := ⟨g, 0, none⟩) h.1).trans h.2.1, (hb.cell (p := ⟨g, 1, none⟩) h.1).trans h.2.2⟩
end Go.Proofs.YthjllledhcfnhaaGreatDoor
namespace Go.Proofs.YthjllledhcfnhaaGreatDoor
open Go.RowKit Go.Lib Go.Ks
/-- the first k spots that at least so many projectors reach -/
def hitTo (n : Nat) (l : Nat → ProjectorD) (st least : Int) : Nat → Int
  | 0 => 0
  | k + 1 => hitTo n l st least k + if least ≤ cntTo l (spX st k) (spY st k) n then 1 else 0
theorem hit_yes {n : Nat} {l : Nat → ProjectorD} {st least : Int} {k : Nat} (h : least ≤ cntTo l (spX st k) (spY st k) n) : hitTo n l st least (k + 1) = hitTo n l st least k + 1 := by rw [hitTo, if_pos h]
theorem hit_no {n : Nat} {l : Nat → ProjectorD} {st least : Int} {k : Nat} (h : ¬ least ≤ cntTo l (spX st k) (spY st k) n) : hitTo n l st least (k + 1) = hitTo n l st least k := by rw [hitTo, if_neg h, Int.add_zero]
theorem hit_bd (n : Nat) (l : Nat → ProjectorD) (st least : Int) : ∀ k, 0 ≤ hitTo n l st least k ∧ hitTo n l st least k ≤ (k : Int)
  | 0 => ⟨Int.le_refl _, Int.le_refl _⟩
  | k + 1 => by
    have ih := hit_bd n l st least k
    unfold hitTo
    split <;> omega
def shareV (n : Nat) (l : Nat → ProjectorD) (st least : Int) : Int := 1000 * hitTo n l st least (nSp st) / (nSp st : Int)
theorem shareV_bd {n : Nat} {l : Nat → ProjectorD} {st least : Int} (h : 0 < st) : 0 ≤ shareV n l st least ∧ shareV n l st least ≤ 1000 := by
  have hp := nSp_pos h
  obtain ⟨h0, h1⟩ := hit_bd n l st least (nSp st)
  refine ⟨Int.ediv_nonneg (by omega) (by omega), Int.ediv_le_of_le_mul (by omega) (by omega)⟩
noncomputable def mShareV (n : Nat) (l : Nat → ProjectorD) (st least : Int) : Int := if projsB n l = true ∧ inB st 10000 90000 = true then shareV n l st least else 0
noncomputable def mAsk (n : Nat) (l : Nat → ProjectorD) (st : Int) : Int := if projsB n l = true then (if inB st 10000 90000 = true then 0 else 2) else 1
section
variable {n : Nat} {l : Nat → ProjectorD} {st least : Int}
theorem mAsk_no (q : projsB n l = false) : mAsk n l st = 1 := by simp [mAsk, q]
theorem mAsk_out (q : projsB n l = true) (q' : inB st 10000 90000 = false) : mAsk n l st = 2 := by simp [mAsk, q, q']
theorem mAsk_in (q : projsB n l = true) (q' : inB st 10000 90000 = true) : mAsk n l st = 0 := by simp [mAsk, q, q']
theorem mShare_no (q : projsB n l = false) : mShareV n l st least = 0 := by simp [mShareV, q]
theorem mShare_out (q' : inB st 10000 90000 = false) : mShareV n l st least = 0 := by simp [mShareV, q']
theorem mShare_in (q : projsB n l = true) (q' : inB st 10000 90000 = true) : mShareV n l st least = shareV n l st least := by simp [mShareV, q, q']
end
theorem ask_split (n : Nat) (l : Nat → ProjectorD) (st : Int) : (projsB n l = false ∧ mAsk n l st = 1) ∨ (projsB n l = true ∧ inB st 10000 90000 = false ∧ mAsk n l st = 2) ∨ (projsB n l = true ∧ inB st 10000 90000 = true ∧ mAsk n l st = 0) := by
  cases q : projsB n l
  · exact .inl ⟨rfl, mAsk_no q⟩
  · cases q' : inB st 10000 90000
    · exact .inr (.inl ⟨rfl, rfl, mAsk_out q q'⟩)
    · exact .inr (.inr ⟨rfl, rfl, mAsk_in q q'⟩)
theorem projs_all {n : Nat} {l : Nat → ProjectorD} (h : projsB n l = true) : n ≤ 6 ∧ ∀ k, k < n → projB (l k) = true := ⟨(projsB_of h).1, fun k hk => ((projsB_of h).2 k hk).1⟩
theorem sp_i64 {st : Int} (h : 0 < st) {k : Nat} (hk : k < nSp st) : I64 (spX st k) ∧ I64 (spY st k) := by
  obtain ⟨⟨_, _⟩, _, _⟩ := sp_up h hk
  exact ⟨⟨by omega, by omega⟩, by omega, by omega⟩
end Go.Proofs.YthjllledhcfnhaaGreatDoor
namespace Go.Ks
theorem best_next {R : Nat → Int} {j : Nat} : (R (bestTo R (j - 1)) < R j → bestTo R (j + 1 - 1) = j) ∧ (¬ R (bestTo R (j - 1)) < R j → bestTo R (j + 1 - 1) = bestTo R (j - 1)) := by
  rw [Nat.add_sub_cancel]
  cases j with
  | zero => exact ⟨fun h => absurd h (Int.lt_irrefl _), fun _ => rfl⟩
  | succ j => rw [Nat.add_sub_cancel]; exact ⟨best_yes, best_no⟩
end Go.Ks
namespace Go.Proofs.YthjllledhcfnhaaGreatDoor
open Go.RowKit Go.Lib Go.Ks
theorem zero_arr (n : Nat) : madeCells #[Value.int IntKind.i64 0] n = arr n (fun _ => .int .i64 0) := by
  rw [made_arr]
  apply arr_ext
  intro j _
  show #[Value.int IntKind.i64 0][j % 1]! = _
  rw [Nat.mod_one j]
  rfl
theorem of_alloc {w w' : World} {cs : Array Value} {t : TypeId} (h : w.alloc (.cells cs t) = w') : Below w.heap.size w w' ∧ Blk w' w.heap.size t cs := by rw [← h]; exact ⟨(Below.refl _ _).alloc (Nat.le_refl _) _, Blk.new w t cs⟩
theorem int_set {w : World} {B : Nat} {t : TypeId} {m i : Nat} {f : Nat → Int} {u : Int} (h : Blk w B t (arr m (IntC f))) : Blk (w.setCell ⟨B, i, none⟩ (.int .i64 u)) B t (arr m (IntC (upd f i u))) := by
  have q := h.set_ i (.int .i64 u)
  rw [arr_set] at q
  refine q.congr (fun j _ => ?_)
  unfold IntC upd
  by_cases e : j = i
  · rw [if_pos e, if_pos e]
  · rw [if_neg e, if_neg e]
theorem int_cell {w : World} {B : Nat} {t : TypeId} {m i : Nat} {f : Nat → Int} (h : Blk w B t (arr m (IntC f))) (hi : i < m) : w.cell? ⟨B, i, none⟩ = some (.int .i64 (f i)) := by rw [h.cell, arr_get _ _ _ hi]; rfl
end Go.Proofs.YthjllledhcfnhaaGreatDoor
namespace Go.Ks
open Go.RowKit Go.Lib
/-- a block whose first n cells are the numbers F -/
def IB (w : World) (P : Nat) (t : TypeId) (n : Nat) (F : Nat → Int) : Prop := ∃ m h, Blk w P t (arr m h) ∧ n ≤ m ∧ ∀ x, x < n → h x = .int .i64 (F x)
section
variable {w w' : World} {P : Nat} {t : TypeId} {n : Nat} {F : Nat → Int}
theorem IB.lt (h : IB w P t n F) : P < w.heap.size := by obtain ⟨m, f, hk, _⟩ := h; exact hk.lt
theorem IB.cell (h : IB w P t n F) {i : Nat} (hi : i < n) : w.cell? ⟨P, i, none⟩ = some (.int .i64 (F i)) := by
  obtain ⟨m, f, hk, hm, hf⟩ := h
  rw [hk.cell, arr_get _ _ _ (by omega), hf i hi]
theorem IB.frozen (h : IB w P t n F) (i : Nat) : w.frozen? ⟨P, i, none⟩ = false := by obtain ⟨m, f, hk, _⟩ := h; exact hk.frozen i
theorem IB.below (h : IB w P t n F) (hb : Below w.heap.size w w') : IB w' P t n F := by obtain ⟨m, f, hk, r⟩ := h; exact ⟨m, f, hk.below hb hk.lt, r⟩
theorem IB.far (h : IB w P t n F) {p : Addr} (hp : P ≠ p.block) (u : Value) : IB (w.setCell p u) P t n F := by obtain ⟨m, f, hk, r⟩ := h; exact ⟨m, f, hk.far hp u, r⟩
theorem IB.set (h : IB w P t n F) (i : Nat) (u : Int) : IB (w.setCell ⟨P, i, none⟩ (.int .i64 u)) P t n (upd F i u) := by
  obtain ⟨m, f, hk, hm, hf⟩ := h
  have q := hk.set_ i (.int .i64 u)
  rw [arr_set] at q
  refine ⟨m, _, q, hm, fun x hx => ?_⟩
  unfold upd
  by_cases e : x = i
  · simp [e]
  · simp only [if_neg e]; exact hf x hx
theorem IB.own (h : IB w P t n F) {base : Nat} (hb : base ≤ P) : Own w base t 1 (some ⟨P, 0, none⟩) n (fun j => .int .i64 (F j)) := by
  obtain ⟨m, f, hk, hm, hf⟩ := h
  exact Own.blk hk hb (by omega) (fun j hj => hf j (by omega))
theorem IB.of_row {base c : Nat} (h : Row w base t 1 (.slice (some ⟨P, 0, none⟩) n c) n (fun j => .int .i64 (F j))) (hn : 0 < n) : IB w P t n F ∧ base ≤ P := by
  obtain ⟨A, c', hv, _, hown, _⟩ := h.own
  rcases hown with ⟨_, h0⟩ | ⟨B, m, g, hA, hb, hk, hm, hf⟩
  · omega
  · rw [hA] at hv
    have hB : P = B := by
      injection hv with h1 _ _
      injection h1 with h2
      injection h2
    subst hB
    exact ⟨⟨m, g, hk, by omega, fun x hx => hf x (by omega)⟩, hb⟩
theorem int_one {f : Nat → Value} {j0 : Nat} {q : Int} (h : f (j0 + 0) = .int .i64 q) : ∀ j, j < 1 → (f (j0 + j)).oneCell' = true := fun j hj => by
  obtain rfl : j = 0 := by omega
  rw [h]
  rfl
theorem int_news {w : World} {t : TypeId} {f : Nat → Value} {j0 g : Nat} {q : Int} (hg : g = w.heap.size) (h : f (j0 + 0) = .int .i64 q) : ∀ j, j < 1 → (w.alloc (.cells #[.int .i64 q] t)).cell? ⟨g, j, none⟩ = some (f (j0 + j)) := fun j hj => by
  subst hg
  obtain rfl : j = 0 := by omega
  rw [(Blk.new w t #[.int .i64 q]).cell, h]
  rfl
end
end Go.Ks
namespace Go.Proofs.YthjllledhcfnhaaGreatDoor
open Go.RowKit Go.Lib Go.Ks
end Go.Proofs.YthjllledhcfnhaaGreatDoor
namespace Go.Ks
def litF (l : Nat → ProjectorD) (az alt : Int) (n : Nat) (k : Nat) : Int := sharesL l az alt n k * (l k).f4
def brightV (n : Nat) (l : Nat → ProjectorD) (az alt : Int) : Int := sumTo (litF l az alt n) n / 1000
theorem lit_bd {l : Nat → ProjectorD} {az alt : Int} {n : Nat} (h : ∀ k, k < n → 5000 ≤ (l k).f3) (hp : ∀ k, k < n → 1 ≤ (l k).f4 ∧ (l k).f4 ≤ 1000) (hs : rawS l az alt n ≠ 0) {k : Nat} (hk : k < n) : 0 ≤ litF l az alt n k ∧ litF l az alt n k ≤ 1002000000 := by
  obtain ⟨a0, a1⟩ := sharesL_bd (az := az) (alt := alt) h hs hk
  obtain ⟨b0, b1⟩ := hp k hk
  have := mul_bd (a := sharesL l az alt n k) (b := (l k).f4) (m := 1002000) (n := 1000) (by omega) a1 (by omega) b1 (by omega)
  exact ⟨Int.mul_nonneg a0 (by omega), by unfold litF; omega⟩
theorem litS_bd {l : Nat → ProjectorD} {az alt : Int} {n : Nat} (h : ∀ k, k < n → 5000 ≤ (l k).f3) (hp : ∀ k, k < n → 1 ≤ (l k).f4 ∧ (l k).f4 ≤ 1000) (hs : rawS l az alt n ≠ 0) {k : Nat} (hk : k ≤ n) : 0 ≤ sumTo (litF l az alt n) k ∧ sumTo (litF l az alt n) k ≤ 1002000000 * (k : Int) := sumTo_bd (by omega) k (fun j hj => lit_bd h hp hs (by omega))
theorem bright_bd {l : Nat → ProjectorD} {az alt : Int} {n : Nat} (hn : n ≤ 6) (h : ∀ k, k < n → 5000 ≤ (l k).f3) (hp : ∀ k, k < n → 1 ≤ (l k).f4 ∧ (l k).f4 ≤ 1000) (hs : rawS l az alt n ≠ 0) : 0 ≤ brightV n l az alt ∧ brightV n l az alt ≤ 10000000 := by
  have := litS_bd (az := az) (alt := alt) h hp hs (Nat.le_refl n)
  unfold brightV
  omega
end Go.Ks
namespace Go.Proofs.YthjllledhcfnhaaGreatDoor
open Go.RowKit Go.Lib Go.Ks
def brightB (n : Nat) (l : Nat → ProjectorD) (az alt : Int) : Int := if rawS l az alt n = 0 then -1 else brightV n l az alt
def brightX (n : Nat) (l : Nat → ProjectorD) (az alt : Int) : Int := if rawS l az alt n = 0 then 0 else brightV n l az alt
def brightC (n : Nat) (l : Nat → ProjectorD) (az alt : Int) : Int := if rawS l az alt n = 0 then 3 else 0
end Go.Proofs.YthjllledhcfnhaaGreatDoor
namespace Go.Proofs.YthjllledhcfnhaaGreatDoor
open Go.RowKit Go.Lib Go.Ks
noncomputable def mBrV (n : Nat) (l : Nat → ProjectorD) (az alt : Int) : Int := if projsB n l = true ∧ upB az alt = true then brightX n l az alt else 0
noncomputable def mBrC (n : Nat) (l : Nat → ProjectorD) (az alt : Int) : Int := if projsB n l = true then (if upB az alt = true then brightC n l az alt else 2) else 1
section
variable {n : Nat} {l : Nat → ProjectorD} {az alt : Int}
theorem mBr_no (q : projsB n l = false) : mBrV n l az alt = 0 ∧ mBrC n l az alt = 1 := by simp [mBrV, mBrC, q]
theorem mBr_out (q : projsB n l = true) (q' : upB az alt = false) : mBrV n l az alt = 0 ∧ mBrC n l az alt = 2 := by simp [mBrV, mBrC, q, q']
theorem mBr_in (q : projsB n l = true) (q' : upB az alt = true) : mBrV n l az alt = brightX n l az alt ∧ mBrC n l az alt = brightC n l az alt := by simp [mBrV, mBrC, q, q']
end
theorem bool_cases (b : Bool) : b = false ∨ b = true := by cases b <;> simp
end Go.Proofs.YthjllledhcfnhaaGreatDoor
