/- The reference's search for the fewest projectors: the walk through the choices of one size. Conditions: at most six projectors, a budget of at most 20000. -/
import Derived.Test.YthjllledhcfnhaaDoorFewSpec
import Derived.Test.YthjllledhcfnhaaDoorDrawSt
namespace Go.Proofs.YthjllledhcfnhaaDoor
open Go.RowKit Go.Lib Go.Ks
/-- the state of the search: what is chosen, the tries that are left, whether they ran out -/
structure FewS (w0 : World) (s : Nat) (AR : Option Addr) (n cr : Nat) (AL : Option Addr) (N cl m bud : Nat) (ch : List Nat) (B : Nat) (full : Bool) (v : Value) (w : World) : Prop where
  g : w0.grownBy w (some s)
  x : Blk w s 95 #[.slice AR n cr, .slice AL N cl, .int .i64 (m : Int), v, .int .i64 ((bud : Int) - (B : Int)), .int .i64 (bud : Int), .bool full]
  row : Row w w0.heap.size 2 1 v ch.length (IntC (chF ch))
/-- what a search of one size leaves -/
def RunR (w0 : World) (s : Nat) (AR : Option Addr) (n cr : Nat) (AL : Option Addr) (N cl m bud : Nat) (ch : List Nat) (r : Option (List Nat) × Nat × Bool) (e : Ending) (w' : World) : Prop :=
  e = .returned (.bool r.1.isSome) ∧ ∃ v, FewS w0 s AR n cr AL N cl m bud (r.1.getD ch) r.2.1 r.2.2 v w'
section
variable {w0 w w' : World} {s : Nat} {AR : Option Addr} {n cr : Nat} {AL : Option Addr} {N cl m bud : Nat} {ch : List Nat} {B : Nat} {full : Bool} {v : Value}
theorem FewS.sl (h : FewS w0 s AR n cr AL N cl m bud ch B full v w) : ∃ A c, v = .slice A ch.length c ∧ ch.length ≤ c ∧ Sl w A (ch.length * 1) (IntC (chF ch)) := by
  obtain ⟨A, c, e, hc, ho, _⟩ := h.row.own
  exact ⟨A, c, e, hc, ho.sl⟩
theorem FewS.below (h : FewS w0 s AR n cr AL N cl m bud ch B full v w) (hb : Below w.heap.size w w') : FewS w0 s AR n cr AL N cl m bud ch B full v w' :=
  ⟨only_then h.g hb, h.x.below hb h.x.lt, h.row.below hb⟩
theorem FewS.nodes (h : FewS w0 s AR n cr AL N cl m bud ch (B + 1) full v w) (hs : s < w0.heap.size) {nd : Int} (hnd : (bud : Int) - (B : Int) = nd) : FewS w0 s AR n cr AL N cl m bud ch B full v (w.setCell ⟨s, 4, none⟩ (.int .i64 nd)) := by
  subst hnd
  exact ⟨only_setCell h.g (.inl rfl) _, h.x.set_ 4 _, h.row.only (only_setCell (World.grownBy.refl w (some s)) (p := ⟨s, 4, none⟩) (.inl rfl) _) hs⟩
theorem FewS.fullT (h : FewS w0 s AR n cr AL N cl m bud ch B full v w) (hs : s < w0.heap.size) : FewS w0 s AR n cr AL N cl m bud ch B true v (w.setCell ⟨s, 6, none⟩ (.bool true)) :=
  ⟨only_setCell h.g (.inl rfl) _, h.x.set_ 6 _, h.row.only (only_setCell (World.grownBy.refl w (some s)) (p := ⟨s, 6, none⟩) (.inl rfl) _) hs⟩
theorem FewS.chosen {ch' : List Nat} {v' : Value} (h : FewS w0 s AR n cr AL N cl m bud ch B full v w) (hs : s < w0.heap.size) (hr : Row w w0.heap.size 2 1 v' ch'.length (IntC (chF ch'))) : FewS w0 s AR n cr AL N cl m bud ch' B full v' (w.setCell ⟨s, 3, none⟩ v') :=
  ⟨only_setCell h.g (.inl rfl) _, h.x.set_ 3 _, hr.only (only_setCell (World.grownBy.refl w (some s)) (p := ⟨s, 3, none⟩) (.inl rfl) _) hs⟩
theorem FewS.size {m' : Nat} (h : FewS w0 s AR n cr AL N cl m bud ch B full v w) (hs : s < w0.heap.size) : FewS w0 s AR n cr AL N cl m' bud ch B full v (w.setCell ⟨s, 2, none⟩ (.int .i64 (m' : Int))) :=
  ⟨only_setCell h.g (.inl rfl) _, h.x.set_ 2 _, h.row.only (only_setCell (World.grownBy.refl w (some s)) (p := ⟨s, 2, none⟩) (.inl rfl) _) hs⟩
theorem FewS.append {w2 : World} {j : Nat} {v2 : Value} {o : Obj} {f : Nat → Value} (h : FewS w0 s AR n cr AL N cl m bud ch B full v w) (hs : s < w0.heap.size) (hr : Row (w.alloc o) w0.heap.size 2 1 v ch.length f) (hg : (w.alloc o).grownBy w2 v.ownBlock) (hr2 : Row w2 w0.heap.size 2 1 v2 (ch.length + 1) (IntC (chF (ch ++ [j])))) : Blk w2 s 95 #[.slice AR n cr, .slice AL N cl, .int .i64 (m : Int), v, .int .i64 ((bud : Int) - (B : Int)), .int .i64 (bud : Int), .bool full] ∧ FewS w0 s AR n cr AL N cl m bud (ch ++ [j]) B full v2 (w2.setCell ⟨s, 3, none⟩ v2) := by
  have g2 := only_row (only_alloc h.g o) hr (Nat.le_refl _) hg
  have x1 := h.x.below (bel_alloc (rfl : w.alloc o = w.alloc o)) h.x.lt
  have x2 := blk_grown x1 hg (fun e => by have := Row.far hr s e; omega)
  refine ⟨x2, only_setCell g2 (.inl rfl) _, x2.set_ 3 _, ?_⟩
  rw [List.length_append]
  exact hr2.only (only_setCell (World.grownBy.refl w2 (some s)) (p := ⟨s, 3, none⟩) (.inl rfl) _) hs
theorem chF_last (ch : List Nat) (k : Nat) : ∀ j, j < ch.length * 1 → IntC (chF ch) j = IntC (chF (ch ++ [k])) j := fun j hj => by
  unfold IntC chF
  rw [List.getD_eq_getElem?_getD, List.getD_eq_getElem?_getD, List.getElem?_append_left (by omega)]
theorem chF_new (ch : List Nat) (k : Nat) : IntC (chF (ch ++ [k])) (ch.length * 1 + 0) = .int .i64 (k : Int) := by
  unfold IntC chF
  rw [List.getD_eq_getElem?_getD, Nat.mul_one, Nat.add_zero, List.getElem?_append_right (Nat.le_refl _)]
  simp
theorem Row.init {w : World} {base : Nat} {e : TypeId} {size : Nat} {A : Option Addr} {n c : Nat} {f : Nat → Value} (h : Row w base e size (.slice A (n + 1) c) (n + 1) f) : Row w base e size (.slice A n c) n f := by
  rcases h.2 with ⟨_, h0⟩ | ⟨g, cap, cur, hv, hb, hh, h1, h2, h3, h4⟩
  · omega
  · cases hv
    refine ⟨cellsTo_len _ _, .inr ⟨g, c, cur, rfl, hb, hh, by omega, h2, h3, ?_⟩⟩
    have e : (n + 1) * size = n * size + size := by rw [Nat.add_mul, Nat.one_mul]
    rw [e, cellsTo_add] at h4
    have h5 := congrArg (List.take (n * size)) h4
    rw [List.take_take, Nat.min_eq_left (by omega), List.take_left' (cellsTo_len _ _)] at h5
    exact h5
end
set_option maxRecDepth 100000 in
set_option maxHeartbeats 8000000 in
theorem run_any (w0 : World) (s : Nat) (AR : Option Addr) (n cr : Nat) (AL : Option Addr) (N cl m bud : Nat) (R cR : Nat → Nat) (row : Nat → Nat → Bool) (lit : Nat → Bool)
    (hN : N ≤ 360) (hn : n ≤ 6) (hm : m ≤ n) (hbud : bud ≤ 20000) (hs : s < w0.heap.size) (hE : ∀ w, w0.grownBy w (some s) → RowsAt w AR n N R cR row ∧ Sl w AL (N * 1) (BoolC lit)) :
    ∀ (d : Nat) (ch : List Nat) (k B : Nat) (v : Value) (w : World), ch.length + d = m → k ≤ n → (∀ q, q < ch.length → ch.getD q 0 < n) → B ≤ bud → FewS w0 s AR n cr AL N cl m bud ch B false v w →
    Calls Tryd.prog 61 #[.pointer (some ⟨s, 0, none⟩), .int .i64 (k : Int)] w fun e w' => RunR w0 s AR n cr AL N cl m bud ch (scan (fun c => enB lit row c N) (lv d ch k (n - k)) B) e w' := by
  have HE := Lib.hid hE
  clear hE
  have hm6 : (m : Int) ≤ 6 := by omega
  have hn6 : (n : Int) ≤ 6 := by omega
  intro d
  induction d with
  | zero =>
    intro ch k B v w hd hk hch hB hS
    have HCH := Lib.hid hch
    rw [Nat.add_zero] at hd
    subst hd
    obtain ⟨L, hL⟩ : ∃ L, (fun c => enB lit row c N) = L := ⟨_, rfl⟩
    have HL := Lib.hid (fun c => (congrFun hL c : enB lit row c N = L c))
    rw [hL]
    clear hL hch
    have E0 := Lib.hid (show scan L (lv 0 ch k (n - k)) 0 = (none, 0, true) from rfl)
    have E1 := Lib.hid (fun (B : Nat) (h : L ch = true) => (show scan L (lv 0 ch k (n - k)) (B + 1) = (some ch, B, false) by simp [lv, scan, h]))
    have E2 := Lib.hid (fun (B : Nat) (h : L ch = false) => (show scan L (lv 0 ch k (n - k)) (B + 1) = (none, B, false) by simp [lv, scan, h]))
    obtain ⟨r, hr⟩ : ∃ r, scan L (lv 0 ch k (n - k)) B = r := ⟨_, rfl⟩
    have HR := Lib.hid hr
    rw [hr]
    clear hr
    obtain ⟨A, c, rfl, hcc, hsl⟩ := hS.sl
    have HS := Lib.hid hS
    have x0 := hS.x
    clear hS hsl
    obtain ⟨nd, hnd⟩ : ∃ nd, (bud : Int) - (B : Int) = nd := ⟨_, rfl⟩
    rw [hnd] at x0
    have HND := Lib.hid hnd
    clear hnd
    have c0 := x0.cell 0
    have c1 := x0.cell 1
    have c2 := x0.cell 2
    have c3 := x0.cell 3
    have c4 := x0.cell 4
    have c5 := x0.cell 5
    have c6 := x0.cell 6
    simp at c0 c1 c2 c3 c4 c5 c6
    have cl := x0.lt
    clear x0
    go_enter Tryd.func61, Tryd.ntmps61
    go_wp2_with fail
    refine wp_region_ext (by kernel_rfl) (by kernel_rfl) ?_
    repeat (go_big_quiet_step (fail))
    refine wpQuiet_nil ?_
    intro e1
    have S1 := Lib.hid (HS.out.below e1.below)
    clear HS
    generalize e1.val = w1 at *
    clear e1 c0 c1 c2 c3 c4 c5 c6 cl
    have x1 := S1.out.x
    rw [HND.out] at x1
    have c0 := x1.cell 0
    have c1 := x1.cell 1
    have c2 := x1.cell 2
    have c3 := x1.cell 3
    have c4 := x1.cell 4
    have c5 := x1.cell 5
    have c6 := x1.cell 6
    simp at c0 c1 c2 c3 c4 c5 c6
    have cl := x1.lt
    have og0 := x1.frozen 0
    have og1 := x1.frozen 1
    have og2 := x1.frozen 2
    have og3 := x1.frozen 3
    have og4 := x1.frozen 4
    have og5 := x1.frozen 5
    have og6 := x1.frozen 6
    clear x1
    cases B with
    | zero =>
      have h0 : nd = (bud : Int) := by have := HND.out; omega
      have h0' := decide_eq_true h0
      go_wp2_with fail
      refine wp_region_ext (by kernel_rfl) (by kernel_rfl) ?_
      repeat (go_big_quiet_step (fail))
      refine wpQuiet_nil ?_
      intro e2
      have S2 := Lib.hid (S1.out.below e2.below)
      clear S1
      generalize e2.val = w2 at *
      clear e2 c0 c1 c2 c3 c4 c5 c6 cl og0 og1 og2 og3 og4 og5 og6
      have x2 := S2.out.x
      rw [HND.out] at x2
      have c0 := x2.cell 0
      have c1 := x2.cell 1
      have c2 := x2.cell 2
      have c3 := x2.cell 3
      have c4 := x2.cell 4
      have c5 := x2.cell 5
      have c6 := x2.cell 6
      simp at c0 c1 c2 c3 c4 c5 c6
      have cl := x2.lt
      have og0 := x2.frozen 0
      have og1 := x2.frozen 1
      have og2 := x2.frozen 2
      have og3 := x2.frozen 3
      have og4 := x2.frozen 4
      have og5 := x2.frozen 5
      have og6 := x2.frozen 6
      clear x2
      go_wp2_with fail
      go_ret
      rw [← HR.out, E0.out]
      exact ⟨rfl, _, S2.out.fullT hs⟩
    | succ B =>
      have h0 : ¬ nd = (bud : Int) := by have := HND.out; omega
      have h0' := decide_eq_false h0
      have wr1 : IntKind.i64.wrap (nd + 1) = nd + 1 := by have := HND.out; rw [IntKind.wrap_i64]; omega
      go_wp2_with fail
      refine wp_region_ext (by kernel_rfl) (by kernel_rfl) ?_
      repeat (go_big_quiet_step (fail))
      refine wpQuiet_nil ?_
      intro e2
      have S2 := Lib.hid (S1.out.below e2.below)
      clear S1
      generalize e2.val = w2 at *
      clear e2 c0 c1 c2 c3 c4 c5 c6 cl og0 og1 og2 og3 og4 og5 og6
      have x2 := S2.out.x
      rw [HND.out] at x2
      have c0 := x2.cell 0
      have c1 := x2.cell 1
      have c2 := x2.cell 2
      have c3 := x2.cell 3
      have c4 := x2.cell 4
      have c5 := x2.cell 5
      have c6 := x2.cell 6
      simp at c0 c1 c2 c3 c4 c5 c6
      have cl := x2.lt
      have og0 := x2.frozen 0
      have og1 := x2.frozen 1
      have og2 := x2.frozen 2
      have og3 := x2.frozen 3
      have og4 := x2.frozen 4
      have og5 := x2.frozen 5
      have og6 := x2.frozen 6
      clear x2
      go_wp2_with fail
      have S3 := S2.out.nodes hs (show (bud : Int) - (B : Int) = nd + 1 by have := HND.out; omega)
      generalize World.setCell w2 _ _ = w3 at *
      clear c0 c1 c2 c3 c4 c5 c6 cl og0 og1 og2 og3 og4 og5 og6
      obtain ⟨hRo, hLi⟩ := HE.out w3 S3.g
      have S3H := Lib.hid S3
      obtain ⟨A3, c3, e3, hcc3, hsl3⟩ := S3.sl
      cases e3
      refine (enough_any s w3 AL N cl AR n cr (ch.length : Int) _ (bud : Int) false A c ch R cR row lit hN hn (by omega) HCH.out S3.x hRo hLi hsl3).mono ?_
      rintro e w4 ⟨rfl, hb4⟩
      have S4 := S3H.out.below hb4
      rw [HL.out ch]
      go_wp2_with fail
      go_ret
      rw [← HR.out]
      obtain ⟨b, hb⟩ : ∃ b, L ch = b := ⟨_, rfl⟩
      rw [hb]
      cases b
      · rw [E2.out B hb]
        exact ⟨rfl, _, S4⟩
      · rw [E1.out B hb]
        exact ⟨rfl, _, S4⟩
  | succ d ih =>
    intro ch k B v w hd hk hch hB hS
    have HCH := Lib.hid hch
    have nlm : ¬ (ch.length : Int) = (m : Int) := by omega
    have nlm' := decide_eq_false nlm
    have nlb : ((ch.length : Int) == (m : Int)) = false := by rw [beq_eq_false_iff_ne]; exact nlm
    obtain ⟨r, hr⟩ : ∃ r, scan (fun c => enB lit row c N) (lv (d + 1) ch k (n - k)) B = r := ⟨_, rfl⟩
    have HR := Lib.hid hr
    rw [hr]
    clear hr hch
    obtain ⟨i0, hi, hz0, hz1, hz2⟩ := info_parts Tryd.infoI64
    obtain ⟨A, c, rfl, hcc, hsl⟩ := hS.sl
    have HS := Lib.hid hS
    have x0 := hS.x
    clear hS hsl hcc
    have c0 := x0.cell 0
    have c1 := x0.cell 1
    have c2 := x0.cell 2
    have c3 := x0.cell 3
    have c4 := x0.cell 4
    have c5 := x0.cell 5
    have c6 := x0.cell 6
    simp at c0 c1 c2 c3 c4 c5 c6
    have cl := x0.lt
    clear x0
    go_enter Tryd.func61, Tryd.ntmps61
    go_wp2_with fail
    refine wp_region_ext (by kernel_rfl) (by kernel_rfl) ?_
    repeat (go_big_quiet_step (fail))
    refine wpQuiet_nil ?_
    intro e1
    have S1 := Lib.hid (HS.out.below e1.below)
    clear HS
    generalize e1.val = w1 at *
    clear e1 c0 c1 c2 c3 c4 c5 c6 cl
    have IH := Lib.hid ih
    clear ih
    go_wp2_with fail
    go_loopw [5] (fun q wr => ∃ (j B' : Nat) (f : Bool) (v' : Value), j ≤ n ∧ B' ≤ B ∧ q = .int .i64 (j : Int) ∧ FewS w0 s AR n cr AL N cl m bud ch B' f v' wr ∧ ((f = false ∧ scan (fun c => enB lit row c N) (lv (d + 1) ch j (n - j)) B' = r) ∨ (f = true ∧ r = (none, B', true)))) (fun q _ => n - (intOf q).toNat)
    case atStart => exact ⟨k, B, false, _, hk, Nat.le_refl _, rfl, S1.out, .inl ⟨rfl, HR.out⟩⟩
    case round =>
      obtain ⟨j, B', f, v', hj, hB', rfl, S, hc⟩ := hrel
      have HC := Lib.hid hc
      have x0 := S.x
      have HSS := Lib.hid S
      clear hc
      by_cases hlt : j < n
      · have hlt' : (j : Int) < (n : Int) := by omega
        rcases HC.out with ⟨rfl, hsc⟩ | ⟨rfl, hsc⟩
        · have HSC := Lib.hid hsc
          clear hsc
          obtain ⟨A', c', rfl, hcc, hsl⟩ := S.sl
          clear hsl
          have rowc := S.row.congr (f' := IntC (chF (ch ++ [j]))) (chF_last ch j)
          have CN := Lib.hid (chF_new ch j)
          have szw := S.g.size
          clear S
          have c0 := x0.cell 0
          have c1 := x0.cell 1
          have c2 := x0.cell 2
          have c3 := x0.cell 3
          have c4 := x0.cell 4
          have c5 := x0.cell 5
          have c6 := x0.cell 6
          simp at c0 c1 c2 c3 c4 c5 c6
          have cl := x0.lt
          have cg0 := x0.frozen 0
          have cg1 := x0.frozen 1
          have cg2 := x0.frozen 2
          have cg3 := x0.frozen 3
          have cg4 := x0.frozen 4
          have cg5 := x0.frozen 5
          have cg6 := x0.frozen 6
          clear x0
          go_wp2_with (at_builtin; refine wpList_append_row rfl _ _ 24 rfl w0.heap.size 2 i0 _ 1 8 Tryd.underlying24 hi hz0 hz1 hz2 rfl (by decide) _ ch.length (IntC (chF (ch ++ [j]))) rfl (rowc.alloc _) wr.heap.size 1 rfl ?c1 (fun _ _ => rfl) ?c3 ?c4 ?c5 ?_)
          case c1 =>
            have z := CN.out
            rw [Nat.mul_one, Nat.add_zero] at z
            exact z.symm
          case c3 => omega
          case c4 => omega
          case c5 => first | omega | (simp; omega)
          intro v2 w2 row2 hg2
          obtain ⟨A2, d2, rfl, _, _, _⟩ := row2.own
          obtain ⟨x2, S2'⟩ := HSS.out.append (j := j) hs (rowc.alloc _) hg2 row2
          have S2 := Lib.hid S2'
          clear S2'
          clear c0 c1 c2 c3 c4 c5 c6 cl cg0 cg1 cg2 cg3 cg4 cg5 cg6 hg2 row2 rowc HSS
          have c0 := x2.cell 0
          have c1 := x2.cell 1
          have c2 := x2.cell 2
          have c3 := x2.cell 3
          have c4 := x2.cell 4
          have c5 := x2.cell 5
          have c6 := x2.cell 6
          simp at c0 c1 c2 c3 c4 c5 c6
          have cl := x2.lt
          have cg0 := x2.frozen 0
          have cg1 := x2.frozen 1
          have cg2 := x2.frozen 2
          have cg3 := x2.frozen 3
          have cg4 := x2.frozen 4
          have cg5 := x2.frozen 5
          have cg6 := x2.frozen 6
          clear x2
          go_wp2_with fail
          have wr2 : IntKind.i64.wrap ((j : Int) + 1) = (j : Int) + 1 := by rw [IntKind.wrap_i64]; omega
          generalize World.setCell w2 _ _ = w3 at *
          clear c0 c1 c2 c3 c4 c5 c6 cl cg0 cg1 cg2 cg3 cg4 cg5 cg6
          have RUN := IH.out (ch ++ [j]) (j + 1) B' _ w3 (by rw [List.length_append]; simp; omega) (by omega) (fun q hq => by
            have h := HCH.out
            rw [List.length_append] at hq
            by_cases e : q < ch.length
            · rw [List.getD_eq_getElem?_getD, List.getElem?_append_left e, ← List.getD_eq_getElem?_getD]
              exact h q e
            · have e2 : q = ch.length := by simp at hq; omega
              subst e2
              rw [List.getD_eq_getElem?_getD, List.getElem?_append_right (Nat.le_refl _)]
              simpa using hlt) (by omega) S2.out
          have ec : ((j + 1 : Nat) : Int) = (j : Int) + 1 := by omega
          rw [ec] at RUN
          have LS := Lib.hid (lv_step d ch j (n - (j + 1)))
          rw [show n - (j + 1) + 1 = n - j by omega] at LS
          obtain ⟨r1, hr1⟩ : ∃ r1, scan (fun c => enB lit row c N) (lv d (ch ++ [j]) (j + 1) (n - (j + 1))) B' = r1 := ⟨_, rfl⟩
          have HR1 := Lib.hid hr1
          rw [hr1] at RUN
          have RUNH := Lib.hid RUN
          clear hr1 RUN S2 ec
          go_wp2_with fail
          refine RUNH.out.mono ?_
          rintro e w4 ⟨rfl, v4, S4⟩
          clear RUNH
          obtain ⟨o1, B1, f1⟩ := r1
          have B1' : B1 ≤ B' := by
            have := scan_le (fun c => enB lit row c N) (lv d (ch ++ [j]) (j + 1) (n - (j + 1))) B'
            rw [HR1.out] at this
            exact this
          cases o1 with
          | some c1 =>
            have E := Lib.hid (show r = (some c1, B1, f1) by rw [← HSC.out, LS.out, scan_append, HR1.out])
            have S4H := Lib.hid S4
            clear S4
            go_wp2_with fail
            go_ret
            rw [E.out]
            exact ⟨rfl, v4, S4H.out⟩
          | none =>
            have S4H := Lib.hid S4
            have r4 := S4.row
            have x4 := S4.x
            clear S4
            simp only [Option.getD_none, List.length_append, List.length_singleton] at r4
            obtain ⟨A4, d4, rfl, hd4, _, _⟩ := r4.own
            have r5 := (Row.init r4).congr (f' := IntC (chF ch)) (fun q hq => (chF_last ch j q hq).symm)
            have R5 := Lib.hid r5
            have EC := Lib.hid (show f1 = false → scan (fun c => enB lit row c N) (lv (d + 1) ch (j + 1) (n - (j + 1))) B1 = r from fun e => by rw [← HSC.out, LS.out, scan_append, HR1.out, e])
            have EF := Lib.hid (show f1 = true → r = (none, B1, true) from fun e => by rw [← HSC.out, LS.out, scan_append, HR1.out, e])
            clear r4 r5 HR1 LS HSC
            have wr3 : IntKind.i64.wrap ((ch.length : Int) + 1 - 1) = (ch.length : Int) := by rw [IntKind.wrap_i64]; omega
            have nn1 : ¬ d4 < ch.length := by omega
            have nn2 : (ch.length : Int) ≤ (d4 : Int) := by omega
            have c0 := x4.cell 0
            have c1 := x4.cell 1
            have c2 := x4.cell 2
            have c3 := x4.cell 3
            have c4 := x4.cell 4
            have c5 := x4.cell 5
            have c6 := x4.cell 6
            simp at c0 c1 c2 c3 c4 c5 c6
            have cl := x4.lt
            have og0 := x4.frozen 0
            have og1 := x4.frozen 1
            have og2 := x4.frozen 2
            have og3 := x4.frozen 3
            have og4 := x4.frozen 4
            have og5 := x4.frozen 5
            have og6 := x4.frozen 6
            clear x4
            go_wp2_with fail
            refine wp_region_ext_tail 1 12 (by kernel_rfl) (by kernel_rfl) (fun d _ _ _ _ h => by cases d <;> exact h) ?_
            simp only [List.take_succ_cons, List.take_zero, List.drop_succ_cons, List.drop_zero]
            repeat (go_big_quiet_step (fail))
            refine wpQuiet_nil ?_
            intro e5
            have S5 := Lib.hid (S4H.out.below e5.below)
            have R5' := Lib.hid (R5.out.below e5.below)
            clear S4H R5
            generalize e5.val = w5 at *
            clear e5 c0 c1 c2 c3 c4 c5 c6 cl og0 og1 og2 og3 og4 og5 og6
            have x5 := S5.out.x
            have c0 := x5.cell 0
            have c1 := x5.cell 1
            have c2 := x5.cell 2
            have c3 := x5.cell 3
            have c4 := x5.cell 4
            have c5 := x5.cell 5
            have c6 := x5.cell 6
            simp at c0 c1 c2 c3 c4 c5 c6
            have cl := x5.lt
            have og0 := x5.frozen 0
            have og1 := x5.frozen 1
            have og2 := x5.frozen 2
            have og3 := x5.frozen 3
            have og4 := x5.frozen 4
            have og5 := x5.frozen 5
            have og6 := x5.frozen 6
            clear x5
            go_wp2_with fail
            go_roundw
            case rel =>
              refine ⟨j + 1, B1, f1, _, by omega, by omega, by go_num, S5.out.chosen hs R5'.out, ?_⟩
              cases f1
              · exact .inl ⟨rfl, EC.out rfl⟩
              · exact .inr ⟨rfl, EF.out rfl⟩
            case measure => simp [intOf]; omega
        · clear S
          have HSC := Lib.hid hsc
          clear hsc
          have c0 := x0.cell 0
          have c1 := x0.cell 1
          have c2 := x0.cell 2
          have c3 := x0.cell 3
          have c4 := x0.cell 4
          have c5 := x0.cell 5
          have c6 := x0.cell 6
          simp at c0 c1 c2 c3 c4 c5 c6
          have cl := x0.lt
          clear x0
          go_wp2_with fail
          go_ret
          rw [HSC.out]
          exact ⟨rfl, v', HSS.out⟩
      · clear S
        obtain rfl : j = n := by omega
        have c0 := x0.cell 0
        have c1 := x0.cell 1
        have c2 := x0.cell 2
        have c3 := x0.cell 3
        have c4 := x0.cell 4
        have c5 := x0.cell 5
        have c6 := x0.cell 6
        simp at c0 c1 c2 c3 c4 c5 c6
        have cl := x0.lt
        clear x0
        go_wp2_with fail
        go_ret
        rcases HC.out with ⟨rfl, hsc⟩ | ⟨rfl, hsc⟩
        · rw [Nat.sub_self, lv_zero] at hsc
          rw [← hsc]
          exact ⟨rfl, v', HSS.out⟩
        · rw [hsc]
          exact ⟨rfl, v', HSS.out⟩
end Go.Proofs.YthjllledhcfnhaaDoor
