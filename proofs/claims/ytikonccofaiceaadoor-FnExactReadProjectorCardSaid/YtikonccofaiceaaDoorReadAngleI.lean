/- Angles read from texts, by the program. Conditions: the size of a text; the library's variables lie. -/
import Derived.Test.YtikonccofaiceaaDoorReadAngle
import Derived.Deep.RegionWith
import Derived.Deep.DeepCutAuto
namespace Go.Ks
open Go.RowKit Go.Lib
theorem indexByte_none {c : UInt8} : ∀ {l : List UInt8}, c ∉ l → Lib.indexByte l c = -1
  | [], _ => rfl
  | b :: l, h => by
    have ih := indexByte_none (c := c) (l := l) (fun e => h (List.mem_cons_of_mem _ e))
    have hb : b ≠ c := fun e => h (by simp [e])
    simp [Lib.indexByte, hb, ih]
theorem indexByte_app {c : UInt8} {a l : List UInt8} (h : c ∉ a) : Lib.indexByte (a ++ c :: l) c = (a.length : Int) := by
  induction a with
  | nil => simp [Lib.indexByte]
  | cons b a ih =>
    have hb : b ≠ c := fun e => h (by simp [e])
    have ih := ih (fun e => h (by simp [e]))
    rw [List.cons_append]
    simp only [Lib.indexByte, beq_iff_eq, hb, if_false, ih]
    rw [if_neg (by omega)]
    simp
theorem at_dot {c : UInt8} : ∀ {l : List UInt8}, c ∈ l → ∃ a b, l = a ++ c :: b ∧ c ∉ a
  | x :: l, h => by
    by_cases e : x = c
    · subst e; exact ⟨[], l, rfl, by simp⟩
    · obtain ⟨a, b, e1, e2⟩ := at_dot (l := l) (by rcases List.mem_cons.1 h with h | h; exact absurd h.symm e; exact h)
      exact ⟨x :: a, b, by rw [e1]; rfl, by simp only [List.mem_cons, not_or]; exact ⟨fun h => e h.symm, e2⟩⟩
theorem app_uniq {c : UInt8} {a a' b b' : List UInt8} (h : c ∉ a) (h' : c ∉ a') (e : a ++ c :: b = a' ++ c :: b') : a = a' ∧ b = b' := by
  have h1 := cut_app (l := b) h
  rw [e, cut_app h'] at h1
  injection h1 with e1 e2
  injection e2 with e2 _
  exact ⟨e1.symm, e2.symm⟩
/-- what an angle's text says of its point -/
theorem ang_dot {p : List UInt8} {a : Int} (h : AngIs p a) : ∃ A B, p = A ++ 46 :: B ∧ (46 : UInt8) ∉ A ∧ B.length = 3 ∧ parseIntB 64 (A ++ B) = .ok a := by
  obtain ⟨sg, D, P, e, hD, hP, l1, l2, l3, rfl⟩ := ang_look h
  have hd : ∀ b ∈ D ++ P, isDg b := fun b hb => by
    rcases List.mem_append.1 hb with hb | hb
    · exact hD b hb
    · exact hP b hb
  have hl := parse_dg hd (by rw [List.length_append]; omega) (by rw [List.length_append]; omega) sg
  cases sg
  · exact ⟨D, P, e, dg_not (by decide) hD, l3, hl⟩
  · refine ⟨45 :: D, P, e, ?_, l3, hl⟩
    simp only [List.mem_cons, not_or]
    exact ⟨by decide, dg_not (by decide) hD⟩
end Go.Ks
namespace Go.Proofs.YtikonccofaiceaaDoor
open Go.RowKit Go.Lib Go.Ks
theorem parse_any (q : ByteArray) (hq : q.size ≤ 1048577) (w : World) (hT : LibV w) :
    Calls Tryd.prog 116 #[.string q, .int .i64 10, .int .i64 64] w fun e w' => (∃ (v : Int) (err : Value), e = .returned (.tuple #[.int .i64 v, err]) ∧ ((err = .nilIface ∧ parseIntB 64 q.data.toList = .ok v) ∨ ((∃ T N, err = .iface T (.pointer (some ⟨N, 0, none⟩))) ∧ ∀ u, parseIntB 64 q.data.toList ≠ .ok u))) ∧ Below w.heap.size w w' := by
  obtain ⟨_, _, ⟨ev1, hv1, he1⟩, ev2, hv2, he2⟩ := hT
  cases hp : parseIntB 64 q.data.toList with
  | ok v =>
    refine (Tryd.strconv_ParseInt_10_at64_ok q (by omega) v hp w).mono ?_
    rintro e w' ⟨rfl, hw⟩
    refine ⟨⟨v, _, rfl, .inl ⟨rfl, rfl⟩⟩, ?_⟩
    rcases hw with rfl | ⟨t, rfl⟩
    · exact Below.refl _ _
    · exact Lib.bytesWorld_below _ _ _
  | range =>
    refine (Tryd.strconv_ParseInt_10_at64_range q (by omega) hp ev2 w hv2 he2).mono ?_
    rintro e w' ⟨N, rfl, _, _, hb⟩
    exact ⟨⟨_, _, rfl, .inr ⟨⟨_, _, rfl⟩, fun u h => by cases h⟩⟩, hb⟩
  | _ =>
    refine (Tryd.strconv_ParseInt_10_at64_none q (by omega) hp ev1 w hv1 he1).mono ?_
    rintro e w' ⟨N, rfl, _, _, hb⟩
    exact ⟨⟨_, _, rfl, .inr ⟨⟨_, _, rfl⟩, fun u h => by cases h⟩⟩, hb⟩
theorem angleText_out (a : Int) (h : inB a (-359999) 359999 = false) (w : World) :
    Calls Tryd.prog 76 #[.int .i64 a] w fun e w' => e = .returned (.string ⟨#[]⟩) ∧ Below w.heap.size w w' := by
  go_enter Tryd.func76, Tryd.ntmps76
  go_wp2_with fail
  refine (within_eq _ _ _ _).mono ?_
  rintro e w1 ⟨rfl, rfl⟩
  rw [h]
  go_wp2_with fail
  go_ret
  exact ⟨rfl, Below.refl _ _⟩
set_option maxRecDepth 100000 in
set_option maxHeartbeats 4000000 in
theorem readAngle_any (p : List UInt8) (hp : p.length ≤ 1048576) (w : World) (hT : LibV w) :
    Calls Tryd.prog 84 #[.string ⟨p.toArray⟩] w fun e w' => AngR p e ∧ Below w.heap.size w w' := by
  have TT := Lib.hid hT
  clear hT
  obtain ⟨s, hS⟩ : ∃ s : ByteArray, ⟨p.toArray⟩ = s := ⟨_, rfl⟩
  have hL : s.data.toList = p := by rw [← hS]
  have hz : s.size = p.length := by rw [← hS]; exact bytes_size p
  rw [hS]
  clear hS
  have HL := Lib.hid hL
  have IX := Tryd.strings_IndexByte s 46 w
  rw [hL, show ((46 : Int).toNat.toUInt8) = 46 from rfl] at IX
  by_cases h46 : (46 : UInt8) ∈ p
  · obtain ⟨A, B, e, hA⟩ := at_dot h46
    have AB := Lib.hid e
    have hlen : p.length = A.length + 1 + B.length := by rw [e, List.length_append, List.length_cons]; omega
    have hsz : s.size = A.length + 1 + B.length := hz.trans hlen
    have hb0 : A.length ≤ 1048576 := by omega
    have hb1 : B.length ≤ 1048576 := by omega
    rw [e, indexByte_app hA] at IX
    have IXH := Lib.hid IX
    have HA := Lib.hid hA
    have SZ := Lib.hid hsz
    have hs' : (s.size : Int) = (A.length : Int) + 1 + (B.length : Int) := by omega
    by_cases q3 : B.length = 3
    · have X0 : (s.extract 0 A.length).size = A.length := by rw [ByteArray.size_extract]; omega
      have X1 : (s.extract (A.length + 1) s.size).size = B.length := by rw [ByteArray.size_extract]; omega
      obtain ⟨q, hq⟩ : ∃ q, s.extract 0 A.length ++ s.extract (A.length + 1) s.size = q := ⟨_, rfl⟩
      have hql : q.data.toList = A ++ B := by
        rw [← hq, text_list, ext_list, ext_list, hL, e]
        have h1 : s.size - (A.length + 1) = B.length := by omega
        rw [h1]
        simp
      have hqs : q.size ≤ 1048577 := by
        have : q.size = (A ++ B).length := by rw [← hql]; rfl
        rw [this, List.length_append]; omega
      have PI := Lib.hid (fun w hT => parse_any q hqs w hT)
      rw [hql] at PI
      have nd : ((s.size : Int) != (A.length : Int) + 4) = false := by rw [bne, beq_iff_eq.2 (show (s.size : Int) = (A.length : Int) + 4 by omega)]; rfl
      have nz : ¬ (A.length : Int) < 0 := by omega
      have nw : IntKind.i64.wrap ((A.length : Int) + 1) = (A.length : Int) + 1 := by rw [IntKind.wrap_i64]; omega
      have nz2 : 0 ≤ (A.length : Int) + 1 := by omega
      have nz3 : ¬ s.size < A.length + 1 := by omega
      have nz4 : ¬ (s.size : Int) < (A.length : Int) + 1 := by omega
      have nz5 : ¬ 9223372036854775807 < (s.extract 0 A.length).size + (s.extract (A.length + 1) s.size).size := by omega
      have c1 : (A.length : Int) ≤ (s.size : Int) := by omega
      have c2 : (A.length : Int) + 1 ≤ (s.size : Int) := by omega
      have c3 : ¬ 9223372036854775807 < A.length + B.length := by omega
      clear IX hL hz h46 hA e hlen hsz hql hs'
      go_enter Tryd.func84, Tryd.ntmps84
      go_wp2_with fail
      refine IXH.out.mono ?_
      rintro e w1 ⟨rfl, rfl⟩
      go_upto_region 4 with fail
      go_cut [5, 6] (fun x y wr => ∃ (v : Int) (err : Value), x = .int .i64 v ∧ y = err ∧ ((err = .nilIface ∧ parseIntB 64 (A ++ B) = .ok v) ∨ ((∃ T N, err = .iface T (.pointer (some ⟨N, 0, none⟩))) ∧ ∀ u, parseIntB 64 (A ++ B) ≠ .ok u)) ∧ Below w1.heap.size w1 wr)
      case first =>
        go_region_with (go_at_call 116; refine (PI.out _ (TT.out.below (by repeat (first | with_reducible exact Below.refl _ _ | with_reducible assumption | with_reducible refine Below.setCell ?_ (by first | omega | (simp <;> omega)) _ | with_reducible refine Below.alloc ?_ (by first | omega | (simp <;> omega)) _ | with_reducible refine Below.drew ?_)))).mono ?_; rintro e w2 ⟨⟨v, err, rfl, hR⟩, hb2⟩; have HR := Lib.hid hR; clear hR; have HB2 := below_then (a := w1) (by repeat (first | with_reducible exact Below.refl _ _ | with_reducible assumption | with_reducible refine Below.setCell ?_ (by first | omega | (simp <;> omega)) _ | with_reducible refine Below.alloc ?_ (by first | omega | (simp <;> omega)) _ | with_reducible refine Below.drew ?_)) hb2)
        all_goals (try go_wp2_with fail)
        all_goals go_meet
        all_goals exact ⟨v, err, rfl, rfl, HR.out, HB2⟩
      obtain ⟨v, err, rfl, rfl, hR, hb2⟩ := hcut
      obtain ⟨w2, rfl⟩ : ∃ q : World, q = wc := ⟨_, rfl⟩
      have UA := Lib.hid (show ∀ a, AngIs p a → parseIntB 64 (A ++ B) = .ok a from fun a h => by
        obtain ⟨A', B', e', hA', _, hp'⟩ := ang_dot h
        rw [AB.out] at e'
        obtain ⟨e1, e2⟩ := app_uniq HA.out hA' e'
        rw [e1, e2]
        exact hp')
      have hne : s ≠ ⟨#[]⟩ := fun e => by
        have : s.size = 0 := by rw [e]; rfl
        have := SZ.out
        omega
      have NE := Lib.hid hne
      clear hne hq X0 X1 PI nd c1 c2 c3 nz nw nz2 nz3 nz4 nz5 IXH q3
      rcases hR with ⟨rfl, hv⟩ | ⟨⟨T, N, rfl⟩, hno⟩
      · have UN := Lib.hid (show ∀ a, AngIs p a → a = v from fun a h => by
          have := UA.out a h
          rw [hv] at this
          injection this with this
          exact this.symm)
        clear hv
        cases hr : inB v (-359999) 359999
        · have E := Lib.hid (angR_no (l := p) (fun a h => by
            have e := UN.out a h
            have h1 := h.1
            rw [e] at h1
            rw [inB_iff.2 h1] at hr
            cases hr))
          have AT := Lib.hid (angleText_out v hr w2)
          have q1 : s.toList.isEmpty = false := by
            rw [Go.Lib.toList_data]
            cases h : s.data.toList with
            | nil => exact absurd (text_eq (by rw [h])) NE.out
            | cons _ _ => rfl
          clear hr
          go_wp2_with fail
          refine AT.out.mono ?_
          rintro e w3 ⟨rfl, hb3⟩
          have HB := hb2.trans (hb3.mono hb2.size)
          clear AT
          go_wp2_with fail
          go_ret2
          exact ⟨E.out, HB⟩
        · have AT := Lib.hid (angleText_any v (inB_iff.1 hr) w2 (TT.out.below hb2).1)
          have hrr := Lib.hid (inB_iff.1 hr)
          clear hr
          go_wp2_with fail
          refine AT.out.mono ?_
          rintro e w3 ⟨rfl, hb3⟩
          have HB := hb2.trans (hb3.mono hb2.size)
          clear AT
          by_cases qs : angB v = s
          · have E := Lib.hid (angR_yes (l := p) ⟨hrr.out, by rw [qs]; exact HL.out⟩)
            rw [qs]
            clear qs
            go_wp2_with fail
            go_ret2
            exact ⟨E.out, HB⟩
          · have E := Lib.hid (angR_no (l := p) (fun a h => by
              have e := UN.out a h
              have h2 := h.2
              rw [e] at h2
              exact qs (text_eq (h2.trans HL.out.symm))))
            have q1 : ((angB v).toList == s.toList) = false := text_ne qs
            clear qs
            go_wp2_with fail
            go_ret2
            exact ⟨E.out, HB⟩
      · have E := Lib.hid (angR_no (l := p) (fun a h => hno a (UA.out a h)))
        clear hno
        go_wp2_with fail
        go_ret2
        exact ⟨E.out, hb2⟩
    · have E := Lib.hid (angR_no (l := p) (fun a h => by
        obtain ⟨A', B', e', hA', l3, _⟩ := ang_dot h
        rw [e] at e'
        obtain ⟨e1, e2⟩ := app_uniq hA hA' e'
        rw [← e2] at l3
        exact q3 l3))
      have nd : ((s.size : Int) != (A.length : Int) + 4) = true := by rw [bne, beq_eq_false_iff_ne.2 (show (s.size : Int) ≠ (A.length : Int) + 4 by omega)]; rfl
      have nz : ¬ (A.length : Int) < 0 := by omega
      clear IX hL hz h46 hA e hlen hsz hs' q3
      go_enter Tryd.func84, Tryd.ntmps84
      go_wp2_with fail
      refine IXH.out.mono ?_
      rintro e w1 ⟨rfl, rfl⟩
      go_wp2_with fail
      go_ret2
      exact ⟨E.out, Below.refl _ _⟩
  · have E := Lib.hid (angR_no (l := p) (fun a h => by
      obtain ⟨A, B, e, _⟩ := ang_dot h
      exact h46 (by rw [e]; simp)))
    rw [indexByte_none h46] at IX
    have IXH := Lib.hid IX
    clear IX hL hz h46
    go_enter Tryd.func84, Tryd.ntmps84
    go_wp2_with fail
    refine IXH.out.mono ?_
    rintro e w1 ⟨rfl, rfl⟩
    go_wp2_with fail
    go_ret2
    exact ⟨E.out, Below.refl _ _⟩
end Go.Proofs.YtikonccofaiceaaDoor
