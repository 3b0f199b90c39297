/- ReadList of the reference and of the program, as far as lists of two numbers go. Conditions: the size of a text; the library's variables lie. -/
import Derived.Test.YthjllledhcfnhaaGreatDoorReadWord
import Derived.Test.YthjllledhcfnhaaGreatDoorSmallEq
namespace Go.Ks.Tx
open Go.RowKit Go.Lib
def WiN (x : Int) : Prop := -1000000000000 ≤ x ∧ x ≤ 1000000000000
/-- a list of two numbers -/
def Lst2 (p : List UInt8) : Prop := ∃ a b, splitC 44 p = [a, b] ∧ (numOk a = true ∧ WiN (numV a)) ∧ numOk b = true ∧ WiN (numV b)
theorem lst2_len {p : List UInt8} (h : Lst2 p) : (splitC 44 p).length = 2 := by
  obtain ⟨a, b, e, _⟩ := h
  rw [e]; rfl
theorem lst2_at {p : List UInt8} (h : Lst2 p) {k : Nat} (hk : k < (splitC 44 p).length) : numOk ((splitC 44 p).getD k []) = true ∧ WiN (numV ((splitC 44 p).getD k [])) := by
  obtain ⟨a, b, e, h0, h1⟩ := h
  rw [e] at hk ⊢
  match k, hk with
  | 0, _ => exact h0
  | 1, _ => exact h1
/-- the numbers of a list -/
noncomputable def numL (ws : List (List UInt8)) : Nat → Value := fun j => .int .i64 (numV (ws.getD j []))
theorem num_news {w : World} {B : Nat} {T : TypeId} {ws : List (List UInt8)} {k : Nat} {v : Int} (hB : Blk w B T #[.int .i64 v]) (hv : numV (ws.getD k []) = v) : ∀ j, j < 1 → w.cell? ⟨B, j, none⟩ = some (numL ws (k * 1 + j)) := fun j hj => by
  obtain rfl : j = 0 := by omega
  rw [hB.cell 0, Nat.mul_one, Nat.add_zero]
  unfold numL
  rw [hv]
  rfl
theorem dash_text {p : List UInt8} (h : p = [45]) : ((⟨p.toArray⟩ : ByteArray).toList == [45]) = true := by
  rw [Go.Lib.toList_data]; subst h; rfl
theorem dash_not {p : List UInt8} (h : p ≠ [45]) : ((⟨p.toArray⟩ : ByteArray).toList == [45]) = false := by
  rw [Go.Lib.toList_data]
  exact beq_eq_false_iff_ne.2 (by simpa using h)
theorem lst2_dash : ¬ Lst2 [45] := fun h => by have := lst2_len h; simp [splitC] at this
end Go.Ks.Tx
namespace Go.Proofs.YthjllledhcfnhaaGreatDoor.Tx
open Go.RowKit Go.Lib Go.Ks Go.Ks.Tx
/-- what a reader of lists leaves, as far as lists of two numbers go -/
def RetL2 (p : List UInt8) (w w' : World) (e : Ending) : Prop :=
  (e = .returned (.tuple #[.slice none 0 0, .bool false]) ∧ ¬ Lst2 p) ∨
  ∃ (A : Option Addr) (n c : Nat), e = .returned (.tuple #[.slice A n c, .bool true]) ∧ n ≤ 64 ∧ ((n ≠ 2 ∧ ¬ Lst2 p) ∨ (n = 2 ∧ Lst2 p ∧ Own w' w.heap.size 2 1 A 2 (numL (splitC 44 p))))
theorem Tryz.infoInt : (Tryz.prog.info? 2).map (fun i => (i.zero, i.size, i.bytes)) = some (some (.int .i64 0), 1, 8) := by kernel_rfl
theorem win_b (x : Int) : inB x (-1000000000000) 1000000000000 = true ↔ WiN x := inB_iff
/-- all of the list's numbers are read -/
theorem retL2_all {p : List UInt8} {w w' : World} {A : Option Addr} {n c : Nat} (hn : (splitC 44 p).length = n) (h64 : n ≤ 64) (hall : ∀ j, j < n → numOk ((splitC 44 p).getD j []) = true ∧ WiN (numV ((splitC 44 p).getD j []))) (ho : Own w' w.heap.size 2 1 A n (numL (splitC 44 p))) : RetL2 p w w' (.returned (.tuple #[.slice A n c, .bool true])) := by
  refine .inr ⟨A, n, c, rfl, h64, ?_⟩
  by_cases q : n = 2
  · subst q
    obtain ⟨a, b, e⟩ := parts_two hn
    have h0 := hall 0 (by omega)
    have h1 := hall 1 (by omega)
    rw [e] at h0 h1
    exact .inr ⟨rfl, ⟨a, b, e, h0, h1⟩, ho⟩
  · exact .inl ⟨q, fun h => q (hn.symm.trans (lst2_len h))⟩
set_option maxRecDepth 100000 in
set_option maxHeartbeats 4000000 in
theorem implReadList_any (p : List UInt8) (hp : p.length ≤ 1048576) (w : World) (hT : LibV w) :
    Calls Tryz.prog 69 #[.string ⟨p.toArray⟩] w fun e w' => RetL2 p w w' e ∧ Below w.heap.size w w' := by
  obtain ⟨i0, hi, hz0, hz1, hz2⟩ := info_parts Tryz.infoInt
  obtain ⟨xb, hxb⟩ : ∃ xb : ByteArray, ⟨p.toArray⟩ = xb := ⟨_, rfl⟩
  have SP := Lib.hid (splitc_any 44 p hp w hT)
  have SZ := Lib.hid (getD_le (c := 44) p)
  have SL := splitC_len 44 p
  have TT := Lib.hid hT
  clear hT
  by_cases q : p = [45]
  · have e0 := dash_text q
    have E := Lib.hid (show ¬ Lst2 p by rw [q]; exact lst2_dash)
    rw [hxb] at e0 ⊢
    clear hxb q SP
    go_enter Tryz.func69, Tryz.ntmps69
    go_wp2_with fail
    go_ret2
    exact ⟨.inr ⟨_, 0, 0, rfl, by omega, .inl ⟨by omega, E.out⟩⟩, by repeat (first | with_reducible exact Below.refl _ _ | with_reducible assumption | with_reducible refine Below.setCell ?_ (by first | omega | (simp <;> omega)) _ | with_reducible refine Below.alloc ?_ (by first | omega | (simp <;> omega)) _ | with_reducible refine Below.drew ?_)⟩
  have e0 := dash_not q
  rw [hxb] at SP e0 ⊢
  clear hxb q
  obtain ⟨ws, hws⟩ : ∃ ws, splitC 44 p = ws := ⟨_, rfl⟩
  rw [hws] at SP SZ SL
  have WS := Lib.hid hws
  clear hws
  go_enter Tryz.func69, Tryz.ntmps69
  go_wp2_with fail
  refine SP.out.mono ?_
  rintro e w1 ⟨rfl, kb1, hb1⟩
  clear SP e0
  have sz1 := hb1.size
  have bl1 := kb1.lt
  have CW := Lib.hid (fun (w' : World) (hb : Below w1.heap.size w1 w') (j : Nat) (hj : j < ws.length) => show w'.cell? ⟨w.heap.size, j, none⟩ = some (.string ⟨(ws.getD j []).toArray⟩) by rw [(kb1.below hb kb1.lt).cell, arr_get _ _ _ hj]; rfl)
  clear kb1
  go_wp2_with fail
  go_loopw [4, 6, 7, 8, 14] (fun v _ _ _ i wr => ∃ k : Nat, k ≤ ws.length ∧ k ≤ 64 ∧ i = .int .i64 (k : Int) ∧ Row wr w1.heap.size 2 1 v k (numL ws) ∧ (∀ j, j < k → numOk (ws.getD j []) = true ∧ WiN (numV (ws.getD j []))) ∧ Below w1.heap.size w1 wr) (fun _ _ _ _ i _ => ws.length - (RowKit.intOf i).toNat)
  case atStart => exact ⟨0, Nat.zero_le _, Nat.zero_le _, rfl, Row.nil _ _ _ _ _, fun j hj => by omega, Below.refl _ _⟩
  case round =>
    obtain ⟨k, hk, hk64, rfl, row, hall, hbl⟩ := hrel
    obtain ⟨Ar, cr, rfl, _, _, _⟩ := row.own
    have HALL := Lib.hid hall
    clear hall
    have bsz := hbl.size
    have hbw := hb1.trans (hbl.mono hb1.size)
    by_cases hlt : k < ws.length
    · have hlt' : (k : Int) < (ws.length : Int) := by omega
      have d0 := CW.out wr hbl k hlt
      have bl' : w.heap.size < wr.heap.size := by omega
      have pl := SZ.out k
      obtain ⟨x, hx⟩ : ∃ x, ws.getD k [] = x := ⟨_, rfl⟩
      have HX := Lib.hid hx
      rw [hx] at d0 pl
      clear hx
      have NUM := Lib.hid (decimal_eq x (by omega) wr (TT.out.below hbw))
      have HE := Lib.hid (show Lst2 p → numOk x = true ∧ inB (numV x) (-1000000000000) 1000000000000 = true from fun h => by
        have := lst2_at h (k := k) (by rw [WS.out]; exact hlt)
        rw [WS.out, HX.out] at this
        exact ⟨this.1, (win_b _).2 this.2⟩)
      have NV := Lib.hid (show numV (ws.getD k []) = numV x by rw [HX.out])
      obtain ⟨nv, hnv⟩ : ∃ nv, numV x = nv := ⟨_, rfl⟩
      obtain ⟨nb, hnb⟩ : ∃ nb, numOk x = nb := ⟨_, rfl⟩
      have HNB := Lib.hid hnb
      rw [hnv, hnb] at NUM
      rw [hnv] at NV HE
      rw [hnb] at HE
      clear hnv hnb
      go_wp2_with fail
      refine NUM.out.mono ?_
      rintro e w3 ⟨rfl, hb3⟩
      clear NUM d0
      have hbl3 := hbl.trans (hb3.mono hbl.size)
      have hbw3 := hb1.trans (hbl3.mono hb1.size)
      have bsz3 := hbl3.size
      have row3 := row.below hb3
      clear row
      cases nb
      · have E := Lib.hid (show ¬ Lst2 p from fun h => by cases (HE.out h).1)
        go_wp2_with fail
        go_ret2
        exact ⟨.inl ⟨rfl, E.out⟩, hbw3⟩
      · go_wp2_with fail
        refine (within_eq _ _ _ _).mono ?_
        rintro e w4 ⟨rfl, rfl⟩
        cases q : inB nv (-1000000000000) 1000000000000
        · have E := Lib.hid (show ¬ Lst2 p from fun h => by have := (HE.out h).2; rw [q] at this; cases this)
          clear q
          go_wp2_with fail
          go_ret2
          exact ⟨.inl ⟨rfl, E.out⟩, hbw3⟩
        · by_cases q64 : k = 64
          · have E := Lib.hid (show ¬ Lst2 p from fun h => by have := lst2_len h; rw [WS.out] at this; omega)
            have q64' : ((k : Int) == 64) = true := beq_iff_eq.2 (by omega)
            clear q
            go_wp2_with fail
            go_ret2
            exact ⟨.inl ⟨rfl, E.out⟩, hbw3⟩
          · have q64' : ((k : Int) == 64) = false := beq_eq_false_iff_ne.2 (by omega)
            have HK := Lib.hid (show ∀ j, j < k + 1 → numOk (ws.getD j []) = true ∧ WiN (numV (ws.getD j [])) from fun j hj => by
              by_cases e : j = k
              · subst e
                rw [NV.out, HX.out]
                exact ⟨HNB.out, (win_b _).1 q⟩
              · exact HALL.out j (by omega))
            clear q
            go_wp2_with (at_builtin; refine wpList_append_row rfl _ _ 38 rfl w1.heap.size 2 i0 _ 1 8 Tryz.underlying38 hi hz0 hz1 hz2 rfl (by decide) _ k (numL ws) rfl (row3.alloc _) w3.heap.size 1 rfl ?c1 (fun _ _ => rfl) ?c3 ?c4 ?c5 ?_)
            case c1 => exact num_news (Blk.new w3 _ _) NV.out
            case c3 => omega
            case c4 => omega
            case c5 => first | omega | (simp; omega)
            intro v' w7 row8 hg7
            have gw7 := Row.after (hbl3.alloc bsz3 _) (Nat.le_refl _) (by simp; omega) (row3.alloc _) hg7 row8
            clear hg7
            go_wp2_with fail
            go_roundw
            case rel => exact ⟨k + 1, by omega, by omega, by go_num, row8, HK.out, gw7⟩
            case measure => simp [RowKit.intOf]; omega
    · obtain rfl : k = ws.length := by omega
      obtain ⟨A5, c5, hA5, _, own5, _⟩ := row.own
      have own6 := own5.mono (base' := w.heap.size) sz1
      have F := Lib.hid (fun (c : Nat) => retL2_all (p := p) (w := w) (w' := wr) (A := A5) (n := ws.length) (c := c) (by rw [WS.out]) hk64 (by rw [WS.out]; exact HALL.out) (by rw [WS.out]; exact own6))
      injection hA5 with h1 _ h2
      subst h1
      subst h2
      go_wp2_with fail
      go_ret2
      exact ⟨F.out _, hbw⟩
end Go.Proofs.YthjllledhcfnhaaGreatDoor.Tx
