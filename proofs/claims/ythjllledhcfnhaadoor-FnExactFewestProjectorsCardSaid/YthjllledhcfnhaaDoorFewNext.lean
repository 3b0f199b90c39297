/- The next choice of as many indices. Conditions: at most six indices below n, n at most six. -/
import Derived.Test.YthjllledhcfnhaaDoorFew
namespace Go.Ks
/-- where the next choice differs first -/
def piv (n m : Nat) (ch : List Nat) : Nat → Option Nat
  | 0 => none
  | i + 1 => if ((ch.getD i 0 : Nat) : Int) < (n : Int) - (m : Int) + (i : Int) then some i else piv n m ch i
/-- the choice that differs from index i on, written up to index k -/
def tl (ch : List Nat) (i k j : Nat) : Nat := if j < i then ch.getD j 0 else if j < k then ch.getD i 0 + 1 + (j - i) else ch.getD j 0
def nextL (n : Nat) (ch : List Nat) : Option (List Nat) := (piv n ch.length ch ch.length).map (fun i => (List.range ch.length).map (tl ch i ch.length))
theorem map_range_getD (f : Nat → Nat) {m j : Nat} (h : j < m) : ((List.range m).map f).getD j 0 = f j := by
  rw [List.getD_eq_getElem?_getD, List.getElem?_map, List.getElem?_range h]; rfl
theorem tl_step {ch : List Nat} {i k : Nat} (h : i < k) : tl ch i k (k - 1) + 1 = ch.getD i 0 + 1 + (k - i) := by
  unfold tl
  rw [if_neg (by omega), if_pos (by omega)]
  omega
end Go.Ks
namespace Go.Proofs.YthjllledhcfnhaaDoor
open Go.RowKit Go.Lib Go.Ks
/-- what a next choice leaves -/
def RetN (w w' : World) (B n : Nat) (ch : List Nat) (e : Ending) : Prop :=
  (nextL n ch = none ∧ e = .returned (.bool false) ∧ w.grownBy w' (some B)) ∨ ∃ ch', nextL n ch = some ch' ∧ ch'.length = ch.length ∧ e = .returned (.bool true) ∧ w.grownBy w' (some B) ∧ Blk w' B 2 (arr ch.length (IntC (chF ch')))
set_option maxRecDepth 100000 in
set_option maxHeartbeats 8000000 in
theorem nextChoice_any (B c n : Nat) (ch : List Nat) (w : World) (hn : n ≤ 6) (hm : ch.length ≤ 6) (hch : ∀ q, q < ch.length → ch.getD q 0 < 6) (hb : Blk w B 2 (arr ch.length (IntC (chF ch)))) :
    Calls Tryd.prog 69 #[.slice (some ⟨B, 0, none⟩) ch.length c, .int .i64 (n : Int)] w fun e w' => RetN w w' B n ch e := by
  obtain ⟨m, hmm⟩ : ∃ m, ch.length = m := ⟨_, rfl⟩
  have HM := Lib.hid hmm
  rw [hmm] at hm hch hb ⊢
  have HCH := Lib.hid hch
  have hn6 : (n : Int) ≤ 6 := by omega
  have hm6 : (m : Int) ≤ 6 := by omega
  clear hch hmm
  go_enter Tryd.func69, Tryd.ntmps69
  go_wp2_with fail
  go_loopw [6, 7] (fun i _ wr => ∃ k : Nat, k ≤ m ∧ i = .int .i64 ((k : Int) - 1) ∧ piv n m ch m = piv n m ch k ∧ w.grownBy wr (some B) ∧ Blk wr B 2 (arr m (IntC (chF ch)))) (fun i _ _ => (intOf i + 1).toNat)
  case atStart => exact ⟨m, Nat.le_refl _, rfl, rfl, World.grownBy.refl _ _, hb⟩
  case round =>
    obtain ⟨k, hk, rfl, hpv, hg, hbk⟩ := hrel
    have HPV := Lib.hid hpv
    clear hpv
    by_cases hk0 : k = 0
    · subst hk0
      go_wp2_with fail
      go_ret
      refine .inl ⟨?_, rfl, hg⟩
      unfold nextL
      rw [HM.out, HPV.out]
      rfl
    · obtain ⟨i, rfl⟩ : ∃ i, k = i + 1 := ⟨k - 1, by omega⟩
      have ei : ((i + 1 : Nat) : Int) - 1 = (i : Int) := by omega
      rw [ei]
      have hi6 : ch.getD i 0 < 6 := HCH.out i (by omega)
      have d0 : wr.cell? ⟨B, i, none⟩ = some (.int .i64 ((ch.getD i 0 : Nat) : Int)) := by rw [hbk.cell, arr_get _ _ _ (by omega)]; rfl
      have f0 := hbk.frozen i
      have bl := hbk.lt
      obtain ⟨v, hv⟩ : ∃ v, ch.getD i 0 = v := ⟨_, rfl⟩
      rw [hv] at hi6 d0
      have HV := Lib.hid hv
      clear hv ei
      have him : (i : Int) < (m : Int) := by omega
      have PS := Lib.hid (show piv n m ch (i + 1) = if (v : Int) < (n : Int) - (m : Int) + (i : Int) then some i else piv n m ch i by rw [← HV.out]; rfl)
      by_cases hp : (v : Int) < (n : Int) - (m : Int) + (i : Int)
      · have PE := Lib.hid (show piv n m ch m = some i by rw [HPV.out, PS.out, if_pos hp])
        have wr1 : IntKind.i64.wrap ((v : Int) + 1) = (v : Int) + 1 := by rw [IntKind.wrap_i64]; omega
        have wr2 : IntKind.i64.wrap ((n : Int) - (m : Int)) = (n : Int) - (m : Int) := by rw [IntKind.wrap_i64]; omega
        have wr3 : IntKind.i64.wrap ((n : Int) - (m : Int) + (i : Int)) = (n : Int) - (m : Int) + (i : Int) := by rw [IntKind.wrap_i64]; omega
        go_wp2_with fail
        have k1 : Blk (wr.setCell ⟨B, i, none⟩ (.int .i64 ((v : Int) + 1))) B 2 (arr m (fun j => .int .i64 ((tl ch i (i + 1) j : Nat) : Int))) := by
          have h := hbk.set_ i (.int .i64 ((v : Int) + 1))
          rw [arr_set] at h
          refine h.congr (fun j hj => ?_)
          unfold IntC chF tl
          by_cases e : j = i
          · subst e
            rw [if_pos rfl, if_neg (by omega), if_pos (by omega), HV.out, Nat.sub_self, Nat.add_zero]
            rfl
          · rw [if_neg e]
            by_cases e2 : j < i
            · rw [if_pos e2]
            · rw [if_neg e2, if_neg (by omega)]
        have g1 := only_setCell hg (p := ⟨B, i, none⟩) (.inl rfl) (.int .i64 ((v : Int) + 1))
        generalize hW : wr.setCell ⟨B, i, none⟩ (.int .i64 ((v : Int) + 1)) = ws at *
        clear hW hbk hg d0 f0 bl wr1 wr2 wr3
        go_loopw [7] (fun kk wr2 => ∃ q : Nat, i + 1 ≤ q ∧ q ≤ m ∧ kk = .int .i64 (q : Int) ∧ w.grownBy wr2 (some B) ∧ Blk wr2 B 2 (arr m (fun j => .int .i64 ((tl ch i q j : Nat) : Int)))) (fun kk _ => m - (intOf kk).toNat)
        case atStart => exact ⟨i + 1, Nat.le_refl _, by omega, by go_num, g1, k1⟩
        case round =>
          obtain ⟨q, hq1, hq, rfl, hg2, hb2⟩ := hrel
          by_cases hlq : q < m
          · have hlq' : (q : Int) < (m : Int) := by omega
            have T1 := tl_step (ch := ch) (i := i) (k := q) (by omega)
            have v6 : ch.getD i 0 < 6 := HCH.out i (by omega)
            have c1 : wr.cell? ⟨B, q - 1, none⟩ = some (.int .i64 ((tl ch i q (q - 1) : Nat) : Int)) := by rw [hb2.cell, arr_get _ _ _ (by omega)]
            obtain ⟨u, hu⟩ : ∃ u, tl ch i q (q - 1) = u := ⟨_, rfl⟩
            rw [hu] at T1 c1
            have HU := Lib.hid T1
            have ub : u ≤ 20 := by omega
            have c2 : wr.cell? ⟨B, q, none⟩ = some (.int .i64 ((tl ch i q q : Nat) : Int)) := by rw [hb2.cell, arr_get _ _ _ (by omega)]
            have f2 := hb2.frozen q
            have bl := hb2.lt
            clear T1 hu v6
            have wr1 : IntKind.i64.wrap ((q : Int) - 1) = ((q - 1 : Nat) : Int) := by rw [IntKind.wrap_i64]; omega
            have wr2 : IntKind.i64.wrap ((u : Int) + 1) = (u : Int) + 1 := by rw [IntKind.wrap_i64]; omega
            have eq1 : (q : Int) - 1 = ((q - 1 : Nat) : Int) := by omega
            have lt1 : ((q - 1 : Nat) : Int) < (m : Int) := by omega
            go_wp2_with fail
            go_roundw
            case rel =>
              refine ⟨q + 1, by omega, by omega, by go_num, only_setCell hg2 (p := ⟨B, q, none⟩) (.inl rfl) _, ?_⟩
              have h := hb2.set_ q (.int .i64 ((u : Int) + 1))
              rw [arr_set] at h
              refine h.congr (fun j hj => ?_)
              have hU := HU.out
              unfold tl
              by_cases e : j = q
              · subst e
                rw [if_pos rfl, if_neg (by omega), if_pos (by omega), ← hU]
                rfl
              · rw [if_neg e]
                by_cases e2 : j < i
                · rw [if_pos e2, if_pos e2]
                · rw [if_neg e2, if_neg e2]
                  by_cases e3 : j < q
                  · rw [if_pos e3, if_pos (by omega)]
                  · rw [if_neg e3, if_neg (by omega)]
            case measure => simp [intOf] <;> omega
          · obtain rfl : q = m := by omega
            go_wp2_with fail
            go_ret
            refine .inr ⟨(List.range q).map (tl ch i q), ?_, by simp [HM.out], rfl, hg2, ?_⟩
            · unfold nextL
              rw [HM.out, PE.out]
              rfl
            · rw [HM.out]
              refine hb2.congr (fun j hj => ?_)
              unfold IntC chF
              rw [map_range_getD _ hj]
      · have PE := Lib.hid (show piv n m ch m = piv n m ch i by rw [HPV.out, PS.out, if_neg hp])
        go_wp2_with fail
        go_roundw
        case rel => exact ⟨i, by omega, by go_num, PE.out, hg, hbk⟩
        case measure => simp [intOf] <;> omega
end Go.Proofs.YthjllledhcfnhaaDoor
