/- The reference's copy of a choice. Conditions: at most six. -/
import Derived.Test.YthjllledhcfnhaaDoorFewRun
namespace Go.Proofs.YthjllledhcfnhaaDoor
open Go.RowKit Go.Lib Go.Ks
set_option maxRecDepth 100000 in
set_option maxHeartbeats 4000000 in
theorem l00Own_any (v : Value) (base : Nat) (ch : List Nat) (w : World) (hm : ch.length ≤ 6) (hr : Row w base 2 1 v ch.length (IntC (chF ch))) :
    Calls Tryd.prog 62 #[v] w fun e w' => (∃ A c, e = .returned (.slice A ch.length c) ∧ Own w' w.heap.size 2 1 A ch.length (IntC (chF ch)) ∧ (A = none → c = 0)) ∧ Below w.heap.size w w' := by
  obtain ⟨i0, hi, hz0, hz1, hz2⟩ := info_parts Tryd.infoI64
  obtain ⟨A, c, rfl, hc, hown, hz⟩ := hr.own
  rcases hown with ⟨rfl, h0⟩ | ⟨B, m, g, rfl, hB, hk, hm2, hg⟩
  · obtain rfl := hz rfl
    rw [h0]
    clear hr hc h0 hz
    go_enter Tryd.func62, Tryd.ntmps62
    go_wp2_with fail
    go_ret
    obtain ⟨A1, d1, e1, _, ho, hz1⟩ := (Row.empty w 2 1 (IntC (chF ch)) (Nat.le_refl w.heap.size)).own
    cases e1
    exact ⟨⟨_, 0, rfl, ho, hz1⟩, by repeat (first | with_reducible exact Below.refl _ _ | with_reducible assumption | with_reducible refine Below.setCell ?_ (by simp <;> omega) _ | with_reducible refine Below.alloc ?_ (by simp <;> omega) _ | with_reducible refine Below.drew ?_)⟩
  · have HC := Lib.hid (Own.sl (Own.blk (base := 0) hk (Nat.zero_le _) hm2 hg))
    clear hr
    go_enter Tryd.func62, Tryd.ntmps62
    go_wp2_with (at_builtin; refine wpList_append_all rfl _ _ 24 rfl w.heap.size 2 i0 _ 1 8 Tryd.underlying24 hi hz0 hz1 hz2 rfl (by decide) _ (IntC (chF ch)) rfl (Row.empty _ _ _ _ (Nat.le_refl _)) B 0 ch.length c rfl ?c1 (fun _ _ => rfl) ?c3 ?c4 ?c5 ?_)
    case c1 =>
      intro j hj
      have bl := hk.lt
      rw [World.cell?_alloc_past (n := B) (i := 0 + j) _ bl]
      rw [hk.cell, Nat.zero_add, arr_get _ _ _ (by omega), hg j (by omega)]
    case c3 => omega
    case c4 => omega
    case c5 => simp
    intro v' w5 hrow5 hg5
    have hb5 : Below w.heap.size w w5 := ((Below.refl w.heap.size w).alloc (Nat.le_refl _) _).grown hg5 (by simp) (fun k hk => by simp [Value.ownBlock] at hk; omega)
    obtain ⟨A', c', rfl, _, hown', hz'⟩ := hrow5.own
    clear hg5 hrow5
    go_wp2_with fail
    go_ret
    exact ⟨⟨A', c', rfl, hown', hz'⟩, hb5⟩
end Go.Proofs.YthjllledhcfnhaaDoor
