/- FewestProjectors: what both return. Conditions: the slice reads as projectors; the variable sines holds its table. -/
import Derived.Test.YthjllledhcfnhaaDoorCover
namespace Go.Proofs.YthjllledhcfnhaaDoor
open Go.RowKit Go.Lib Go.Ks
noncomputable def mFewestProjectorsN (n : Nat) (l : Nat → ProjectorD) (st bud : Int) : Nat := ((mFewO n l st bud).getD []).length
noncomputable def mFewestProjectorsL (n : Nat) (l : Nat → ProjectorD) (st bud : Int) : Nat → Int := chF ((mFewO n l st bud).getD [])
theorem mFewestProjectors_len (n : Nat) (l : Nat → ProjectorD) (st bud : Int) : mFewestProjectorsN n l st bud ≤ 1048576 := by
  unfold mFewestProjectorsN
  cases h : mFewO n l st bud with
  | none => exact Nat.zero_le _
  | some c =>
    obtain ⟨q1, _, hr, _⟩ := few_found h
    have := (projs_all q1).1
    have := hr.1
    show c.length ≤ 1048576
    omega
theorem retF_s {w w' : World} {n : Nat} {l : Nat → ProjectorD} {st bud code : Int} {e : Ending} (h : RetF w w' (mFewO n l st bud) code e) : RetS w w' 2 1 (mFewestProjectorsN n l st bud) (IntC (mFewestProjectorsL n l st bud)) code e := by
  unfold mFewestProjectorsN mFewestProjectorsL
  rcases h with ⟨ho, rfl⟩ | ⟨ch, B, c, ho, rfl, hB, hb⟩
  · rw [ho]
    exact ⟨none, 0, rfl, Own.nil _ _ _ _ _, fun _ => rfl⟩
  · rw [ho]
    exact ⟨_, c, rfl, Own.blk hb hB (by rw [Nat.mul_one]; exact Nat.le_refl _) (fun _ _ => rfl), fun e => by cases e⟩
theorem implFewestProjectors_any (A : Option Addr) (n c : Nat) (l : Nat → ProjectorD) (st bud : Int) (w : World) (hn : n ≤ 1048576) (hs : Sl w A (n * 5) (ProjectorC l)) (hg : ∀ k, k < n → ProjectorOk (l k)) (hst : -9223372036854775808 ≤ st ∧ st ≤ 9223372036854775807) (hb : -9223372036854775808 ≤ bud ∧ bud ≤ 9223372036854775807) (hT : Tab w) :
    Calls Tryd.prog 11 #[.slice A n c, .int .i64 st, .int .i64 bud] w fun e w' => RetS w w' 2 1 (mFewestProjectorsN n l st bud) (IntC (mFewestProjectorsL n l st bud)) (mFewC n l st bud) e ∧ Below w.heap.size w w' := by
  refine (implFew_any A n c l st bud w hn hs hg hst hb hT).mono ?_
  rintro e w' ⟨h, hbl⟩
  exact ⟨retF_s h, hbl⟩
end Go.Proofs.YthjllledhcfnhaaDoor
