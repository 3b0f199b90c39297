/- What the search of the nearest point finds where the image is nearly even: plain arithmetic, no program. -/
import Derived.Test.YthjllledhcfnhaaDoorSearchMath
namespace Go.Ks

section
variable {f : Int → Int → Int}
/-- a state reached from st by trying some points, all of which lie no nearer -/
def Fd (f : Int → Int → Int) (st t : St) (p : Int → Int → Prop) : Prop := StOk f t ∧ Le t st ∧ ((t.u = st.u ∧ t.v = st.v ∧ t.d = st.d) ∨ p t.u t.v) ∧ ∀ u v, p u v → St.Un u v → 0 ≤ t.d ∧ t.d ≤ f u v
theorem Fd.start {st : St} (h : StOk f st) : Fd f st st (fun _ _ => False) := ⟨h, Le.refl _, .inl ⟨rfl, rfl, rfl⟩, fun _ _ h => h.elim⟩
theorem Fd.try (hf : Fok f) {st t : St} {p : Int → Int → Prop} (h : Fd f st t p) (u v : Int) : Fd f st (tryS f u v t) (fun x y => p x y ∨ (x = u ∧ y = v)) := by
  obtain ⟨h1, h2, h3, h4⟩ := h
  refine ⟨h1.try u v, (Le.try hf t u v).trans h2, ?_, ?_⟩
  · unfold tryS
    split
    · split
      · exact .inr (.inr ⟨rfl, rfl⟩)
      · exact h3.imp id (fun h => .inl h)
    · exact h3.imp id (fun h => .inl h)
  · rintro x y (hp | ⟨rfl, rfl⟩) hu
    · obtain ⟨a, b⟩ := h4 x y hp hu
      obtain ⟨c, d⟩ := Le.try hf t u v a
      exact ⟨c, by omega⟩
    · exact try_le hf hu
theorem Fd.congr {st t : St} {p q : Int → Int → Prop} (h : Fd f st t p) (hpq : ∀ x y, p x y ↔ q x y) : Fd f st t q := by
  have : p = q := by funext x y; exact propext (hpq x y)
  rw [← this]; exact h
/-- the nine neighbours -/
def Nine (u v s : Int) (x y : Int) : Prop := ∃ a b : Int, (-1 ≤ a ∧ a ≤ 1) ∧ (-1 ≤ b ∧ b ≤ 1) ∧ x = u + a * s ∧ y = v + b * s
theorem Fd.row (hf : Fok f) {st t : St} {p : Int → Int → Prop} (h : Fd f st t p) (u v s b : Int) : ∀ i, Fd f st (nbRow f u v s b i t) (fun x y => p x y ∨ ∃ a : Nat, a < i ∧ x = u + ((a : Int) - 1) * s ∧ y = v + b * s)
  | 0 => h.congr (fun x y => ⟨.inl, fun h => h.elim id (fun ⟨_, h, _⟩ => absurd h (by omega))⟩)
  | i + 1 => ((Fd.row hf h u v s b i).try hf _ _).congr (fun x y => by
    constructor
    · rintro ((h | ⟨a, ha, e⟩) | ⟨e1, e2⟩)
      · exact .inl h
      · exact .inr ⟨a, by omega, e⟩
      · exact .inr ⟨i, by omega, e1, e2⟩
    · rintro (h | ⟨a, ha, e1, e2⟩)
      · exact .inl (.inl h)
      · by_cases hai : a = i
        · subst hai; exact .inr ⟨e1, e2⟩
        · exact .inl (.inr ⟨a, by omega, e1, e2⟩))
theorem Fd.nb (hf : Fok f) {st : St} (h : StOk f st) (u v s : Int) : ∀ b, Fd f st (nbS f u v s b st) (fun x y => ∃ (a c : Nat), a < 3 ∧ c < b ∧ x = u + ((a : Int) - 1) * s ∧ y = v + ((c : Int) - 1) * s)
  | 0 => (Fd.start h).congr (fun x y => ⟨fun h => h.elim, fun ⟨_, _, _, h, _⟩ => absurd h (by omega)⟩)
  | b + 1 => (Fd.row hf (Fd.nb hf h u v s b) u v s ((b : Int) - 1) 3).congr (fun x y => by
    constructor
    · rintro (⟨a, c, ha, hc, e⟩ | ⟨a, ha, e1, e2⟩)
      · exact ⟨a, c, ha, by omega, e⟩
      · exact ⟨a, b, ha, by omega, e1, e2⟩
    · rintro ⟨a, c, ha, hc, e1, e2⟩
      by_cases hcb : c = b
      · subst hcb; exact .inr ⟨a, ha, e1, e2⟩
      · exact .inl ⟨a, c, ha, by omega, e1, e2⟩)
theorem round_fd (hf : Fok f) {st : St} (h : StOk f st) (s : Int) : Fd f st (roundS f s st) (Nine st.u st.v s) :=
  (Fd.nb hf h st.u st.v s 3).congr (fun x y => by
    constructor
    · rintro ⟨a, c, ha, hc, e1, e2⟩
      exact ⟨(a : Int) - 1, (c : Int) - 1, by omega, by omega, e1, e2⟩
    · rintro ⟨a, b, ha, hb, e1, e2⟩
      refine ⟨(a + 1).toNat, (b + 1).toNat, by omega, by omega, ?_, ?_⟩
      · rw [Int.toNat_of_nonneg (by omega), e1]; congr 2; omega
      · rw [Int.toNat_of_nonneg (by omega), e2]; congr 2; omega)
end

/-- an image whose coordinates are nearly even: g moves u to about 2 u, up to 1 -/
def Even (g : Int → Int) : Prop := ∀ u, 0 ≤ u → u ≤ 1000000 → -1 ≤ g u - (2 * u - 1000000) ∧ g u - (2 * u - 1000000) ≤ 1
def gap1 (g : Int → Int) (u0 : Int) (u : Int) : Int := iabs (g u - g u0)
theorem Even.gap {g : Int → Int} (hg : Even g) {u0 u : Int} (h0 : 0 ≤ u0 ∧ u0 ≤ 1000000) (h1 : 0 ≤ u ∧ u ≤ 1000000) : 2 * iabs (u - u0) - 2 ≤ gap1 g u0 u ∧ gap1 g u0 u ≤ 2 * iabs (u - u0) + 2 := by
  have a := hg u0 h0.1 h0.2
  have b := hg u h1.1 h1.2
  unfold gap1 iabs
  split <;> split <;> omega
theorem iabs_sq (a : Int) : iabs a * iabs a = a * a := by
  unfold iabs
  split
  · rw [Int.neg_mul_neg]
  · rfl
theorem iabs_nn (a : Int) : 0 ≤ iabs a := by unfold iabs; split <;> omega
theorem iabs_le_of_sq {a b : Int} (h : a * a ≤ b * b) : iabs a ≤ iabs b := by
  refine Int.not_lt.1 (fun hlt => ?_)
  have h1 := iabs_nn b
  have h2 : iabs b * iabs b < iabs a * iabs a := by
    have := sq_le_sq (a := iabs b + 1) (b := iabs a) (by omega) (by omega)
    have e : (iabs b + 1) * (iabs b + 1) = iabs b * iabs b + 2 * iabs b + 1 := by rw [Int.add_mul, Int.mul_add]; omega
    omega
  rw [iabs_sq, iabs_sq] at h2
  omega

/-- one coordinate of a round: the choice is one of u - s, u, u + s, and none of these lies nearer -/
def Ch (g : Int → Int) (u0 s u u' : Int) : Prop := (u' = u - s ∨ u' = u ∨ u' = u + s) ∧ (0 ≤ u' ∧ u' ≤ 1000000) ∧ gap1 g u0 u' ≤ gap1 g u0 u ∧ (0 ≤ u - s → gap1 g u0 u' ≤ gap1 g u0 (u - s)) ∧ (u + s ≤ 1000000 → gap1 g u0 u' ≤ gap1 g u0 (u + s))
section
variable {g : Int → Int} {u0 s u u' : Int}
theorem Ch.one (hg : Even g) (h0 : 0 ≤ u0 ∧ u0 ≤ 1000000) (hu : 0 ≤ u ∧ u ≤ 1000000) (hs : 3 ≤ s) (h : Ch g u0 s u u') (hE : iabs (u - u0) ≤ 2 * s) : iabs (u' - u0) ≤ s + 2 := by
  obtain ⟨hc, hr, c0, c1, c2⟩ := h
  have g0 := hg.gap h0 hu
  have g1 := hg.gap h0 hr
  by_cases l : 0 ≤ u - s
  · have c1 := c1 l
    have e1 := hg.gap h0 (u := u - s) (by omega)
    by_cases r : u + s ≤ 1000000
    · have c2 := c2 r
      have e2 := hg.gap h0 (u := u + s) (by omega)
      unfold iabs at *
      split at * <;> split at * <;> omega
    · unfold iabs at *
      split at * <;> split at * <;> omega
  · by_cases r : u + s ≤ 1000000
    · have c2 := c2 r
      have e2 := hg.gap h0 (u := u + s) (by omega)
      unfold iabs at *
      split at * <;> split at * <;> omega
    · unfold iabs at *
      split at * <;> split at * <;> omega
theorem Ch.two (hg : Even g) (h0 : 0 ≤ u0 ∧ u0 ≤ 1000000) (hu : 0 ≤ u ∧ u ≤ 1000000) (hs : 3 ≤ s) (h : Ch g u0 s u u') (hE : iabs (u - u0) ≤ s + 2) : (iabs (u' - u0) ≤ s - 1 ∨ iabs (u' - u0) ≤ 4 ∨ 2 * iabs (u' - u0) ≤ s + 4) ∧ (s = 3 → gap1 g u0 u' ≤ 6) := by
  obtain ⟨hc, hr, c0, c1, c2⟩ := h
  have g0 := hg.gap h0 hu
  have g1 := hg.gap h0 hr
  by_cases l : 0 ≤ u - s
  · have c1 := c1 l
    have e1 := hg.gap h0 (u := u - s) (by omega)
    by_cases r : u + s ≤ 1000000
    · have c2 := c2 r
      have e2 := hg.gap h0 (u := u + s) (by omega)
      unfold iabs at *
      split at * <;> split at * <;> omega
    · unfold iabs at *
      split at * <;> split at * <;> omega
  · by_cases r : u + s ≤ 1000000
    · have c2 := c2 r
      have e2 := hg.gap h0 (u := u + s) (by omega)
      unfold iabs at *
      split at * <;> split at * <;> omega
    · unfold iabs at *
      split at * <;> split at * <;> omega
end
/-- the square of the distance, coordinate by coordinate -/
def sepF (g h : Int → Int) (u0 v0 : Int) (u v : Int) : Int := gapS (g u) (h v) (g u0) (h v0)
section
variable {g h : Int → Int} {u0 v0 : Int}
theorem sep_x {u u' v : Int} (hle : sepF g h u0 v0 u v ≤ sepF g h u0 v0 u' v) : gap1 g u0 u ≤ gap1 g u0 u' := by
  unfold sepF gapS at hle
  exact iabs_le_of_sq (by omega)
theorem sep_y {u v v' : Int} (hle : sepF g h u0 v0 u v ≤ sepF g h u0 v0 u v') : gap1 h v0 v ≤ gap1 h v0 v' := by
  unfold sepF gapS at hle
  exact iabs_le_of_sq (by omega)
/-- a state that has found something -/
def Got (f : Int → Int → Int) (st : St) : Prop := St.Un st.u st.v ∧ st.d = f st.u st.v ∧ 0 ≤ st.d
theorem Got.ok {f : Int → Int → Int} {st : St} (h : Got f st) : StOk f st := .inr ⟨h.1, h.2.1⟩
theorem StOk.got {f : Int → Int → Int} {st : St} (h : StOk f st) (h0 : 0 ≤ st.d) : Got f st := by
  rcases h with ⟨_, _, h⟩ | ⟨a, b⟩
  · omega
  · exact ⟨a, b, h0⟩
theorem round_ch (hf : Fok (sepF g h u0 v0)) {st : St} (hst : Got (sepF g h u0 v0) st) {s : Int} (hs0 : 0 ≤ s) :
    Got (sepF g h u0 v0) (roundS (sepF g h u0 v0) s st) ∧ Ch g u0 s st.u (roundS (sepF g h u0 v0) s st).u ∧ Ch h v0 s st.v (roundS (sepF g h u0 v0) s st).v := by
  obtain ⟨k1, k2, k3, k4⟩ := round_fd hf hst.ok s
  generalize roundS (sepF g h u0 v0) s st = t at *
  have hgot : Got (sepF g h u0 v0) t := k1.got (k2 hst.2.2).1
  obtain ⟨hun, hd, hd0⟩ := hgot
  have hn : Nine st.u st.v s t.u t.v := by
    rcases k3 with ⟨e1, e2, _⟩ | h
    · exact ⟨0, 0, by omega, by omega, by rw [e1]; omega, by rw [e2]; omega⟩
    · exact h
  obtain ⟨a, b, ha, hb, e1, e2⟩ := hn
  have key : ∀ a' b' : Int, (-1 ≤ a' ∧ a' ≤ 1) → (-1 ≤ b' ∧ b' ≤ 1) → St.Un (st.u + a' * s) (st.v + b' * s) → sepF g h u0 v0 t.u t.v ≤ sepF g h u0 v0 (st.u + a' * s) (st.v + b' * s) := fun a' b' ha' hb' hu => by
    have := (k4 _ _ ⟨a', b', ha', hb', rfl, rfl⟩ hu).2
    omega
  have kx : ∀ a' : Int, (-1 ≤ a' ∧ a' ≤ 1) → (0 ≤ st.u + a' * s ∧ st.u + a' * s ≤ 1000000) → gap1 g u0 t.u ≤ gap1 g u0 (st.u + a' * s) := fun a' ha' hr => by
    have := key a' b ha' hb ⟨hr, by rw [← e2]; exact hun.2⟩
    rw [← e2] at this
    exact sep_x this
  have ky : ∀ b' : Int, (-1 ≤ b' ∧ b' ≤ 1) → (0 ≤ st.v + b' * s ∧ st.v + b' * s ≤ 1000000) → gap1 h v0 t.v ≤ gap1 h v0 (st.v + b' * s) := fun b' hb' hr => by
    have := key a b' ha hb' ⟨by rw [← e1]; exact hun.1, hr⟩
    rw [← e1] at this
    exact sep_y this
  have three : ∀ a : Int, -1 ≤ a ∧ a ≤ 1 → a * s = -s ∨ a * s = 0 ∨ a * s = s := fun a ha => by
    have : a = -1 ∨ a = 0 ∨ a = 1 := by omega
    rcases this with rfl | rfl | rfl
    · left; omega
    · right; left; omega
    · right; right; omega
  obtain ⟨su, sv⟩ := hst.1
  have x0 := kx 0 (by omega) (by omega)
  have y0 := ky 0 (by omega) (by omega)
  have x1 := kx (-1) (by omega)
  have y1 := ky (-1) (by omega)
  have x2 := kx 1 (by omega)
  have y2 := ky 1 (by omega)
  rw [show st.u + 0 * s = st.u from by omega] at x0
  rw [show st.v + 0 * s = st.v from by omega] at y0
  rw [show st.u + -1 * s = st.u - s from by omega] at x1
  rw [show st.v + -1 * s = st.v - s from by omega] at y1
  rw [show st.u + 1 * s = st.u + s from by omega] at x2
  rw [show st.v + 1 * s = st.v + s from by omega] at y2
  have tu := hun.1
  have tv := hun.2
  have ta := three a ha
  have tb := three b hb
  refine ⟨⟨hun, hd, hd0⟩, ⟨by omega, hun.1, x0, fun h => ?_, fun h => ?_⟩, ⟨by omega, hun.2, y0, fun h => ?_, fun h => ?_⟩⟩
  · exact x1 ⟨h, by omega⟩
  · exact x2 ⟨by omega, h⟩
  · exact y1 ⟨h, by omega⟩
  · exact y2 ⟨by omega, h⟩
/-- how near both coordinates are -/
def Near (u0 v0 m : Int) (st : St) : Prop := iabs (st.u - u0) ≤ m ∧ iabs (st.v - v0) ≤ m
def Six (g h : Int → Int) (u0 v0 : Int) (st : St) : Prop := gap1 g u0 st.u ≤ 6 ∧ gap1 h v0 st.v ≤ 6
/-- what the steps from s on do -/
def Goes (g h : Int → Int) (u0 v0 : Int) (s : Nat) : Prop := ∀ st, Got (sepF g h u0 v0) st → Near u0 v0 (2 * (s : Int)) st → Got (sepF g h u0 v0) (finS (sepF g h u0 v0) s st) ∧ Six g h u0 v0 (finS (sepF g h u0 v0) s st)
theorem rounds_two {f : Int → Int → Int} {s : Int} {st : St} : roundsS f s 2 st = roundS f s (roundS f s st) := rfl
section
variable (hf : Fok (sepF g h u0 v0)) (hg : Even g) (hh : Even h) (hu0 : 0 ≤ u0 ∧ u0 ≤ 1000000) (hv0 : 0 ≤ v0 ∧ v0 ≤ 1000000)
include hf hg hh hu0 hv0
theorem two_rounds {s : Int} (hs : 3 ≤ s) {st : St} (hst : Got (sepF g h u0 v0) st) (hn : Near u0 v0 (2 * s) st) :
    Got (sepF g h u0 v0) (roundsS (sepF g h u0 v0) s 2 st) ∧ (6 ≤ s → Near u0 v0 (2 * (s / 2)) (roundsS (sepF g h u0 v0) s 2 st)) ∧ (s = 3 → Six g h u0 v0 (roundsS (sepF g h u0 v0) s 2 st)) := by
  rw [rounds_two]
  obtain ⟨g1, cx1, cy1⟩ := round_ch hf hst (s := s) (by omega)
  generalize roundS (sepF g h u0 v0) s st = t at *
  have n1 := cx1.one hg hu0 hst.1.1 hs hn.1
  have n2 := cy1.one hh hv0 hst.1.2 hs hn.2
  obtain ⟨g2, cx2, cy2⟩ := round_ch hf g1 (s := s) (by omega)
  generalize roundS (sepF g h u0 v0) s t = r at *
  obtain ⟨m1, m1'⟩ := cx2.two hg hu0 g1.1.1 hs n1
  obtain ⟨m2, m2'⟩ := cy2.two hh hv0 g1.1.2 hs n2
  exact ⟨g2, fun h6 => ⟨by omega, by omega⟩, fun h3 => ⟨m1' h3, m2' h3⟩⟩
theorem goes_half {s : Nat} (hs : 6 ≤ s) (hgo : Goes g h u0 v0 (s / 2)) : Goes g h u0 v0 s := fun st hst hn => by
  rw [finS_pos (by omega)]
  obtain ⟨a, b, _⟩ := two_rounds hf hg hh hu0 hv0 (s := (s : Int)) (by omega) hst hn
  refine hgo _ a ?_
  have := b (by omega)
  rwa [show ((s / 2 : Nat) : Int) = (s : Int) / 2 from by omega]
omit hg hh hu0 hv0 in
theorem last_round {st : St} (hst : Got (sepF g h u0 v0) st) (h6 : Six g h u0 v0 st) : Got (sepF g h u0 v0) (roundS (sepF g h u0 v0) 1 st) ∧ Six g h u0 v0 (roundS (sepF g h u0 v0) 1 st) := by
  obtain ⟨g1, cx1, cy1⟩ := round_ch hf hst (s := 1) (by omega)
  exact ⟨g1, Int.le_trans cx1.2.2.1 h6.1, Int.le_trans cy1.2.2.1 h6.2⟩
theorem goes_three : Goes g h u0 v0 3 := fun st hst hn => by
  rw [finS_pos (by omega)]
  obtain ⟨a, _, b⟩ := two_rounds hf hg hh hu0 hv0 (s := ((3 : Nat) : Int)) (by omega) hst hn
  have b := b rfl
  generalize roundsS (sepF g h u0 v0) ((3 : Nat) : Int) 2 st = t at *
  show Got _ (finS _ 1 t) ∧ Six g h u0 v0 (finS _ 1 t)
  rw [finS_pos (by omega), show 1 / 2 = 0 from rfl, finS_zero]
  show Got _ (roundsS (sepF g h u0 v0) 1 2 t) ∧ Six g h u0 v0 (roundsS (sepF g h u0 v0) 1 2 t)
  rw [rounds_two]
  obtain ⟨c1, c2⟩ := last_round hf a b
  exact last_round hf c1 c2
theorem goes_all : Goes g h u0 v0 31250 := by
  have H := fun s hs hgo => goes_half hf hg hh hu0 hv0 (s := s) hs hgo
  have p7 := H 7 (by omega) (goes_three hf hg hh hu0 hv0)
  have p15 := H 15 (by omega) p7
  have p30 := H 30 (by omega) p15
  have p61 := H 61 (by omega) p30
  have p122 := H 122 (by omega) p61
  have p244 := H 244 (by omega) p122
  have p488 := H 488 (by omega) p244
  have p976 := H 976 (by omega) p488
  have p1953 := H 1953 (by omega) p976
  have p3906 := H 3906 (by omega) p1953
  have p7812 := H 7812 (by omega) p3906
  have p15625 := H 15625 (by omega) p7812
  exact H 31250 (by omega) p15625
/-- behind the grid both coordinates are near -/
theorem grid_near : Got (sepF g h u0 v0) (gridS (sepF g h u0 v0) 17) ∧ Near u0 v0 (2 * ((31250 : Nat) : Int)) (gridS (sepF g h u0 v0) 17) := by
  have h0 := grid_le hf (i := 0) (j := 0) (by omega) (by omega)
  have hgot := (StOk.grid (f := sepF g h u0 v0) 17).got h0.1
  refine ⟨hgot, ?_⟩
  have sq : ∀ u v : Int, sepF g h u0 v0 u v = gap1 g u0 u * gap1 g u0 u + gap1 h v0 v * gap1 h v0 v := fun u v => by unfold sepF gapS gap1; rw [iabs_sq, iabs_sq]
  have gp : ∀ x : Int, 0 ≤ x ∧ x ≤ 1000000 → ∃ i : Nat, i < 17 ∧ iabs (62500 * (i : Int) - x) ≤ 31250 := fun x hx => by
    refine ⟨((x + 31250) / 62500).toNat, by omega, ?_⟩
    unfold iabs
    split <;> omega
  obtain ⟨i, hi, ei⟩ := gp u0 hu0
  obtain ⟨j, hj, ej⟩ := gp v0 hv0
  have hle := (grid_le hf hi hj).2
  have bi := (hg.gap hu0 (u := 62500 * (i : Int)) (by omega)).2
  have bj := (hh.gap hv0 (u := 62500 * (j : Int)) (by omega)).2
  rw [sq] at hle
  have qi := sq_le_sq (a := gap1 g u0 (62500 * (i : Int))) (b := 62502) (iabs_nn _) (by omega)
  have qj := sq_le_sq (a := gap1 h v0 (62500 * (j : Int))) (b := 62502) (iabs_nn _) (by omega)
  obtain ⟨⟨hu, hv⟩, hd, _⟩ := hgot
  generalize gridS (sepF g h u0 v0) 17 = t at *
  rw [hd, sq] at hle
  have bu := (hg.gap hu0 hu).1
  have bv := (hh.gap hv0 hv).1
  have nu := iabs_nn (g t.u - g u0)
  have nv := iabs_nn (h t.v - h v0)
  have pu : 0 ≤ gap1 g u0 t.u * gap1 g u0 t.u := Int.mul_nonneg nu nu
  have pv : 0 ≤ gap1 h v0 t.v * gap1 h v0 t.v := Int.mul_nonneg nv nv
  constructor
  · refine Int.not_lt.1 (fun hlt => ?_)
    have := sq_le_sq (a := 100000) (b := gap1 g u0 t.u) (by omega) (by omega)
    omega
  · refine Int.not_lt.1 (fun hlt => ?_)
    have := sq_le_sq (a := 100000) (b := gap1 h v0 t.v) (by omega) (by omega)
    omega
/-- what the search finds: both coordinates up to 4, the distance up to 8 -/
theorem search_six : Got (sepF g h u0 v0) (searchS (sepF g h u0 v0)) ∧ Near u0 v0 4 (searchS (sepF g h u0 v0)) ∧ (searchS (sepF g h u0 v0)).d ≤ 72 := by
  obtain ⟨a, b⟩ := grid_near hf hg hh hu0 hv0
  obtain ⟨c, d⟩ := goes_all hf hg hh hu0 hv0 _ a b
  have e : searchS (sepF g h u0 v0) = finS (sepF g h u0 v0) 31250 (gridS (sepF g h u0 v0) 17) := rfl
  rw [← e] at c d
  generalize searchS (sepF g h u0 v0) = t at *
  obtain ⟨⟨hu, hv⟩, hd, _⟩ := c
  have bu := (hg.gap hu0 hu).1
  have bv := (hh.gap hv0 hv).1
  refine ⟨⟨⟨hu, hv⟩, hd, by assumption⟩, ⟨by have := d.1; omega, by have := d.2; omega⟩, ?_⟩
  have qi := sq_le_sq (a := gap1 g u0 t.u) (b := 6) (iabs_nn _) d.1
  have qj := sq_le_sq (a := gap1 h v0 t.v) (b := 6) (iabs_nn _) d.2
  rw [hd]
  unfold sepF gapS
  unfold gap1 at qi qj
  rw [iabs_sq] at qi qj
  omega
end
end
end Go.Ks
