/- Gm: the model of neurons and networks, in plain Lean: no program in sight. -/
namespace Go.Gm

/-- A number that an int holds. -/
def I64 (x : Int) : Prop := -9223372036854775808 ≤ x ∧ x ≤ 9223372036854775807

structure Par where
  lk : Int
  lv : Int
  bias : Int
  th : Int
  rk : Int
  rs : Int
  fl : Int
  rest : Int
  deriving DecidableEq

structure Par.wf (p : Par) : Prop where
  lk : I64 p.lk
  lv : I64 p.lv
  bias : I64 p.bias
  th : I64 p.th
  rk : I64 p.rk
  rs : I64 p.rs
  fl : I64 p.fl
  rest : I64 p.rest

structure Sta where
  v : Int
  rest : Int
  deriving DecidableEq

def Sta.wf (s : Sta) : Prop := I64 s.v ∧ I64 s.rest

/-- The leak fits its kind. -/
def leakOk (p : Par) : Prop :=
  (p.lk = 0 ∧ p.lv = 0) ∨ (p.lk = 1 ∧ 1 ≤ p.lv ∧ p.lv ≤ 1048576) ∨ (p.lk = 2 ∧ 1 ≤ p.lv ∧ p.lv ≤ 256)

/-- The numbers of a neuron are in range. -/
def rangeOk (p : Par) : Prop :=
  leakOk p ∧ (-1048576 ≤ p.bias ∧ p.bias ≤ 1048576) ∧ (-1048576 ≤ p.fl ∧ p.fl ≤ 0) ∧ (1 ≤ p.th ∧ p.th ≤ 1048576) ∧ (0 ≤ p.rest ∧ p.rest ≤ 64) ∧
    ((p.rk = 1 ∧ p.rs = 0) ∨ (p.rk = 0 ∧ p.fl ≤ p.rs ∧ p.rs ≤ p.th - 1))

instance (p : Par) : Decidable (leakOk p) := by unfold leakOk; infer_instance
instance (p : Par) : Decidable (rangeOk p) := by unfold rangeOk; infer_instance

def kindsOk (p : Par) : Prop := (0 ≤ p.lk ∧ p.lk ≤ 2) ∧ (0 ≤ p.rk ∧ p.rk ≤ 1)
instance (p : Par) : Decidable (kindsOk p) := by unfold kindsOk; infer_instance

/-- What Check returns of a neuron. -/
def chk (p : Par) : Int := if kindsOk p then (if rangeOk p then 0 else 3) else 2

theorem chk_two {p : Par} (h : ¬ kindsOk p) : chk p = 2 := by simp [chk, h]
theorem chk_three {p : Par} (h : kindsOk p) (h2 : ¬ rangeOk p) : chk p = 3 := by simp [chk, h, h2]
theorem chk_zero {p : Par} (h : kindsOk p) (h2 : rangeOk p) : chk p = 0 := by simp [chk, h, h2]

/-- A state of a neuron is valid. -/
def staOk (p : Par) (s : Sta) : Prop := (p.fl ≤ s.v ∧ s.v ≤ 1048576) ∧ (0 ≤ s.rest ∧ s.rest ≤ p.rest)
instance (p : Par) (s : Sta) : Decidable (staOk p s) := by unfold staOk; infer_instance

/-- What Valid returns. -/
def chkS (p : Par) (s : Sta) : Int := if chk p = 0 then (if staOk p s then 0 else 3) else chk p

/-- What the leak makes of a potential. -/
def leak (p : Par) (v : Int) : Int :=
  if p.lk = 1 then (if v < 0 then min 0 (v + p.lv) else max 0 (v - p.lv)) else if p.lk = 2 then v - (v * p.lv).tdiv 256 else v

/-- The potential behind a tick, before a reset. -/
def vnext (p : Par) (s : Sta) (x : Int) : Int := max p.fl (min 1048576 (leak p s.v + p.bias + max (-4194304) (min 4194304 x)))

/-- A tick of a neuron. -/
def tick (p : Par) (s : Sta) (x : Int) : Sta × Bool :=
  if 0 < s.rest then (⟨s.v, s.rest - 1⟩, false)
  else if vnext p s x < p.th then (⟨vnext p s x, s.rest⟩, false)
  else (⟨if p.rk = 1 then vnext p s x - p.th else p.rs, p.rest⟩, true)

theorem tick_rest {p : Par} {s : Sta} {x : Int} (h : 0 < s.rest) : tick p s x = (⟨s.v, s.rest - 1⟩, false) := by simp [tick, h]
theorem tick_low {p : Par} {s : Sta} {x : Int} {v : Int} (hv : vnext p s x = v) (h : ¬ 0 < s.rest) (h2 : v < p.th) : tick p s x = (⟨v, s.rest⟩, false) := by simp [tick, h, hv, h2]
theorem tick_sub {p : Par} {s : Sta} {x : Int} {v : Int} (hv : vnext p s x = v) (h : ¬ 0 < s.rest) (h2 : ¬ v < p.th) (h3 : p.rk = 1) : tick p s x = (⟨v - p.th, p.rest⟩, true) := by simp [tick, h, hv, h2, h3]
theorem tick_to {p : Par} {s : Sta} {x : Int} {v : Int} (hv : vnext p s x = v) (h : ¬ 0 < s.rest) (h2 : ¬ v < p.th) (h3 : ¬ p.rk = 1) : tick p s x = (⟨p.rs, p.rest⟩, true) := by simp [tick, h, hv, h2, h3]

theorem chk_eq_zero {p : Par} : chk p = 0 ↔ kindsOk p ∧ rangeOk p := by
  unfold chk; split <;> (try split) <;> simp_all

structure ParOk (p : Par) : Prop where
  lk : 0 ≤ p.lk ∧ p.lk ≤ 2
  rk : 0 ≤ p.rk ∧ p.rk ≤ 1
  leak : leakOk p
  bias : -1048576 ≤ p.bias ∧ p.bias ≤ 1048576
  fl : -1048576 ≤ p.fl ∧ p.fl ≤ 0
  th : 1 ≤ p.th ∧ p.th ≤ 1048576
  rest : 0 ≤ p.rest ∧ p.rest ≤ 64
  rs : (p.rk = 1 ∧ p.rs = 0) ∨ (p.rk = 0 ∧ p.fl ≤ p.rs ∧ p.rs ≤ p.th - 1)

theorem good_iff {p : Par} : chk p = 0 ↔ ParOk p := by
  rw [chk_eq_zero]
  unfold kindsOk rangeOk
  constructor
  · rintro ⟨⟨h1, h2⟩, h3, h4, h5, h6, h7, h8⟩
    exact ⟨h1, h2, h3, h4, h5, h6, h7, h8⟩
  · rintro ⟨h1, h2, h3, h4, h5, h6, h7, h8⟩
    exact ⟨⟨h1, h2⟩, h3, h4, h5, h6, h7, h8⟩

theorem chkS_zero {p : Par} {s : Sta} : chkS p s = 0 ↔ ParOk p ∧ staOk p s := by
  unfold chkS
  rw [← good_iff]
  split
  · split <;> simp_all
  · simp_all

theorem ParOk.wf {p : Par} (h : ParOk p) : p.wf := by
  obtain ⟨h1, h2, h3, h4, h5, h6, h7, h8⟩ := h
  unfold leakOk at h3
  constructor <;> unfold I64 <;> omega

theorem mul_le_of {a b A B : Int} (h1 : -A ≤ a) (h2 : a ≤ A) (h3 : 0 ≤ b) (h4 : b ≤ B) (hA : 0 ≤ A) : -(A * B) ≤ a * b ∧ a * b ≤ A * B := by
  have e1 : a * b ≤ A * b := Int.mul_le_mul_of_nonneg_right h2 h3
  have e2 : A * b ≤ A * B := Int.mul_le_mul_of_nonneg_left h4 hA
  have e3 : -A * b ≤ a * b := Int.mul_le_mul_of_nonneg_right h1 h3
  have e4 : -A * b = -(A * b) := Int.neg_mul A b
  omega

/-- The product that the share of a leak takes is small. -/
theorem share_bounds {p : Par} (hp : ParOk p) (h : p.lk = 2) {v : Int} (h1 : -1048576 ≤ v) (h2 : v ≤ 1048576) : -268435456 ≤ v * p.lv ∧ v * p.lv ≤ 268435456 := by
  have h3 := hp.leak
  unfold leakOk at h3
  have := mul_le_of (a := v) (b := p.lv) (A := 1048576) (B := 256) (by omega) (by omega) (by omega) (by omega) (by omega)
  omega

theorem tdiv256 (a : Int) : (0 ≤ a → 0 ≤ a.tdiv 256 ∧ a.tdiv 256 ≤ a) ∧ (a ≤ 0 → a ≤ a.tdiv 256 ∧ a.tdiv 256 ≤ 0) := by
  constructor
  · intro h
    rw [Int.tdiv_eq_ediv_of_nonneg h]; omega
  · intro h
    have : a = -(-a) := by omega
    rw [this, Int.neg_tdiv, Int.tdiv_eq_ediv_of_nonneg (by omega)]; omega

theorem leak_bounds {p : Par} (hp : ParOk p) {v : Int} (h1 : -1048576 ≤ v) (h2 : v ≤ 1048576) : -268435456 ≤ leak p v ∧ leak p v ≤ 268435456 := by
  have h3 := hp.leak
  unfold leakOk at h3
  unfold leak
  split
  · split <;> omega
  · split
    · rename_i h
      have h4 := share_bounds hp h h1 h2
      have h5 := tdiv256 (v * p.lv)
      rcases Int.le_total 0 v with h6 | h6
      · have h7 : 0 ≤ v * p.lv := Int.mul_nonneg h6 (by omega)
        have := h5.1 h7
        omega
      · have h7 : v * p.lv ≤ 0 := Int.mul_nonpos_of_nonpos_of_nonneg h6 (by omega)
        have := h5.2 h7
        omega
    · omega

theorem vnext_bounds {p : Par} (hp : ParOk p) (s : Sta) (x : Int) : p.fl ≤ vnext p s x ∧ vnext p s x ≤ 1048576 := by
  have := hp.fl
  unfold vnext
  omega

/-- A tick leads from a valid state to a valid state. -/
theorem tick_ok {p : Par} {s : Sta} (hp : ParOk p) (hs : staOk p s) (x : Int) : staOk p (tick p s x).1 := by
  have hv := vnext_bounds hp s x
  obtain ⟨h1, h2, h3, h4, h5, h6, h7, h8⟩ := hp
  unfold staOk at *
  unfold tick
  split
  · dsimp only; omega
  · split
    · dsimp only; omega
    · dsimp only
      split <;> omega

end Go.Gm
