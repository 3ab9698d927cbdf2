/- Gs: neurons in silence, in plain Lean. -/
import Derived.Test.YtbnipfgbfnhibaaGn
set_option linter.unusedVariables false
namespace Go.Gm

theorem tdiv_step {a b k : Int} (h1 : a ≤ b) (h2 : b - a ≤ 256 * k) : b.tdiv 256 - a.tdiv 256 ≤ k := by
  have e : ∀ x : Int, (0 ≤ x ∧ x.tdiv 256 = x / 256) ∨ (x < 0 ∧ x.tdiv 256 = -((-x) / 256)) := by
    intro x
    rcases Int.le_total 0 x with h | h
    · exact .inl ⟨h, Int.tdiv_eq_ediv_of_nonneg h⟩
    · by_cases hx : x = 0
      · subst hx; exact .inl ⟨by omega, rfl⟩
      · refine .inr ⟨by omega, ?_⟩
        have : x = -(-x) := by omega
        rw [this, Int.neg_tdiv, Int.tdiv_eq_ediv_of_nonneg (by omega)]
        omega
  rcases e a with ⟨p1, p2⟩ | ⟨p1, p2⟩ <;> rcases e b with ⟨q1, q2⟩ | ⟨q1, q2⟩ <;> omega

theorem leak_mono {p : Par} (hp : ParOk p) {u v : Int} (h1 : u ≤ v) : leak p u ≤ leak p v := by
  have h3 := hp.leak
  unfold leakOk at h3
  unfold leak
  split
  · split <;> split <;> omega
  · split
    · have hlv : 1 ≤ p.lv ∧ p.lv ≤ 256 := by omega
      have a1 : u * p.lv ≤ v * p.lv := Int.mul_le_mul_of_nonneg_right h1 (by omega)
      have a2 : v * p.lv - u * p.lv ≤ 256 * (v - u) := by
        rw [← Int.sub_mul, Int.mul_comm]
        exact Int.mul_le_mul_of_nonneg_right hlv.2 (by omega)
      have := tdiv_step a1 a2
      omega
    · exact h1

/-- The potential behind a silent tick. -/
def fsil (p : Par) (v : Int) : Int := max p.fl (min 1048576 (leak p v + p.bias))

theorem vnext_sil (p : Par) (s : Sta) : vnext p s 0 = fsil p s.v := by unfold vnext fsil; omega

theorem fsil_mono {p : Par} (hp : ParOk p) {u v : Int} (h : u ≤ v) : fsil p u ≤ fsil p v := by
  have := leak_mono hp h
  unfold fsil
  omega

theorem fsil_bounds {p : Par} (hp : ParOk p) (v : Int) : p.fl ≤ fsil p v ∧ fsil p v ≤ 1048576 := by
  have := hp.fl
  unfold fsil
  omega

/-- What a silent tick without a spike lowers. -/
def mu (p : Par) (s : Sta) : Nat :=
  s.rest.toNat + (if s.v < fsil p s.v then (1048576 - s.v).toNat else if fsil p s.v < s.v then (s.v - p.fl).toNat else 0)

theorem tick_mu {p : Par} {s : Sta} (hp : ParOk p) (hs : staOk p s) (h : (tick p s 0).2 = false) : (tick p s 0).1 = s ∨ mu p (tick p s 0).1 < mu p s := by
  unfold staOk at hs
  obtain ⟨v, r⟩ := s
  dsimp only at hs
  by_cases hr : 0 < r
  · right
    rw [tick_rest (s := ⟨v, r⟩) hr]
    unfold mu
    dsimp only
    omega
  · have hv := vnext_sil p ⟨v, r⟩
    dsimp only at hv
    by_cases hth : fsil p v < p.th
    · rw [tick_low hv hr hth]
      dsimp only
      by_cases he : fsil p v = v
      · left; rw [he]
      · right
        have hb := fsil_bounds hp v
        unfold mu
        dsimp only
        rcases Int.lt_or_gt_of_ne he with h1 | h1
        · have := fsil_mono hp (Int.le_of_lt h1)
          split <;> (try split) <;> (try split) <;> (try split) <;> omega
        · have := fsil_mono hp (Int.le_of_lt h1)
          split <;> (try split) <;> (try split) <;> (try split) <;> omega
    · exfalso
      by_cases hk : p.rk = 1
      · rw [tick_sub hv hr hth hk] at h; cases h
      · rw [tick_to hv hr hth hk] at h; cases h

theorem mu_le {p : Par} {s : Sta} (hp : ParOk p) (hs : staOk p s) : mu p s ≤ 2097216 := by
  have h1 := hp.fl
  have h2 := hp.rest
  unfold staOk at hs
  unfold mu
  split <;> (try split) <;> omega

/-- n silent ticks. -/
def silN (p : Par) (s : Sta) : Nat → Sta
  | 0 => s
  | n + 1 => (tick p (silN p s n) 0).1

theorem silN_ok {p : Par} {s : Sta} (hp : ParOk p) (hs : staOk p s) (n : Nat) : staOk p (silN p s n) := by
  induction n with
  | zero => exact hs
  | succ n ih => exact tick_ok hp ih 0

theorem silN_add (p : Par) (s : Sta) (a b : Nat) : silN p s (a + b) = silN p (silN p s a) b := by
  induction b with
  | zero => rfl
  | succ b ih => rw [← Nat.add_assoc]; simp only [silN, ih]

/-- No spike in the first n silent ticks. -/
def quiet (p : Par) (s : Sta) (n : Nat) : Prop := ∀ t, t < n → (tick p (silN p s t) 0).2 = false

theorem quiet_mono {p : Par} {s : Sta} {m n : Nat} (h : quiet p s n) (hm : m ≤ n) : quiet p s m := fun t ht => h t (by omega)

theorem quiet_add {p : Par} {s : Sta} {a b : Nat} (h : quiet p s (a + b)) : quiet p (silN p s a) b := by
  intro t ht
  rw [← silN_add]
  exact h (a + t) (by omega)

theorem quiet_join {p : Par} {s : Sta} {a b : Nat} (h1 : quiet p s a) (h2 : quiet p (silN p s a) b) : quiet p s (a + b) := by
  intro t ht
  by_cases h : t < a
  · exact h1 t h
  · have := h2 (t - a) (by omega)
    rwa [← silN_add, show a + (t - a) = t by omega] at this

theorem silN_fix {p : Par} {s : Sta} (h : (tick p s 0).1 = s) (n : Nat) : silN p s n = s := by
  induction n with
  | zero => rfl
  | succ n ih => simp only [silN, ih, h]

theorem mu_silN {p : Par} {s : Sta} (hp : ParOk p) (hs : staOk p s) {n : Nat} (hq : quiet p s n) : mu p (silN p s n) ≤ mu p s := by
  induction n with
  | zero => exact Nat.le_refl _
  | succ n ih =>
    have h1 := ih (quiet_mono hq (by omega))
    rcases tick_mu hp (silN_ok hp hs n) (hq n (by omega)) with h2 | h2
    · simp only [silN, h2]; exact h1
    · simp only [silN]; omega

/-- A state that is the same again after silent ticks without a spike remains. -/
theorem silN_same {p : Par} {s : Sta} (hp : ParOk p) (hs : staOk p s) {n : Nat} (hn : 0 < n) (hq : quiet p s n) (h : silN p s n = s) : (tick p s 0).1 = s ∧ (tick p s 0).2 = false := by
  have h0 : (tick p s 0).2 = false := hq 0 hn
  refine ⟨?_, h0⟩
  rcases tick_mu hp hs h0 with h2 | h2
  · exact h2
  · exfalso
    have e : n = 1 + (n - 1) := by omega
    have hq2 : quiet p (silN p s 1) (n - 1) := quiet_add (by rwa [← e])
    have h3 := mu_silN hp (silN_ok hp hs 1) hq2
    rw [← silN_add, ← e, h] at h3
    have h4 : silN p s 1 = (tick p s 0).1 := rfl
    rw [h4] at h3
    omega

/-- What Next returns. -/
def NextIs (p : Par) (s : Sta) (r : Int) : Prop :=
  (r = -1 ∧ ∀ n, quiet p s n) ∨ (∃ n : Nat, r = n ∧ n ≤ 2097216 ∧ quiet p s n ∧ (tick p (silN p s n) 0).2 = true)

theorem NextIs.bounds {p : Par} {s : Sta} {r : Int} (h : NextIs p s r) : -1 ≤ r ∧ r ≤ 2097216 := by
  rcases h with ⟨h, _⟩ | ⟨n, h, h2, _⟩ <;> omega

theorem quiet_fix {p : Par} {s : Sta} (h : (tick p s 0).1 = s) (h2 : (tick p s 0).2 = false) (n : Nat) : quiet p s n := by
  intro t ht
  rw [silN_fix h]
  exact h2

/-- Without a bias that lifts it, a potential below the threshold stays there. -/
theorem quiet_low {p : Par} {s : Sta} (hp : ParOk p) (hs : staOk p s) (hb : p.bias ≤ 0) (hv : s.v < p.th) (n : Nat) : quiet p s n := by
  have key : ∀ t, (silN p s t).v < p.th := by
    intro t
    induction t with
    | zero => exact hv
    | succ t ih =>
      have hok := silN_ok hp hs t
      unfold silN
      generalize silN p s t = q at *
      unfold staOk at hok
      have h3 := hp.leak
      have h4 := hp.th
      have h5 := hp.fl
      have hlk : leak p q.v ≤ max q.v 0 := by
        have := leak_mono hp (u := q.v) (v := max q.v 0) (by omega)
        have h0 : leak p (max q.v 0) ≤ max q.v 0 := by
          unfold leakOk at h3
          unfold leak
          split
          · split <;> omega
          · split
            · have : 0 ≤ max q.v 0 * p.lv := Int.mul_nonneg (by omega) (by omega)
              have := (tdiv256 (max q.v 0 * p.lv)).1 this
              omega
            · omega
        omega
      have hf : fsil p q.v < p.th := by unfold fsil; omega
      by_cases hr : 0 < q.rest
      · rw [tick_rest hr]; exact ih
      · rw [tick_low (vnext_sil p q) hr hf]; exact hf
  intro t ht
  have hk := key t
  have hk1 := key (t + 1)
  unfold silN at hk1
  generalize silN p s t = q at *
  by_cases hr : 0 < q.rest
  · rw [tick_rest hr]
  · by_cases hf : fsil p q.v < p.th
    · rw [tick_low (vnext_sil p q) hr hf]
    · exfalso
      have h3 := hp.leak
      have h4 := hp.th
      have h5 := hp.fl
      have hlk : leak p q.v ≤ max q.v 0 := by
        have := leak_mono hp (u := q.v) (v := max q.v 0) (by omega)
        have h0 : leak p (max q.v 0) ≤ max q.v 0 := by
          unfold leakOk at h3
          unfold leak
          split
          · split <;> omega
          · split
            · have : 0 ≤ max q.v 0 * p.lv := Int.mul_nonneg (by omega) (by omega)
              have := (tdiv256 (max q.v 0 * p.lv)).1 this
              omega
            · omega
        omega
      unfold fsil at hf
      omega

end Go.Gm
