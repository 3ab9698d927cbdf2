import Derived.Test.YtjjcoiicikaaiaaGreatPlaceRowsGa
set_option linter.unusedVariables false
set_option linter.unusedSimpArgs false
set_option maxHeartbeats 4000000

namespace Go.Gm

def nearM (w s : Int) : Int := if w < 0 then -((2 * -w + s - 1) / (2 * s)) else (2 * w + s - 1) / (2 * s)

theorem near_zero {s : Int} (hs : 1 ≤ s) : nearM 0 s = 0 := by
 unfold nearM
 rw [if_neg (by omega)]
 exact Int.ediv_eq_zero_of_lt (by omega) (by omega)

theorem near_one (w : Int) : nearM w 1 = w := by
 unfold nearM
 split <;> omega

theorem near_mono {u v s : Int} (h : u ≤ v) (hs : 1 ≤ s) : nearM u s ≤ nearM v s := by
 have hm : ∀ a b : Int, a ≤ b → (2 * a + s - 1) / (2 * s) ≤ (2 * b + s - 1) / (2 * s) := fun a b hab => Int.ediv_le_ediv (by omega) (by omega)
 have hp : ∀ a : Int, 0 ≤ a → 0 ≤ (2 * a + s - 1) / (2 * s) := fun a ha => Int.ediv_nonneg (by omega) (by omega)
 unfold nearM
 by_cases h1 : u < 0
 ·rw [if_pos h1]
  by_cases h2 : v < 0
  ·rw [if_pos h2]
   have := hm (-v) (-u) (by omega)
   omega
  ·rw [if_neg h2]
   have := hp (-u) (by omega)
   have := hp v (by omega)
   omega
 ·rw [if_neg h1, if_neg (by omega)]
  exact hm u v h

theorem near_off {w s : Int} (hs : 1 ≤ s) : 2 * (w - nearM w s * s) ≤ s ∧ -s ≤ 2 * (w - nearM w s * s) := by
 have key : ∀ a : Int, 0 ≤ a → 2 * (a - (2 * a + s - 1) / (2 * s) * s) ≤ s ∧ -s ≤ 2 * (a - (2 * a + s - 1) / (2 * s) * s) := by
  intro a ha
  have h1 := Int.emod_add_mul_ediv (2 * a + s - 1) (2 * s)
  have h2 := Int.emod_nonneg (2 * a + s - 1) (show 2 * s ≠ 0 by omega)
  have h3 := Int.emod_lt_of_pos (2 * a + s - 1) (show 0 < 2 * s by omega)
  obtain ⟨q, hq⟩ : ∃ q, (2 * a + s - 1) / (2 * s) = q := ⟨_, rfl⟩
  rw [hq] at h1 ⊢
  have e1 : 2 * s * q = 2 * (s * q) := Int.mul_assoc _ _ _
  have e2 : q * s = s * q := Int.mul_comm _ _
  rw [e2]
  omega
 unfold nearM
 by_cases hw : w < 0
 ·rw [if_pos hw]
  have := key (-w) (by omega)
  rw [Int.neg_mul]
  omega
 ·rw [if_neg hw]
  exact key w (by omega)

theorem near_small {w s : Int} (hs : 1 ≤ s) : (0 ≤ w → 0 ≤ nearM w s ∧ nearM w s ≤ w) ∧ (w ≤ 0 → w ≤ nearM w s ∧ nearM w s ≤ 0) := by
 have key : ∀ a : Int, 0 ≤ a → 0 ≤ (2 * a + s - 1) / (2 * s) ∧ (2 * a + s - 1) / (2 * s) ≤ a := by
  intro a ha
  refine ⟨Int.ediv_nonneg (by omega) (by omega), ?_⟩
  have : (2 * a + s - 1) / (2 * s) < a + 1 := by
   rw [Int.ediv_lt_iff_lt_mul (by omega)]
   have e : (a + 1) * (2 * s) = 2 * (a * s) + 2 * s := by rw [Int.add_mul, Int.one_mul, Int.mul_left_comm]
   have : a * 1 ≤ a * s := Int.mul_le_mul_of_nonneg_left hs ha
   omega
  omega
 unfold nearM
 refine ⟨fun h => ?_, fun h => ?_⟩
 ·rw [if_neg (by omega)]; exact key w h
 ·by_cases hw : w < 0
  ·rw [if_pos hw]; have := key (-w) (by omega); omega
  ·rw [if_neg hw]
   have := key w (by omega)
   omega

theorem near_far {w : Int} (h : -32768 ≤ w ∧ w ≤ 32768) : nearM w 65537 = 0 := by
 unfold nearM
 split
 ·rw [Int.ediv_eq_zero_of_lt (by omega) (by omega)]; rfl
 ·exact Int.ediv_eq_zero_of_lt (by omega) (by omega)

def okQ (half s w : Int) : Prop := (-half ≤ nearM w s ∧ nearM w s ≤ half - 1) ∧ (-32768 ≤ nearM w s * s ∧ nearM w s * s ≤ 32768)

instance (half s w : Int) : Decidable (okQ half s w) := by unfold okQ; infer_instance

theorem okQ_zero {half s : Int} (hh : 1 ≤ half) (hs : 1 ≤ s) : okQ half s 0 := by
 unfold okQ
 rw [near_zero hs]
 omega

theorem okQ_mid {half s a b w : Int} (hs : 1 ≤ s) (ha : okQ half s a) (hb : okQ half s b) (h1 : a ≤ w) (h2 : w ≤ b) : okQ half s w := by
 unfold okQ at *
 have m1 := near_mono h1 hs
 have m2 := near_mono h2 hs
 have m3 : nearM a s * s ≤ nearM w s * s := Int.mul_le_mul_of_nonneg_right m1 (by omega)
 have m4 : nearM w s * s ≤ nearM b s * s := Int.mul_le_mul_of_nonneg_right m2 (by omega)
 omega

def wtsTo (l : List Syn) (i : Int) : List Int := (l.filter fun s => decide (s.to = i)).map (·.wt)

def loM (l : List Syn) (i : Int) : Int := (wtsTo l i).foldl min 0

def hiM (l : List Syn) (i : Int) : Int := (wtsTo l i).foldl max 0

theorem foldl_min_le : ∀ (l : List Int) (a : Int), l.foldl min a ≤ a ∧ ∀ x ∈ l, l.foldl min a ≤ x
 | [], a => ⟨Int.le_refl _, by simp⟩
 | y :: l, a => by
  obtain ⟨h1, h2⟩ := foldl_min_le l (min a y)
  refine ⟨?_, fun x hx => ?_⟩
  ·rw [List.foldl_cons]; omega
  ·rw [List.foldl_cons]
   rcases List.mem_cons.1 hx with rfl | hx
   ·omega
   ·exact h2 x hx

theorem foldl_max_ge : ∀ (l : List Int) (a : Int), a ≤ l.foldl max a ∧ ∀ x ∈ l, x ≤ l.foldl max a
 | [], a => ⟨Int.le_refl _, by simp⟩
 | y :: l, a => by
  obtain ⟨h1, h2⟩ := foldl_max_ge l (max a y)
  refine ⟨?_, fun x hx => ?_⟩
  ·rw [List.foldl_cons]; omega
  ·rw [List.foldl_cons]
   rcases List.mem_cons.1 hx with rfl | hx
   ·omega
   ·exact h2 x hx

theorem foldl_min_mem : ∀ (l : List Int) (a : Int), l.foldl min a = a ∨ l.foldl min a ∈ l
 | [], a => .inl rfl
 | y :: l, a => by
  rw [List.foldl_cons]
  rcases foldl_min_mem l (min a y) with h | h
  ·rw [h]
   rcases Int.le_total a y with h2 | h2
   ·rw [Int.min_eq_left h2]; exact .inl rfl
   ·rw [Int.min_eq_right h2]; exact .inr List.mem_cons_self
  ·exact .inr (List.mem_cons_of_mem _ h)

theorem foldl_max_mem : ∀ (l : List Int) (a : Int), l.foldl max a = a ∨ l.foldl max a ∈ l
 | [], a => .inl rfl
 | y :: l, a => by
  rw [List.foldl_cons]
  rcases foldl_max_mem l (max a y) with h | h
  ·rw [h]
   rcases Int.le_total a y with h2 | h2
   ·rw [Int.max_eq_right h2]; exact .inr List.mem_cons_self
   ·rw [Int.max_eq_left h2]; exact .inl rfl
  ·exact .inr (List.mem_cons_of_mem _ h)

def okS (l : List Syn) (half i s : Int) : Prop := ∀ w ∈ wtsTo l i, okQ half s w

instance (l : List Syn) (half i s : Int) : Decidable (okS l half i s) := by unfold okS; infer_instance

theorem okS_ends {l : List Syn} {half i s : Int} (hh : 1 ≤ half) (hs : 1 ≤ s) : okS l half i s ↔ okQ half s (loM l i) ∧ okQ half s (hiM l i) := by
 have h0 := okQ_zero hh hs
 constructor
 ·intro h
  refine ⟨?_, ?_⟩
  ·rcases foldl_min_mem (wtsTo l i) 0 with e | e
   ·unfold loM; rw [e]; exact h0
   ·exact h _ e
  ·rcases foldl_max_mem (wtsTo l i) 0 with e | e
   ·unfold hiM; rw [e]; exact h0
   ·exact h _ e
 ·rintro ⟨h1, h2⟩ w hw
  exact okQ_mid hs h1 h2 ((foldl_min_le _ _).2 w hw) ((foldl_max_ge _ _).2 w hw)

def fitsM (lo hi s half : Int) : Prop := nearM lo s ≥ -half ∧ nearM hi s < half ∧ nearM lo s * s ≥ -32768 ∧ nearM hi s * s ≤ 32768

instance (lo hi s half : Int) : Decidable (fitsM lo hi s half) := by unfold fitsM; infer_instance

theorem fits_iff {l : List Syn} {half i s : Int} (hh : 1 ≤ half) (hs : 1 ≤ s) : fitsM (loM l i) (hiM l i) s half ↔ okS l half i s := by
 rw [okS_ends hh hs]
 have h1 : loM l i ≤ 0 := (foldl_min_le _ _).1
 have h2 : 0 ≤ hiM l i := (foldl_max_ge _ _).1
 have n1 := (near_small (w := loM l i) hs).2 h1
 have n2 := (near_small (w := hiM l i) hs).1 h2
 have m1 : nearM (loM l i) s * s ≤ 0 := Int.mul_nonpos_of_nonpos_of_nonneg (by omega) (by omega)
 have m2 : 0 ≤ nearM (hiM l i) s * s := Int.mul_nonneg (by omega) (by omega)
 unfold fitsM okQ
 omega

def leastF (p : Nat → Bool) : Nat → Nat → Nat
 | 0, s => s
 | n + 1, s => if p s then s else leastF p n (s + 1)

theorem leastF_spec {p : Nat → Bool} : ∀ (n s : Nat), p (s + n) = true → p (leastF p n s) = true ∧ s ≤ leastF p n s ∧ leastF p n s ≤ s + n ∧ ∀ k, s ≤ k → k < leastF p n s → p k = false
 | 0, s, h => ⟨h, Nat.le_refl _, Nat.le_refl _, fun k h1 h2 => by simp only [leastF] at h2; omega⟩
 | n + 1, s, h => by
  rw [leastF]
  by_cases hp : p s = true
  ·rw [if_pos hp]
   exact ⟨hp, Nat.le_refl _, by omega, fun k h1 h2 => by omega⟩
  ·rw [if_neg hp]
   obtain ⟨h1, h2, h3, h4⟩ := leastF_spec (p := p) n (s + 1) (by rw [Nat.add_assoc, Nat.add_comm 1 n]; exact h)
   refine ⟨h1, by omega, by omega, fun k h5 h6 => ?_⟩
   by_cases hk : k = s
   ·subst hk; simpa using hp
   ·exact h4 k (by omega) h6

def scaleM (l : List Syn) (half : Int) (i : Nat) : Nat := leastF (fun s => decide (okS l half (i : Int) (s : Int))) 65536 1

def WtsOk (l : List Syn) : Prop := ∀ s ∈ l, -32768 ≤ s.wt ∧ s.wt ≤ 32768

theorem mem_wtsTo {l : List Syn} {i w : Int} : w ∈ wtsTo l i ↔ ∃ s ∈ l, s.to = i ∧ s.wt = w := by
 unfold wtsTo
 simp only [List.mem_map, List.mem_filter, decide_eq_true_eq]
 constructor
 ·rintro ⟨s, ⟨h1, h2⟩, h3⟩; exact ⟨s, h1, h2, h3⟩
 ·rintro ⟨s, h1, h2, h3⟩; exact ⟨s, ⟨h1, h2⟩, h3⟩

theorem scale_spec {l : List Syn} (hl : WtsOk l) {half : Int} (hh : 2 ≤ half) (i : Nat) :
  okS l half i (scaleM l half i) ∧ 1 ≤ scaleM l half i ∧ scaleM l half i ≤ 65537 ∧ ∀ k : Nat, 1 ≤ k → k < scaleM l half i → ¬ okS l half i k := by
 have h := leastF_spec (p := fun s => decide (okS l half (i : Int) (s : Int))) 65536 1 (by
  rw [decide_eq_true_eq]
  intro w hw
  obtain ⟨s, hs, _, rfl⟩ := mem_wtsTo.1 hw
  have h0 : nearM s.wt ((1 + 65536 : Nat) : Int) = 0 := near_far (hl s hs)
  unfold okQ
  rw [h0]
  omega)
 unfold scaleM
 obtain ⟨h1, h2, h3, h4⟩ := h
 rw [decide_eq_true_eq] at h1
 exact ⟨h1, h2, by omega, fun k hk1 hk2 => by have := h4 k hk1 hk2; rwa [decide_eq_false_iff_not] at this⟩

def quotS (Z : List Int) (s : Syn) : Int := nearM s.wt (Z[s.to.toNat]?.getD 1)

def offS (Z : List Int) (s : Syn) : Int := max (s.wt - quotS Z s * (Z[s.to.toNat]?.getD 1)) (-(s.wt - quotS Z s * (Z[s.to.toNat]?.getD 1)))

def synQ (Z : List Int) (s : Syn) : Syn := ⟨s.frm, s.to, quotS Z s * (Z[s.to.toNat]?.getD 1), s.dl⟩

def errQ (Z : List Int) (l : List Syn) (i : Nat) : Int := ((l.filter fun s => decide (s.to = (i : Int))).map (offS Z)).foldl max 0

structure Qnt where
 syns : List Syn
 scales : List Int
 quots : List Int
 errs : List Int
 exact : Bool

def halfM (bits : Int) : Int := 2 ^ (bits.toNat - 1)

def scalesM (N : Net) (half : Int) : List Int := (List.range N.ps.length).map fun i => (scaleM N.syns half i : Int)

def quantM (N : Net) (bits : Int) : Qnt :=
 let Z := scalesM N (halfM bits)
 ⟨N.syns.map (synQ Z), Z, N.syns.map (quotS Z), (List.range N.ps.length).map (errQ Z N.syns), N.syns.all fun s => decide (offS Z s = 0)⟩

theorem half_ok {bits : Int} (h : 2 ≤ bits ∧ bits ≤ 16) : 2 ≤ halfM bits ∧ halfM bits ≤ 32768 := by
 obtain ⟨b, rfl⟩ : ∃ b : Nat, bits = b := ⟨bits.toNat, by omega⟩
 unfold halfM
 rw [Int.toNat_natCast]
 have h1 : 1 ≤ b - 1 := by omega
 have h2 : b - 1 ≤ 15 := by omega
 have e : ((2 : Int) ^ (b - 1)) = ((2 ^ (b - 1) : Nat) : Int) := by simp
 rw [e]
 have g1 : 2 ^ 1 ≤ 2 ^ (b - 1) := Nat.pow_le_pow_right (by omega) h1
 have g2 : 2 ^ (b - 1) ≤ 2 ^ 15 := Nat.pow_le_pow_right (by omega) h2
 omega

end Go.Gm
