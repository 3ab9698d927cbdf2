import Derived.Test.YtjjcoiicikaaiaaGreatPlaceWaysPp
import Derived.Test.YtjjcoiicikaaiaaGreatPlaceWaysGa
set_option linter.unusedVariables false
set_option linter.unusedSimpArgs false
set_option maxHeartbeats 4000000
section

namespace Go.Gm

def flStep (v : Int → Int) (acc : Option (Int × Int)) (x : Int) : Option (Int × Int) :=
 match acc with
 | none => some (x, v x)
 | some (b, m) => if v x < m then some (x, v x) else some (b, m)

def firstL (v : Int → Int) (l : List Int) : Option (Int × Int) := l.foldl (flStep v) none

theorem firstL_snoc (v : Int → Int) (l : List Int) (x : Int) : firstL v (l ++ [x]) = flStep v (firstL v l) x := by
 unfold firstL; rw [List.foldl_append]; rfl

theorem snoc_ind {α : Type} {P : List α → Prop} (h0 : P []) (h1 : ∀ l x, P l → P (l ++ [x])) : ∀ l, P l := by
 intro l
 have key : ∀ n (l : List α), l.length = n → P l := by
  intro n
  induction n with
  | zero => intro l h; rw [List.eq_nil_of_length_eq_zero h]; exact h0
  | succ n ih =>
   intro l h
   have hne : l ≠ [] := fun e => by subst e; cases h
   rw [← List.dropLast_concat_getLast hne]
   refine h1 _ _ (ih _ ?_)
   rw [List.length_dropLast]; omega
 exact key _ l rfl

theorem firstL_mem {v : Int → Int} {l : List Int} {b m : Int} (h : firstL v l = some (b, m)) : b ∈ l ∧ m = v b ∧ ∀ x ∈ l, m ≤ v x := by
 revert b m
 refine snoc_ind (P := fun l => ∀ {b m : Int}, firstL v l = some (b, m) → b ∈ l ∧ m = v b ∧ ∀ x ∈ l, m ≤ v x) (by simp [firstL]) (fun l x ih => ?_) l
 intro b m h
 rw [firstL_snoc] at h
 cases hl : firstL v l with
 | none =>
  rw [hl] at h
  simp only [flStep, Option.some.injEq, Prod.mk.injEq] at h
  obtain ⟨rfl, rfl⟩ := h
  refine ⟨by simp, rfl, fun y hy => ?_⟩
  rcases List.mem_append.1 hy with hy | hy
  ·have : l = [] := by
    refine Decidable.byContradiction fun hne => ?_
    have key : ∀ l : List Int, l ≠ [] → firstL v l ≠ none := by
     refine snoc_ind (fun h => absurd rfl h) fun l x ih _ => ?_
     rw [firstL_snoc]
     cases firstL v l with
     | none => simp [flStep]
     | some p => simp only [flStep]; split <;> simp
    exact key l hne hl
   subst this; cases hy
  ·rw [List.mem_singleton] at hy; subst hy; omega
 | some p =>
  obtain ⟨b0, m0⟩ := p
  obtain ⟨g1, g2, g3⟩ := ih hl
  rw [hl] at h
  simp only [flStep] at h
  split at h
  ·simp only [Option.some.injEq, Prod.mk.injEq] at h
   obtain ⟨rfl, rfl⟩ := h
   refine ⟨by simp, rfl, fun y hy => ?_⟩
   rcases List.mem_append.1 hy with hy | hy
   ·have := g3 y hy; omega
   ·rw [List.mem_singleton] at hy; subst hy; omega
  ·simp only [Option.some.injEq, Prod.mk.injEq] at h
   obtain ⟨rfl, rfl⟩ := h
   refine ⟨List.mem_append_left _ g1, g2, fun y hy => ?_⟩
   rcases List.mem_append.1 hy with hy | hy
   ·exact g3 y hy
   ·rw [List.mem_singleton] at hy; subst hy; omega

def spaceP (C : Chp) (l : List Syn) (cores : List Int) (i : Nat) (k : Int) : Prop := k ∉ C.dead ∧ (useN cores k : Int) < C.nr ∧ (useR l cores k : Int) + rowN l i ≤ C.sy

instance (C : Chp) (l : List Syn) (cores : List Int) (i : Nat) (k : Int) : Decidable (spaceP C l cores i k) := by unfold spaceP; infer_instance

def allC (C : Chp) : List Int := (List.range (nCores C)).map fun (k : Nat) => (k : Int)

def spacesM (C : Chp) (l : List Syn) (cores : List Int) (i : Nat) : List Int := (allC C).filter fun k => decide (spaceP C l cores i k)

theorem mem_allC {C : Chp} {k : Int} : k ∈ allC C ↔ 0 ≤ k ∧ k < nCores C := by
 unfold allC
 rw [List.mem_map]
 constructor
 ·rintro ⟨j, hj, rfl⟩
  rw [List.mem_range] at hj
  omega
 ·intro h
  exact ⟨k.toNat, List.mem_range.2 (by omega), by omega⟩

def fitsR (C : Chp) (l : List Syn) (cores : List Int) : Prop := ∀ k : Nat, k < nCores C → (useN cores k : Int) ≤ C.nr ∧ (useR l cores k : Int) ≤ C.sy ∧ ¬ (0 < useN cores k ∧ (k : Int) ∈ C.dead)

instance (C : Chp) (l : List Syn) (cores : List Int) : Decidable (fitsR C l cores) := by unfold fitsR; exact Nat.decidableBallLT _ _

structure SoFar (C : Chp) (l : List Syn) (cores : List Int) : Prop where
 core : ∀ k ∈ cores, (0 ≤ k ∧ k < nCores C) ∧ k ∉ C.dead
 fits : fitsA C l cores

theorem useN_pos {cores : List Int} {k : Int} : 0 < useN cores k ↔ k ∈ cores := by
 unfold useN
 rw [List.countP_pos_iff]
 constructor
 ·rintro ⟨a, ha, h⟩
  rw [decide_eq_true_eq] at h
  subst h; exact ha
 ·intro h; exact ⟨k, h, by simp⟩

theorem SoFar.fitsR {C : Chp} {l : List Syn} {cores : List Int} (h : SoFar C l cores) : fitsR C l cores := fun k hk =>
 ⟨(h.fits k hk).1, (h.fits k hk).2, fun ⟨h1, h2⟩ => (h.core k (useN_pos.1 h1)).2 h2⟩

theorem soFar_of {C : Chp} {l : List Syn} {cores : List Int} (hr : ∀ k ∈ cores, 0 ≤ k ∧ k < nCores C) (h : Gm.fitsR C l cores) : SoFar C l cores :=
 ⟨fun k hk => ⟨hr k hk, fun hd => by
  obtain ⟨h1, h2⟩ := hr k hk
  obtain ⟨j, rfl⟩ : ∃ j : Nat, k = j := ⟨k.toNat, by omega⟩
  exact (h j (by omega)).2.2 ⟨useN_pos.2 hk, hd⟩⟩, fun k hk => ⟨(h k hk).1, (h k hk).2.1⟩⟩

theorem fits_snoc {C : Chp} {l : List Syn} {cores : List Int} (h : SoFar C l cores) {k : Int} (hk : 0 ≤ k ∧ k < nCores C) : Gm.fitsR C l (cores ++ [k]) ↔ spaceP C l cores cores.length k := by
 constructor
 ·intro hf
  obtain ⟨j, rfl⟩ : ∃ j : Nat, k = j := ⟨k.toNat, by omega⟩
  obtain ⟨h1, h2, h3⟩ := hf j (by omega)
  rw [useN_snoc, if_pos rfl] at h1 h3
  rw [useR_snoc, if_pos rfl] at h2
  exact ⟨fun hd => h3 ⟨by omega, hd⟩, by omega, by omega⟩
 ·rintro ⟨h1, h2, h3⟩ j hj
  have hf := h.fitsR j hj
  rw [useN_snoc, useR_snoc]
  by_cases e : k = (j : Int)
  ·rw [if_pos e, if_pos e]
   subst e
   exact ⟨by omega, by omega, fun hh => h1 hh.2⟩
  ·rw [if_neg e, if_neg e]
   exact hf

theorem SoFar.snoc {C : Chp} {l : List Syn} {cores : List Int} (h : SoFar C l cores) {k : Int} (hk : 0 ≤ k ∧ k < nCores C) (hs : spaceP C l cores cores.length k) : SoFar C l (cores ++ [k]) := by
 refine soFar_of (fun x hx => ?_) ((fits_snoc h hk).2 hs)
 rcases List.mem_append.1 hx with hx | hx
 ·exact (h.core x hx).1
 ·rw [List.mem_singleton] at hx; subst hx; exact hk

def near1 (i : Int) (cores : List Int) (k : Int) (s : Syn) : Prop := (s.frm = i ∧ (0 ≤ s.to ∧ s.to < cores.length) ∧ cores[s.to.toNat]? = some k) ∨ (s.to = i ∧ (0 ≤ s.frm ∧ s.frm < cores.length) ∧ cores[s.frm.toNat]? = some k)

instance (i : Int) (cores : List Int) (k : Int) (s : Syn) : Decidable (near1 i cores k s) := by unfold near1; infer_instance

def affM (l : List Syn) (i : Int) (cores : List Int) (k : Int) : Nat := l.countP fun s => decide (near1 i cores k s)

def stepP (C : Chp) (l : List Syn) (cores : List Int) : Option (Int × Int) := firstL (fun k => -(affM l cores.length cores k : Int)) (spacesM C l cores cores.length)

def placeF (C : Chp) (l : List Syn) : Nat → List Int → Option (List Int)
 | 0, cores => some cores
 | n + 1, cores => match stepP C l cores with
  | none => none
  | some (k, _) => placeF C l n (cores ++ [k])

def placeR (N : Net) (C : Chp) : List Int × Int :=
 if planE N C ≠ 0 then ([], planE N C) else match placeF C N.syns N.ps.length [] with
  | none => ([], 15)
  | some c => (c, 0)

theorem stepP_space {C : Chp} {l : List Syn} {cores : List Int} {k m : Int} (h : stepP C l cores = some (k, m)) : (0 ≤ k ∧ k < nCores C) ∧ spaceP C l cores cores.length k := by
 obtain ⟨h1, h2, h3⟩ := firstL_mem h
 obtain ⟨h4, h5⟩ := List.mem_filter.1 h1
 exact ⟨mem_allC.1 h4, of_decide_eq_true h5⟩

theorem SoFar.nil {C : Chp} {l : List Syn} (h : ChpOk C) : SoFar C l [] := by
 refine ⟨by simp, fun k hk => ?_⟩
 have e1 : useN [] (k : Int) = 0 := rfl
 have e2 : useR l [] (k : Int) = 0 := by
  unfold useR
  rw [List.countP_eq_zero]
  simp
 have := h.nr
 have := h.sy
 omega

def hangs (N : Net) (i key : Int) : Prop := key = i ∨ ∃ s ∈ N.syns, keyM N s.frm = key ∧ s.to = i

instance (N : Net) (i key : Int) : Decidable (hangs N i key) := by unfold hangs; infer_instance

theorem keysM_nodup (N : Net) : (keysM N).Nodup := by
 unfold keysM
 refine List.Pairwise.filter _ ?_
 rw [List.pairwise_map]
 exact List.nodup_range.imp fun h e => h (by omega)

end Go.Gm
end

section

namespace Go.Gm

def nearM (w s : Int) : Int := if w < 0 then -((2 * -w + s - 1) / (2 * s)) else (2 * w + s - 1) / (2 * s)

theorem near_zero {s : Int} (hs : 1 ≤ s) : nearM 0 s = 0 := by
 unfold nearM
 rw [if_neg (by omega)]
 exact Int.ediv_eq_zero_of_lt (by omega) (by omega)

theorem near_one (w : Int) : nearM w 1 = w := by
 unfold nearM
 split <;> omega

theorem near_mono {u v s : Int} (h : u ≤ v) (hs : 1 ≤ s) : nearM u s ≤ nearM v s := by
 have hm : ∀ a b : Int, a ≤ b → (2 * a + s - 1) / (2 * s) ≤ (2 * b + s - 1) / (2 * s) := fun a b hab => Int.ediv_le_ediv (by omega) (by omega)
 have hp : ∀ a : Int, 0 ≤ a → 0 ≤ (2 * a + s - 1) / (2 * s) := fun a ha => Int.ediv_nonneg (by omega) (by omega)
 unfold nearM
 by_cases h1 : u < 0
 ·rw [if_pos h1]
  by_cases h2 : v < 0
  ·rw [if_pos h2]
   have := hm (-v) (-u) (by omega)
   omega
  ·rw [if_neg h2]
   have := hp (-u) (by omega)
   have := hp v (by omega)
   omega
 ·rw [if_neg h1, if_neg (by omega)]
  exact hm u v h

theorem near_off {w s : Int} (hs : 1 ≤ s) : 2 * (w - nearM w s * s) ≤ s ∧ -s ≤ 2 * (w - nearM w s * s) := by
 have key : ∀ a : Int, 0 ≤ a → 2 * (a - (2 * a + s - 1) / (2 * s) * s) ≤ s ∧ -s ≤ 2 * (a - (2 * a + s - 1) / (2 * s) * s) := by
  intro a ha
  have h1 := Int.emod_add_mul_ediv (2 * a + s - 1) (2 * s)
  have h2 := Int.emod_nonneg (2 * a + s - 1) (show 2 * s ≠ 0 by omega)
  have h3 := Int.emod_lt_of_pos (2 * a + s - 1) (show 0 < 2 * s by omega)
  obtain ⟨q, hq⟩ : ∃ q, (2 * a + s - 1) / (2 * s) = q := ⟨_, rfl⟩
  rw [hq] at h1 ⊢
  have e1 : 2 * s * q = 2 * (s * q) := Int.mul_assoc _ _ _
  have e2 : q * s = s * q := Int.mul_comm _ _
  rw [e2]
  omega
 unfold nearM
 by_cases hw : w < 0
 ·rw [if_pos hw]
  have := key (-w) (by omega)
  rw [Int.neg_mul]
  omega
 ·rw [if_neg hw]
  exact key w (by omega)

theorem near_small {w s : Int} (hs : 1 ≤ s) : (0 ≤ w → 0 ≤ nearM w s ∧ nearM w s ≤ w) ∧ (w ≤ 0 → w ≤ nearM w s ∧ nearM w s ≤ 0) := by
 have key : ∀ a : Int, 0 ≤ a → 0 ≤ (2 * a + s - 1) / (2 * s) ∧ (2 * a + s - 1) / (2 * s) ≤ a := by
  intro a ha
  refine ⟨Int.ediv_nonneg (by omega) (by omega), ?_⟩
  have : (2 * a + s - 1) / (2 * s) < a + 1 := by
   rw [Int.ediv_lt_iff_lt_mul (by omega)]
   have e : (a + 1) * (2 * s) = 2 * (a * s) + 2 * s := by rw [Int.add_mul, Int.one_mul, Int.mul_left_comm]
   have : a * 1 ≤ a * s := Int.mul_le_mul_of_nonneg_left hs ha
   omega
  omega
 unfold nearM
 refine ⟨fun h => ?_, fun h => ?_⟩
 ·rw [if_neg (by omega)]; exact key w h
 ·by_cases hw : w < 0
  ·rw [if_pos hw]; have := key (-w) (by omega); omega
  ·rw [if_neg hw]
   have := key w (by omega)
   omega

theorem near_far {w : Int} (h : -32768 ≤ w ∧ w ≤ 32768) : nearM w 65537 = 0 := by
 unfold nearM
 split
 ·rw [Int.ediv_eq_zero_of_lt (by omega) (by omega)]; rfl
 ·exact Int.ediv_eq_zero_of_lt (by omega) (by omega)

def okQ (half s w : Int) : Prop := (-half ≤ nearM w s ∧ nearM w s ≤ half - 1) ∧ (-32768 ≤ nearM w s * s ∧ nearM w s * s ≤ 32768)

instance (half s w : Int) : Decidable (okQ half s w) := by unfold okQ; infer_instance

theorem okQ_zero {half s : Int} (hh : 1 ≤ half) (hs : 1 ≤ s) : okQ half s 0 := by
 unfold okQ
 rw [near_zero hs]
 omega

theorem okQ_mid {half s a b w : Int} (hs : 1 ≤ s) (ha : okQ half s a) (hb : okQ half s b) (h1 : a ≤ w) (h2 : w ≤ b) : okQ half s w := by
 unfold okQ at *
 have m1 := near_mono h1 hs
 have m2 := near_mono h2 hs
 have m3 : nearM a s * s ≤ nearM w s * s := Int.mul_le_mul_of_nonneg_right m1 (by omega)
 have m4 : nearM w s * s ≤ nearM b s * s := Int.mul_le_mul_of_nonneg_right m2 (by omega)
 omega

def wtsTo (l : List Syn) (i : Int) : List Int := (l.filter fun s => decide (s.to = i)).map (·.wt)

def loM (l : List Syn) (i : Int) : Int := (wtsTo l i).foldl min 0

def hiM (l : List Syn) (i : Int) : Int := (wtsTo l i).foldl max 0

theorem foldl_min_le : ∀ (l : List Int) (a : Int), l.foldl min a ≤ a ∧ ∀ x ∈ l, l.foldl min a ≤ x
 | [], a => ⟨Int.le_refl _, by simp⟩
 | y :: l, a => by
  obtain ⟨h1, h2⟩ := foldl_min_le l (min a y)
  refine ⟨?_, fun x hx => ?_⟩
  ·rw [List.foldl_cons]; omega
  ·rw [List.foldl_cons]
   rcases List.mem_cons.1 hx with rfl | hx
   ·omega
   ·exact h2 x hx

theorem foldl_max_ge : ∀ (l : List Int) (a : Int), a ≤ l.foldl max a ∧ ∀ x ∈ l, x ≤ l.foldl max a
 | [], a => ⟨Int.le_refl _, by simp⟩
 | y :: l, a => by
  obtain ⟨h1, h2⟩ := foldl_max_ge l (max a y)
  refine ⟨?_, fun x hx => ?_⟩
  ·rw [List.foldl_cons]; omega
  ·rw [List.foldl_cons]
   rcases List.mem_cons.1 hx with rfl | hx
   ·omega
   ·exact h2 x hx

theorem foldl_min_mem : ∀ (l : List Int) (a : Int), l.foldl min a = a ∨ l.foldl min a ∈ l
 | [], a => .inl rfl
 | y :: l, a => by
  rw [List.foldl_cons]
  rcases foldl_min_mem l (min a y) with h | h
  ·rw [h]
   rcases Int.le_total a y with h2 | h2
   ·rw [Int.min_eq_left h2]; exact .inl rfl
   ·rw [Int.min_eq_right h2]; exact .inr List.mem_cons_self
  ·exact .inr (List.mem_cons_of_mem _ h)

theorem foldl_max_mem : ∀ (l : List Int) (a : Int), l.foldl max a = a ∨ l.foldl max a ∈ l
 | [], a => .inl rfl
 | y :: l, a => by
  rw [List.foldl_cons]
  rcases foldl_max_mem l (max a y) with h | h
  ·rw [h]
   rcases Int.le_total a y with h2 | h2
   ·rw [Int.max_eq_right h2]; exact .inr List.mem_cons_self
   ·rw [Int.max_eq_left h2]; exact .inl rfl
  ·exact .inr (List.mem_cons_of_mem _ h)

def okS (l : List Syn) (half i s : Int) : Prop := ∀ w ∈ wtsTo l i, okQ half s w

instance (l : List Syn) (half i s : Int) : Decidable (okS l half i s) := by unfold okS; infer_instance

theorem okS_ends {l : List Syn} {half i s : Int} (hh : 1 ≤ half) (hs : 1 ≤ s) : okS l half i s ↔ okQ half s (loM l i) ∧ okQ half s (hiM l i) := by
 have h0 := okQ_zero hh hs
 constructor
 ·intro h
  refine ⟨?_, ?_⟩
  ·rcases foldl_min_mem (wtsTo l i) 0 with e | e
   ·unfold loM; rw [e]; exact h0
   ·exact h _ e
  ·rcases foldl_max_mem (wtsTo l i) 0 with e | e
   ·unfold hiM; rw [e]; exact h0
   ·exact h _ e
 ·rintro ⟨h1, h2⟩ w hw
  exact okQ_mid hs h1 h2 ((foldl_min_le _ _).2 w hw) ((foldl_max_ge _ _).2 w hw)

def fitsM (lo hi s half : Int) : Prop := nearM lo s ≥ -half ∧ nearM hi s < half ∧ nearM lo s * s ≥ -32768 ∧ nearM hi s * s ≤ 32768

instance (lo hi s half : Int) : Decidable (fitsM lo hi s half) := by unfold fitsM; infer_instance

theorem fits_iff {l : List Syn} {half i s : Int} (hh : 1 ≤ half) (hs : 1 ≤ s) : fitsM (loM l i) (hiM l i) s half ↔ okS l half i s := by
 rw [okS_ends hh hs]
 have h1 : loM l i ≤ 0 := (foldl_min_le _ _).1
 have h2 : 0 ≤ hiM l i := (foldl_max_ge _ _).1
 have n1 := (near_small (w := loM l i) hs).2 h1
 have n2 := (near_small (w := hiM l i) hs).1 h2
 have m1 : nearM (loM l i) s * s ≤ 0 := Int.mul_nonpos_of_nonpos_of_nonneg (by omega) (by omega)
 have m2 : 0 ≤ nearM (hiM l i) s * s := Int.mul_nonneg (by omega) (by omega)
 unfold fitsM okQ
 omega

def leastF (p : Nat → Bool) : Nat → Nat → Nat
 | 0, s => s
 | n + 1, s => if p s then s else leastF p n (s + 1)

theorem leastF_spec {p : Nat → Bool} : ∀ (n s : Nat), p (s + n) = true → p (leastF p n s) = true ∧ s ≤ leastF p n s ∧ leastF p n s ≤ s + n ∧ ∀ k, s ≤ k → k < leastF p n s → p k = false
 | 0, s, h => ⟨h, Nat.le_refl _, Nat.le_refl _, fun k h1 h2 => by simp only [leastF] at h2; omega⟩
 | n + 1, s, h => by
  rw [leastF]
  by_cases hp : p s = true
  ·rw [if_pos hp]
   exact ⟨hp, Nat.le_refl _, by omega, fun k h1 h2 => by omega⟩
  ·rw [if_neg hp]
   obtain ⟨h1, h2, h3, h4⟩ := leastF_spec (p := p) n (s + 1) (by rw [Nat.add_assoc, Nat.add_comm 1 n]; exact h)
   refine ⟨h1, by omega, by omega, fun k h5 h6 => ?_⟩
   by_cases hk : k = s
   ·subst hk; simpa using hp
   ·exact h4 k (by omega) h6

def scaleM (l : List Syn) (half : Int) (i : Nat) : Nat := leastF (fun s => decide (okS l half (i : Int) (s : Int))) 65536 1

def WtsOk (l : List Syn) : Prop := ∀ s ∈ l, -32768 ≤ s.wt ∧ s.wt ≤ 32768

theorem mem_wtsTo {l : List Syn} {i w : Int} : w ∈ wtsTo l i ↔ ∃ s ∈ l, s.to = i ∧ s.wt = w := by
 unfold wtsTo
 simp only [List.mem_map, List.mem_filter, decide_eq_true_eq]
 constructor
 ·rintro ⟨s, ⟨h1, h2⟩, h3⟩; exact ⟨s, h1, h2, h3⟩
 ·rintro ⟨s, h1, h2, h3⟩; exact ⟨s, ⟨h1, h2⟩, h3⟩

theorem scale_spec {l : List Syn} (hl : WtsOk l) {half : Int} (hh : 2 ≤ half) (i : Nat) :
  okS l half i (scaleM l half i) ∧ 1 ≤ scaleM l half i ∧ scaleM l half i ≤ 65537 ∧ ∀ k : Nat, 1 ≤ k → k < scaleM l half i → ¬ okS l half i k := by
 have h := leastF_spec (p := fun s => decide (okS l half (i : Int) (s : Int))) 65536 1 (by
  rw [decide_eq_true_eq]
  intro w hw
  obtain ⟨s, hs, _, rfl⟩ := mem_wtsTo.1 hw
  have h0 : nearM s.wt ((1 + 65536 : Nat) : Int) = 0 := near_far (hl s hs)
  unfold okQ
  rw [h0]
  omega)
 unfold scaleM
 obtain ⟨h1, h2, h3, h4⟩ := h
 rw [decide_eq_true_eq] at h1
 exact ⟨h1, h2, by omega, fun k hk1 hk2 => by have := h4 k hk1 hk2; rwa [decide_eq_false_iff_not] at this⟩

def quotS (Z : List Int) (s : Syn) : Int := nearM s.wt (Z[s.to.toNat]?.getD 1)

def offS (Z : List Int) (s : Syn) : Int := max (s.wt - quotS Z s * (Z[s.to.toNat]?.getD 1)) (-(s.wt - quotS Z s * (Z[s.to.toNat]?.getD 1)))

def synQ (Z : List Int) (s : Syn) : Syn := ⟨s.frm, s.to, quotS Z s * (Z[s.to.toNat]?.getD 1), s.dl⟩

def errQ (Z : List Int) (l : List Syn) (i : Nat) : Int := ((l.filter fun s => decide (s.to = (i : Int))).map (offS Z)).foldl max 0

structure Qnt where
 syns : List Syn
 scales : List Int
 quots : List Int
 errs : List Int
 exact : Bool

def halfM (bits : Int) : Int := 2 ^ (bits.toNat - 1)

def scalesM (N : Net) (half : Int) : List Int := (List.range N.ps.length).map fun i => (scaleM N.syns half i : Int)

def quantM (N : Net) (bits : Int) : Qnt :=
 let Z := scalesM N (halfM bits)
 ⟨N.syns.map (synQ Z), Z, N.syns.map (quotS Z), (List.range N.ps.length).map (errQ Z N.syns), N.syns.all fun s => decide (offS Z s = 0)⟩

theorem half_ok {bits : Int} (h : 2 ≤ bits ∧ bits ≤ 16) : 2 ≤ halfM bits ∧ halfM bits ≤ 32768 := by
 obtain ⟨b, rfl⟩ : ∃ b : Nat, bits = b := ⟨bits.toNat, by omega⟩
 unfold halfM
 rw [Int.toNat_natCast]
 have h1 : 1 ≤ b - 1 := by omega
 have h2 : b - 1 ≤ 15 := by omega
 have e : ((2 : Int) ^ (b - 1)) = ((2 ^ (b - 1) : Nat) : Int) := by simp
 rw [e]
 have g1 : 2 ^ 1 ≤ 2 ^ (b - 1) := Nat.pow_le_pow_right (by omega) h1
 have g2 : 2 ^ (b - 1) ≤ 2 ^ 15 := Nat.pow_le_pow_right (by omega) h2
 omega

end Go.Gm
end
