import Derived.Test.YtjjcoiicikaaiaaGreatPlaceRowsPp
set_option linter.unusedVariables false
set_option linter.unusedSimpArgs false
set_option maxHeartbeats 4000000

namespace Go.Gm

def flStep (v : Int → Int) (acc : Option (Int × Int)) (x : Int) : Option (Int × Int) :=
 match acc with
 | none => some (x, v x)
 | some (b, m) => if v x < m then some (x, v x) else some (b, m)

def firstL (v : Int → Int) (l : List Int) : Option (Int × Int) := l.foldl (flStep v) none

theorem firstL_snoc (v : Int → Int) (l : List Int) (x : Int) : firstL v (l ++ [x]) = flStep v (firstL v l) x := by
 unfold firstL; rw [List.foldl_append]; rfl

theorem snoc_ind {α : Type} {P : List α → Prop} (h0 : P []) (h1 : ∀ l x, P l → P (l ++ [x])) : ∀ l, P l := by
 intro l
 have key : ∀ n (l : List α), l.length = n → P l := by
  intro n
  induction n with
  | zero => intro l h; rw [List.eq_nil_of_length_eq_zero h]; exact h0
  | succ n ih =>
   intro l h
   have hne : l ≠ [] := fun e => by subst e; cases h
   rw [← List.dropLast_concat_getLast hne]
   refine h1 _ _ (ih _ ?_)
   rw [List.length_dropLast]; omega
 exact key _ l rfl

theorem firstL_mem {v : Int → Int} {l : List Int} {b m : Int} (h : firstL v l = some (b, m)) : b ∈ l ∧ m = v b ∧ ∀ x ∈ l, m ≤ v x := by
 revert b m
 refine snoc_ind (P := fun l => ∀ {b m : Int}, firstL v l = some (b, m) → b ∈ l ∧ m = v b ∧ ∀ x ∈ l, m ≤ v x) (by simp [firstL]) (fun l x ih => ?_) l
 intro b m h
 rw [firstL_snoc] at h
 cases hl : firstL v l with
 | none =>
  rw [hl] at h
  simp only [flStep, Option.some.injEq, Prod.mk.injEq] at h
  obtain ⟨rfl, rfl⟩ := h
  refine ⟨by simp, rfl, fun y hy => ?_⟩
  rcases List.mem_append.1 hy with hy | hy
  ·have : l = [] := by
    refine Decidable.byContradiction fun hne => ?_
    have key : ∀ l : List Int, l ≠ [] → firstL v l ≠ none := by
     refine snoc_ind (fun h => absurd rfl h) fun l x ih _ => ?_
     rw [firstL_snoc]
     cases firstL v l with
     | none => simp [flStep]
     | some p => simp only [flStep]; split <;> simp
    exact key l hne hl
   subst this; cases hy
  ·rw [List.mem_singleton] at hy; subst hy; omega
 | some p =>
  obtain ⟨b0, m0⟩ := p
  obtain ⟨g1, g2, g3⟩ := ih hl
  rw [hl] at h
  simp only [flStep] at h
  split at h
  ·simp only [Option.some.injEq, Prod.mk.injEq] at h
   obtain ⟨rfl, rfl⟩ := h
   refine ⟨by simp, rfl, fun y hy => ?_⟩
   rcases List.mem_append.1 hy with hy | hy
   ·have := g3 y hy; omega
   ·rw [List.mem_singleton] at hy; subst hy; omega
  ·simp only [Option.some.injEq, Prod.mk.injEq] at h
   obtain ⟨rfl, rfl⟩ := h
   refine ⟨List.mem_append_left _ g1, g2, fun y hy => ?_⟩
   rcases List.mem_append.1 hy with hy | hy
   ·exact g3 y hy
   ·rw [List.mem_singleton] at hy; subst hy; omega

def spaceP (C : Chp) (l : List Syn) (cores : List Int) (i : Nat) (k : Int) : Prop := k ∉ C.dead ∧ (useN cores k : Int) < C.nr ∧ (useR l cores k : Int) + rowN l i ≤ C.sy

instance (C : Chp) (l : List Syn) (cores : List Int) (i : Nat) (k : Int) : Decidable (spaceP C l cores i k) := by unfold spaceP; infer_instance

def allC (C : Chp) : List Int := (List.range (nCores C)).map fun (k : Nat) => (k : Int)

def spacesM (C : Chp) (l : List Syn) (cores : List Int) (i : Nat) : List Int := (allC C).filter fun k => decide (spaceP C l cores i k)

theorem mem_allC {C : Chp} {k : Int} : k ∈ allC C ↔ 0 ≤ k ∧ k < nCores C := by
 unfold allC
 rw [List.mem_map]
 constructor
 ·rintro ⟨j, hj, rfl⟩
  rw [List.mem_range] at hj
  omega
 ·intro h
  exact ⟨k.toNat, List.mem_range.2 (by omega), by omega⟩

def fitsR (C : Chp) (l : List Syn) (cores : List Int) : Prop := ∀ k : Nat, k < nCores C → (useN cores k : Int) ≤ C.nr ∧ (useR l cores k : Int) ≤ C.sy ∧ ¬ (0 < useN cores k ∧ (k : Int) ∈ C.dead)

instance (C : Chp) (l : List Syn) (cores : List Int) : Decidable (fitsR C l cores) := by unfold fitsR; exact Nat.decidableBallLT _ _

structure SoFar (C : Chp) (l : List Syn) (cores : List Int) : Prop where
 core : ∀ k ∈ cores, (0 ≤ k ∧ k < nCores C) ∧ k ∉ C.dead
 fits : fitsA C l cores

theorem useN_pos {cores : List Int} {k : Int} : 0 < useN cores k ↔ k ∈ cores := by
 unfold useN
 rw [List.countP_pos_iff]
 constructor
 ·rintro ⟨a, ha, h⟩
  rw [decide_eq_true_eq] at h
  subst h; exact ha
 ·intro h; exact ⟨k, h, by simp⟩

theorem SoFar.fitsR {C : Chp} {l : List Syn} {cores : List Int} (h : SoFar C l cores) : fitsR C l cores := fun k hk =>
 ⟨(h.fits k hk).1, (h.fits k hk).2, fun ⟨h1, h2⟩ => (h.core k (useN_pos.1 h1)).2 h2⟩

theorem soFar_of {C : Chp} {l : List Syn} {cores : List Int} (hr : ∀ k ∈ cores, 0 ≤ k ∧ k < nCores C) (h : Gm.fitsR C l cores) : SoFar C l cores :=
 ⟨fun k hk => ⟨hr k hk, fun hd => by
  obtain ⟨h1, h2⟩ := hr k hk
  obtain ⟨j, rfl⟩ : ∃ j : Nat, k = j := ⟨k.toNat, by omega⟩
  exact (h j (by omega)).2.2 ⟨useN_pos.2 hk, hd⟩⟩, fun k hk => ⟨(h k hk).1, (h k hk).2.1⟩⟩

theorem fits_snoc {C : Chp} {l : List Syn} {cores : List Int} (h : SoFar C l cores) {k : Int} (hk : 0 ≤ k ∧ k < nCores C) : Gm.fitsR C l (cores ++ [k]) ↔ spaceP C l cores cores.length k := by
 constructor
 ·intro hf
  obtain ⟨j, rfl⟩ : ∃ j : Nat, k = j := ⟨k.toNat, by omega⟩
  obtain ⟨h1, h2, h3⟩ := hf j (by omega)
  rw [useN_snoc, if_pos rfl] at h1 h3
  rw [useR_snoc, if_pos rfl] at h2
  exact ⟨fun hd => h3 ⟨by omega, hd⟩, by omega, by omega⟩
 ·rintro ⟨h1, h2, h3⟩ j hj
  have hf := h.fitsR j hj
  rw [useN_snoc, useR_snoc]
  by_cases e : k = (j : Int)
  ·rw [if_pos e, if_pos e]
   subst e
   exact ⟨by omega, by omega, fun hh => h1 hh.2⟩
  ·rw [if_neg e, if_neg e]
   exact hf

theorem SoFar.snoc {C : Chp} {l : List Syn} {cores : List Int} (h : SoFar C l cores) {k : Int} (hk : 0 ≤ k ∧ k < nCores C) (hs : spaceP C l cores cores.length k) : SoFar C l (cores ++ [k]) := by
 refine soFar_of (fun x hx => ?_) ((fits_snoc h hk).2 hs)
 rcases List.mem_append.1 hx with hx | hx
 ·exact (h.core x hx).1
 ·rw [List.mem_singleton] at hx; subst hx; exact hk

def near1 (i : Int) (cores : List Int) (k : Int) (s : Syn) : Prop := (s.frm = i ∧ (0 ≤ s.to ∧ s.to < cores.length) ∧ cores[s.to.toNat]? = some k) ∨ (s.to = i ∧ (0 ≤ s.frm ∧ s.frm < cores.length) ∧ cores[s.frm.toNat]? = some k)

instance (i : Int) (cores : List Int) (k : Int) (s : Syn) : Decidable (near1 i cores k s) := by unfold near1; infer_instance

def affM (l : List Syn) (i : Int) (cores : List Int) (k : Int) : Nat := l.countP fun s => decide (near1 i cores k s)

def stepP (C : Chp) (l : List Syn) (cores : List Int) : Option (Int × Int) := firstL (fun k => -(affM l cores.length cores k : Int)) (spacesM C l cores cores.length)

def placeF (C : Chp) (l : List Syn) : Nat → List Int → Option (List Int)
 | 0, cores => some cores
 | n + 1, cores => match stepP C l cores with
  | none => none
  | some (k, _) => placeF C l n (cores ++ [k])

def placeR (N : Net) (C : Chp) : List Int × Int :=
 if planE N C ≠ 0 then ([], planE N C) else match placeF C N.syns N.ps.length [] with
  | none => ([], 15)
  | some c => (c, 0)

theorem stepP_space {C : Chp} {l : List Syn} {cores : List Int} {k m : Int} (h : stepP C l cores = some (k, m)) : (0 ≤ k ∧ k < nCores C) ∧ spaceP C l cores cores.length k := by
 obtain ⟨h1, h2, h3⟩ := firstL_mem h
 obtain ⟨h4, h5⟩ := List.mem_filter.1 h1
 exact ⟨mem_allC.1 h4, of_decide_eq_true h5⟩

theorem SoFar.nil {C : Chp} {l : List Syn} (h : ChpOk C) : SoFar C l [] := by
 refine ⟨by simp, fun k hk => ?_⟩
 have e1 : useN [] (k : Int) = 0 := rfl
 have e2 : useR l [] (k : Int) = 0 := by
  unfold useR
  rw [List.countP_eq_zero]
  simp
 have := h.nr
 have := h.sy
 omega

def hangs (N : Net) (i key : Int) : Prop := key = i ∨ ∃ s ∈ N.syns, keyM N s.frm = key ∧ s.to = i

instance (N : Net) (i key : Int) : Decidable (hangs N i key) := by unfold hangs; infer_instance

end Go.Gm
