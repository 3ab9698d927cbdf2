import Derived.Test.YtephkjicokbckaaGreatDoorVerifyKnownVb
import Derived.Test.YtephkjicokbckaaGreatDoorVerifyKnownSu
import Derived.Test.YtephkjicokbckaaGreatDoorVerifyKnownHd
import Derived.Test.YtephkjicokbckaaGreatDoorVerifyKnownNa
import Derived.Test.YtephkjicokbckaaGreatDoorVerifyKnownHc
import Derived.Test.YtephkjicokbckaaGreatDoorVerifyKnownMk
section
set_option linter.unusedVariables false

set_option linter.unusedSimpArgs false

namespace Go.Gm

def optK (tick : Int) (k : Nat) : List Int := (if 0 ≤ tick - k then [tick - (k : Int)] else []) ++ (if tick + k < 10000 then [tick + (k : Int)] else [])

def opts (tick : Int) : Nat → List Int
  | 0 => [tick]
  | j + 1 => opts tick j ++ optK tick (j + 1)

theorem opts_ok {tick : Int} (h : 0 ≤ tick ∧ tick < 10000) : ∀ j, (∀ t ∈ opts tick j, 0 ≤ t ∧ t < 10000) ∧ 1 ≤ (opts tick j).length ∧ (opts tick j).length ≤ 2 * j + 1
  | 0 => by simp [opts]; exact h
  | j + 1 => by
    obtain ⟨h1, h2, h3⟩ := opts_ok h j
    have hk : (optK tick (j + 1)).length ≤ 2 := by
      unfold optK
      split <;> split <;> simp
    refine ⟨fun t ht => ?_, by simp only [opts, List.length_append]; omega, by simp only [opts, List.length_append]; omega⟩
    simp only [opts, List.mem_append] at ht
    rcases ht with ht | ht
    · exact h1 t ht
    · unfold optK at ht
      simp only [List.mem_append] at ht
      rcases ht with ht | ht
      · split at ht
        · simp only [List.mem_singleton] at ht; omega
        · simp at ht
      · split at ht
        · simp only [List.mem_singleton] at ht; omega
        · simp at ht

def lostN (x : List Int) : Nat := x.countP (fun t => decide (t < 0))

def extR (losses : Nat) (l : List Int) (x : List Int) : List (List Int) := (l.map fun t => x ++ [t]).filter fun y => decide (lostN y ≤ losses)

theorem lostN_snoc (x : List Int) (t : Int) : lostN (x ++ [t]) = lostN x + if t < 0 then 1 else 0 := by
  unfold lostN
  rw [List.countP_append]
  congr 1
  by_cases h : t < 0 <;> simp [h]

def cntR (out : List (List Int)) (i : Nat) : Nat := out.countP fun x => decide (lostN x = i)

theorem extR_cnt {losses : Nat} {o : List Int} (ho : ∀ t ∈ o, 0 ≤ t) (x : List Int) (hx : lostN x ≤ losses) (i : Nat) :
    cntR (extR losses (o ++ [-1]) x) i = (if lostN x = i then o.length else 0) + (if lostN x + 1 = i ∧ i ≤ losses then 1 else 0) := by
  unfold cntR extR
  rw [List.countP_filter, List.countP_map, List.countP_append]
  have e1 : List.countP ((fun a => decide (lostN a = i) && decide (lostN a ≤ losses)) ∘ fun t => x ++ [t]) o = if lostN x = i then o.length else 0 := by
    by_cases hi : lostN x = i
    · rw [if_pos hi, List.countP_eq_length]
      intro t ht
      have := ho t ht
      simp only [Function.comp, lostN_snoc, if_neg (show ¬ t < 0 by omega), Nat.add_zero, Bool.and_eq_true, decide_eq_true_eq]
      exact ⟨hi, hx⟩
    · rw [if_neg hi, List.countP_eq_zero]
      intro t ht
      have := ho t ht
      simp only [Function.comp, lostN_snoc, if_neg (show ¬ t < 0 by omega), Nat.add_zero, Bool.and_eq_true, decide_eq_true_eq]
      exact fun h => hi h.1
  rw [e1]
  congr 1
  simp only [List.countP_cons, List.countP_nil, Function.comp, lostN_snoc, Nat.zero_add, Bool.and_eq_true, decide_eq_true_eq]
  rw [if_pos (show (-1 : Int) < 0 by omega)]
  by_cases h : lostN x + 1 = i ∧ i ≤ losses
  · rw [if_pos h, if_pos ⟨h.1, by omega⟩]
  · rw [if_neg h, if_neg (fun hh => h ⟨hh.1, by omega⟩)]

theorem cnt_flat {losses : Nat} {o : List Int} (ho : ∀ t ∈ o, 0 ≤ t) (i : Nat) : ∀ (out : List (List Int)), (∀ x ∈ out, lostN x ≤ losses) →
    cntR (out.flatMap (extR losses (o ++ [-1]))) i = cntR out i * o.length + (if 1 ≤ i ∧ i ≤ losses then cntR out (i - 1) else 0)
  | [], _ => by simp [cntR]
  | x :: r, h => by
    have ih := cnt_flat ho i r fun y hy => h y (List.mem_cons_of_mem _ hy)
    have hx := extR_cnt ho x (h x List.mem_cons_self) i
    unfold cntR at ih hx ⊢
    rw [List.flatMap_cons, List.countP_append, ih, hx, List.countP_cons, List.countP_cons, Nat.add_mul]
    by_cases h1 : lostN x = i
    · have h2 : ¬ (lostN x + 1 = i ∧ i ≤ losses) := by omega
      have h3 : ¬ lostN x = i - 1 ∨ i = 0 := by omega
      simp only [h1, decide_true, if_true]
      rw [if_neg (by omega)]
      by_cases h4 : 1 ≤ i ∧ i ≤ losses
      · rw [if_pos h4, if_pos h4, if_neg (by simp; omega)]; omega
      · rw [if_neg h4, if_neg h4]; omega
    · simp only [h1, decide_false, Bool.false_eq_true, if_false, Nat.zero_mul, Nat.add_zero, Nat.zero_add]
      by_cases h2 : lostN x + 1 = i ∧ i ≤ losses
      · rw [if_pos h2, if_pos ⟨by omega, h2.2⟩, if_pos ⟨by omega, h2.2⟩, if_pos (by simp; omega)]; omega
      · rw [if_neg h2]
        by_cases h4 : 1 ≤ i ∧ i ≤ losses
        · rw [if_pos h4, if_pos h4, if_neg (by simp; omega)]; omega
        · rw [if_neg h4, if_neg h4]; omega

theorem flat_lost {losses : Nat} {l : List Int} {out : List (List Int)} : ∀ y ∈ out.flatMap (extR losses l), lostN y ≤ losses := by
  intro y hy
  obtain ⟨x, _, hx⟩ := List.mem_flatMap.1 hy
  unfold extR at hx
  simpa using (List.mem_filter.1 hx).2

def nextC (losses stays : Nat) (c : List Nat) : List Nat :=
  (List.range (min c.length losses + 1)).map fun i => (c[i]?.getD 0) * stays + (if 1 ≤ i ∧ i ≤ losses then c[i - 1]?.getD 0 else 0)

structure Counts (losses : Nat) (c : List Nat) (out : List (List Int)) : Prop where
  len : 1 ≤ c.length ∧ c.length ≤ losses + 1
  get : ∀ i, c[i]?.getD 0 = cntR out i
  lost : ∀ x ∈ out, lostN x ≤ losses

theorem Counts.next {losses : Nat} {c : List Nat} {out : List (List Int)} (h : Counts losses c out) {o : List Int} (ho : ∀ t ∈ o, 0 ≤ t) : Counts losses (nextC losses o.length c) (out.flatMap (extR losses (o ++ [-1]))) := by
  obtain ⟨⟨l1, l2⟩, hg, hl⟩ := h
  refine ⟨?_, fun i => ?_, flat_lost⟩
  · unfold nextC
    simp only [List.length_map, List.length_range]
    omega
  · rw [cnt_flat ho i out hl]
    unfold nextC
    by_cases hi : i < min c.length losses + 1
    · rw [List.getElem?_map, List.getElem?_range hi]
      simp only [Option.map_some, Option.getD_some]
      rw [hg i]
      by_cases h1 : 1 ≤ i ∧ i ≤ losses
      · rw [if_pos h1, if_pos h1, hg (i - 1)]
      · rw [if_neg h1, if_neg h1]
    · rw [List.getElem?_eq_none (by simp only [List.length_map, List.length_range]; omega)]
      have e1 : cntR out i = 0 := by
        rw [← hg i, List.getElem?_eq_none (by omega)]; rfl
      rw [e1, Nat.zero_mul]
      by_cases h1 : 1 ≤ i ∧ i ≤ losses
      · rw [if_pos h1, ← hg (i - 1), List.getElem?_eq_none (by omega)]; rfl
      · rw [if_neg h1]; rfl

theorem sum_counts {c : List Nat} {out : List (List Int)} (hg : ∀ i, c[i]?.getD 0 = cntR out i) (hb : ∀ x ∈ out, lostN x < c.length) : c.sum = out.length := by
  have key : ∀ (out : List (List Int)) (n : Nat), (∀ x ∈ out, lostN x < n) → ((List.range n).map (cntR out)).sum = out.length := by
    intro out n
    induction out with
    | nil =>
      intro _
      have : ∀ n, ((List.range n).map (cntR [])).sum = 0 := by
        intro n
        induction n with
        | zero => rfl
        | succ n ih => rw [List.range_succ, List.map_append, List.sum_append, ih]; simp [cntR]
      exact this n
    | cons x r ih =>
      intro h
      have h0 := ih fun y hy => h y (List.mem_cons_of_mem _ hy)
      have hx := h x List.mem_cons_self
      have e : ∀ m, ((List.range m).map (cntR (x :: r))).sum = ((List.range m).map (cntR r)).sum + if lostN x < m then 1 else 0 := by
        intro m
        induction m with
        | zero => simp
        | succ m ihm =>
          rw [List.range_succ, List.map_append, List.sum_append, ihm, List.map_append, List.sum_append]
          have : cntR (x :: r) m = cntR r m + if lostN x = m then 1 else 0 := by
            unfold cntR
            rw [List.countP_cons]
            simp
          simp only [List.map_cons, List.map_nil, List.sum_cons, List.sum_nil, Nat.add_zero, this]
          by_cases h1 : lostN x < m
          · rw [if_pos h1, if_neg (by omega), if_pos (by omega)]; omega
          · by_cases h2 : lostN x = m
            · rw [if_neg h1, if_pos h2, if_pos (by omega)]; omega
            · have h3 : ¬ lostN x < m + 1 := by omega
              simp only [h1, h2, h3, if_false, Nat.add_zero]
      rw [e, h0, if_pos hx, List.length_cons]
  have hc : c = (List.range c.length).map (cntR out) := by
    apply List.ext_getElem?
    intro i
    by_cases hi : i < c.length
    · rw [List.getElem?_map, List.getElem?_range hi, Option.map_some, ← hg i, List.getElem?_eq_getElem hi]; rfl
    · rw [List.getElem?_eq_none (by omega), List.getElem?_eq_none (by simp; omega)]
  rw [hc, key out _ hb]

theorem Counts.sum {losses : Nat} {c : List Nat} {out : List (List Int)} (h : Counts losses c out) : c.sum = out.length := by
  refine sum_counts h.get fun x hx => ?_
  have : 0 < cntR out (lostN x) := List.countP_pos_iff.2 ⟨x, hx, by simp⟩
  rw [← h.get] at this
  rcases Nat.lt_or_ge (lostN x) c.length with h1 | h1
  · exact h1
  · rw [List.getElem?_eq_none h1] at this; cases this

def runsC (losses j : Nat) : List Int → List Nat → Option Nat
  | [], c => some c.sum
  | t :: r, c => if 20000 < (nextC losses (opts t j).length c).sum then none else runsC losses j r (nextC losses (opts t j).length c)

end Go.Gm
end

section
set_option linter.unusedVariables false

set_option linter.unusedSimpArgs false

namespace Go.Gm

def dfsO (R : Nat → List (List Int)) (L : Nat) (O : List Int) : List (List Int) :=
  O.flatMap fun t => if t < 0 then (if L = 0 then [] else (R (L - 1)).map (t :: ·)) else (R L).map (t :: ·)

def dfs (J : Nat) : List Int → Nat → List (List Int)
  | [], _ => [[]]
  | t :: r, L => dfsO (dfs J r) L (opts t J ++ [-1])

def kept : List Evt → List Int → List Evt
  | e :: l, t :: x => (if t < 0 then [] else [⟨t, e.id⟩]) ++ kept l x
  | _, _ => []

def firstB {β : Type} (f : List Evt → Option β) (J : Nat) (C r : List Evt) (L : Nat) : Option β := (dfs J (r.map (·.tick)) L).findSome? fun y => f (C ++ kept r y)

def firstO {β : Type} (f : List Evt → Option β) (J : Nat) (C : List Evt) (e : Evt) (r : List Evt) (L : Nat) (O : List Int) : Option β :=
  O.findSome? fun t => if t < 0 then (if L = 0 then none else firstB f J C r (L - 1)) else firstB f J (C ++ [⟨t, e.id⟩]) r L

theorem firstB_nil {β : Type} (f : List Evt → Option β) (J : Nat) (C : List Evt) (L : Nat) : firstB f J C [] L = f C := by
  unfold firstB
  simp only [List.map_nil, dfs, List.findSome?_cons, List.findSome?_nil, kept, List.append_nil]
  cases f C <;> rfl

theorem firstB_cons {β : Type} (f : List Evt → Option β) (J : Nat) (C : List Evt) (e : Evt) (r : List Evt) (L : Nat) : firstB f J C (e :: r) L = firstO f J C e r L (opts e.tick J ++ [-1]) := by
  unfold firstB firstO
  simp only [List.map_cons, dfs]
  generalize opts e.tick J ++ [-1] = O
  induction O with
  | nil => rfl
  | cons o O ih =>
    have e2 : dfsO (dfs J (r.map (·.tick))) L (o :: O) = (if o < 0 then (if L = 0 then [] else (dfs J (r.map (·.tick)) (L - 1)).map (o :: ·)) else (dfs J (r.map (·.tick)) L).map (o :: ·)) ++ dfsO (dfs J (r.map (·.tick))) L O := by
      unfold dfsO; rw [List.flatMap_cons]
    rw [e2, List.findSome?_append, ih, List.findSome?_cons]
    by_cases ho : o < 0
    · by_cases hL : L = 0
      · simp only [ho, hL, if_true, List.findSome?_nil, Option.none_or]
      · simp only [ho, hL, if_true, if_false, List.findSome?_map]
        have : ((fun y => f (C ++ kept (e :: r) y)) ∘ fun x => o :: x) = fun y => f (C ++ kept r y) := by
          funext y
          simp only [Function.comp, kept, ho, if_true, List.nil_append]
        rw [this]
        unfold firstB
        cases List.findSome? (fun y => f (C ++ kept r y)) (dfs J (List.map (fun x => x.tick) r) (L - 1)) <;> rfl
    · simp only [ho, if_false, List.findSome?_map]
      have : ((fun y => f (C ++ kept (e :: r) y)) ∘ fun x => o :: x) = fun y => f (C ++ [⟨o, e.id⟩] ++ kept r y) := by
        funext y
        simp only [Function.comp, kept, ho, if_false, List.append_assoc]
      rw [this]
      unfold firstB
      cases List.findSome? (fun y => f (C ++ [⟨o, e.id⟩] ++ kept r y)) (dfs J (List.map (fun x => x.tick) r) L) <;> rfl

theorem firstO_take {β : Type} {f : List Evt → Option β} {J : Nat} {C : List Evt} {e : Evt} {r : List Evt} {L : Nat} {O : List Int} {j : Nat} {t : Int} (h : O[j]? = some t) (h0 : firstO f J C e r L (O.take j) = none) :
    firstO f J C e r L (O.take (j + 1)) = (if t < 0 then (if L = 0 then none else firstB f J C r (L - 1)) else firstB f J (C ++ [⟨t, e.id⟩]) r L) ∧
    ∀ b, (if t < 0 then (if L = 0 then none else firstB f J C r (L - 1)) else firstB f J (C ++ [⟨t, e.id⟩]) r L) = some b → firstO f J C e r L O = some b := by
  have e1 : ∀ X, firstO f J C e r L (O.take j ++ X) = firstO f J C e r L X := fun X => by
    unfold firstO at h0 ⊢
    rw [List.findSome?_append, h0, Option.none_or]
  refine ⟨?_, fun b hb => ?_⟩
  · rw [List.take_add_one, h, Option.toList_some, e1]
    unfold firstO
    rw [List.findSome?_cons, List.findSome?_nil]
    cases (if t < 0 then (if L = 0 then none else firstB f J C r (L - 1)) else firstB f J (C ++ [⟨t, e.id⟩]) r L) <;> rfl
  · have e2 : O = O.take j ++ t :: O.drop (j + 1) := by
      obtain ⟨hlt, rfl⟩ := List.getElem?_eq_some_iff.1 h
      rw [← List.drop_eq_getElem_cons hlt, List.take_append_drop]
    rw [e2, e1]
    unfold firstO
    rw [List.findSome?_cons, hb]

end Go.Gm
end

section
set_option linter.unusedVariables false

set_option linter.unusedSimpArgs false

namespace Go.Proofs

open Go Go.Vx Go.Gm

end Go.Proofs
end

section
set_option linter.unusedVariables false

set_option linter.unusedSimpArgs false

namespace Go.Proofs

open Go Go.Vx Go.Gm

end Go.Proofs
end
