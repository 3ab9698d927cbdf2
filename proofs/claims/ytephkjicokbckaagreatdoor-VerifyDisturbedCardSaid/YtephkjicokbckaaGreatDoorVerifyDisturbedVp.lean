import Derived.Test.YtephkjicokbckaaGreatDoorVerifyDisturbedVb
set_option linter.unusedVariables false

set_option linter.unusedSimpArgs false

namespace Go.Gm

def optK (tick : Int) (k : Nat) : List Int := (if 0 ≤ tick - k then [tick - (k : Int)] else []) ++ (if tick + k < 10000 then [tick + (k : Int)] else [])

def opts (tick : Int) : Nat → List Int
  | 0 => [tick]
  | j + 1 => opts tick j ++ optK tick (j + 1)

theorem opts_ok {tick : Int} (h : 0 ≤ tick ∧ tick < 10000) : ∀ j, (∀ t ∈ opts tick j, 0 ≤ t ∧ t < 10000) ∧ 1 ≤ (opts tick j).length ∧ (opts tick j).length ≤ 2 * j + 1
  | 0 => by simp [opts]; exact h
  | j + 1 => by
    obtain ⟨h1, h2, h3⟩ := opts_ok h j
    have hk : (optK tick (j + 1)).length ≤ 2 := by
      unfold optK
      split <;> split <;> simp
    refine ⟨fun t ht => ?_, by simp only [opts, List.length_append]; omega, by simp only [opts, List.length_append]; omega⟩
    simp only [opts, List.mem_append] at ht
    rcases ht with ht | ht
    · exact h1 t ht
    · unfold optK at ht
      simp only [List.mem_append] at ht
      rcases ht with ht | ht
      · split at ht
        · simp only [List.mem_singleton] at ht; omega
        · simp at ht
      · split at ht
        · simp only [List.mem_singleton] at ht; omega
        · simp at ht

def lostN (x : List Int) : Nat := x.countP (fun t => decide (t < 0))

def extR (losses : Nat) (l : List Int) (x : List Int) : List (List Int) := (l.map fun t => x ++ [t]).filter fun y => decide (lostN y ≤ losses)

def extAll (losses : Nat) (l : List Int) : List (List Int) → List (List Int) → List (List Int)
  | acc, [] => acc
  | acc, x :: r => if acc.length ≤ 20000 then extAll losses l (acc ++ extR losses l x) r else acc

def runsM (losses j : Nat) : List Int → List (List Int) → List (List Int)
  | [], out => out
  | t :: r, out => runsM losses j r (extAll losses (opts t j ++ [-1]) [] out)

theorem extAll_few {losses : Nat} {l : List Int} : ∀ (out acc : List (List Int)), (acc ++ out.flatMap (extR losses l)).length ≤ 20000 → extAll losses l acc out = acc ++ out.flatMap (extR losses l)
  | [], acc, h => by simp [extAll]
  | x :: r, acc, h => by
    have h1 : acc.length ≤ 20000 := by simp only [List.length_append] at h; omega
    rw [extAll, if_pos h1, extAll_few r (acc ++ extR losses l x) (by simpa [List.append_assoc] using h)]
    simp [List.append_assoc]

theorem extAll_many {losses : Nat} {l : List Int} : ∀ (out acc : List (List Int)), 20000 < (acc ++ out.flatMap (extR losses l)).length → 20000 < (extAll losses l acc out).length
  | [], acc, h => by simpa [extAll] using h
  | x :: r, acc, h => by
    rw [extAll]
    split
    · exact extAll_many r _ (by simpa [List.append_assoc] using h)
    · omega

theorem lostN_snoc (x : List Int) (t : Int) : lostN (x ++ [t]) = lostN x + if t < 0 then 1 else 0 := by
  unfold lostN
  rw [List.countP_append]
  congr 1
  by_cases h : t < 0 <;> simp [h]

def cntR (out : List (List Int)) (i : Nat) : Nat := out.countP fun x => decide (lostN x = i)

theorem extR_cnt {losses : Nat} {o : List Int} (ho : ∀ t ∈ o, 0 ≤ t) (x : List Int) (hx : lostN x ≤ losses) (i : Nat) :
    cntR (extR losses (o ++ [-1]) x) i = (if lostN x = i then o.length else 0) + (if lostN x + 1 = i ∧ i ≤ losses then 1 else 0) := by
  unfold cntR extR
  rw [List.countP_filter, List.countP_map, List.countP_append]
  have e1 : List.countP ((fun a => decide (lostN a = i) && decide (lostN a ≤ losses)) ∘ fun t => x ++ [t]) o = if lostN x = i then o.length else 0 := by
    by_cases hi : lostN x = i
    · rw [if_pos hi, List.countP_eq_length]
      intro t ht
      have := ho t ht
      simp only [Function.comp, lostN_snoc, if_neg (show ¬ t < 0 by omega), Nat.add_zero, Bool.and_eq_true, decide_eq_true_eq]
      exact ⟨hi, hx⟩
    · rw [if_neg hi, List.countP_eq_zero]
      intro t ht
      have := ho t ht
      simp only [Function.comp, lostN_snoc, if_neg (show ¬ t < 0 by omega), Nat.add_zero, Bool.and_eq_true, decide_eq_true_eq]
      exact fun h => hi h.1
  rw [e1]
  congr 1
  simp only [List.countP_cons, List.countP_nil, Function.comp, lostN_snoc, Nat.zero_add, Bool.and_eq_true, decide_eq_true_eq]
  rw [if_pos (show (-1 : Int) < 0 by omega)]
  by_cases h : lostN x + 1 = i ∧ i ≤ losses
  · rw [if_pos h, if_pos ⟨h.1, by omega⟩]
  · rw [if_neg h, if_neg (fun hh => h ⟨hh.1, by omega⟩)]

theorem cnt_flat {losses : Nat} {o : List Int} (ho : ∀ t ∈ o, 0 ≤ t) (i : Nat) : ∀ (out : List (List Int)), (∀ x ∈ out, lostN x ≤ losses) →
    cntR (out.flatMap (extR losses (o ++ [-1]))) i = cntR out i * o.length + (if 1 ≤ i ∧ i ≤ losses then cntR out (i - 1) else 0)
  | [], _ => by simp [cntR]
  | x :: r, h => by
    have ih := cnt_flat ho i r fun y hy => h y (List.mem_cons_of_mem _ hy)
    have hx := extR_cnt ho x (h x List.mem_cons_self) i
    unfold cntR at ih hx ⊢
    rw [List.flatMap_cons, List.countP_append, ih, hx, List.countP_cons, List.countP_cons, Nat.add_mul]
    by_cases h1 : lostN x = i
    · have h2 : ¬ (lostN x + 1 = i ∧ i ≤ losses) := by omega
      have h3 : ¬ lostN x = i - 1 ∨ i = 0 := by omega
      simp only [h1, decide_true, if_true]
      rw [if_neg (by omega)]
      by_cases h4 : 1 ≤ i ∧ i ≤ losses
      · rw [if_pos h4, if_pos h4, if_neg (by simp; omega)]; omega
      · rw [if_neg h4, if_neg h4]; omega
    · simp only [h1, decide_false, Bool.false_eq_true, if_false, Nat.zero_mul, Nat.add_zero, Nat.zero_add]
      by_cases h2 : lostN x + 1 = i ∧ i ≤ losses
      · rw [if_pos h2, if_pos ⟨by omega, h2.2⟩, if_pos ⟨by omega, h2.2⟩, if_pos (by simp; omega)]; omega
      · rw [if_neg h2]
        by_cases h4 : 1 ≤ i ∧ i ≤ losses
        · rw [if_pos h4, if_pos h4, if_neg (by simp; omega)]; omega
        · rw [if_neg h4, if_neg h4]; omega

theorem flat_lost {losses : Nat} {l : List Int} {out : List (List Int)} : ∀ y ∈ out.flatMap (extR losses l), lostN y ≤ losses := by
  intro y hy
  obtain ⟨x, _, hx⟩ := List.mem_flatMap.1 hy
  unfold extR at hx
  simpa using (List.mem_filter.1 hx).2

theorem flat_len {losses : Nat} {o : List Int} (h1 : 1 ≤ o.length) (ho : ∀ t ∈ o, 0 ≤ t) : ∀ (out : List (List Int)), (∀ x ∈ out, lostN x ≤ losses) → out.length ≤ (out.flatMap (extR losses (o ++ [-1]))).length
  | [], _ => by simp
  | x :: r, h => by
    have ih := flat_len h1 ho r fun y hy => h y (List.mem_cons_of_mem _ hy)
    have hc := extR_cnt ho x (h x List.mem_cons_self) (lostN x)
    rw [if_pos rfl] at hc
    have hle : cntR (extR losses (o ++ [-1]) x) (lostN x) ≤ (extR losses (o ++ [-1]) x).length := List.countP_le_length
    rw [List.flatMap_cons, List.length_append, List.length_cons]
    omega

def nextC (losses stays : Nat) (c : List Nat) : List Nat :=
  (List.range (min c.length losses + 1)).map fun i => (c[i]?.getD 0) * stays + (if 1 ≤ i ∧ i ≤ losses then c[i - 1]?.getD 0 else 0)

structure Counts (losses : Nat) (c : List Nat) (out : List (List Int)) : Prop where
  len : 1 ≤ c.length ∧ c.length ≤ losses + 1
  get : ∀ i, c[i]?.getD 0 = cntR out i
  lost : ∀ x ∈ out, lostN x ≤ losses

theorem Counts.next {losses : Nat} {c : List Nat} {out : List (List Int)} (h : Counts losses c out) {o : List Int} (ho : ∀ t ∈ o, 0 ≤ t) : Counts losses (nextC losses o.length c) (out.flatMap (extR losses (o ++ [-1]))) := by
  obtain ⟨⟨l1, l2⟩, hg, hl⟩ := h
  refine ⟨?_, fun i => ?_, flat_lost⟩
  · unfold nextC
    simp only [List.length_map, List.length_range]
    omega
  · rw [cnt_flat ho i out hl]
    unfold nextC
    by_cases hi : i < min c.length losses + 1
    · rw [List.getElem?_map, List.getElem?_range hi]
      simp only [Option.map_some, Option.getD_some]
      rw [hg i]
      by_cases h1 : 1 ≤ i ∧ i ≤ losses
      · rw [if_pos h1, if_pos h1, hg (i - 1)]
      · rw [if_neg h1, if_neg h1]
    · rw [List.getElem?_eq_none (by simp only [List.length_map, List.length_range]; omega)]
      have e1 : cntR out i = 0 := by
        rw [← hg i, List.getElem?_eq_none (by omega)]; rfl
      rw [e1, Nat.zero_mul]
      by_cases h1 : 1 ≤ i ∧ i ≤ losses
      · rw [if_pos h1, ← hg (i - 1), List.getElem?_eq_none (by omega)]; rfl
      · rw [if_neg h1]; rfl

theorem sum_counts {c : List Nat} {out : List (List Int)} (hg : ∀ i, c[i]?.getD 0 = cntR out i) (hb : ∀ x ∈ out, lostN x < c.length) : c.sum = out.length := by
  have key : ∀ (out : List (List Int)) (n : Nat), (∀ x ∈ out, lostN x < n) → ((List.range n).map (cntR out)).sum = out.length := by
    intro out n
    induction out with
    | nil =>
      intro _
      have : ∀ n, ((List.range n).map (cntR [])).sum = 0 := by
        intro n
        induction n with
        | zero => rfl
        | succ n ih => rw [List.range_succ, List.map_append, List.sum_append, ih]; simp [cntR]
      exact this n
    | cons x r ih =>
      intro h
      have h0 := ih fun y hy => h y (List.mem_cons_of_mem _ hy)
      have hx := h x List.mem_cons_self
      have e : ∀ m, ((List.range m).map (cntR (x :: r))).sum = ((List.range m).map (cntR r)).sum + if lostN x < m then 1 else 0 := by
        intro m
        induction m with
        | zero => simp
        | succ m ihm =>
          rw [List.range_succ, List.map_append, List.sum_append, ihm, List.map_append, List.sum_append]
          have : cntR (x :: r) m = cntR r m + if lostN x = m then 1 else 0 := by
            unfold cntR
            rw [List.countP_cons]
            simp
          simp only [List.map_cons, List.map_nil, List.sum_cons, List.sum_nil, Nat.add_zero, this]
          by_cases h1 : lostN x < m
          · rw [if_pos h1, if_neg (by omega), if_pos (by omega)]; omega
          · by_cases h2 : lostN x = m
            · rw [if_neg h1, if_pos h2, if_pos (by omega)]; omega
            · have h3 : ¬ lostN x < m + 1 := by omega
              simp only [h1, h2, h3, if_false, Nat.add_zero]
      rw [e, h0, if_pos hx, List.length_cons]
  have hc : c = (List.range c.length).map (cntR out) := by
    apply List.ext_getElem?
    intro i
    by_cases hi : i < c.length
    · rw [List.getElem?_map, List.getElem?_range hi, Option.map_some, ← hg i, List.getElem?_eq_getElem hi]; rfl
    · rw [List.getElem?_eq_none (by omega), List.getElem?_eq_none (by simp; omega)]
  rw [hc, key out _ hb]

theorem Counts.sum {losses : Nat} {c : List Nat} {out : List (List Int)} (h : Counts losses c out) : c.sum = out.length := by
  refine sum_counts h.get fun x hx => ?_
  have : 0 < cntR out (lostN x) := List.countP_pos_iff.2 ⟨x, hx, by simp⟩
  rw [← h.get] at this
  rcases Nat.lt_or_ge (lostN x) c.length with h1 | h1
  · exact h1
  · rw [List.getElem?_eq_none h1] at this; cases this

theorem runsM_many {losses j : Nat} : ∀ (r : List Int) (out : List (List Int)), (∀ t ∈ r, 0 ≤ t ∧ t < 10000) → (∀ x ∈ out, lostN x ≤ losses) → 20000 < out.length → 20000 < (runsM losses j r out).length
  | [], out, _, _, h => h
  | t :: r, out, ht, hl, h => by
    obtain ⟨o1, o2, _⟩ := opts_ok (ht t List.mem_cons_self) j
    have h1 := flat_len (losses := losses) o2 (fun u hu => (o1 u hu).1) out hl
    have h2 := extAll_many (losses := losses) (l := opts t j ++ [-1]) out [] (by rw [List.nil_append]; omega)
    refine runsM_many r _ (fun u hu => ht u (List.mem_cons_of_mem _ hu)) ?_ h2
    have key : ∀ (out acc : List (List Int)), (∀ x ∈ acc, lostN x ≤ losses) → ∀ x ∈ extAll losses (opts t j ++ [-1]) acc out, lostN x ≤ losses := by
      intro out
      induction out with
      | nil => intro acc ha; exact ha
      | cons y r ih =>
        intro acc ha
        rw [extAll]
        split
        · refine ih _ fun x hx => ?_
          rcases List.mem_append.1 hx with hx | hx
          · exact ha x hx
          · unfold extR at hx; simpa using (List.mem_filter.1 hx).2
        · exact ha
    exact key out [] (by simp)

def runsC (losses j : Nat) : List Int → List Nat → Option Nat
  | [], c => some c.sum
  | t :: r, c => if 20000 < (nextC losses (opts t j).length c).sum then none else runsC losses j r (nextC losses (opts t j).length c)

theorem runs_same {losses j : Nat} : ∀ (r : List Int) (c : List Nat) (out : List (List Int)), (∀ t ∈ r, 0 ≤ t ∧ t < 10000) → Counts losses c out → out.length ≤ 20000 →
    (runsC losses j r c = if 20000 < (runsM losses j r out).length then none else some (runsM losses j r out).length)
  | [], c, out, _, h, hl => by
    rw [runsC, runsM, if_neg (by omega), h.sum]
  | t :: r, c, out, ht, h, hl => by
    obtain ⟨o1, o2, _⟩ := opts_ok (ht t List.mem_cons_self) j
    have hn := h.next (o := opts t j) (fun u hu => (o1 u hu).1)
    rw [runsC, runsM, hn.sum]
    by_cases h1 : 20000 < (out.flatMap (extR losses (opts t j ++ [-1]))).length
    · have h2 := extAll_many (losses := losses) (l := opts t j ++ [-1]) out [] (by simpa using h1)
      have h3 : 20000 < (runsM losses j (t :: r) out).length := by
        have hf := flat_len (losses := losses) o2 (fun u hu => (o1 u hu).1) out h.lost
        rw [runsM]
        refine runsM_many r _ (fun u hu => ht u (List.mem_cons_of_mem _ hu)) ?_ h2
        have key : ∀ (out acc : List (List Int)), (∀ x ∈ acc, lostN x ≤ losses) → ∀ x ∈ extAll losses (opts t j ++ [-1]) acc out, lostN x ≤ losses := by
          intro out
          induction out with
          | nil => intro acc ha; exact ha
          | cons y r ih =>
            intro acc ha
            rw [extAll]
            split
            · refine ih _ fun x hx => ?_
              rcases List.mem_append.1 hx with hx | hx
              · exact ha x hx
              · unfold extR at hx; simpa using (List.mem_filter.1 hx).2
            · exact ha
        exact key out [] (by simp)
      rw [runsM] at h3
      rw [if_pos h1, if_pos h3]
    · rw [if_neg h1]
      have h2 := extAll_few (losses := losses) (l := opts t j ++ [-1]) out [] (by simpa using h1)
      rw [List.nil_append] at h2
      rw [h2]
      exact runs_same r _ _ (fun u hu => ht u (List.mem_cons_of_mem _ hu)) hn (by omega)

end Go.Gm
