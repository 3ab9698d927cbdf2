import Derived.Test.YtjjcoiicikaaiaaGreatPlaceImprovesPp
set_option linter.unusedVariables false

set_option linter.unusedSimpArgs false

namespace Go.Gm

def flStep (v : Int → Int) (acc : Option (Int × Int)) (x : Int) : Option (Int × Int) :=
  match acc with
  | none => some (x, v x)
  | some (b, m) => if v x < m then some (x, v x) else some (b, m)

def firstL (v : Int → Int) (l : List Int) : Option (Int × Int) := l.foldl (flStep v) none

theorem firstL_snoc (v : Int → Int) (l : List Int) (x : Int) : firstL v (l ++ [x]) = flStep v (firstL v l) x := by
  unfold firstL; rw [List.foldl_append]; rfl

theorem snoc_ind {α : Type} {P : List α → Prop} (h0 : P []) (h1 : ∀ l x, P l → P (l ++ [x])) : ∀ l, P l := by
  intro l
  have key : ∀ n (l : List α), l.length = n → P l := by
    intro n
    induction n with
    | zero => intro l h; rw [List.eq_nil_of_length_eq_zero h]; exact h0
    | succ n ih =>
      intro l h
      have hne : l ≠ [] := fun e => by subst e; cases h
      rw [← List.dropLast_concat_getLast hne]
      refine h1 _ _ (ih _ ?_)
      rw [List.length_dropLast]; omega
  exact key _ l rfl

theorem firstL_mem {v : Int → Int} {l : List Int} {b m : Int} (h : firstL v l = some (b, m)) : b ∈ l ∧ m = v b ∧ ∀ x ∈ l, m ≤ v x := by
  revert b m
  refine snoc_ind (P := fun l => ∀ {b m : Int}, firstL v l = some (b, m) → b ∈ l ∧ m = v b ∧ ∀ x ∈ l, m ≤ v x) (by simp [firstL]) (fun l x ih => ?_) l
  intro b m h
  rw [firstL_snoc] at h
  cases hl : firstL v l with
  | none =>
    rw [hl] at h
    simp only [flStep, Option.some.injEq, Prod.mk.injEq] at h
    obtain ⟨rfl, rfl⟩ := h
    refine ⟨by simp, rfl, fun y hy => ?_⟩
    rcases List.mem_append.1 hy with hy | hy
    · have : l = [] := by
        refine Decidable.byContradiction fun hne => ?_
        have key : ∀ l : List Int, l ≠ [] → firstL v l ≠ none := by
          refine snoc_ind (fun h => absurd rfl h) fun l x ih _ => ?_
          rw [firstL_snoc]
          cases firstL v l with
          | none => simp [flStep]
          | some p => simp only [flStep]; split <;> simp
        exact key l hne hl
      subst this; cases hy
    · rw [List.mem_singleton] at hy; subst hy; omega
  | some p =>
    obtain ⟨b0, m0⟩ := p
    obtain ⟨g1, g2, g3⟩ := ih hl
    rw [hl] at h
    simp only [flStep] at h
    split at h
    · simp only [Option.some.injEq, Prod.mk.injEq] at h
      obtain ⟨rfl, rfl⟩ := h
      refine ⟨by simp, rfl, fun y hy => ?_⟩
      rcases List.mem_append.1 hy with hy | hy
      · have := g3 y hy; omega
      · rw [List.mem_singleton] at hy; subst hy; omega
    · simp only [Option.some.injEq, Prod.mk.injEq] at h
      obtain ⟨rfl, rfl⟩ := h
      refine ⟨List.mem_append_left _ g1, g2, fun y hy => ?_⟩
      rcases List.mem_append.1 hy with hy | hy
      · exact g3 y hy
      · rw [List.mem_singleton] at hy; subst hy; omega

def pickL (v : Int → Int) (c0 : Int) (l : List Int) : Option Int :=
  match firstL v l with
  | some (b, m) => if m < c0 then some b else none
  | none => none

theorem firstL_low {v : Int → Int} {c0 : Int} (l : List Int) : (∀ b m, firstL v (l.filter fun x => decide (v x < c0)) = some (b, m) → firstL v l = some (b, m)) ∧
    (firstL v (l.filter fun x => decide (v x < c0)) = none → ∀ b m, firstL v l = some (b, m) → c0 ≤ m) := by
  refine snoc_ind (P := fun l => (∀ b m, firstL v (l.filter fun x => decide (v x < c0)) = some (b, m) → firstL v l = some (b, m)) ∧
    (firstL v (l.filter fun x => decide (v x < c0)) = none → ∀ b m, firstL v l = some (b, m) → c0 ≤ m)) ⟨by simp [firstL], by simp [firstL]⟩ (fun l x ih => ?_) l
  obtain ⟨h1, h2⟩ := ih
  rw [List.filter_append]
  by_cases hx : v x < c0
  · have e : List.filter (fun x => decide (v x < c0)) [x] = [x] := by simp [hx]
    rw [e, firstL_snoc, firstL_snoc]
    cases hf : firstL v (l.filter fun x => decide (v x < c0)) with
    | some p =>
      obtain ⟨b0, m0⟩ := p
      rw [h1 _ _ hf]
      exact ⟨fun b m h => h, fun h b m h3 => by rw [h] at h3; cases h3⟩
    | none =>
      refine ⟨fun b m h => ?_, fun h => by simp [flStep] at h⟩
      simp only [flStep, Option.some.injEq, Prod.mk.injEq] at h
      obtain ⟨rfl, rfl⟩ := h
      cases hl : firstL v l with
      | none => rfl
      | some q =>
        obtain ⟨b1, m1⟩ := q
        have := h2 hf b1 m1 hl
        simp only [flStep]
        rw [if_pos (by omega)]
  · have e : List.filter (fun x => decide (v x < c0)) [x] = [] := by simp [hx]
    rw [e, List.append_nil, firstL_snoc]
    refine ⟨fun b m h => ?_, fun h b m h3 => ?_⟩
    · have hm := firstL_mem h
      have hb := (List.mem_filter.1 hm.1).2
      rw [decide_eq_true_eq] at hb
      rw [h1 _ _ h]
      simp only [flStep]
      rw [if_neg (by omega)]
    · cases hl : firstL v l with
      | none =>
        rw [hl] at h3
        simp only [flStep, Option.some.injEq, Prod.mk.injEq] at h3
        omega
      | some q =>
        obtain ⟨b1, m1⟩ := q
        have := h2 h b1 m1 hl
        rw [hl] at h3
        simp only [flStep] at h3
        split at h3
        · simp only [Option.some.injEq, Prod.mk.injEq] at h3; omega
        · simp only [Option.some.injEq, Prod.mk.injEq] at h3; omega

theorem pickL_low {v : Int → Int} {c0 : Int} (l : List Int) : pickL v c0 l = pickL v c0 (l.filter fun x => decide (v x < c0)) := by
  obtain ⟨h1, h2⟩ := firstL_low (v := v) (c0 := c0) l
  unfold pickL
  cases hf : firstL v (l.filter fun x => decide (v x < c0)) with
  | some p => obtain ⟨b, m⟩ := p; rw [h1 b m hf]
  | none =>
    cases hl : firstL v l with
    | none => rfl
    | some q =>
      obtain ⟨b, m⟩ := q
      have := h2 hf b m hl
      dsimp only
      rw [if_neg (by omega)]

def rfStep (ok : Int → Bool) (v : Int → Int) (acc : Int × Int) (x : Int) : Int × Int := if ok x = true ∧ v x < acc.2 then (x, v x) else acc

theorem rf_fold {ok : Int → Bool} {v : Int → Int} {home c0 : Int} (l : List Int) : l.foldl (rfStep ok v) (home, c0) =
    match firstL v (l.filter ok) with
    | some (b, m) => if m < c0 then (b, m) else (home, c0)
    | none => (home, c0) := by
  refine snoc_ind (P := fun l => l.foldl (rfStep ok v) (home, c0) = match firstL v (l.filter ok) with
    | some (b, m) => if m < c0 then (b, m) else (home, c0)
    | none => (home, c0)) rfl (fun l x ih => ?_) l
  rw [List.foldl_append, List.foldl_cons, List.foldl_nil, ih, List.filter_append]
  by_cases hx : ok x = true
  · have e : List.filter ok [x] = [x] := by simp [hx]
    rw [e, firstL_snoc]
    cases firstL v (l.filter ok) with
    | none =>
      simp only [flStep, rfStep, hx, true_and]
    | some p =>
      obtain ⟨b, m⟩ := p
      simp only [flStep, rfStep, hx, true_and]
      by_cases h1 : m < c0
      · rw [if_pos h1]
        by_cases h2 : v x < m
        · rw [if_pos h2, if_pos h2]; dsimp only; rw [if_pos (by omega)]
        · rw [if_neg h2, if_neg h2]; dsimp only; rw [if_pos h1]
      · rw [if_neg h1]
        by_cases h2 : v x < c0
        · rw [if_pos h2, if_pos (by omega)]; dsimp only; rw [if_pos h2]
        · rw [if_neg h2]
          by_cases h3 : v x < m
          · rw [if_pos h3]; dsimp only; rw [if_neg h2]
          · rw [if_neg h3]; dsimp only; rw [if_neg h1]
  · have e : List.filter ok [x] = [] := by simp [hx]
    rw [e, List.append_nil]
    simp only [rfStep]
    rw [if_neg (fun h => hx h.1)]

def spaceP (C : Chp) (l : List Syn) (cores : List Int) (i : Nat) (k : Int) : Prop := k ∉ C.dead ∧ (useN cores k : Int) < C.nr ∧ (useR l cores k : Int) + rowN l i ≤ C.sy

instance (C : Chp) (l : List Syn) (cores : List Int) (i : Nat) (k : Int) : Decidable (spaceP C l cores i k) := by unfold spaceP; infer_instance

def allC (C : Chp) : List Int := (List.range (nCores C)).map fun (k : Nat) => (k : Int)

def spacesM (C : Chp) (l : List Syn) (cores : List Int) (i : Nat) : List Int := (allC C).filter fun k => decide (spaceP C l cores i k)

theorem mem_allC {C : Chp} {k : Int} : k ∈ allC C ↔ 0 ≤ k ∧ k < nCores C := by
  unfold allC
  rw [List.mem_map]
  constructor
  · rintro ⟨j, hj, rfl⟩
    rw [List.mem_range] at hj
    omega
  · intro h
    exact ⟨k.toNat, List.mem_range.2 (by omega), by omega⟩

def fitsR (C : Chp) (l : List Syn) (cores : List Int) : Prop := ∀ k : Nat, k < nCores C → (useN cores k : Int) ≤ C.nr ∧ (useR l cores k : Int) ≤ C.sy ∧ ¬ (0 < useN cores k ∧ (k : Int) ∈ C.dead)

instance (C : Chp) (l : List Syn) (cores : List Int) : Decidable (fitsR C l cores) := by unfold fitsR; exact Nat.decidableBallLT _ _

structure SoFar (C : Chp) (l : List Syn) (cores : List Int) : Prop where
  core : ∀ k ∈ cores, (0 ≤ k ∧ k < nCores C) ∧ k ∉ C.dead
  fits : fitsA C l cores

theorem useN_pos {cores : List Int} {k : Int} : 0 < useN cores k ↔ k ∈ cores := by
  unfold useN
  rw [List.countP_pos_iff]
  constructor
  · rintro ⟨a, ha, h⟩
    rw [decide_eq_true_eq] at h
    subst h; exact ha
  · intro h; exact ⟨k, h, by simp⟩

theorem SoFar.fitsR {C : Chp} {l : List Syn} {cores : List Int} (h : SoFar C l cores) : fitsR C l cores := fun k hk =>
  ⟨(h.fits k hk).1, (h.fits k hk).2, fun ⟨h1, h2⟩ => (h.core k (useN_pos.1 h1)).2 h2⟩

theorem soFar_of {C : Chp} {l : List Syn} {cores : List Int} (hr : ∀ k ∈ cores, 0 ≤ k ∧ k < nCores C) (h : Gm.fitsR C l cores) : SoFar C l cores :=
  ⟨fun k hk => ⟨hr k hk, fun hd => by
    obtain ⟨h1, h2⟩ := hr k hk
    obtain ⟨j, rfl⟩ : ∃ j : Nat, k = j := ⟨k.toNat, by omega⟩
    exact (h j (by omega)).2.2 ⟨useN_pos.2 hk, hd⟩⟩, fun k hk => ⟨(h k hk).1, (h k hk).2.1⟩⟩

theorem fits_snoc {C : Chp} {l : List Syn} {cores : List Int} (h : SoFar C l cores) {k : Int} (hk : 0 ≤ k ∧ k < nCores C) : Gm.fitsR C l (cores ++ [k]) ↔ spaceP C l cores cores.length k := by
  constructor
  · intro hf
    obtain ⟨j, rfl⟩ : ∃ j : Nat, k = j := ⟨k.toNat, by omega⟩
    obtain ⟨h1, h2, h3⟩ := hf j (by omega)
    rw [useN_snoc, if_pos rfl] at h1 h3
    rw [useR_snoc, if_pos rfl] at h2
    exact ⟨fun hd => h3 ⟨by omega, hd⟩, by omega, by omega⟩
  · rintro ⟨h1, h2, h3⟩ j hj
    have hf := h.fitsR j hj
    rw [useN_snoc, useR_snoc]
    by_cases e : k = (j : Int)
    · rw [if_pos e, if_pos e]
      subst e
      exact ⟨by omega, by omega, fun hh => h1 hh.2⟩
    · rw [if_neg e, if_neg e]
      exact hf

theorem SoFar.snoc {C : Chp} {l : List Syn} {cores : List Int} (h : SoFar C l cores) {k : Int} (hk : 0 ≤ k ∧ k < nCores C) (hs : spaceP C l cores cores.length k) : SoFar C l (cores ++ [k]) := by
  refine soFar_of (fun x hx => ?_) ((fits_snoc h hk).2 hs)
  rcases List.mem_append.1 hx with hx | hx
  · exact (h.core x hx).1
  · rw [List.mem_singleton] at hx; subst hx; exact hk

def near1 (i : Int) (cores : List Int) (k : Int) (s : Syn) : Prop := (s.frm = i ∧ (0 ≤ s.to ∧ s.to < cores.length) ∧ cores[s.to.toNat]? = some k) ∨ (s.to = i ∧ (0 ≤ s.frm ∧ s.frm < cores.length) ∧ cores[s.frm.toNat]? = some k)

instance (i : Int) (cores : List Int) (k : Int) (s : Syn) : Decidable (near1 i cores k s) := by unfold near1; infer_instance

def affM (l : List Syn) (i : Int) (cores : List Int) (k : Int) : Nat := l.countP fun s => decide (near1 i cores k s)

def stepP (C : Chp) (l : List Syn) (cores : List Int) : Option (Int × Int) := firstL (fun k => -(affM l cores.length cores k : Int)) (spacesM C l cores cores.length)

def placeF (C : Chp) (l : List Syn) : Nat → List Int → Option (List Int)
  | 0, cores => some cores
  | n + 1, cores => match stepP C l cores with
    | none => none
    | some (k, _) => placeF C l n (cores ++ [k])

def placeR (N : Net) (C : Chp) : List Int × Int :=
  if planE N C ≠ 0 then ([], planE N C) else match placeF C N.syns N.ps.length [] with
    | none => ([], 15)
    | some c => (c, 0)

theorem stepP_space {C : Chp} {l : List Syn} {cores : List Int} {k m : Int} (h : stepP C l cores = some (k, m)) : (0 ≤ k ∧ k < nCores C) ∧ spaceP C l cores cores.length k := by
  obtain ⟨h1, h2, h3⟩ := firstL_mem h
  obtain ⟨h4, h5⟩ := List.mem_filter.1 h1
  exact ⟨mem_allC.1 h4, of_decide_eq_true h5⟩

theorem SoFar.nil {C : Chp} {l : List Syn} (h : ChpOk C) : SoFar C l [] := by
  refine ⟨by simp, fun k hk => ?_⟩
  have e1 : useN [] (k : Int) = 0 := rfl
  have e2 : useR l [] (k : Int) = 0 := by
    unfold useR
    rw [List.countP_eq_zero]
    simp
  have := h.nr
  have := h.sy
  omega

def aroundM (N : Net) (C : Chp) (cores : List Int) (i : Nat) : Nat :=
  (if tgtM N N.syns i = [] then 0 else linksM (srcTree N C cores i)) + (((frmM N N.syns i).filter fun key => decide (key ≠ (i : Int))).map fun key => linksM (srcTree N C cores key)).sum

def impStep (N : Net) (C : Chp) (cores : List Int) (i : Nat) : List Int :=
  match pickL (fun k => (aroundM N C (cores.set i k) i : Int)) (aroundM N C cores i) (spacesM C N.syns cores i) with
  | some k => cores.set i k
  | none => cores

def impRound (N : Net) (C : Chp) (cores : List Int) : List Int := (List.range N.ps.length).foldl (impStep N C) cores

def impM (N : Net) (C : Chp) : Nat → List Int → List Int
  | 0, cores => cores
  | n + 1, cores => impM N C n (impRound N C cores)

def impR (N : Net) (C : Chp) (cores : List Int) (rounds : Int) : List Int × Int :=
  if asgE N C cores ≠ 0 then ([], asgE N C cores) else if ¬ (0 ≤ rounds ∧ rounds ≤ 16) then ([], 3) else (impM N C rounds.toNat cores, 0)

def hangs (N : Net) (i key : Int) : Prop := key = i ∨ ∃ s ∈ N.syns, keyM N s.frm = key ∧ s.to = i

instance (N : Net) (i key : Int) : Decidable (hangs N i key) := by unfold hangs; infer_instance

theorem tree_apart {N : Net} {C : Chp} {cores : List Int} {i : Nat} {k key : Int} (hkey : 0 ≤ key) (hto : ∀ s ∈ N.syns, 0 ≤ s.to) (h : ¬ hangs N i key) : srcTree N C (cores.set i k) key = srcTree N C cores key := by
  have h1 : key ≠ (i : Int) := fun e => h (.inl e)
  have h2 : ∀ s ∈ N.syns, keyM N s.frm = key → s.to ≠ (i : Int) := fun s hs e e2 => h (.inr ⟨s, hs, e, e2⟩)
  unfold srcTree
  have e1 : homeM N (cores.set i k) key = homeM N cores key := by
    unfold homeM
    split
    · rw [List.getElem?_set_ne (by omega)]
    · rfl
  have e2 : coresM N C (cores.set i k) key = coresM N C cores key := by
    unfold coresM
    refine List.filter_congr fun x hx => ?_
    have : (∃ s ∈ N.syns, keyM N s.frm = key ∧ (cores.set i k)[s.to.toNat]? = some x) ↔ (∃ s ∈ N.syns, keyM N s.frm = key ∧ cores[s.to.toNat]? = some x) := by
      constructor
      · rintro ⟨s, hs, g1, g2⟩
        have := h2 s hs g1
        have := hto s hs
        rw [List.getElem?_set_ne (by omega)] at g2
        exact ⟨s, hs, g1, g2⟩
      · rintro ⟨s, hs, g1, g2⟩
        have := h2 s hs g1
        have := hto s hs
        exact ⟨s, hs, g1, by rw [List.getElem?_set_ne (by omega)]; exact g2⟩
    simp only [this]
  rw [e1, e2]

theorem keysM_nodup (N : Net) : (keysM N).Nodup := by
  unfold keysM
  refine List.Pairwise.filter _ ?_
  rw [List.pairwise_map]
  exact List.nodup_range.imp fun h e => h (by omega)

theorem mem_keysM {N : Net} {k : Int} : k ∈ keysM N ↔ (0 ≤ k ∧ k < nSrc N) ∧ ∃ s ∈ N.syns, keyM N s.frm = k := by
  unfold keysM
  rw [List.mem_filter, decide_eq_true_eq, List.mem_map]
  constructor
  · rintro ⟨⟨j, hj, rfl⟩, h⟩
    rw [List.mem_range] at hj
    exact ⟨by omega, h⟩
  · rintro ⟨h1, h2⟩
    exact ⟨⟨k.toNat, List.mem_range.2 (by omega), by omega⟩, h2⟩

theorem sum_split {α : Type} (p : α → Bool) (f : α → Nat) : ∀ l : List α, (l.map f).sum = ((l.filter p).map f).sum + ((l.filter fun x => !p x).map f).sum
  | [] => rfl
  | x :: l => by
    have := sum_split p f l
    rw [List.map_cons, List.sum_cons, List.filter_cons, List.filter_cons]
    cases hp : p x with
    | true => simp; omega
    | false => simp; omega

def restM (N : Net) (C : Chp) (cores : List Int) (i : Nat) : Nat := (((keysM N).filter fun key => !decide (hangs N i key)).map fun key => linksM (srcTree N C cores key)).sum

theorem cost_split {N : Net} {C : Chp} (hN : NetOk N) (cores : List Int) {i : Nat} (hi : i < N.ps.length) : costM N C cores = aroundM N C cores i + restM N C cores i := by
  unfold costM restM
  rw [sum_split (fun key => decide (hangs N i key))]
  congr 1
  unfold aroundM
  have e : (keysM N).filter (fun key => decide (hangs N i key)) |>.Perm ((if tgtM N N.syns i = [] then [] else [(i : Int)]) ++ (frmM N N.syns i).filter fun key => decide (key ≠ (i : Int))) := by
    refine (List.perm_ext_iff_of_nodup (List.Pairwise.filter _ (keysM_nodup N)) ?_).2 fun k => ?_
    · refine List.nodup_append.2 ⟨by split <;> simp, List.Pairwise.filter _ (frm_nodup _ _ List.nodup_nil), ?_⟩
      intro a ha b hb e
      rw [List.mem_filter, decide_eq_true_eq] at hb
      split at ha
      · cases ha
      · rw [List.mem_singleton] at ha
        exact hb.2 (e ▸ ha)
    · rw [List.mem_filter, decide_eq_true_eq, mem_keysM, List.mem_append, List.mem_filter, decide_eq_true_eq, mem_frmM]
      have ht : (k ∈ if tgtM N N.syns (i : Int) = [] then [] else [(i : Int)]) ↔ k = i ∧ ∃ s ∈ N.syns, keyM N s.frm = i := by
        by_cases h : tgtM N N.syns (i : Int) = []
        · rw [if_pos h]
          constructor
          · intro h; cases h
          · rintro ⟨_, s, hs, hk⟩
            have : s.to ∈ tgtM N N.syns (i : Int) := mem_tgtM.2 ⟨s, hs, hk, rfl⟩
            rw [h] at this; cases this
        · rw [if_neg h, List.mem_singleton]
          constructor
          · rintro rfl
            refine ⟨rfl, ?_⟩
            obtain ⟨t, ht⟩ := List.exists_mem_of_ne_nil _ h
            obtain ⟨s, hs, hk, _⟩ := mem_tgtM.1 ht
            exact ⟨s, hs, hk⟩
          · exact fun h => h.1
      rw [ht]
      unfold hangs
      constructor
      · rintro ⟨⟨hr, s, hs, hk⟩, h | ⟨u, hu, h1, h2⟩⟩
        · exact .inl ⟨h, s, hs, by rw [hk, h]⟩
        · by_cases hki : k = i
          · exact .inl ⟨hki, s, hs, by rw [hk, hki]⟩
          · exact .inr ⟨⟨u, hu, h2, h1⟩, hki⟩
      · rintro (⟨h, s, hs, hk⟩ | ⟨⟨u, hu, h1, h2⟩, hne⟩)
        · have := key_range hN hs
          exact ⟨⟨by omega, s, hs, by omega⟩, .inl h⟩
        · have := key_range hN hu
          exact ⟨⟨by omega, u, hu, h2⟩, .inr ⟨u, hu, h2, h1⟩⟩
  rw [(e.map fun key => linksM (srcTree N C cores key)).sum_nat, List.map_append, List.sum_append]
  congr 1
  split <;> simp

theorem rest_same {N : Net} {C : Chp} (hN : NetOk N) (cores : List Int) (i : Nat) (k : Int) : restM N C (cores.set i k) i = restM N C cores i := by
  unfold restM
  congr 1
  refine List.map_congr_left fun key hk => ?_
  rw [List.mem_filter, mem_keysM] at hk
  rw [tree_apart hk.1.1.1 (fun s hs => (hN.syns s hs).2.1.1) (by simpa using hk.2)]

theorem cost_set {N : Net} {C : Chp} (hN : NetOk N) (cores : List Int) {i : Nat} (hi : i < N.ps.length) (k : Int) : (costM N C (cores.set i k) : Int) = aroundM N C (cores.set i k) i + restM N C cores i := by
  rw [cost_split hN (cores.set i k) hi, rest_same hN]
  omega

end Go.Gm
