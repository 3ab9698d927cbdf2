import Derived.Test.YtjjcoiicikaaiaaGreatPlaceAlonePb
set_option linter.unusedVariables false

set_option linter.unusedSimpArgs false

namespace Go.Gm

theorem useN_set {cores : List Int} {i : Nat} {home : Int} (h : cores[i]? = some home) (k j : Int) : useN (cores.set i k) j + (if home = j then 1 else 0) = useN cores j + (if k = j then 1 else 0) := by
  obtain ⟨hlt, hh⟩ := List.getElem?_eq_some_iff.1 h
  have e1 : cores = cores.take i ++ home :: cores.drop (i + 1) := by rw [← hh, ← List.drop_eq_getElem_cons hlt, List.take_append_drop]
  have e2 : cores.set i k = cores.take i ++ k :: cores.drop (i + 1) := List.set_eq_take_append_cons_drop .. ▸ by rw [if_pos hlt]
  rw [e2]
  conv => rhs; rw [e1]
  unfold useN
  rw [List.countP_append, List.countP_append, List.countP_cons, List.countP_cons]
  simp only [decide_eq_true_eq]
  omega

theorem useR_set {l : List Syn} {cores : List Int} {i : Nat} {home : Int} (h : cores[i]? = some home) (k j : Int) : useR l (cores.set i k) j + (if home = j then rowN l i else 0) = useR l cores j + (if k = j then rowN l i else 0) := by
  obtain ⟨hlt, _⟩ := List.getElem?_eq_some_iff.1 h
  unfold useR rowN
  induction l with
  | nil => simp
  | cons s l ih =>
    rw [List.countP_cons, List.countP_cons, List.countP_cons]
    simp only [decide_eq_true_eq]
    by_cases hs : s.to = (i : Int)
    · have e : s.to.toNat = i := by omega
      rw [e, List.getElem?_set_self hlt, h, if_pos hs]
      simp only [Option.some.injEq]
      have h0 : 0 ≤ s.to := by omega
      simp only [h0, true_and]
      split <;> split <;> simp_all <;> omega
    · rw [if_neg hs, Nat.add_zero]
      by_cases h0 : 0 ≤ s.to
      · rw [List.getElem?_set_ne (by omega)]
        omega
      · simp only [h0, false_and, if_false]
        omega

theorem fits_set {C : Chp} {l : List Syn} {cores : List Int} (h : SoFar C l cores) {i : Nat} {home k : Int} (hi : cores[i]? = some home) (hk : 0 ≤ k ∧ k < nCores C) (hne : k ≠ home) : Gm.fitsR C l (cores.set i k) ↔ spaceP C l cores i k := by
  constructor
  · intro hf
    obtain ⟨j, rfl⟩ : ∃ j : Nat, k = j := ⟨k.toNat, by omega⟩
    obtain ⟨h1, h2, h3⟩ := hf j (by omega)
    have e1 := useN_set hi (j : Int) (j : Int)
    have e2 := useR_set (l := l) hi (j : Int) (j : Int)
    rw [if_pos rfl, if_neg (Ne.symm hne)] at e1 e2
    exact ⟨fun hd => h3 ⟨by omega, hd⟩, by omega, by omega⟩
  · rintro ⟨h1, h2, h3⟩ j hj
    obtain ⟨f1, f2, f3⟩ := h.fitsR j hj
    have e1 := useN_set hi k (j : Int)
    have e2 := useR_set (l := l) hi k (j : Int)
    by_cases e : k = (j : Int)
    · have hh : ¬ home = (j : Int) := fun e3 => hne (by rw [e, e3])
      rw [if_pos e, if_neg hh] at e1 e2
      subst e
      exact ⟨by omega, by omega, fun hh => h1 hh.2⟩
    · rw [if_neg e] at e1 e2
      refine ⟨by omega, by omega, fun hh => f3 ⟨by omega, hh.2⟩⟩

theorem set_self {cores : List Int} {i : Nat} {home : Int} (h : cores[i]? = some home) : cores.set i home = cores := by
  obtain ⟨hlt, rfl⟩ := List.getElem?_eq_some_iff.1 h
  exact List.set_getElem_self hlt

theorem AsgOk.soFar {N : Net} {C : Chp} {cores : List Int} (h : AsgOk N C cores) : SoFar C N.syns cores :=
  ⟨fun k hk => by have h1 := h.core k hk; have := (nCores_ok h.plan.chip).1; exact ⟨by omega, h1.2⟩, h.fits⟩

theorem asg_of {N : Net} {C : Chp} {cores : List Int} (hp : PlanOk N C) (hl : cores.length = N.ps.length) (h : SoFar C N.syns cores) : AsgOk N C cores :=
  ⟨hp, hl, fun k hk => by have h1 := h.core k hk; have := (nCores_ok hp.chip).1; exact ⟨by omega, h1.2⟩, h.fits⟩

theorem pickL_shift {v u : Int → Int} {c0 d0 r : Int} (hc : c0 = d0 + r) (hv : ∀ k, v k = u k + r) (l : List Int) : pickL v c0 l = pickL u d0 l := by
  have key : ∀ l, firstL v l = (firstL u l).map fun p => (p.1, p.2 + r) := by
    refine snoc_ind rfl fun l x ih => ?_
    rw [firstL_snoc, firstL_snoc, ih]
    cases firstL u l with
    | none => simp only [flStep, Option.map_none, Option.map_some, hv]
    | some p =>
      obtain ⟨b, m⟩ := p
      simp only [flStep, Option.map_some, hv]
      by_cases h : u x < m
      · rw [if_pos (by omega), if_pos h]; rfl
      · rw [if_neg (by omega), if_neg h]; rfl
  unfold pickL
  rw [key]
  cases firstL u l with
  | none => rfl
  | some p =>
    obtain ⟨b, m⟩ := p
    simp only [Option.map_some]
    by_cases h : m < d0
    · rw [if_pos (by omega), if_pos h]
    · rw [if_neg (by omega), if_neg h]

theorem impStep_cost {N : Net} {C : Chp} {cores : List Int} (h : AsgOk N C cores) {i : Nat} (hi : i < N.ps.length) :
    impStep N C cores i = match pickL (fun k => (costM N C (cores.set i k) : Int)) (costM N C cores) (spacesM C N.syns cores i) with
      | some k => cores.set i k
      | none => cores := by
  unfold impStep
  rw [pickL_shift (v := fun k => (costM N C (cores.set i k) : Int)) (u := fun k => (aroundM N C (cores.set i k) i : Int)) (r := restM N C cores i) (c0 := costM N C cores) (d0 := aroundM N C cores i)
    (by have := cost_split (C := C) h.plan.net cores hi; omega) (fun k => cost_set h.plan.net cores hi k)]
  cases pickL (fun k => (aroundM N C (cores.set i k) i : Int)) (aroundM N C cores i) (spacesM C N.syns cores i) <;> rfl

theorem pickL_mem {v : Int → Int} {c0 : Int} {l : List Int} {b : Int} (h : pickL v c0 l = some b) : b ∈ l ∧ v b < c0 ∧ ∀ x ∈ l, v b ≤ v x := by
  unfold pickL at h
  cases hf : firstL v l with
  | none => rw [hf] at h; cases h
  | some p =>
    obtain ⟨b0, m⟩ := p
    rw [hf] at h
    dsimp only at h
    split at h
    · simp only [Option.some.injEq] at h
      subst h
      obtain ⟨h1, h2, h3⟩ := firstL_mem hf
      exact ⟨h1, by omega, fun x hx => by have := h3 x hx; omega⟩
    · cases h

theorem pickL_none {v : Int → Int} {c0 : Int} {l : List Int} (h : pickL v c0 l = none) : ∀ x ∈ l, c0 ≤ v x := by
  intro x hx
  unfold pickL at h
  cases hf : firstL v l with
  | none => rw [firstL_none.1 hf] at hx; cases hx
  | some p =>
    obtain ⟨b, m⟩ := p
    rw [hf] at h
    dsimp only at h
    split at h
    · cases h
    · have := (firstL_mem hf).2.2 x hx
      omega

theorem impStep_ok {N : Net} {C : Chp} {cores : List Int} (h : AsgOk N C cores) {i : Nat} (hi : i < N.ps.length) : AsgOk N C (impStep N C cores i) ∧ costM N C (impStep N C cores i) ≤ costM N C cores := by
  rw [impStep_cost h hi]
  cases hp : pickL (fun k => (costM N C (cores.set i k) : Int)) (costM N C cores) (spacesM C N.syns cores i) with
  | none => exact ⟨h, Nat.le_refl _⟩
  | some k =>
    obtain ⟨h1, h2, _⟩ := pickL_mem hp
    dsimp only at h2 ⊢
    obtain ⟨g1, g2⟩ := List.mem_filter.1 h1
    have g3 := mem_allC.1 g1
    have g4 := of_decide_eq_true g2
    have hlt : i < cores.length := by have := h.len; omega
    have hi2 : cores[i]? = some cores[i] := List.getElem?_eq_getElem hlt
    by_cases hne : k = cores[i]
    · rw [hne, set_self hi2] at h2
      omega
    · have hf := (fits_set h.soFar hi2 g3 hne).2 g4
      refine ⟨asg_of h.plan (by rw [List.length_set]; exact h.len) (soFar_of (fun x hx => ?_) hf), by omega⟩
      rcases List.mem_or_eq_of_mem_set hx with hx | rfl
      · exact (h.soFar.core x hx).1
      · exact g3

theorem foldI_ok {N : Net} {C : Chp} : ∀ (l : List Nat) {cores : List Int}, (∀ i ∈ l, i < N.ps.length) → AsgOk N C cores → AsgOk N C (l.foldl (impStep N C) cores) ∧ costM N C (l.foldl (impStep N C) cores) ≤ costM N C cores
  | [], cores, _, h => ⟨h, Nat.le_refl _⟩
  | i :: l, cores, hl, h => by
    obtain ⟨h1, h2⟩ := impStep_ok h (hl i List.mem_cons_self)
    obtain ⟨h3, h4⟩ := foldI_ok l (fun j hj => hl j (List.mem_cons_of_mem _ hj)) h1
    exact ⟨h3, Nat.le_trans h4 h2⟩

theorem impRound_ok {N : Net} {C : Chp} {cores : List Int} (h : AsgOk N C cores) : AsgOk N C (impRound N C cores) ∧ costM N C (impRound N C cores) ≤ costM N C cores :=
  foldI_ok _ (fun i hi => List.mem_range.1 hi) h

theorem impM_ok {N : Net} {C : Chp} : ∀ (n : Nat) {cores : List Int}, AsgOk N C cores → AsgOk N C (impM N C n cores) ∧ costM N C (impM N C n cores) ≤ costM N C cores
  | 0, _, h => ⟨h, Nat.le_refl _⟩
  | n + 1, cores, h => by
    obtain ⟨h1, h2⟩ := impRound_ok h
    obtain ⟨h3, h4⟩ := impM_ok n h1
    exact ⟨h3, Nat.le_trans h4 h2⟩

theorem foldI_get {N : Net} {C : Chp} : ∀ (l : List Nat) {cores : List Int} {j : Nat}, j ∉ l → (l.foldl (impStep N C) cores)[j]? = cores[j]?
  | [], _, _, _ => rfl
  | i :: l, cores, j, hj => by
    rw [List.foldl_cons, foldI_get l (fun h => hj (List.mem_cons_of_mem _ h))]
    unfold impStep
    split
    · rw [List.getElem?_set_ne (fun e => hj (by rw [e]; exact List.mem_cons_self))]
    · rfl

theorem foldI_same {N : Net} {C : Chp} : ∀ (l : List Nat) {cores : List Int}, l.Nodup → l.foldl (impStep N C) cores = cores → ∀ i ∈ l, impStep N C cores i = cores
  | [], _, _, _, i, hi => by cases hi
  | i :: l, cores, hn, h, j, hj => by
    obtain ⟨h1, h2⟩ := List.nodup_cons.1 hn
    rw [List.foldl_cons] at h
    have hstep : impStep N C cores i = cores := by
      refine List.ext_getElem? fun k => ?_
      by_cases hk : k = i
      · subst hk
        have := foldI_get (N := N) (C := C) l (cores := impStep N C cores k) h1
        rw [h] at this
        exact this.symm
      · have := foldI_get (N := N) (C := C) [i] (cores := cores) (j := k) (by simpa using hk)
        exact this
    rw [hstep] at h
    rcases List.mem_cons.1 hj with rfl | hj
    · exact hstep
    · exact foldI_same l h2 h j hj

theorem round_alone {N : Net} {C : Chp} {cores : List Int} (h : AsgOk N C cores) (hr : impRound N C cores = cores) {i : Nat} (hi : i < N.ps.length) {k : Int} (hm : AsgOk N C (cores.set i k)) : costM N C cores ≤ costM N C (cores.set i k) := by
  have hs := foldI_same (N := N) (C := C) (List.range N.ps.length) List.nodup_range hr i (List.mem_range.2 hi)
  have hlt : i < cores.length := by have := h.len; omega
  have hh : cores[i]? = some cores[i] := List.getElem?_eq_getElem hlt
  by_cases hne : k = cores[i]
  · rw [hne, set_self hh]; exact Nat.le_refl _
  have hk : 0 ≤ k ∧ k < nCores C := by
    have := (hm.core k (List.mem_set hlt k)).1
    have := (nCores_ok h.plan.chip).1
    omega
  have hsp := (fits_set h.soFar hh hk hne).1 hm.soFar.fitsR
  rw [impStep_cost h hi] at hs
  cases hp : pickL (fun k => (costM N C (cores.set i k) : Int)) (costM N C cores) (spacesM C N.syns cores i) with
  | none =>
    have := pickL_none hp k (List.mem_filter.2 ⟨mem_allC.2 hk, decide_eq_true hsp⟩)
    omega
  | some b =>
    obtain ⟨_, h2, _⟩ := pickL_mem hp
    rw [hp] at hs
    dsimp only at hs h2
    rw [hs] at h2
    omega

end Go.Gm
