import Derived.Test.YtephkjicokbckaaGreatDoorVerifyDisturbedHh
import Derived.Test.YtephkjicokbckaaGreatDoorVerifyDisturbedVRobusts
section
set_option linter.unusedVariables false

set_option linter.unusedSimpArgs false

namespace Go.Gm

theorem mem_optK {tick o : Int} {k : Nat} : o ∈ optK tick k ↔ (o = tick - k ∧ 0 ≤ o) ∨ (o = tick + k ∧ o < 10000) := by
  unfold optK
  rw [List.mem_append]
  split <;> split <;> simp only [List.mem_singleton, List.not_mem_nil, false_or, or_false, or_self, false_iff] <;> omega

theorem mem_opts {tick : Int} (ht : 0 ≤ tick ∧ tick < 10000) {o : Int} : ∀ {J : Nat}, o ∈ opts tick J ↔ (0 ≤ o ∧ o < 10000) ∧ (o - tick ≤ J ∧ tick - o ≤ J)
  | 0 => by
    simp only [opts, List.mem_singleton]
    omega
  | J + 1 => by
    rw [opts, List.mem_append, mem_opts ht, mem_optK]
    omega

def OptL (J : Nat) : List Int → List Int → Prop
  | [], [] => True
  | t :: T, o :: y => (o ∈ opts t J ∨ o = -1) ∧ OptL J T y
  | [], _ :: _ => False
  | _ :: _, [] => False

theorem OptL.len {J : Nat} : ∀ {T y : List Int}, OptL J T y → y.length = T.length
  | [], [], _ => rfl
  | t :: T, o :: y, h => by have := OptL.len h.2; simp only [List.length_cons]; omega
  | [], _ :: _, h => h.elim
  | _ :: _, [], h => h.elim

theorem OptL.snoc {J : Nat} {t o : Int} (ho : o ∈ opts t J ∨ o = -1) : ∀ {T y : List Int}, OptL J T y → OptL J (T ++ [t]) (y ++ [o])
  | [], [], _ => ⟨ho, trivial⟩
  | _ :: T, _ :: y, h => ⟨h.1, OptL.snoc ho h.2⟩
  | [], _ :: _, h => h.elim
  | _ :: _, [], h => h.elim

theorem OptL.get {J : Nat} : ∀ {T y : List Int} {k : Nat} {t : Int}, OptL J T y → T[k]? = some t → ∃ o, y[k]? = some o ∧ (o ∈ opts t J ∨ o = -1)
  | [], _, _, _, _, h => by simp at h
  | t :: T, o :: y, 0, u, h, hk => by
    simp only [List.getElem?_cons_zero, Option.some.injEq] at hk
    subst hk
    exact ⟨o, rfl, h.1⟩
  | t :: T, o :: y, k + 1, u, h, hk => OptL.get (k := k) h.2 (by simpa using hk)
  | _ :: _, [], _, _, h, _ => h.elim

theorem lostN_cons (o : Int) (y : List Int) : lostN (o :: y) = lostN y + if o < 0 then 1 else 0 := by
  unfold lostN
  rw [List.countP_cons]
  by_cases h : o < 0 <;> simp [h]

theorem mem_dfsO {R : Nat → List (List Int)} {L : Nat} {y : List Int} : ∀ {O : List Int}, y ∈ dfsO R L O ↔ ∃ o z, o ∈ O ∧ y = o :: z ∧ (if o < 0 then 0 < L ∧ z ∈ R (L - 1) else z ∈ R L)
  | [] => by simp [dfsO]
  | o :: O => by
    have e2 : dfsO R L (o :: O) = (if o < 0 then (if L = 0 then [] else (R (L - 1)).map (o :: ·)) else (R L).map (o :: ·)) ++ dfsO R L O := by
      unfold dfsO; rw [List.flatMap_cons]
    rw [e2, List.mem_append, mem_dfsO]
    constructor
    · rintro (h | ⟨o2, z, h1, h2, h3⟩)
      · by_cases ho : o < 0
        · rw [if_pos ho] at h
          by_cases hL : L = 0
          · rw [if_pos hL] at h; cases h
          · rw [if_neg hL] at h
            obtain ⟨z, hz, rfl⟩ := List.mem_map.1 h
            exact ⟨o, z, List.mem_cons_self, rfl, by rw [if_pos ho]; exact ⟨by omega, hz⟩⟩
        · rw [if_neg ho] at h
          obtain ⟨z, hz, rfl⟩ := List.mem_map.1 h
          exact ⟨o, z, List.mem_cons_self, rfl, by rw [if_neg ho]; exact hz⟩
      · exact ⟨o2, z, List.mem_cons_of_mem _ h1, h2, h3⟩
    · rintro ⟨o2, z, h1, rfl, h3⟩
      rcases List.mem_cons.1 h1 with rfl | h1
      · refine .inl ?_
        by_cases ho : o2 < 0
        · rw [if_pos ho] at h3 ⊢
          rw [if_neg (by omega)]
          exact List.mem_map_of_mem h3.2
        · rw [if_neg ho] at h3 ⊢
          exact List.mem_map_of_mem h3
      · exact .inr ⟨o2, z, h1, rfl, h3⟩

theorem mem_dfs {J : Nat} : ∀ {T : List Int} {L : Nat} {y : List Int}, (∀ t ∈ T, 0 ≤ t ∧ t < 10000) → (y ∈ dfs J T L ↔ OptL J T y ∧ lostN y ≤ L)
  | [], L, y, _ => by
    simp only [dfs, List.mem_singleton]
    cases y with
    | nil => simp [OptL, lostN]
    | cons o y => simp [OptL]
  | t :: T, L, y, hT => by
    have ih := fun L y => mem_dfs (J := J) (T := T) (L := L) (y := y) fun u hu => hT u (List.mem_cons_of_mem _ hu)
    have ht := hT t List.mem_cons_self
    rw [dfs, mem_dfsO]
    constructor
    · rintro ⟨o, z, h1, rfl, h3⟩
      rw [List.mem_append, List.mem_singleton] at h1
      rw [lostN_cons]
      by_cases ho : o < 0
      · rw [if_pos ho] at h3 ⊢
        obtain ⟨h3, h4⟩ := h3
        rw [ih] at h4
        exact ⟨⟨h1, h4.1⟩, by omega⟩
      · rw [if_neg ho] at h3 ⊢
        rw [ih] at h3
        exact ⟨⟨h1, h3.1⟩, by omega⟩
    · rintro ⟨h1, h2⟩
      cases y with
      | nil => exact h1.elim
      | cons o z =>
        rw [lostN_cons] at h2
        refine ⟨o, z, List.mem_append.2 (h1.1.imp id fun h => List.mem_singleton.2 h), rfl, ?_⟩
        by_cases ho : o < 0
        · rw [if_pos ho] at h2 ⊢
          exact ⟨by omega, (ih _ _).2 ⟨h1.2, by omega⟩⟩
        · rw [if_neg ho] at h2 ⊢
          exact (ih _ _).2 ⟨h1.2, by omega⟩

theorem kept_snoc {e : Evt} {t : Int} : ∀ {l : List Evt} {y : List Int}, y.length = l.length → kept (l ++ [e]) (y ++ [t]) = kept l y ++ if t < 0 then [] else [⟨t, e.id⟩]
  | [], [], _ => by simp [kept]
  | a :: l, b :: y, h => by
    have := kept_snoc (e := e) (t := t) (l := l) (y := y) (by simpa using h)
    simp only [List.cons_append, kept, this, List.append_assoc]
  | [], _ :: _, h => by simp at h
  | _ :: _, [], h => by simp at h

theorem kept_len : ∀ (l : List Evt) (x : List Int), (kept l x).length ≤ l.length
  | [], x => by simp [kept]
  | a :: l, [] => by simp [kept]
  | a :: l, b :: x => by
    have := kept_len l x
    simp only [kept, List.length_append, List.length_cons]
    split <;> simp <;> omega

theorem mem_kept {x : Evt} : ∀ {l : List Evt} {y : List Int}, x ∈ kept l y ↔ ∃ (k : Nat) (e : Evt) (o : Int), l[k]? = some e ∧ y[k]? = some o ∧ 0 ≤ o ∧ x = ⟨o, e.id⟩
  | [], y => by simp [kept]
  | a :: l, [] => by simp [kept]
  | a :: l, b :: y => by
    simp only [kept, List.mem_append]
    rw [mem_kept]
    constructor
    · rintro (h | ⟨k, e, o, h1, h2, h3⟩)
      · split at h
        · cases h
        · rw [List.mem_singleton] at h
          exact ⟨0, a, b, rfl, rfl, by omega, h⟩
      · exact ⟨k + 1, e, o, by simpa using h1, by simpa using h2, h3⟩
    · rintro ⟨k, e, o, h1, h2, h3, h4⟩
      cases k with
      | zero =>
        simp only [List.getElem?_cons_zero, Option.some.injEq] at h1 h2
        subst h1; subst h2
        rw [if_neg (by omega)]
        exact .inl (List.mem_singleton.2 h4)
      | succ k => exact .inr ⟨k, e, o, by simpa using h1, by simpa using h2, h3, h4⟩

def nearE (J : Int) (x e : Evt) : Prop := x.id = e.id ∧ x.tick - e.tick ≤ J ∧ x.tick - e.tick ≥ -J

instance (J : Int) (x e : Evt) : Decidable (nearE J x e) := by unfold nearE; infer_instance

theorem near_of {l : List Evt} {J : Nat} {y : List Int} (hl : ∀ e ∈ l, 0 ≤ e.tick ∧ e.tick < 10000) (h : OptL J (l.map (·.tick)) y) :
    (∀ x ∈ sortU (kept l y), ∃ e ∈ l, nearE J x e) ∧ ∀ (k : Nat) (e : Evt) (o : Int), l[k]? = some e → y[k]? = some o → 0 ≤ o → ∃ x ∈ sortU (kept l y), nearE J x e := by
  have hop : ∀ (k : Nat) (e : Evt) (o : Int), l[k]? = some e → y[k]? = some o → 0 ≤ o → o - e.tick ≤ J ∧ e.tick - o ≤ J := by
    intro k e o h1 h2 h3
    obtain ⟨o2, h4, h5⟩ := h.get (k := k) (t := e.tick) (by rw [List.getElem?_map, h1]; rfl)
    rw [h2, Option.some.injEq] at h4
    subst h4
    rcases h5 with h5 | h5
    · exact ((mem_opts (hl e (List.mem_of_getElem? h1))).1 h5).2
    · omega
  refine ⟨fun x hx => ?_, fun k e o h1 h2 h3 => ?_⟩
  · obtain ⟨k, e, o, h1, h2, h3, rfl⟩ := mem_kept.1 (mem_sortU.1 hx)
    have := hop k e o h1 h2 h3
    exact ⟨e, List.mem_of_getElem? h1, rfl, by dsimp only; omega, by dsimp only; omega⟩
  · have := hop k e o h1 h2 h3
    exact ⟨⟨o, e.id⟩, mem_sortU.2 (mem_kept.2 ⟨k, e, o, h1, h2, h3, rfl⟩), rfl, by dsimp only; omega, by dsimp only; omega⟩

theorem opts_sub (t : Int) {A B : Nat} (h : A ≤ B) : (opts t A).Sublist (opts t B) := by
  induction B with
  | zero => rw [show A = 0 by omega]; exact List.Sublist.refl _
  | succ B ih =>
    by_cases hA : A = B + 1
    · rw [hA]; exact List.Sublist.refl _
    · exact (ih (by omega)).trans (by rw [opts]; exact List.sublist_append_left _ _)

theorem dfsO_le {R S : Nat → List (List Int)} {L M : Nat} (hLM : L ≤ M) (hR : ∀ a b, a ≤ b → (R a).length ≤ (S b).length) {O Q : List Int} (h : O.Sublist Q) : (dfsO R L O).length ≤ (dfsO S M Q).length := by
  have e2 : ∀ (R : Nat → List (List Int)) (L : Nat) (o : Int) (O : List Int), (dfsO R L (o :: O)).length = (if o < 0 then (if L = 0 then 0 else (R (L - 1)).length) else (R L).length) + (dfsO R L O).length := by
    intro R L o O
    unfold dfsO
    rw [List.flatMap_cons, List.length_append]
    congr 1
    split
    · split <;> simp
    · simp
  induction h with
  | slnil => simp [dfsO]
  | cons o _ ih => rw [e2]; omega
  | cons_cons o _ ih =>
    rw [e2, e2]
    have h1 := hR (L - 1) (M - 1) (by omega)
    have h2 := hR L M hLM
    by_cases ho : o < 0
    · rw [if_pos ho, if_pos ho]
      by_cases hL : L = 0
      · rw [if_pos hL]; omega
      · rw [if_neg hL, if_neg (by omega)]; omega
    · rw [if_neg ho, if_neg ho]; omega

theorem dfs_le {A B : Nat} (h : A ≤ B) : ∀ (T : List Int) (a b : Nat), a ≤ b → (dfs A T a).length ≤ (dfs B T b).length
  | [], _, _, _ => by simp [dfs]
  | t :: T, a, b, hab => by
    rw [dfs, dfs]
    exact dfsO_le hab (dfs_le h T) ((opts_sub t h).append (List.Sublist.refl _))

theorem dfs_pos {J : Nat} {T : List Int} (hT : ∀ t ∈ T, 0 ≤ t ∧ t < 10000) (L : Nat) : 1 ≤ (dfs J T L).length := by
  have h : T ∈ dfs J T L := by
    rw [mem_dfs hT]
    have key : ∀ {T : List Int}, (∀ t ∈ T, 0 ≤ t ∧ t < 10000) → OptL J T T ∧ lostN T = 0 := by
      intro T
      induction T with
      | nil => intro _; exact ⟨trivial, rfl⟩
      | cons t T ih =>
        intro h
        obtain ⟨h1, h2⟩ := ih fun u hu => h u (List.mem_cons_of_mem _ hu)
        have ht := h t List.mem_cons_self
        exact ⟨⟨.inl ((mem_opts ht).2 ⟨ht, by omega, by omega⟩), h1⟩, by rw [lostN_cons, h2, if_neg (by omega)]⟩
    obtain ⟨h1, h2⟩ := key hT
    exact ⟨h1, by omega⟩
  exact List.length_pos_of_mem h

theorem flat_dfs {L J : Nat} (t : Int) (r : List Int) : ∀ out : List (List Int), (∀ x ∈ out, lostN x ≤ L) →
    ((out.flatMap (extR L (opts t J ++ [-1]))).flatMap fun y => (dfs J r (L - lostN y)).map (y ++ ·)) = out.flatMap fun x => (dfs J (t :: r) (L - lostN x)).map (x ++ ·)
  | [], _ => rfl
  | x :: q, hq => by
    rw [List.flatMap_cons, List.flatMap_append, flat_dfs t r q fun y hy => hq y (List.mem_cons_of_mem _ hy), List.flatMap_cons, ext_dfsO (hq x List.mem_cons_self)]
    rfl

theorem flat_pos {R : List Int → List (List Int)} : ∀ {out : List (List Int)}, (∀ x ∈ out, 1 ≤ (R x).length) → out.length ≤ (out.flatMap R).length
  | [], _ => by simp
  | x :: q, h => by
    have := flat_pos (R := R) (out := q) fun y hy => h y (List.mem_cons_of_mem _ hy)
    have := h x List.mem_cons_self
    rw [List.flatMap_cons, List.length_append, List.length_cons]
    omega

theorem runs_dfs_many {L J : Nat} : ∀ (r : List Int) (out : List (List Int)), (∀ t ∈ r, 0 ≤ t ∧ t < 10000) → (∀ x ∈ out, lostN x ≤ L) → 20000 < (runsM L J r out).length →
    20000 < (out.flatMap fun x => (dfs J r (L - lostN x)).map (x ++ ·)).length
  | [], out, _, _, h => by
    rw [runsM] at h
    have := flat_pos (R := fun x => (dfs J [] (L - lostN x)).map (x ++ ·)) (out := out) fun x _ => by simp [dfs]
    omega
  | t :: r, out, ht, hl, h => by
    have ht' : ∀ u ∈ r, 0 ≤ u ∧ u < 10000 := fun u hu => ht u (List.mem_cons_of_mem _ hu)
    rw [← flat_dfs t r out hl]
    rw [runsM] at h
    by_cases h1 : 20000 < (out.flatMap (extR L (opts t J ++ [-1]))).length
    · have := flat_pos (R := fun y => (dfs J r (L - lostN y)).map (y ++ ·)) (out := out.flatMap (extR L (opts t J ++ [-1]))) fun x _ => by rw [List.length_map]; exact dfs_pos ht' _
      omega
    · have h2 := extAll_few (losses := L) (l := opts t J ++ [-1]) out [] (by simpa using h1)
      rw [List.nil_append] at h2
      rw [h2] at h
      exact runs_dfs_many r _ ht' flat_lost h

theorem runsM_less {L M A B : Nat} (hL : L ≤ M) (hA : A ≤ B) {T : List Int} (hT : ∀ t ∈ T, 0 ≤ t ∧ t < 10000) (h : (runsM M B T [[]]).length ≤ 20000) : (runsM L A T [[]]).length ≤ 20000 := by
  rw [runs_dfs0 hT h] at h
  refine Nat.le_of_not_lt fun h1 => ?_
  have h2 := runs_dfs_many T [[]] hT (by simp [lostN]) h1
  have h3 := dfs_le hA T L M hL
  simp [lostN] at h2
  omega

theorem dfs_sub {L M A B : Nat} (hL : L ≤ M) (hA : A ≤ B) {T : List Int} (hT : ∀ t ∈ T, 0 ≤ t ∧ t < 10000) {y : List Int} (h : y ∈ dfs A T L) : y ∈ dfs B T M := by
  rw [mem_dfs hT] at h ⊢
  refine ⟨?_, by omega⟩
  have key : ∀ {T y : List Int}, OptL A T y → OptL B T y := by
    intro T
    induction T with
    | nil => intro y h; cases y with
      | nil => trivial
      | cons _ _ => exact h.elim
    | cons t T ih => intro y h; cases y with
      | nil => exact h.elim
      | cons o y => exact ⟨h.1.imp (fun h1 => (opts_sub t hA).mem h1) id, ih h.2⟩
  exact key h.1

end Go.Gm
end

section
set_option linter.unusedVariables false

set_option linter.unusedSimpArgs false

namespace Go.Proofs

open Go Go.Vx Go.Gm

structure RobOk (N : Net) (l : List Evt) (J L : Nat) (ticks : Int) (c : Clm) : Prop where
  net : netchk N = 0
  evs : EvOk N.inputs 10000 l
  len : l.length ≤ 64
  small : J ≤ 64 ∧ L ≤ 64
  tick : ∀ x ∈ l, 0 ≤ x.tick ∧ x.tick < 10000
  few : (runsM L J (l.map (·.tick)) [[]]).length ≤ 20000
  tm : 0 ≤ ticks ∧ ticks ≤ 10000
  clm : clmErr N.ps.length c = 0
  to : c.to ≤ ticks

theorem ticks_ok {l : List Evt} (h : ∀ x ∈ l, 0 ≤ x.tick ∧ x.tick < 10000) : ∀ t ∈ l.map (·.tick), 0 ≤ t ∧ t < 10000 := by
  intro t ht
  obtain ⟨x, hx, rfl⟩ := List.mem_map.1 ht
  exact h x hx

theorem robErr_zero {N : Net} {l : List Evt} {jit los ticks : Int} {c : Clm} (h : robErr N l jit los ticks c = 0) : ∃ J L : Nat, jit = J ∧ los = L ∧ RobOk N l J L ticks c := by
  unfold robErr at h
  by_cases a1 : netchk N ≠ 0
  · rw [if_pos a1] at h; exact absurd h a1
  rw [if_neg a1] at h
  by_cases a2 : evEr N l ≠ 0
  · rw [if_pos a2] at h; exact absurd h a2
  rw [if_neg a2] at h
  by_cases a3 : (runsRes l jit los).2 ≠ 0
  · rw [if_pos a3] at h; exact absurd h a3
  rw [if_neg a3] at h
  by_cases a4 : tmE ticks ≠ 0
  · rw [if_pos a4] at h; exact absurd h a4
  rw [if_neg a4] at h
  by_cases a5 : clmErr N.ps.length c ≠ 0
  · rw [if_pos a5] at h; exact absurd h a5
  rw [if_neg a5] at h
  by_cases a6 : ticks < c.to
  · rw [if_pos a6] at h; cases h
  obtain ⟨r1, ⟨r2, r3⟩, r4, n, r5, r6⟩ := runsRes_zero (Decidable.not_not.1 a3)
  obtain ⟨J, rfl⟩ : ∃ J : Nat, jit = J := ⟨jit.toNat, by omega⟩
  obtain ⟨L, rfl⟩ : ∃ L : Nat, los = L := ⟨los.toNat, by omega⟩
  rw [Int.toNat_natCast, Int.toNat_natCast] at r5
  have hfew : (runsM L J (l.map (·.tick)) [[]]).length ≤ 20000 := by
    have h := runs_same (losses := L) (j := J) (l.map (·.tick)) [1] [[]] (ticks_ok r4) (counts0 L) (by simp)
    rw [r5] at h
    split at h
    · cases h
    · omega
  exact ⟨J, L, rfl, rfl, ⟨Decidable.not_not.1 a1, evEr_zero (Decidable.not_not.1 a2), r1, ⟨by omega, by omega⟩, r4, hfew, tmE_zero (Decidable.not_not.1 a4), Decidable.not_not.1 a5, by omega⟩⟩

theorem robErr_of {N : Net} {l : List Evt} {J L J' L' : Nat} {ticks : Int} {c : Clm} (h : RobOk N l J L ticks c) (he : robErr N l J L ticks c = 0) (hJ : J' ≤ J) (hL : L' ≤ L) : RobOk N l J' L' ticks c ∧ robErr N l J' L' ticks c = 0 := by
  have hf := runsM_less hL hJ (ticks_ok h.tick) h.few
  have hok : RobOk N l J' L' ticks c := ⟨h.net, h.evs, h.len, ⟨by have := h.small; omega, by have := h.small; omega⟩, h.tick, hf, h.tm, h.clm, h.to⟩
  refine ⟨hok, ?_⟩
  have hr : (runsRes l (J' : Int) (L' : Int)).2 = 0 := by
    have h1 := runs_same (losses := L') (j := J') (l.map (·.tick)) [1] [[]] (ticks_ok h.tick) (counts0 L') (by simp)
    rw [if_neg (by omega)] at h1
    unfold runsRes
    have := h.len
    have := hok.small
    rw [if_neg (by omega), if_neg (by omega), if_neg (fun ⟨x, hx, hn⟩ => hn (h.tick x hx)), Int.toNat_natCast, Int.toNat_natCast, h1]
  unfold robErr at he ⊢
  rw [if_neg (by rw [h.net]; simp)] at he ⊢
  by_cases a2 : evEr N l ≠ 0
  · rw [if_pos a2] at he; exact absurd he a2
  rw [if_neg a2] at he ⊢
  rw [if_neg (by rw [hr]; simp)]
  by_cases a3 : (runsRes l (J : Int) (L : Int)).2 ≠ 0
  · rw [if_pos a3] at he; exact absurd he a3
  rw [if_neg a3] at he
  exact he

theorem robB_eq_none {N : Net} {c : Clm} {ticks : Int} {C : List Evt} (h : robB N c ticks C = none) : (runRes N (sortU C) ticks).2 = 0 ∧ HoldsP c (runRes N (sortU C) ticks).1 := by
  unfold robB at h
  split at h
  · cases h
  · rename_i hn
    exact ⟨Decidable.byContradiction fun h1 => hn (.inl h1), Classical.byContradiction fun h1 => hn (.inr h1)⟩

theorem firstB_eq_none {β : Type} {f : List Evt → Option β} {J : Nat} {C r : List Evt} {L : Nat} : firstB f J C r L = none ↔ ∀ y ∈ dfs J (r.map (·.tick)) L, f (C ++ kept r y) = none := by
  unfold firstB
  exact List.findSome?_eq_none_iff

theorem rob_says {N : Net} {l : List Evt} {jit los ticks : Int} {c : Clm} (h : (robRes N l jit los ticks c).2.2 = 0) : ∃ J L : Nat, jit = J ∧ los = L ∧ RobOk N l J L ticks c ∧ robErr N l J L ticks c = 0 ∧
    (((robRes N l jit los ticks c).1 = true ∧ (robRes N l jit los ticks c).2.1 = [] ∧ ∀ y, OptL J (l.map (·.tick)) y → lostN y ≤ L → (runRes N (sortU (kept l y)) ticks).2 = 0 ∧ HoldsP c (runRes N (sortU (kept l y)) ticks).1) ∨
     ((robRes N l jit los ticks c).1 = false ∧ ∃ y, OptL J (l.map (·.tick)) y ∧ lostN y ≤ L ∧ (robRes N l jit los ticks c).2.1 = sortU (kept l y) ∧ (runRes N (sortU (kept l y)) ticks).2 = 0 ∧ ¬ HoldsP c (runRes N (sortU (kept l y)) ticks).1)) := by
  have he : robErr N l jit los ticks c = 0 := by
    refine Decidable.byContradiction fun hn => ?_
    unfold robRes at h
    rw [if_pos hn] at h
    exact hn h
  obtain ⟨J, L, rfl, rfl, hok⟩ := robErr_zero he
  refine ⟨J, L, rfl, rfl, hok, he, ?_⟩
  have hT := ticks_ok hok.tick
  unfold robRes at h ⊢
  rw [if_neg (by rw [he]; simp)] at h ⊢
  rw [Int.toNat_natCast, Int.toNat_natCast] at h ⊢
  cases hf : firstB (robB N c ticks) J [] l L with
  | none =>
    refine .inl ⟨rfl, rfl, fun y hy hl => robB_eq_none ?_⟩
    have := (firstB_eq_none.1 hf) y ((mem_dfs hT).2 ⟨hy, hl⟩)
    rwa [List.nil_append] at this
  | some b =>
    obtain ⟨D, er⟩ := b
    rw [hf] at h
    dsimp only at h ⊢
    unfold firstB at hf
    obtain ⟨y, hy, hb⟩ := List.exists_of_findSome?_eq_some hf
    rw [List.nil_append] at hb
    obtain ⟨ho, hlo⟩ := (mem_dfs hT).1 hy
    unfold robB at hb
    split at hb
    · rename_i hor
      simp only [Option.some.injEq, Prod.mk.injEq] at hb
      obtain ⟨rfl, rfl⟩ := hb
      by_cases her : (runRes N (sortU (kept l y)) ticks).2 ≠ 0
      · rw [if_pos her] at h
        exact absurd h her
      · rw [if_neg her]
        refine .inr ⟨rfl, y, ho, hlo, rfl, Decidable.not_not.1 her, fun hh => ?_⟩
        rcases hor with h1 | h1
        · exact her h1
        · exact h1 hh
    · cases hb

theorem rob_less {N : Net} {l : List Evt} {J L J' L' : Nat} {ticks : Int} {c : Clm} (hok : RobOk N l J L ticks c) (he : robErr N l J L ticks c = 0) (hJ : J' ≤ J) (hL : L' ≤ L)
    (hall : ∀ y, OptL J (l.map (·.tick)) y → lostN y ≤ L → (runRes N (sortU (kept l y)) ticks).2 = 0 ∧ HoldsP c (runRes N (sortU (kept l y)) ticks).1) : robRes N l J' L' ticks c = (true, [], 0) := by
  obtain ⟨hok2, he2⟩ := robErr_of hok he hJ hL
  have hT := ticks_ok hok.tick
  have hf : firstB (robB N c ticks) J' [] l L' = none := firstB_eq_none.2 fun y hy => by
    obtain ⟨h1, h2⟩ := (mem_dfs hT).1 (dfs_sub hL hJ hT hy)
    obtain ⟨h3, h4⟩ := hall y h1 h2
    rw [List.nil_append]
    exact robB_none rfl rfl h3 fun h => h.elim (fun h => h rfl) fun h => h h4
  unfold robRes
  rw [if_neg (by rw [he2]; simp), Int.toNat_natCast, Int.toNat_natCast, hf]

theorem kept_range {l : List Evt} {J : Nat} {y : List Int} (h : ∀ x ∈ l, 0 ≤ x.tick ∧ x.tick < 10000) (hw : ∀ x ∈ l, x.wf) (ho : OptL J (l.map (·.tick)) y) : ∀ x ∈ sortU (kept l y), (0 ≤ x.tick ∧ x.tick < 10000) ∧ x.wf := by
  intro x hx
  obtain ⟨k, e, o, g1, g2, g3, rfl⟩ := mem_kept.1 (mem_sortU.1 hx)
  have he := hw e (List.mem_of_getElem? g1)
  obtain ⟨o2, g4, g5⟩ := ho.get (k := k) (t := e.tick) (by rw [List.getElem?_map, g1]; rfl)
  rw [g2, Option.some.injEq] at g4
  subst g4
  rcases g5 with g5 | g5
  · have := ((mem_opts (h e (List.mem_of_getElem? g1))).1 g5).1
    unfold Evt.wf I64 at he ⊢
    dsimp only
    omega
  · omega

end Go.Proofs
end
