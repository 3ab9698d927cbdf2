import Derived.Test.YtephkjicokbckaaGreatDoorVerifyFoundSr
import Derived.Test.YtephkjicokbckaaGreatDoorVerifyFoundSe
import Derived.Test.YtephkjicokbckaaGreatDoorVerifyFoundSu
set_option linter.unusedVariables false

set_option linter.unusedSimpArgs false

namespace Go.Proofs

open Go Go.Vx Go.Gm

def pathS (N : Net) (v : Sur) (pat : List Mom) (c : Nat → Nat) : Nat → Sit
  | 0 => sit0 N v pat
  | t + 1 => nextSit N v pat (t : Int) (pathS N v pat c t) (c t)

def PathOk (N : Net) (v : Sur) (pat : List Mom) (c : Nat → Nat) (t : Nat) : Prop := ∀ u, u < t → c u < 2 ^ v.free.length ∧ ((chosen v.free (c u)).length : Int) ≤ (pathS N v pat c u).left

theorem pathS_congr {N : Net} {v : Sur} {pat : List Mom} {c d : Nat → Nat} : ∀ {t : Nat}, (∀ u, u < t → c u = d u) → pathS N v pat c t = pathS N v pat d t
  | 0, _ => rfl
  | t + 1, h => by
    unfold pathS
    rw [pathS_congr fun u hu => h u (by omega), h t (by omega)]

theorem PathOk.mono {N : Net} {v : Sur} {pat : List Mom} {c : Nat → Nat} {a b : Nat} (h : PathOk N v pat c b) (hab : a ≤ b) : PathOk N v pat c a := fun u hu => h u (by omega)

theorem PathOk.congr {N : Net} {v : Sur} {pat : List Mom} {c d : Nat → Nat} {t : Nat} (h : PathOk N v pat c t) (he : ∀ u, u < t → c u = d u) : PathOk N v pat d t := fun u hu => by
  have := h u hu
  rw [he u hu, pathS_congr (d := d) fun x hx => he x (by omega)] at this
  exact this

theorem sig_inj {s s' : Sit} (h : s.sig = s'.sig) : s.sm = s'.sm ∧ s.left = s'.left ∧ s.shown = s'.shown := by
  obtain ⟨⟨a1, a2⟩, b, c, d⟩ := s
  obtain ⟨⟨a1', a2'⟩, b', c', d'⟩ := s'
  unfold Sit.sig at h
  simp only [Prod.mk.injEq] at h
  obtain ⟨⟨h1, h2⟩, h3, h4⟩ := h
  subst h1 h2 h3 h4
  exact ⟨rfl, rfl, rfl⟩

theorem nextSit_sig {N : Net} {v : Sur} {pat : List Mom} {t : Int} {s s' : Sit} {c : Nat} (h : s.sig = s'.sig) : (nextSit N v pat t s c).sig = (nextSit N v pat t s' c).sig := by
  obtain ⟨h1, h2, h3⟩ := sig_inj h
  unfold nextSit Sit.sig
  dsimp only
  rw [h1, h2, h3]

theorem goal_sig {N : Net} {pat : List Mom} {s s' : Sit} (h : s.sig = s'.sig) : goal N pat s = goal N pat s' := by
  obtain ⟨h1, _, h3⟩ := sig_inj h
  unfold goal
  rw [h1, h3]

theorem put_keep {n : List Sit} {x y : Sit} (h : y ∈ n) : y ∈ put n x := by
  unfold put
  split
  · exact h
  · exact List.mem_append_left _ h

theorem put_has (n : List Sit) (x : Sit) : ∃ z ∈ put n x, z.sig = x.sig := by
  unfold put
  split
  · rename_i h
    obtain ⟨y, hy, h2⟩ := List.any_eq_true.1 h
    exact ⟨y, hy, of_decide_eq_true h2⟩
  · exact ⟨x, List.mem_append_right _ (List.mem_singleton.2 rfl), rfl⟩

theorem grow_keep : ∀ {n a m : List Sit}, grow n a = some m → (∀ y ∈ n, y ∈ m) ∧ ∀ x ∈ a, ∃ z ∈ m, z.sig = x.sig
  | n, [], m, e => by cases e; exact ⟨fun _ h => h, by simp⟩
  | n, x :: a, m, e => by
    unfold grow at e
    split at e
    · cases e
    · obtain ⟨h1, h2⟩ := grow_keep e
      refine ⟨fun y hy => h1 y (put_keep hy), fun y hy => ?_⟩
      rcases List.mem_cons.1 hy with rfl | hy
      · obtain ⟨z, hz, h3⟩ := put_has n y
        exact ⟨z, h1 z hz, h3⟩
      · exact h2 y hy

structure Lvl (N : Net) (v : Sur) (pat : List Mom) (t : Nat) (S : List Sit) : Prop where
  path : ∀ s ∈ S, ∃ c, PathOk N v pat c t ∧ s = pathS N v pat c t
  all : ∀ c, PathOk N v pat c t → ∃ s ∈ S, s.sig = (pathS N v pat c t).sig

theorem Lvl.zero (N : Net) (v : Sur) (pat : List Mom) : Lvl N v pat 0 [sit0 N v pat] :=
  ⟨fun s hs => ⟨fun _ => 0, fun u hu => by omega, List.mem_singleton.1 hs⟩, fun c _ => ⟨_, List.mem_singleton.2 rfl, rfl⟩⟩

theorem mem_succs {N : Net} {v : Sur} {pat : List Mom} {t : Int} {s y : Sit} : y ∈ succs N v pat t s ↔ ∃ c, c < 2 ^ v.free.length ∧ ((chosen v.free c).length : Int) ≤ s.left ∧ y = nextSit N v pat t s c := by
  unfold succs succsT
  rw [List.mem_flatMap]
  constructor
  · rintro ⟨c, hc, hy⟩
    unfold succC at hy
    split at hy
    · cases hy
    · exact ⟨c, List.mem_range.1 hc, by omega, List.mem_singleton.1 hy⟩
  · rintro ⟨c, hc, hl, rfl⟩
    refine ⟨c, List.mem_range.2 hc, ?_⟩
    unfold succC
    rw [if_neg (by omega)]
    exact List.mem_singleton.2 rfl

theorem Lvl.next {N : Net} {v : Sur} {pat : List Mom} {t : Nat} {S m : List Sit} (h : Lvl N v pat t S) (hg : grow [] (S.flatMap (succs N v pat (t : Int))) = some m) : Lvl N v pat (t + 1) m := by
  obtain ⟨_, hk⟩ := grow_keep hg
  constructor
  · intro y hy
    rcases grow_mem hg y hy with h1 | h1
    · cases h1
    · obtain ⟨s, hs, hys⟩ := List.mem_flatMap.1 h1
      obtain ⟨c0, hc0, hl, rfl⟩ := mem_succs.1 hys
      obtain ⟨c, hc, rfl⟩ := h.path s hs
      have he : ∀ u, u < t → c u = (fun u => if u = t then c0 else c u) u := fun u hu => by
        dsimp only
        rw [if_neg (by omega)]
      have hp := pathS_congr (N := N) (v := v) (pat := pat) he
      refine ⟨fun u => if u = t then c0 else c u, fun u hu => ?_, ?_⟩
      · by_cases hut : u = t
        · subst hut
          rw [← hp]
          dsimp only
          rw [if_pos rfl]
          exact ⟨hc0, hl⟩
        · exact hc.congr he u (by omega)
      · show _ = nextSit N v pat (t : Int) (pathS N v pat _ t) _
        rw [← hp]
        dsimp only
        rw [if_pos rfl]
  · intro c hc
    obtain ⟨s, hs, hsig⟩ := h.all c (hc.mono (by omega))
    have h2 := hc t (by omega)
    have hl := (sig_inj hsig).2.1
    obtain ⟨z, hz, hzs⟩ := hk _ (List.mem_flatMap.2 ⟨s, hs, mem_succs.2 ⟨c t, h2.1, by rw [hl]; exact h2.2, rfl⟩⟩)
    exact ⟨z, hz, hzs.trans (nextSit_sig hsig)⟩

def NoAt (N : Net) (v : Sur) (pat : List Mom) (u : Nat) : Prop := ∀ c, PathOk N v pat c u → goal N pat (pathS N v pat c u) = false

structure FoundAt (N : Net) (v : Sur) (pat : List Mom) (run : List Evt) (a : Nat) : Prop where
  is : ∃ c, PathOk N v pat c a ∧ run = (pathS N v pat c a).run ++ atL (a : Int) (fixedL v.fixed (a : Int)) ∧ goal N pat (pathS N v pat c a) = true
  no : ∀ u, u < a → NoAt N v pat u

theorem search_spec {N : Net} {v : Sur} {pat : List Mom} : ∀ (k t : Nat) (S : List Sit), Lvl N v pat t S → (∀ u, u < t → NoAt N v pat u) →
    ((search N v pat k t S).2.2.2 = 0 → ((search N v pat k t S).2.2.1 = true → ∃ a : Nat, (search N v pat k t S).2.1 = (a : Int) ∧ a < t + k ∧ FoundAt N v pat (search N v pat k t S).1 a) ∧ ((search N v pat k t S).2.2.1 = false → ∀ u, u < t + k → NoAt N v pat u))
  | 0, t, S, hL, hno => by
    intro _
    unfold search
    exact ⟨fun h => (by cases h), fun _ => hno⟩
  | k + 1, t, S, hL, hno => by
    unfold search
    cases hf : S.find? (goal N pat) with
    | some s =>
      obtain ⟨c, hc, hs⟩ := hL.path s (List.mem_of_find?_eq_some hf)
      have hg := List.find?_some hf
      subst hs
      exact fun _ => ⟨fun _ => ⟨t, rfl, by omega, ⟨c, hc, rfl, hg⟩, hno⟩, fun h => (by cases h)⟩
    | none =>
      have hn : NoAt N v pat t := fun c hc => by
        obtain ⟨s, hs, hsig⟩ := hL.all c hc
        have h1 := List.find?_eq_none.1 hf s hs
        rw [goal_sig hsig] at h1
        simpa using h1
      cases hg : grow [] (S.flatMap (succs N v pat (t : Int))) with
      | none => exact fun h => by cases h
      | some m =>
        have ih := search_spec k (t + 1) m (hL.next hg) fun u hu => by
          by_cases e : u = t
          · subst e; exact hn
          · exact hno u (by omega)
        rw [show t + (k + 1) = t + 1 + k by omega]
        exact ih

theorem rch_spec {N : Net} {v : Sur} {pat : List Mom} {ticks : Int} (h : (rchRes N v pat ticks).2.2.2 = 0) : rchErr N v pat ticks = 0 ∧
    ((rchRes N v pat ticks).2.2.1 = true → ∃ a : Nat, (rchRes N v pat ticks).2.1 = (a : Int) ∧ a < ticks.toNat ∧ FoundAt N v pat (rchRes N v pat ticks).1 a) ∧ ((rchRes N v pat ticks).2.2.1 = false → ∀ u, u < ticks.toNat → NoAt N v pat u) := by
  unfold rchRes at h ⊢
  by_cases he : rchErr N v pat ticks ≠ 0
  · rw [if_pos he] at h
    exact absurd h he
  · rw [if_neg he] at h ⊢
    have := search_spec ticks.toNat 0 [sit0 N v pat] (Lvl.zero N v pat) (fun u hu => by omega) h
    rw [Nat.zero_add] at this
    exact ⟨Decidable.not_not.1 he, this⟩

theorem path_shown {N : Net} {v : Sur} {pat : List Mom} {c : Nat → Nat} (h0 : 0 < pat.length) : ∀ {t k : Nat}, k < pat.length →
    ((pathS N v pat c t).shown[k]? = some true ↔ k ≤ t ∧ ∀ (j : Nat) m, j < k → pat[j]? = some m → Shown m (rSpk N (pathS N v pat c (t - k + j)).sm))
  | 0, k, hk => by
    show (true :: List.replicate (pat.length - 1) false)[k]? = some true ↔ _
    cases k with
    | zero => simp
    | succ k =>
      rw [List.getElem?_cons_succ, List.getElem?_replicate, if_pos (by omega)]
      simp
  | t + 1, k, hk => by
    show (nextShown pat (pathS N v pat c t).shown (rSpk N (pathS N v pat c t).sm))[k]? = some true ↔ _
    cases k with
    | zero =>
      rw [nextShown_zero h0]
      simp
    | succ k =>
      have ih := path_shown (N := N) (v := v) (c := c) h0 (t := t) (k := k) (by omega)
      obtain ⟨m, hm⟩ : ∃ m, pat[k]? = some m := ⟨pat[k]'(by omega), List.getElem?_eq_getElem _⟩
      rw [nextShown_succ hk, Option.some.injEq]
      unfold shownAt
      rw [hm, Bool.and_eq_true, decide_eq_true_eq]
      have e : ((pathS N v pat c t).shown[k]?.getD false = true) ↔ (pathS N v pat c t).shown[k]? = some true := by
        cases (pathS N v pat c t).shown[k]? <;> simp
      rw [e, ih]
      constructor
      · rintro ⟨⟨h1, h2⟩, h3⟩
        refine ⟨by omega, fun j m' hj hm' => ?_⟩
        rw [show t + 1 - (k + 1) + j = t - k + j by omega]
        by_cases hjk : j = k
        · subst hjk
          rw [hm, Option.some.injEq] at hm'
          subst hm'
          rw [show t - j + j = t by omega]
          exact h3
        · exact h2 j m' (by omega) hm'
      · rintro ⟨h1, h2⟩
        refine ⟨⟨by omega, fun j m' hj hm' => ?_⟩, ?_⟩
        · have := h2 j m' (by omega) hm'
          rwa [show t + 1 - (k + 1) + j = t - k + j by omega] at this
        · have := h2 k m (by omega) hm
          rwa [show t + 1 - (k + 1) + k = t by omega] at this

theorem goal_iff {N : Net} {v : Sur} {pat : List Mom} {c : Nat → Nat} (h0 : 0 < pat.length) {t : Nat} : goal N pat (pathS N v pat c t) = true ↔
    pat.length ≤ t + 1 ∧ ∀ (j : Nat) m, pat[j]? = some m → Shown m (rSpk N (pathS N v pat c (t + 1 - pat.length + j)).sm) := by
  obtain ⟨m, hm⟩ : ∃ m, pat[pat.length - 1]? = some m := ⟨pat[pat.length - 1]'(by omega), List.getElem?_eq_getElem _⟩
  have ih := path_shown (N := N) (v := v) (c := c) h0 (t := t) (k := pat.length - 1) (by omega)
  unfold goal shownAt
  rw [hm, Bool.and_eq_true, decide_eq_true_eq]
  have e : ((pathS N v pat c t).shown[pat.length - 1]?.getD false = true) ↔ (pathS N v pat c t).shown[pat.length - 1]? = some true := by
    cases (pathS N v pat c t).shown[pat.length - 1]? <;> simp
  rw [e, ih]
  constructor
  · rintro ⟨⟨h1, h2⟩, h3⟩
    refine ⟨by omega, fun j m' hm' => ?_⟩
    have hj := (List.getElem?_eq_some_iff.1 hm').1
    rw [show t + 1 - pat.length + j = t - (pat.length - 1) + j by omega]
    by_cases hjk : j = pat.length - 1
    · subst hjk
      rw [hm, Option.some.injEq] at hm'
      subst hm'
      rw [show t - (pat.length - 1) + (pat.length - 1) = t by omega]
      exact h3
    · exact h2 j m' (by omega) hm'
  · rintro ⟨h1, h2⟩
    refine ⟨⟨by omega, fun j m' hj hm' => ?_⟩, ?_⟩
    · have := h2 j m' hm'
      rwa [show t + 1 - pat.length + j = t - (pat.length - 1) + j by omega] at this
    · have := h2 (pat.length - 1) m hm
      rwa [show t + 1 - pat.length + (pat.length - 1) = t by omega] at this

theorem path_sm {N : Net} (hN : NetOk N) {v : Sur} {pat : List Mom} {c : Nat → Nat} {l : List Evt} : ∀ {t : Nat}, (∀ u, u < t → insAt l u = insC N v (u : Int) (c u)) → (pathS N v pat c t).sm = smRot t (stAt N l t)
  | 0, _ => by
    show sm0 N = smRot 0 (sm0 N)
    unfold smRot
    rw [rot0 (by simp [sm0])]
  | t + 1, h => by
    show refStep N (pathS N v pat c t).sm (insC N v (t : Int) (c t)) = smRot (t + 1) (ringStep N t (stAt N l t) (insAt l t))
    rw [path_sm hN fun u hu => h u (by omega), h t (by omega)]
    refine (ref_step hN (stAt_ok hN l t) t (refSrcs_nodup _ _ (fun k hk => (insC_range hN.inputs.1 v _ _ k hk).1) (asc_nodup (insC_asc N v _ _)))).symm

theorem rSpk_rot (N : Net) (l : List Evt) (t : Nat) : rSpk N (smRot t (stAt N l t)) = spkAt N l t := by
  have e0 : (((smRot t (stAt N l t)).D)[0]?).getD [] = ((stAt N l t).D[t % 16]?).getD [] := by
    show ((rot t (stAt N l t).D)[0]?).getD [] = _
    rw [rot_get]; rfl
  unfold rSpk
  rw [e0]; rfl

def ShownL (N : Net) (l : List Evt) (pat : List Mom) (t : Nat) : Prop := pat.length ≤ t + 1 ∧ ∀ (j : Nat) m, pat[j]? = some m → Shown m (spkAt N l (t + 1 - pat.length + j))

theorem goal_run {N : Net} (hN : NetOk N) {v : Sur} {pat : List Mom} {c : Nat → Nat} (h0 : 0 < pat.length) {l : List Evt} {t : Nat} (h : ∀ u, u < t → insAt l u = insC N v (u : Int) (c u)) : goal N pat (pathS N v pat c t) = true ↔ ShownL N l pat t := by
  rw [goal_iff h0]
  unfold ShownL
  constructor
  · rintro ⟨h1, h2⟩
    refine ⟨h1, fun j m hm => ?_⟩
    have hj := (List.getElem?_eq_some_iff.1 hm).1
    have := h2 j m hm
    rwa [path_sm hN (l := l) fun u hu => h u (by omega), rSpk_rot] at this
  · rintro ⟨h1, h2⟩
    refine ⟨h1, fun j m hm => ?_⟩
    have hj := (List.getElem?_eq_some_iff.1 hm).1
    rw [path_sm hN (l := l) fun u hu => h u (by omega), rSpk_rot]
    exact h2 j m hm

theorem insAt_app (a b : List Evt) (t : Nat) : insAt (a ++ b) t = insAt a t ++ insAt b t := by
  unfold insAt
  rw [List.filter_append, List.map_append]

theorem insAt_atL (u t : Nat) (ids : List Int) : insAt (atL (u : Int) ids) t = if u = t then ids else [] := by
  unfold insAt atL
  by_cases h : u = t
  · subst h
    rw [if_pos rfl, List.filter_eq_self.2 (fun e he => ?_), List.map_map]
    · exact List.map_id' ids
    · obtain ⟨i, _, rfl⟩ := List.mem_map.1 he
      simp
  · rw [if_neg h, List.filter_eq_nil_iff.2 (fun e he => ?_)]
    · rfl
    · obtain ⟨i, _, rfl⟩ := List.mem_map.1 he
      simp only [decide_eq_true_eq]
      omega

theorem path_ins {N : Net} {v : Sur} {pat : List Mom} {c : Nat → Nat} : ∀ (t u : Nat), insAt (pathS N v pat c t).run u = if u < t then insC N v (u : Int) (c u) else []
  | 0, u => rfl
  | t + 1, u => by
    show insAt ((pathS N v pat c t).run ++ atL (t : Int) (insC N v (t : Int) (c t))) u = _
    rw [insAt_app, path_ins t u, insAt_atL]
    rcases Nat.lt_trichotomy u t with h | h | h
    · rw [if_pos h, if_neg (by omega), if_pos (by omega), List.append_nil]
    · subst h
      rw [if_neg (by omega), if_pos rfl, if_pos (by omega), List.nil_append]
    · rw [if_neg (by omega), if_neg (by omega), if_neg (by omega), List.nil_append]

theorem atL_sorted {t : Int} {ids : List Int} (h : Asc ids) : (atL t ids).Pairwise evLt := by
  unfold atL
  exact List.Pairwise.map _ (fun a b hab => by unfold evLt; dsimp only; omega) h

theorem atL_tick {t : Int} {ids : List Int} : ∀ e ∈ atL t ids, e.tick = t ∧ e.id ∈ ids := by
  intro e he
  obtain ⟨i, hi, rfl⟩ := List.mem_map.1 he
  exact ⟨rfl, hi⟩

structure RunOk (n : Int) (t : Nat) (l : List Evt) : Prop where
  sorted : l.Pairwise evLt
  range : ∀ e ∈ l, (0 ≤ e.tick ∧ e.tick < t) ∧ (0 ≤ e.id ∧ e.id < n)

theorem RunOk.next {n : Int} {t : Nat} {l : List Evt} (h : RunOk n t l) {ids : List Int} (ha : Asc ids) (hi : ∀ i ∈ ids, 0 ≤ i ∧ i < n) : RunOk n (t + 1) (l ++ atL (t : Int) ids) := by
  refine ⟨List.pairwise_append.2 ⟨h.sorted, atL_sorted ha, fun a ha b hb => ?_⟩, fun e he => ?_⟩
  · have h1 := (h.range a ha).1
    have h2 := (atL_tick b hb).1
    unfold evLt; omega
  · rcases List.mem_append.1 he with he | he
    · have := h.range e he; omega
    · have h2 := atL_tick e he
      have := hi _ h2.2
      omega

theorem path_runok {N : Net} (hN : 0 ≤ N.inputs) {v : Sur} {pat : List Mom} {c : Nat → Nat} : ∀ t, RunOk N.inputs t (pathS N v pat c t).run
  | 0 => ⟨List.Pairwise.nil, fun e he => by cases he⟩
  | t + 1 => (path_runok hN t).next (insC_asc N v _ _) (insC_range hN v _ _)

theorem asc_filter_range {A : List Int} (h : Asc A) {n : Nat} (hi : ∀ i ∈ A, 0 ≤ i ∧ i < (n : Int)) : (((List.range n).map fun k : Nat => (k : Int)).filter fun k => decide (k ∈ A)) = A := by
  refine asc_ext ?_ h fun i => ?_
  · refine List.Pairwise.filter _ ?_
    exact List.Pairwise.map _ (fun a b hab => by omega) List.pairwise_lt_range
  · rw [List.mem_filter, List.mem_map, decide_eq_true_eq]
    constructor
    · exact fun h => h.2
    · intro hA
      have := hi i hA
      exact ⟨⟨i.toNat, List.mem_range.2 (by omega), by omega⟩, hA⟩

theorem filter_or_length {p q : Int → Bool} : ∀ {l : List Int}, (∀ x ∈ l, p x = true → q x = true → False) → (l.filter fun x => p x || q x).length = (l.filter p).length + (l.filter q).length
  | [], _ => rfl
  | a :: l, h => by
    have ih := filter_or_length (p := p) (q := q) fun x hx => h x (List.mem_cons_of_mem _ hx)
    have h1 := h a List.mem_cons_self
    cases hp : p a <;> cases hq : q a
    · rw [List.filter_cons_of_neg (by simp [hp, hq]), List.filter_cons_of_neg (by simp [hp]), List.filter_cons_of_neg (by simp [hq])]; exact ih
    · rw [List.filter_cons_of_pos (by simp [hp, hq]), List.filter_cons_of_neg (by simp [hp]), List.filter_cons_of_pos (by simp [hq])]
      simp only [List.length_cons]; omega
    · rw [List.filter_cons_of_pos (by simp [hp, hq]), List.filter_cons_of_pos (by simp [hp]), List.filter_cons_of_neg (by simp [hq])]
      simp only [List.length_cons]; omega
    · exact absurd (h1 hp hq) id

theorem insC_count {N : Net} {v : Sur} (hv : SurOk N v) (hi : 0 ≤ N.inputs) (t : Int) (c : Nat) : (insC N v t c).length = (chosen v.free c).length + (fixedL v.fixed t).length := by
  obtain ⟨h1, h2⟩ := fixedL_asc hv.fixed t
  unfold insC mergedT
  rw [filter_or_length fun x _ ha hb => ?_, asc_filter_range (chosen_asc hv.free c) fun i hi2 => ?_, asc_filter_range h1 fun i hi2 => ?_]
  · have := h2 i hi2; omega
  · have := hv.freeI i (mem_free_of_chosen hi2); omega
  · rw [decide_eq_true_eq] at ha hb
    obtain ⟨y, hy, rfl⟩ := mem_fixedL hb
    exact hv.apart y hy (mem_free_of_chosen ha)

def freeN (free : List Int) (l : List Evt) : Nat := (l.map fun e => free.countP fun k => decide (e.id = k)).sum

theorem freeN_app (free : List Int) (a b : List Evt) : freeN free (a ++ b) = freeN free a + freeN free b := by
  unfold freeN
  rw [List.map_append, List.sum_append]

theorem countP_asc {free : List Int} (h : Asc free) (i : Int) : free.countP (fun k => decide (i = k)) = if i ∈ free then 1 else 0 := by
  have hn := asc_nodup h
  have e : free.countP (fun k => decide (i = k)) = free.count i := by
    unfold List.count
    congr 1
    funext k
    by_cases h : i = k
    · subst h; simp
    · simp [h, Ne.symm h]
  rw [e]
  by_cases hi : i ∈ free
  · rw [if_pos hi]
    have h1 := List.nodup_iff_count.1 hn i
    have h2 := List.count_pos_iff.2 hi
    omega
  · rw [if_neg hi, List.count_eq_zero_of_not_mem hi]

theorem freeN_atL {free : List Int} (h : Asc free) (t : Int) : ∀ ids : List Int, freeN free (atL t ids) = (ids.filter fun i => decide (i ∈ free)).length
  | [] => rfl
  | i :: ids => by
    have ih := freeN_atL h t ids
    have e : freeN free (atL t (i :: ids)) = free.countP (fun k => decide (i = k)) + freeN free (atL t ids) := by
      unfold freeN atL
      rw [List.map_cons, List.map_cons, List.sum_cons]
    rw [e, ih, countP_asc h]
    by_cases hi : i ∈ free
    · rw [if_pos hi, List.filter_cons_of_pos (by simpa using hi), List.length_cons]; omega
    · rw [if_neg hi, List.filter_cons_of_neg (by simpa using hi)]; omega

theorem insC_free {N : Net} {v : Sur} (hv : SurOk N v) (t : Int) (c : Nat) : ((insC N v t c).filter fun i => decide (i ∈ v.free)) = chosen v.free c := by
  refine asc_ext (List.Pairwise.filter _ (insC_asc N v t c)) (chosen_asc hv.free c) fun i => ?_
  rw [List.mem_filter, decide_eq_true_eq]
  unfold insC
  rw [mem_mergedT]
  constructor
  · rintro ⟨⟨_, h | h⟩, h2⟩
    · exact h
    · obtain ⟨y, hy, rfl⟩ := mem_fixedL h
      exact absurd h2 (hv.apart y hy)
  · intro h
    have h2 := mem_free_of_chosen h
    have := hv.freeI i h2
    exact ⟨⟨by omega, .inl h⟩, h2⟩

theorem fixedL_free {N : Net} {v : Sur} (hv : SurOk N v) (t : Int) : ((fixedL v.fixed t).filter fun i => decide (i ∈ v.free)) = [] := by
  refine List.filter_eq_nil_iff.2 fun i hi => ?_
  obtain ⟨y, hy, rfl⟩ := mem_fixedL hi
  simpa using hv.apart y hy

def fixN (fixed : List Evt) (t : Int) : Nat := (fixed.filter fun e => decide (e.tick < t)).length

theorem fixN_next (fixed : List Evt) (t : Int) : fixN fixed (t + 1) = fixN fixed t + (fixedL fixed t).length := by
  unfold fixN fixedL
  rw [List.length_map]
  induction fixed with
  | nil => rfl
  | cons a l ih =>
    rcases Int.lt_trichotomy a.tick t with h | h | h
    · rw [List.filter_cons_of_pos (by simp only [decide_eq_true_eq]; omega), List.filter_cons_of_pos (by simpa using h), List.filter_cons_of_neg (by simp only [decide_eq_true_eq]; omega)]
      simp only [List.length_cons]; omega
    · rw [List.filter_cons_of_pos (by simp only [decide_eq_true_eq]; omega), List.filter_cons_of_neg (by simp only [decide_eq_true_eq]; omega), List.filter_cons_of_pos (by simpa using h)]
      simp only [List.length_cons]; omega
    · rw [List.filter_cons_of_neg (by simp only [decide_eq_true_eq]; omega), List.filter_cons_of_neg (by simp only [decide_eq_true_eq]; omega), List.filter_cons_of_neg (by simp only [decide_eq_true_eq]; omega)]
      exact ih

theorem path_count {N : Net} {v : Sur} {pat : List Mom} {c : Nat → Nat} (hv : SurOk N v) (hi : 0 ≤ N.inputs) : ∀ t : Nat,
    (pathS N v pat c t).run.length = fixN v.fixed (t : Int) + freeN v.free (pathS N v pat c t).run ∧ (freeN v.free (pathS N v pat c t).run : Int) = v.most - (pathS N v pat c t).left
  | 0 => by
    have e : fixN v.fixed 0 = 0 := by
      unfold fixN
      rw [List.filter_eq_nil_iff.2 fun e he => ?_]
      · rfl
      · have := (hv.fixed.range e he).1
        simp only [decide_eq_true_eq]; omega
    have h0 : (pathS N v pat c 0).run = [] := rfl
    have h1 : (pathS N v pat c 0).left = v.most := rfl
    rw [h0, h1]
    show 0 = fixN v.fixed 0 + 0 ∧ ((0 : Nat) : Int) = _
    omega
  | t + 1 => by
    obtain ⟨h1, h2⟩ := path_count (c := c) (pat := pat) hv hi t
    have e : (pathS N v pat c (t + 1)).run = (pathS N v pat c t).run ++ atL (t : Int) (insC N v (t : Int) (c t)) := rfl
    have e2 : (pathS N v pat c (t + 1)).left = (pathS N v pat c t).left - ((chosen v.free (c t)).length : Int) := rfl
    have e3 := fixN_next v.fixed (t : Int)
    have e4 : (atL (t : Int) (insC N v (t : Int) (c t))).length = (insC N v (t : Int) (c t)).length := List.length_map ..
    rw [e, e2, freeN_app, freeN_atL hv.free, insC_free hv, List.length_append, e4, insC_count hv hi]
    have e5 : fixN v.fixed ((t + 1 : Nat) : Int) = fixN v.fixed ((t : Int) + 1) := rfl
    omega

theorem EvOk.of {n : Int} {t : Nat} {l : List Evt} (h : RunOk n t l) (ht : t ≤ 10000) (hl : l.length ≤ 65536) : EvOk n 10000 l :=
  ⟨hl, fun e he => by have := h.range e he; exact ⟨⟨by omega, by omega⟩, this.2⟩, h.sorted⟩

theorem path_left {N : Net} {v : Sur} {pat : List Mom} {c : Nat → Nat} (h0 : 0 ≤ v.most) : ∀ {t : Nat}, PathOk N v pat c t → 0 ≤ (pathS N v pat c t).left
  | 0, _ => h0
  | t + 1, h => by
    have := (h t (by omega)).2
    show 0 ≤ (pathS N v pat c t).left - ((chosen v.free (c t)).length : Int)
    omega

structure Good (N : Net) (v : Sur) (pat : List Mom) (run : List Evt) (a : Nat) : Prop where
  ok : RunOk N.inputs (a + 1) run
  few : run.length ≤ (a + 1) * 256
  shown : ShownL N run pat a
  no : ∀ u, u < a → ¬ ShownL N run pat u
  fixed : ∀ x ∈ v.fixed, x.tick ≤ a → x ∈ run
  free : (freeN v.free run : Int) ≤ v.most
  len : run.length = fixN v.fixed ((a : Int) + 1) + freeN v.free run

theorem path_len {N : Net} (hi : 0 ≤ N.inputs ∧ N.inputs ≤ 256) {v : Sur} {pat : List Mom} {c : Nat → Nat} : ∀ t, (pathS N v pat c t).run.length ≤ t * 256
  | 0 => by show (0 : Nat) ≤ _; omega
  | t + 1 => by
    have ih := path_len (v := v) (pat := pat) (c := c) hi t
    have h := insC_len hi.1 hi.2 v (t : Int) (c t)
    show ((pathS N v pat c t).run ++ atL (t : Int) (insC N v (t : Int) (c t))).length ≤ _
    rw [List.length_append, show (atL (t : Int) (insC N v (t : Int) (c t))).length = (insC N v (t : Int) (c t)).length from List.length_map ..]
    omega

theorem found_good {N : Net} (hN : NetOk N) {v : Sur} (hv : SurOk N v) {pat : List Mom} (h0 : 0 < pat.length) {run : List Evt} {a : Nat} (h : FoundAt N v pat run a) : Good N v pat run a := by
  obtain ⟨⟨c, hc, hrun, hg⟩, hno⟩ := h
  have hi := hN.inputs
  obtain ⟨hF1, hF2⟩ := fixedL_asc hv.fixed (a : Int)
  have hins : ∀ u, u < a → insAt run u = insC N v (u : Int) (c u) := fun u hu => by
    rw [hrun, insAt_app, path_ins, insAt_atL, if_pos hu, if_neg (by omega), List.append_nil]
  have hlen : (atL (a : Int) (fixedL v.fixed (a : Int))).length = (fixedL v.fixed (a : Int)).length := List.length_map ..
  have hFl : (fixedL v.fixed (a : Int)).length ≤ 256 := by
    have := insC_len hi.1 hi.2 v (a : Int) 0
    have := insC_count hv hi.1 (a : Int) 0
    omega
  obtain ⟨k1, k2⟩ := path_count (pat := pat) (c := c) hv hi.1 a
  have kl := path_left hv.most hc
  have hfn : freeN v.free run = freeN v.free (pathS N v pat c a).run := by
    rw [hrun, freeN_app, freeN_atL hv.free, fixedL_free hv]; rfl
  refine ⟨?_, ?_, (goal_run hN h0 hins).1 hg, fun u hu hs => ?_, fun x hx hxa => ?_, by omega, ?_⟩
  · rw [hrun]; exact (path_runok hi.1 a).next hF1 hF2
  · have := path_len (v := v) (pat := pat) (c := c) hi a
    rw [hrun, List.length_append, hlen]; omega
  · have h1 := hno u hu c (hc.mono (by omega))
    rw [(goal_run hN h0 fun w hw => hins w (by omega)).2 hs] at h1
    cases h1
  · have hr := (hv.fixed.range x hx)
    obtain ⟨u, hu⟩ : ∃ u : Nat, x.tick = (u : Int) := ⟨x.tick.toNat, by omega⟩
    have hxf : x.id ∈ fixedL v.fixed (u : Int) := List.mem_map.2 ⟨x, List.mem_filter.2 ⟨hx, by simpa using hu⟩, rfl⟩
    have hxe : x = ⟨(u : Int), x.id⟩ := by rw [← hu]
    rw [hxe, ← insAt_iff]
    by_cases hua : u < a
    · rw [hins u hua]
      unfold insC
      rw [mem_mergedT]
      exact ⟨by omega, .inr hxf⟩
    · have e : u = a := by omega
      subst e
      rw [hrun, insAt_app, insAt_atL, if_pos rfl]
      exact List.mem_append_right _ hxf
  · have e3 := fixN_next v.fixed (a : Int)
    rw [hfn, hrun, List.length_append, hlen]
    omega

theorem search_nil {N : Net} {v : Sur} {pat : List Mom} : ∀ (k t : Nat) (S : List Sit), ((search N v pat k t S).2.2.1 = true ∧ (search N v pat k t S).2.2.2 = 0) ∨ (search N v pat k t S).1 = []
  | 0, t, S => .inr rfl
  | k + 1, t, S => by
    unfold search
    cases hf : S.find? (goal N pat) with
    | some s => exact .inl ⟨rfl, rfl⟩
    | none =>
      cases hg : grow [] (S.flatMap (succs N v pat (t : Int))) with
      | none => exact .inr rfl
      | some m => exact search_nil k (t + 1) m

structure RchOk (N : Net) (v : Sur) (pat : List Mom) (ticks : Int) : Prop where
  net : NetOk N
  sur : SurOk N v
  pat : 0 < pat.length
  ticks : 0 ≤ ticks ∧ ticks ≤ 10000

theorem rchErr_zero {N : Net} {v : Sur} {pat : List Mom} {ticks : Int} (h : rchErr N v pat ticks = 0) : RchOk N v pat ticks := by
  unfold rchErr at h
  split at h
  · contradiction
  · rename_i h1
    split at h
    · contradiction
    · rename_i h2
      split at h
      · contradiction
      · rename_i h3
        refine ⟨netchk_zero.1 (Decidable.not_not.1 h1), surErr_zero (Decidable.not_not.1 h2), ?_, ?_⟩
        · have h3 := Decidable.not_not.1 h3
          unfold patErr at h3
          split at h3
          · omega
          · split at h3
            · omega
            · omega
        · unfold tmE at h
          split at h
          · assumption
          · cases h

theorem rch_fine (N : Net) (v : Sur) (pat : List Mom) (ticks : Int) : (∀ x ∈ (rchRes N v pat ticks).1, x.wf) ∧ (rchRes N v pat ticks).1.length ≤ 3000000 := by
  by_cases he : rchErr N v pat ticks = 0
  · have hok := rchErr_zero he
    have hres : rchRes N v pat ticks = search N v pat ticks.toNat 0 [sit0 N v pat] := by
      unfold rchRes
      rw [if_neg (Decidable.not_not.2 he)]
    rcases search_nil (N := N) (v := v) (pat := pat) ticks.toNat 0 [sit0 N v pat] with ⟨h1, h2⟩ | h
    · obtain ⟨a, _, ha, hf⟩ := (search_spec ticks.toNat 0 [sit0 N v pat] (Lvl.zero N v pat) (fun u hu => by omega) h2).1 h1
      rw [← hres] at hf
      have hg := found_good hok.net hok.sur hok.pat hf
      have ht := hok.ticks
      have hi := hok.net.inputs
      have hfew := hg.few
      refine ⟨fun x hx => ?_, by omega⟩
      have := hg.ok.range x hx
      unfold Evt.wf I64
      omega
    · rw [hres, h]
      simp
  · have : rchRes N v pat ticks = ([], 0, false, rchErr N v pat ticks) := by
      unfold rchRes
      rw [if_pos he]
    rw [this]
    simp

theorem chosenT_congr {free : List Int} {c d : Nat} : ∀ {m : Nat}, (∀ k, k < m → c.testBit k = d.testBit k) → chosenT free c m = chosenT free d m
  | 0, _ => rfl
  | m + 1, h => by rw [chosenT_succ, chosenT_succ, chosenT_congr fun k hk => h k (by omega), h m (by omega)]

theorem pick_one {free : List Int} {m k : Nat} {i : Int} (hm : m < 2 ^ k) (h : free[k]? = some i) : m ||| 2 ^ k < 2 ^ (k + 1) ∧ chosenT free (m ||| 2 ^ k) (k + 1) = chosenT free m k ++ [i] := by
  have h3 : (2 : Nat) ^ (k + 1) = 2 ^ k * 2 := Nat.pow_succ ..
  refine ⟨Nat.or_lt_two_pow (by omega) (by omega), ?_⟩
  rw [chosenT_succ]
  congr 1
  · refine chosenT_congr fun j hj => ?_
    rw [Nat.testBit_or, Nat.testBit_two_pow]
    simp [show k ≠ j from by omega]
  · rw [if_pos]
    · rw [h]; rfl
    · rw [Nat.testBit_or, Nat.testBit_two_pow]
      simp

theorem pick_no {free : List Int} {m k : Nat} (hm : m < 2 ^ k) : m < 2 ^ (k + 1) ∧ chosenT free m (k + 1) = chosenT free m k := by
  have h3 : (2 : Nat) ^ (k + 1) = 2 ^ k * 2 := Nat.pow_succ ..
  refine ⟨by omega, ?_⟩
  rw [chosenT_succ, if_neg, List.append_nil]
  rw [Nat.testBit_lt_two_pow hm]
  simp

theorem chosen_zero (free : List Int) : chosen free 0 = [] := by
  unfold chosen chosenT
  rw [List.filterMap_eq_nil_iff]
  intro k _
  simp

def leftC (free : List Int) (most : Int) (c : Nat → Nat) : Nat → Int
  | 0 => most
  | t + 1 => leftC free most c t - ((chosen free (c t)).length : Int)

theorem leftC_congr {free : List Int} {most : Int} {c d : Nat → Nat} : ∀ {t : Nat}, (∀ u, u < t → c u = d u) → leftC free most c t = leftC free most d t
  | 0, _ => rfl
  | t + 1, h => by rw [leftC, leftC, leftC_congr fun u hu => h u (by omega), h t (by omega)]

theorem leftC_next (free : List Int) (most : Int) (c : Nat → Nat) (t m : Nat) : leftC free most (fun u => if u = t then m else c u) (t + 1) = leftC free most c t - ((chosen free m).length : Int) := by
  rw [leftC, leftC_congr (d := c) fun u hu => by rw [if_neg (by omega)]]
  rw [if_pos rfl]

def CanT (free : List Int) (most : Int) (c : Nat → Nat) (t : Nat) : Prop := ∀ u, u < t → c u < 2 ^ free.length ∧ ((chosen free (c u)).length : Int) ≤ leftC free most c u

theorem CanT.next {free : List Int} {most : Int} {c : Nat → Nat} {t m : Nat} (h : CanT free most c t) (hm : m < 2 ^ free.length) (hl : ((chosen free m).length : Int) ≤ leftC free most c t) : CanT free most (fun u => if u = t then m else c u) (t + 1) := by
  have he : ∀ u, u < t → c u = (fun u => if u = t then m else c u) u := fun u hu => by
    dsimp only
    rw [if_neg (by omega)]
  intro u hu
  by_cases hut : u = t
  · subst hut
    rw [← leftC_congr he]
    dsimp only
    rw [if_pos rfl]
    exact ⟨hm, hl⟩
  · rw [← leftC_congr (c := c) fun x hx => he x (by omega)]
    dsimp only
    rw [if_neg hut]
    exact h u (by omega)

theorem path_leftC {N : Net} {v : Sur} {pat : List Mom} {c : Nat → Nat} : ∀ t, (pathS N v pat c t).left = leftC v.free v.most c t
  | 0 => rfl
  | t + 1 => by
    show (pathS N v pat c t).left - ((chosen v.free (c t)).length : Int) = _
    rw [path_leftC t]; rfl

theorem can_all {N : Net} {v : Sur} {pat : List Mom} {c : Nat → Nat} {M : Nat} (h0 : 0 ≤ v.most) (h : CanT v.free v.most c M) (hz : ∀ u, M ≤ u → c u = 0) : ∀ t, PathOk N v pat c t
  | 0 => fun u hu => by omega
  | t + 1 => by
    have ih := can_all (N := N) (pat := pat) h0 h hz t
    have hpl := path_left h0 ih
    intro u hu
    by_cases hut : u = t
    · subst hut
      by_cases hM : u < M
      · rw [path_leftC]
        exact h u hM
      · rw [hz u (by omega), chosen_zero]
        exact ⟨Nat.two_pow_pos _, hpl⟩
    · exact ih u (by omega)

def otherE (free : List Int) (c : Nat → Nat) (M : Nat) : List Evt := (List.range M).flatMap fun t : Nat => atL (t : Int) (chosen free (c t))

theorem otherE_succ (free : List Int) (c : Nat → Nat) (M : Nat) : otherE free c (M + 1) = otherE free c M ++ atL (M : Int) (chosen free (c M)) := by
  unfold otherE
  rw [List.range_succ, List.flatMap_append, List.flatMap_singleton]

theorem otherE_congr {free : List Int} {c d : Nat → Nat} : ∀ {M : Nat}, (∀ u, u < M → c u = d u) → otherE free c M = otherE free d M
  | 0, _ => rfl
  | M + 1, h => by rw [otherE_succ, otherE_succ, otherE_congr fun u hu => h u (by omega), h M (by omega)]

theorem otherE_next (free : List Int) (c : Nat → Nat) (t m : Nat) : otherE free (fun u => if u = t then m else c u) (t + 1) = otherE free c t ++ atL (t : Int) (chosen free m) := by
  rw [otherE_succ, otherE_congr (d := c) fun u hu => by rw [if_neg (by omega)]]
  rw [if_pos rfl]

theorem otherE_mem {free : List Int} {c : Nat → Nat} {M : Nat} {e : Evt} : e ∈ otherE free c M ↔ ∃ t : Nat, t < M ∧ e.tick = (t : Int) ∧ e.id ∈ chosen free (c t) := by
  unfold otherE
  rw [List.mem_flatMap]
  constructor
  · rintro ⟨t, ht, he⟩
    obtain ⟨h1, h2⟩ := atL_tick e he
    exact ⟨t, List.mem_range.1 ht, h1, h2⟩
  · rintro ⟨t, ht, h1, h2⟩
    refine ⟨t, List.mem_range.2 ht, List.mem_map.2 ⟨e.id, h2, ?_⟩⟩
    rw [← h1]

theorem otherE_len (free : List Int) (c : Nat → Nat) : ∀ M, (otherE free c M).length ≤ M * free.length
  | 0 => by simp [otherE]
  | M + 1 => by
    have ih := otherE_len free c M
    rw [otherE_succ, List.length_append, show (atL (M : Int) (chosen free (c M))).length = (chosen free (c M)).length from List.length_map ..]
    have := chosenT_len free (c M) free.length
    unfold chosen
    rw [Nat.add_mul]
    omega

theorem other_ins {N : Net} {v : Sur} (hv : SurOk N v) {c : Nat → Nat} {M : Nat} (hz : ∀ u, M ≤ u → c u = 0) (u : Nat) : insAt (sortU (v.fixed ++ otherE v.free c M)) u = insC N v (u : Int) (c u) := by
  refine asc_ext ?_ (insC_asc N v _ _) fun i => ?_
  · unfold insAt Asc
    have h1 := (sortU_asc (v.fixed ++ otherE v.free c M)).filter (fun e => decide (e.tick = (u : Int)))
    refine List.pairwise_map.2 (List.Pairwise.imp_of_mem ?_ h1)
    intro a b ha hb hab
    have ea := (List.mem_filter.1 ha).2
    have eb := (List.mem_filter.1 hb).2
    simp only [decide_eq_true_eq] at ea eb
    unfold evLt at hab
    omega
  · rw [insAt_iff, mem_sortU, List.mem_append]
    unfold insC
    rw [mem_mergedT, otherE_mem]
    constructor
    · rintro (h | ⟨t, ht, h1, h2⟩)
      · have := hv.fixed.range _ h
        exact ⟨⟨this.2.1, by have := this.2.2; dsimp only at this; omega⟩, .inr (List.mem_map.2 ⟨_, List.mem_filter.2 ⟨h, by simp⟩, rfl⟩)⟩
      · have e : t = u := by dsimp only at h1; omega
        subst e
        have := hv.freeI i (mem_free_of_chosen h2)
        exact ⟨⟨this.1, by omega⟩, .inl h2⟩
    · rintro ⟨_, h | h⟩
      · by_cases hM : u < M
        · exact .inr ⟨u, hM, rfl, h⟩
        · rw [hz u (by omega), chosen_zero] at h
          cases h
      · obtain ⟨x, hx, rfl⟩ := List.mem_map.1 h
        obtain ⟨h1, h2⟩ := List.mem_filter.1 hx
        simp only [decide_eq_true_eq] at h2
        rw [← h2]
        exact .inl h1

theorem other_no {N : Net} (hN : NetOk N) {v : Sur} (hv : SurOk N v) {pat : List Mom} (h0 : 0 < pat.length) {c : Nat → Nat} {M u : Nat} (hc : CanT v.free v.most c M) (hz : ∀ u, M ≤ u → c u = 0) (h : NoAt N v pat u) : ¬ ShownL N (sortU (v.fixed ++ otherE v.free c M)) pat u := by
  intro hs
  have h1 := h _ (can_all hv.most hc hz u)
  rw [(goal_run hN h0 fun w _ => other_ins hv hz w).2 hs] at h1
  cases h1

theorem other_evok {N : Net} {v : Sur} (hv : SurOk N v) (c : Nat → Nat) {M : Nat} (hM : M ≤ 10000) (hl : v.fixed.length + M * v.free.length ≤ 65536) : EvOk N.inputs 10000 (sortU (v.fixed ++ otherE v.free c M)) := by
  have h1 := sortU_len (v.fixed ++ otherE v.free c M)
  have h2 := otherE_len v.free c M
  rw [List.length_append] at h1
  refine ⟨by omega, fun e he => ?_, sortU_asc _⟩
  rcases List.mem_append.1 (mem_sortU.1 he) with h | h
  · exact hv.fixed.range e h
  · obtain ⟨t, ht, h3, h4⟩ := otherE_mem.1 h
    have := hv.freeI _ (mem_free_of_chosen h4)
    exact ⟨⟨by omega, by omega⟩, this⟩

end Go.Proofs
