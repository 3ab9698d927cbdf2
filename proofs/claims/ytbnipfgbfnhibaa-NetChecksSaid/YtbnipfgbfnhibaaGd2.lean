/- Gd2: what is due behind a tick. -/
import Derived.Test.YtbnipfgbfnhibaaGd1
set_option linter.unusedVariables false
set_option linter.unusedSimpArgs false
namespace Go.Proofs
open Go Go.Vx Go.Gm

theorem dueFind_none {Q : List DueRow} {t : Int} : dueFind Q t = none ↔ t ∉ Q.map (·.key) := by
  induction Q with
  | nil => simp [dueFind]
  | cons r q ih =>
    simp only [dueFind, List.map_cons, List.mem_cons, not_or]
    split
    · rename_i h; simp [h]
    · rename_i h; rw [ih]; exact ⟨fun h2 => ⟨fun e => h e.symm, h2⟩, fun h2 => h2.2⟩

theorem dueFind_set {Q : List DueRow} {j : Nat} {r r' : DueRow} (hn : (Q.map (·.key)).Nodup) (hj : Q[j]? = some r) (hk : r'.key = r.key) (t : Int) : dueFind (Q.set j r') t = if t = r.key then some r' else dueFind Q t := by
  induction Q generalizing j with
  | nil => simp at hj
  | cons z q ih =>
    simp only [List.map_cons, List.nodup_cons] at hn
    cases j with
    | zero =>
      simp only [List.getElem?_cons_zero, Option.some.injEq] at hj
      subst hj
      simp only [List.set_cons_zero, dueFind, hk]
      by_cases h : z.key = t
      · simp [h]
      · rw [if_neg h, if_neg (Ne.symm h), if_neg h]
    | succ j =>
      simp only [List.getElem?_cons_succ] at hj
      have hm : r.key ∈ q.map (·.key) := List.mem_map_of_mem (List.mem_of_getElem? hj)
      simp only [List.set_cons_succ, dueFind]
      by_cases h : z.key = t
      · rw [if_pos h, if_pos h, if_neg]
        intro e
        exact hn.1 (by rw [h, e]; exact hm)
      · rw [if_neg h, if_neg h, ih hn.2 hj]

theorem aFind_set (l : List (Int × Int)) (i v k : Int) : aFind (aSet l i v) k = if k = i then some v else aFind l k := by
  induction l with
  | nil =>
    simp only [aSet, aFind]
    by_cases h : i = k
    · simp [h]
    · rw [if_neg h, if_neg (Ne.symm h)]
  | cons x q ih =>
    simp only [aSet]
    by_cases h : x.1 = i
    · rw [if_pos h]
      simp only [aFind]
      by_cases h2 : i = k
      · rw [if_pos h2, if_pos h2.symm]
      · rw [if_neg h2, if_neg (Ne.symm h2), if_neg (by rw [h]; exact h2)]
    · rw [if_neg h]
      simp only [aFind, ih]
      by_cases h2 : x.1 = k
      · rw [if_pos h2, if_pos h2, if_neg (fun e => h (h2.trans e))]
      · rw [if_neg h2, if_neg h2]

theorem aSet_keys (l : List (Int × Int)) (i v : Int) : (∀ x ∈ aSet l i v, x.1 = i ∨ x ∈ l) ∧ ((l.map (·.1)).Nodup → ((aSet l i v).map (·.1)).Nodup) ∧ aSet l i v ≠ [] ∧
    (aFind l i = none → (aSet l i v).length = l.length + 1) ∧ (∀ u, aFind l i = some u → (aSet l i v).length = l.length) := by
  induction l with
  | nil => simp [aSet, aFind]
  | cons x q ih =>
    obtain ⟨h1, h2, h3, h4, h5⟩ := ih
    by_cases h : x.1 = i
    · have e1 : aSet (x :: q) i v = (i, v) :: q := by simp [aSet, h]
      have e2 : aFind (x :: q) i = some x.2 := by simp [aFind, h]
      rw [e1, e2]
      refine ⟨fun y hy => ?_, fun hn => ?_, by simp, by simp, by simp⟩
      · rcases List.mem_cons.1 hy with rfl | hy
        · exact .inl rfl
        · exact .inr (List.mem_cons_of_mem _ hy)
      · simpa [h] using hn
    · have e1 : aSet (x :: q) i v = x :: aSet q i v := by simp [aSet, h]
      have e2 : aFind (x :: q) i = aFind q i := by simp [aFind, h]
      rw [e1, e2]
      refine ⟨fun y hy => ?_, fun hn => ?_, by simp, fun hh => by simp [h4 hh], fun u hh => by simp [h5 u hh]⟩
      · rcases List.mem_cons.1 hy with rfl | hy
        · exact .inr (by simp)
        · rcases h1 y hy with e | e
          · exact .inl e
          · exact .inr (List.mem_cons_of_mem _ e)
      · simp only [List.map_cons, List.nodup_cons] at hn ⊢
        refine ⟨fun hm => ?_, h2 hn.2⟩
        obtain ⟨y, hy, hyx⟩ := List.mem_map.1 hm
        rcases h1 y hy with e | e
        · exact h (by rw [← hyx]; exact e)
        · exact hn.1 (by rw [← hyx]; exact List.mem_map_of_mem e)

theorem dueCount_set {Q : List DueRow} {j : Nat} {r r' : DueRow} (hj : Q[j]? = some r) : dueCount (Q.set j r') + r.l.length = dueCount Q + r'.l.length := by
  induction Q generalizing j with
  | nil => simp at hj
  | cons z q ih =>
    cases j with
    | zero =>
      simp only [List.getElem?_cons_zero, Option.some.injEq] at hj
      subst hj
      simp only [List.set_cons_zero, dueCount, List.map_cons, List.foldr_cons]
      omega
    | succ j =>
      simp only [List.getElem?_cons_succ] at hj
      have := ih hj
      simp only [List.set_cons_succ, dueCount, List.map_cons, List.foldr_cons] at this ⊢
      omega

theorem dueCount_app (Q Q' : List DueRow) : dueCount (Q ++ Q') = dueCount Q + dueCount Q' := by
  induction Q with
  | nil => simp [dueCount]
  | cons z q ih => simp only [dueCount, List.cons_append, List.map_cons, List.foldr_cons] at ih ⊢; omega

/-- What is due, on its way to the next tick. -/
structure JInv (N : Net) (T B : Nat) (D : List (List Int)) (Q : List DueRow) (A : List Evt) : Prop where
  keys : (Q.map (·.key)).Nodup
  rows : ∀ r ∈ Q, (r.l.map (·.1)).Nodup
  ne : ∀ r ∈ Q, r.l ≠ []
  span : ∀ r ∈ Q, (T : Int) + 1 ≤ r.key ∧ r.key < T + 17 ∧ ∀ x ∈ r.l, 0 ≤ x.1 ∧ x.1 < N.ps.length
  ring : ∀ (t i : Nat), T + 1 ≤ t → t < T + 17 → i < N.ps.length → ∃ row, D[t % 16]? = some row ∧ row[i]? = some ((dueAt Q t i).getD 0)
  dueA : ∀ t i v, dueAt Q t i = some v → ⟨t, i⟩ ∈ A
  alarms : ∀ a ∈ A, (T : Int) + 1 ≤ a.tick ∧ 0 ≤ a.id ∧ a.id < N.ps.length
  few : A.length ≤ B + dueCount Q

theorem JInv.step {N : Net} {T B : Nat} {D : List (List Int)} {Q Q' : List DueRow} {A A' : List Evt} {s : Syn} (h : JInv N T B D Q A) (hs : synOk N s) (ha : AddRel Q A (T + s.dl) s.to s.wt Q' A') : JInv N T B (due1 T D s) Q' A' := by
  obtain ⟨Q1, j, r, hm, hf, hj, hk, hQ', hA'⟩ := ha
  unfold synOk srcOk at hs
  have h1 : (Q1.map (·.key)).Nodup ∧ (∀ r ∈ Q1, (r.l.map (·.1)).Nodup) ∧ (∀ x ∈ Q1, x.key ≠ (T : Int) + s.dl → x.l ≠ []) ∧ (∀ r ∈ Q1, (T : Int) + 1 ≤ r.key ∧ r.key < T + 17 ∧ ∀ x ∈ r.l, 0 ≤ x.1 ∧ x.1 < N.ps.length) ∧ (∀ t i, dueAt Q1 t i = dueAt Q t i) ∧ dueCount Q1 = dueCount Q := by
    rcases hm with ⟨rfl, _⟩ | ⟨hn, b, rfl⟩
    · exact ⟨h.keys, h.rows, fun x hx _ => h.ne x hx, h.span, fun _ _ => rfl, rfl⟩
    · have hni := dueFind_none.1 hn
      refine ⟨?_, fun x hx => ?_, fun x hx hne => ?_, fun x hx => ?_, fun t i => ?_, by rw [dueCount_app]; simp [dueCount]⟩
      · rw [List.map_append, List.nodup_append]
        exact ⟨h.keys, by simp, fun a ha b hb e => by simp only [List.map_cons, List.map_nil, List.mem_singleton] at hb; subst hb; subst e; exact hni ha⟩
      · rcases List.mem_append.1 hx with hx | hx
        · exact h.rows x hx
        · simp only [List.mem_singleton] at hx; subst hx; simp
      · rcases List.mem_append.1 hx with hx | hx
        · exact h.ne x hx
        · simp only [List.mem_singleton] at hx; subst hx; exact absurd rfl hne
      · rcases List.mem_append.1 hx with hx | hx
        · exact h.span x hx
        · simp only [List.mem_singleton] at hx; subst hx; dsimp only; exact ⟨by omega, by omega, by simp⟩
      · unfold dueAt
        have : ∀ (Q : List DueRow), dueFind Q ((T : Int) + s.dl) = none → (dueFind (Q ++ [(⟨(T : Int) + s.dl, b, []⟩ : DueRow)]) t).bind (fun r => aFind r.l i) = (dueFind Q t).bind fun r => aFind r.l i := by
          intro Q
          induction Q with
          | nil => intro _; simp only [List.nil_append, dueFind]; split <;> simp [aFind]
          | cons z q ih =>
            intro hq
            simp only [dueFind] at hq
            split at hq
            · cases hq
            · simp only [List.cons_append, dueFind]
              split
              · rfl
              · exact ih hq
        exact this Q hn
  obtain ⟨k1, k2, k3, k4, k5, k6⟩ := h1
  have hrm : r ∈ Q1 := List.mem_of_getElem? hj
  have hat : ∀ t i, dueAt Q' t i = if t = (T : Int) + s.dl ∧ i = s.to then some (wadd ((dueAt Q t i).getD 0) s.wt) else dueAt Q t i := by
    intro t i
    rw [hQ']
    unfold dueAt
    rw [dueFind_set k1 hj (by rw [hk])]
    rw [hk]
    by_cases ht : t = (T : Int) + s.dl
    · rw [if_pos ht]
      simp only [Option.bind_some, aFind_set]
      have e : ∀ i, aFind r.l i = dueAt Q t i := by
        intro i
        rw [← k5, ht]
        unfold dueAt
        rw [hf]; rfl
      by_cases hi : i = s.to
      · rw [if_pos hi, if_pos ⟨ht, hi⟩, hi, e]
        rfl
      · rw [if_neg hi, if_neg (fun e => hi e.2), e]
        rfl
    · rw [if_neg ht, if_neg (fun e => ht e.1)]
      exact k5 t i
  have hakeys := aSet_keys r.l s.to (wadd ((aFind r.l s.to).getD 0) s.wt)
  have hmem : ∀ x ∈ Q', x ∈ Q1 ∧ x.key ≠ (T : Int) + s.dl ∨ x = ⟨(T : Int) + s.dl, r.blk, aSet r.l s.to (wadd ((aFind r.l s.to).getD 0) s.wt)⟩ := by
    intro x hx
    rw [hQ'] at hx
    obtain ⟨m, hm'⟩ := List.getElem?_of_mem hx
    rw [List.getElem?_set] at hm'
    by_cases e : j = m
    · subst e
      rw [if_pos rfl, if_pos (List.getElem?_eq_some_iff.1 hj).1] at hm'
      cases hm'
      exact .inr rfl
    · rw [if_neg e] at hm'
      refine .inl ⟨List.mem_of_getElem? hm', fun ek => e ?_⟩
      have g1 : (Q1.map (·.key))[j]? = some ((T : Int) + s.dl) := by rw [List.getElem?_map, hj]; simp [hk]
      have g2 : (Q1.map (·.key))[m]? = some ((T : Int) + s.dl) := by rw [List.getElem?_map, hm']; simp [ek]
      exact (List.getElem?_inj (List.getElem?_eq_some_iff.1 g1).1 k1).1 (g1.trans g2.symm)
  have hAin : ∀ a ∈ A, a ∈ A' := by
    intro a ha
    rcases hA' with ⟨_, e⟩ | ⟨_, _, e⟩
    · rw [e]; exact ha
    · exact e.mem_iff.2 (List.mem_append_left _ ha)
  have hto : aFind r.l s.to = dueAt Q ((T : Int) + s.dl) s.to := by
    rw [← k5]; unfold dueAt; rw [hf]; rfl
  refine ⟨?_, fun x hx => ?_, fun x hx => ?_, fun x hx => ?_, fun t i ht1 ht2 hi => ?_, fun t i v hv => ?_, fun a ha => ?_, ?_⟩
  · rw [hQ', List.map_set]
    have : (Q1.map (·.key)).set j ((T : Int) + s.dl) = Q1.map (·.key) := set_self (by rw [List.getElem?_map, hj]; simp [hk])
    rw [this]
    exact k1
  · rcases hmem x hx with ⟨hx, _⟩ | rfl
    · exact k2 x hx
    · exact hakeys.2.1 (k2 r hrm)
  · rcases hmem x hx with ⟨hx, hne⟩ | rfl
    · exact k3 x hx hne
    · exact hakeys.2.2.1
  · rcases hmem x hx with ⟨hx, hne⟩ | rfl
    · exact k4 x hx
    · dsimp only
      refine ⟨by omega, by omega, fun y hy => ?_⟩
      rcases hakeys.1 y hy with e | e
      · omega
      · exact (k4 r hrm).2.2 y e
  · obtain ⟨row, r1, r2⟩ := h.ring t i ht1 ht2 hi
    rw [hat]
    unfold due1
    rw [List.getElem?_modify, r1]
    simp only [Option.map_eq_map, Option.map_some]
    by_cases e : (T + s.dl.toNat) % 16 = t % 16
    · have et : t = T + s.dl.toNat := by omega
      rw [if_pos e]
      refine ⟨_, rfl, ?_⟩
      rw [List.getElem?_modify, r2]
      simp only [Option.map_eq_map, Option.map_some]
      by_cases e2 : s.to.toNat = i
      · rw [if_pos e2, if_pos ⟨by omega, by omega⟩]
        rfl
      · rw [if_neg e2, if_neg (fun x => e2 (by omega))]
    · rw [if_neg e, if_neg (fun x => e (by omega))]
      exact ⟨row, rfl, r2⟩
  · rw [hat] at hv
    split at hv
    · rename_i e
      rw [e.1, e.2]
      rcases hA' with ⟨⟨v', hv'⟩, e'⟩ | ⟨_, _, e'⟩
      · rw [e']
        rw [hto] at hv'
        exact h.dueA _ _ v' hv'
      · exact e'.mem_iff.2 (by simp)
    · exact hAin _ (h.dueA t i v hv)
  · rcases hA' with ⟨_, e⟩ | ⟨_, _, e⟩
    · rw [e] at ha; exact h.alarms a ha
    · rcases List.mem_append.1 (e.mem_iff.1 ha) with ha | ha
      · exact h.alarms a ha
      · simp only [List.mem_singleton] at ha
        subst ha
        dsimp only
        omega
  · have hc := dueCount_set (r' := ⟨(T : Int) + s.dl, r.blk, aSet r.l s.to (wadd ((aFind r.l s.to).getD 0) s.wt)⟩) hj
    rw [← hQ', k6] at hc
    dsimp only at hc
    have hf := h.few
    have hl := hakeys.2.2.2
    rcases hA' with ⟨⟨v', hv'⟩, e⟩ | ⟨hv', _, e⟩
    · rw [e]
      have := hl.2 v' hv'
      omega
    · have := e.length_eq
      simp only [List.length_append, List.length_cons, List.length_nil] at this
      have := hl.1 hv'
      omega

theorem JInv.steps {N : Net} {T B : Nat} {D : List (List Int)} {Q Q' : List DueRow} {A A' : List Evt} {l : List Syn} (h : JInv N T B D Q A) (hl : ∀ s ∈ l, synOk N s) (ha : Adds T Q A l Q' A') : JInv N T B (l.foldl (due1 T) D) Q' A' := by
  induction ha with
  | nil => exact h
  | snoc _ h2 ih =>
    rw [List.foldl_append]
    exact (ih fun s hs => hl s (by simp [hs])).step (hl _ (by simp)) h2

theorem Adds.mono {T : Int} {Q Q' : List DueRow} {A A' : List Evt} {l : List Syn} (h : Adds T Q A l Q' A') : ∀ a ∈ A, a ∈ A' := by
  induction h with
  | nil => exact fun _ h => h
  | snoc _ h2 ih =>
    intro a ha
    have := ih a ha
    obtain ⟨_, _, _, _, _, _, _, _, ⟨_, e⟩ | ⟨_, _, e⟩⟩ := h2
    · rw [e]; exact this
    · exact e.mem_iff.2 (List.mem_append_left _ this)

theorem dueCount_filter {Q : List DueRow} {n : Nat} (hk : (Q.map (·.key)).Nodup) (hr : ∀ r ∈ Q, r.l.length ≤ n) (t : Int) : dueCount Q ≤ dueCount (Q.filter fun r => r.key ≠ t) + n := by
  induction Q with
  | nil => simp [dueCount]
  | cons z q ih =>
    simp only [List.map_cons, List.nodup_cons] at hk
    by_cases h : z.key = t
    · rw [List.filter_cons_of_neg (by simp [h]), List.filter_eq_self.2]
      · have := hr z (by simp)
        simp only [dueCount, List.map_cons, List.foldr_cons]
        omega
      · intro x hx
        have : x.key ≠ t := fun e => hk.1 (by rw [h, ← e]; exact List.mem_map_of_mem hx)
        simpa using this
    · rw [List.filter_cons_of_pos (by simpa using h)]
      have := ih hk.2 (fun r hr' => hr r (by simp [hr']))
      simp only [dueCount, List.map_cons, List.foldr_cons] at this ⊢
      omega

theorem dueFind_filter {Q : List DueRow} {t t' : Int} (h : t' ≠ t) : dueFind (Q.filter fun r => r.key ≠ t) t' = dueFind Q t' := by
  induction Q with
  | nil => rfl
  | cons z q ih =>
    by_cases hz : z.key = t
    · rw [List.filter_cons_of_neg (by simp [hz]), ih]
      simp only [dueFind]
      rw [if_neg (by rw [hz]; exact Ne.symm h)]
    · rw [List.filter_cons_of_pos (by simpa using hz)]
      simp only [dueFind, ih]

theorem row_few {N : Net} {l : List Evt} {T : Nat} {Q : List DueRow} (h : QInv N l T Q) : ∀ r ∈ Q, r.l.length ≤ N.ps.length := by
  intro r hr
  have h1 := h.rows r hr
  have := nodup_le N.ps.length 0 (r.l.map (·.1)) h1 (fun x hx => by
    obtain ⟨y, hy, rfl⟩ := List.mem_map.1 hx
    have := (h.span r hr).2.2 y hy
    omega)
  simpa using this

theorem dueCount_bound {n : Nat} : ∀ (Q : List DueRow), (∀ r ∈ Q, r.l.length ≤ n) → dueCount Q ≤ Q.length * n
  | [], _ => by simp [dueCount]
  | z :: q, h => by
    have h1 := dueCount_bound q (fun r hr => h r (by simp [hr]))
    have h2 := h z (by simp)
    simp only [dueCount, List.map_cons, List.foldr_cons, List.length_cons] at h1 ⊢
    rw [Nat.add_mul]
    omega

theorem dueCount_le {N : Net} (hN : NetOk N) {l : List Evt} {T : Nat} {Q : List DueRow} (h : QInv N l T Q) : dueCount Q ≤ 16384 := by
  have h1 := dueCount_bound Q (row_few h)
  have h2 : Q.length ≤ 16 := by
    have := nodup_le 16 T (Q.map (·.key)) h.keys (fun x hx => by
      obtain ⟨y, hy, rfl⟩ := List.mem_map.1 hx
      have := h.span y hy
      omega)
    simpa using this
  have h3 := hN.few
  have : Q.length * N.ps.length ≤ 16 * 1024 := Nat.mul_le_mul h2 h3
  omega

theorem yields_ok {N : Net} (hN : NetOk N) (srcs : List Int) : ∀ s ∈ yields (wire N.syns) srcs, synOk N s := by
  intro s hs
  unfold yields at hs
  obtain ⟨k, _, hk⟩ := List.mem_flatMap.1 hs
  rw [wfind_wire] at hk
  exact hN.syns s (List.mem_filter.1 hk).1

theorem dueAt_old {N : Net} {l : List Evt} {T : Nat} {Q : List DueRow} (h : QInv N l T Q) {t i v : Int} (hv : dueAt Q t i = some v) : (T : Int) ≤ t ∧ t < T + 16 := by
  unfold dueAt at hv
  cases hf : dueFind Q t with
  | none => rw [hf] at hv; cases hv
  | some r =>
    obtain ⟨h1, h2⟩ := dueFind_mem hf
    have := h.span r h1
    omega

theorem PInv.base {N : Net} (hN : NetOk N) {l : List Evt} {T : Nat} {cs : List CellM} {Q : List DueRow} {A : List Evt} {sp : List Int} (h : PInv N l T cs Q A sp) (hA : ∀ a ∈ A, (T : Int) < a.tick) :
    JInv N T (1024 * (T + 2)) ((stAt N l T).D.modify (T % 16) fun l => List.replicate l.length 0) (Q.filter fun r => r.key ≠ (T : Int)) A := by
  have hq := h.due
  have hmem : ∀ r ∈ Q.filter (fun r => r.key ≠ (T : Int)), r ∈ Q ∧ r.key ≠ (T : Int) := fun r hr => by
    have := List.mem_filter.1 hr
    exact ⟨this.1, by simpa using this.2⟩
  have hat : ∀ (t i : Int), t ≠ (T : Int) → dueAt (Q.filter fun r => r.key ≠ (T : Int)) t i = dueAt Q t i := by
    intro t i ht
    unfold dueAt
    rw [dueFind_filter ht]
  have hno : ∀ i, dueAt (Q.filter fun r => r.key ≠ (T : Int)) (T : Int) i = none := by
    intro i
    unfold dueAt
    have : dueFind (Q.filter fun r => r.key ≠ (T : Int)) (T : Int) = none := by
      rw [dueFind_none]
      intro hm
      obtain ⟨r, hr, e⟩ := List.mem_map.1 hm
      exact (hmem r hr).2 e
    rw [this]; rfl
  have hsm := stAt_ok hN l T
  refine ⟨?_, fun r hr => hq.rows r (hmem r hr).1, fun r hr => hq.ne r (hmem r hr).1, fun r hr => ?_, fun t i ht1 ht2 hi => ?_, fun t i v hv => ?_, fun a ha => ?_, ?_⟩
  · exact hq.keys.sublist (List.Sublist.map _ (List.filter_sublist))
  · obtain ⟨h1, h2⟩ := hmem r hr
    have := hq.span r h1
    exact ⟨by omega, by omega, this.2.2⟩
  · rw [List.getElem?_modify]
    by_cases e : T % 16 = t % 16
    · have et : t = T + 16 := by omega
      obtain ⟨row, r1, r2⟩ := hsm.row T
      rw [← e, r1]
      refine ⟨_, rfl, ?_⟩
      simp only [if_true, List.getElem?_replicate]
      rw [r2, if_pos hi, hat t i (by omega)]
      have : dueAt Q t i = none := by
        cases hd : dueAt Q t i with
        | none => rfl
        | some v => have := dueAt_old hq hd; omega
      rw [this]
      rfl
    · obtain ⟨row, r1, r2⟩ := hq.ring t i (by omega) (by omega) hi
      rw [r1]
      refine ⟨row, by simp [e], ?_⟩
      rw [hat t i (by omega)]
      exact r2
  · by_cases ht : t = (T : Int)
    · rw [ht, hno] at hv; cases hv
    · rw [hat t i ht] at hv
      exact h.dueA t i v ht hv
  · have h1 := hA a ha
    have h2 := h.alarms a ha
    omega
  · have h1 := dueCount_filter hq.keys (row_few hq) (T : Int)
    have h2 := h.few
    have h3 := hN.few
    omega

theorem PInv.next {N : Net} (hN : NetOk N) {l : List Evt} {T : Nat} {cs : List CellM} {Q Q' : List DueRow} {A A' : List Evt} {sp : List Int} (h : PInv N l T cs Q A sp) (hA : ∀ a ∈ A, (T : Int) < a.tick)
    (ha : Adds T (Q.filter fun r => r.key ≠ (T : Int)) A (yields (wire N.syns) (sorted sp ++ (insAt l T).map fun k => -1 - k)) Q' A') : DInv N l (T + 1) cs Q' A' := by
  have hb := (h.base hN hA).steps (yields_ok hN _) ha
  have hD : (stAt N l (T + 1)).D = (yields (wire N.syns) (sorted sp ++ (insAt l T).map fun k => -1 - k)).foldl (due1 T) ((stAt N l T).D.modify (T % 16) fun l => List.replicate l.length 0) := by
    rw [h.spikes hN hA]
    rfl
  have hst : (stAt N l (T + 1)).sts = (fire N.ps (stAt N l T).sts (((stAt N l T).D[T % 16]?).getD [])).map (·.1) := rfl
  have hmono := ha.mono
  refine ⟨h.len, fun i c p hi hp => ?_, ⟨hb.keys, hb.rows, hb.ne, fun r hr => ?_, fun t i ht1 ht2 hi => ?_⟩, hb.dueA, fun a ha' => ?_, (ha.heap h.heap).1, ?_⟩
  · obtain ⟨g1, g2, g3, _⟩ := h.cell i c p hi hp
    obtain ⟨_, b, k1, _, k3, k4, k5⟩ := h.tickAt hN hA hi hp
    refine ⟨g1, g2, fun h0 => hmono _ (g3 h0), k3, by rw [g1]; exact k4, by rw [g1]; exact k5, ?_⟩
    rw [hst, List.getElem?_map, k1, g1]
    rfl
  · have := hb.span r hr
    exact ⟨by omega, by omega, this.2.2⟩
  · rw [hD]
    exact hb.ring t i ht1 (by omega) hi
  · have := hb.alarms a ha'
    omega
  · have := hb.few
    omega

theorem DInv.skip1 {N : Net} (hN : NetOk N) {l : List Evt} {T : Nat} {cs : List CellM} {Q : List DueRow} {A : List Evt} (h : DInv N l T cs Q A) (hA : ∀ a ∈ A, (T : Int) < a.tick) (hl : ∀ e ∈ l, e.tick ≠ (T : Int)) :
    DInv N l (T + 1) cs Q A ∧ outTo N l (T + 1) = outTo N l T := by
  have hp := h.begin
  have hs := hp.spikes hN hA
  have e0 : sorted [] = [] := by simp [sorted]
  rw [e0] at hs
  have hi : insAt l T = [] := by
    unfold insAt
    have : l.filter (fun e => decide (e.tick = (T : Int))) = [] := by
      rw [List.filter_eq_nil_iff]
      intro e he
      simpa using hl e he
    rw [this]
    rfl
  have hQ : (Q.filter fun r => r.key ≠ (T : Int)) = Q := by
    rw [List.filter_eq_self]
    intro r hr
    simp only [ne_eq, decide_not, Bool.not_eq_true', decide_eq_false_iff_not]
    intro e
    have hne := h.due.ne r hr
    cases hrl : r.l with
    | nil => exact hne hrl
    | cons x q =>
      have hf : dueFind Q (T : Int) ≠ none := by
        rw [ne_eq, dueFind_none]
        intro hn
        exact hn (by rw [← e]; exact List.mem_map_of_mem hr)
      cases hfr : dueFind Q (T : Int) with
      | none => exact hf hfr
      | some r' =>
        obtain ⟨m1, m2⟩ := dueFind_mem hfr
        have hrr : r' = r := by
          obtain ⟨a, ha⟩ := List.getElem?_of_mem m1
          obtain ⟨b, hb⟩ := List.getElem?_of_mem hr
          have g1 : (Q.map (·.key))[a]? = some (T : Int) := by rw [List.getElem?_map, ha]; simp [m2]
          have g2 : (Q.map (·.key))[b]? = some (T : Int) := by rw [List.getElem?_map, hb]; simp [e]
          have := (List.getElem?_inj (List.getElem?_eq_some_iff.1 g1).1 h.due.keys).1 (g1.trans g2.symm)
          subst this
          rw [ha] at hb
          cases hb
          rfl
        subst hrr
        have hd : dueAt Q (T : Int) x.1 = some x.2 := by
          unfold dueAt
          rw [hfr]
          simp only [Option.bind_some]
          rw [hrl]
          simp [aFind]
        have := hA _ (h.dueA _ _ _ hd)
        dsimp only at this
        omega
  refine ⟨hp.next hN hA ?_, by simp only [outTo, ← hs, List.map_nil, List.append_nil]⟩
  rw [e0, hi, hQ]
  exact .nil

theorem DInv.skip {N : Net} (hN : NetOk N) {l : List Evt} {T T' : Nat} {cs : List CellM} {Q : List DueRow} {A : List Evt} (h : DInv N l T cs Q A) (hT : T ≤ T') (hA : ∀ a ∈ A, (T' : Int) ≤ a.tick) (hl : ∀ e ∈ l, e.tick < T ∨ (T' : Int) ≤ e.tick) :
    DInv N l T' cs Q A ∧ outTo N l T' = outTo N l T := by
  obtain ⟨n, rfl⟩ : ∃ n, T' = T + n := ⟨T' - T, by omega⟩
  induction n with
  | zero => exact ⟨h, rfl⟩
  | succ n ih =>
    obtain ⟨h1, h2⟩ := ih (by omega) (fun a ha => by have := hA a ha; omega) (fun e he => by have := hl e he; omega)
    obtain ⟨h3, h4⟩ := h1.skip1 hN (fun a ha => by have := hA a ha; omega) (fun e he => by have := hl e he; omega)
    exact ⟨h3, h4.trans h2⟩

end Go.Proofs
