/- Gd1: the laws that the walk of Driven uses. -/
import Derived.Test.YtbnipfgbfnhibaaGd0
set_option linter.unusedVariables false
set_option linter.unusedSimpArgs false
namespace Go.Proofs
open Go Go.Vx Go.Gm

theorem IInv.zero (N : Net) : IInv N 0 [] [] := ⟨rfl, by simp, by simp, fun i a b _ h => by simp at h, by simp⟩

theorem snoc_get {α : Type} {l : List α} {x y : α} {j : Nat} (h : (l ++ [x])[j]? = some y) : l[j]? = some y ∨ (j = l.length ∧ y = x) := by
  by_cases hj : j < l.length
  · rw [List.getElem?_append_left hj] at h; exact .inl h
  · rw [List.getElem?_append_right (by omega)] at h
    have h1 := (List.getElem?_eq_some_iff.1 h).1
    simp only [List.length_cons, List.length_nil] at h1
    have e : j - l.length = 0 := by omega
    rw [e] at h
    simp only [List.getElem?_cons_zero, Option.some.injEq] at h
    exact .inr ⟨by omega, h.symm⟩

theorem IInv.stay {N : Net} {i : Nat} {cs : List CellM} {A : List Evt} {p : Par} {x : Int} (h : IInv N i cs A) (hp : N.ps[i]? = some p) (hc : NextC ⟨p, ⟨0, 0⟩, 0, x⟩) (hx : x < 0) : IInv N (i + 1) (cs ++ [⟨p, ⟨0, 0⟩, 0, x⟩]) A := by
  refine ⟨by simp [h.len], fun j c q h1 h2 => ?_, h.alarms, h.heap, by have := h.few; omega⟩
  rcases snoc_get h1 with h3 | ⟨h3, rfl⟩
  · exact h.cell j c q h3 h2
  · rw [h.len] at h3
    subst h3
    rw [hp] at h2
    cases h2
    exact ⟨rfl, rfl, rfl, hc, fun h => by dsimp only at h; omega⟩

theorem IInv.push {N : Net} {i : Nat} {cs : List CellM} {A A' : List Evt} {p : Par} {x : Int} (h : IInv N i cs A) (hp : N.ps[i]? = some p) (hc : NextC ⟨p, ⟨0, 0⟩, 0, x⟩) (hA : HeapOk A') (hAp : A'.Perm (A ++ [⟨x, i⟩])) (hx : 0 ≤ x) : IInv N (i + 1) (cs ++ [⟨p, ⟨0, 0⟩, 0, x⟩]) A' := by
  have hlt : i < N.ps.length := (List.getElem?_eq_some_iff.1 hp).1
  refine ⟨by simp [h.len], fun j c q h1 h2 => ?_, fun a ha => ?_, hA, ?_⟩
  · rcases snoc_get h1 with h3 | ⟨h3, rfl⟩
    · obtain ⟨g1, g2, g3, g4, g5⟩ := h.cell j c q h3 h2
      exact ⟨g1, g2, g3, g4, fun hh => hAp.mem_iff.2 (List.mem_append_left _ (g5 hh))⟩
    · rw [h.len] at h3
      subst h3
      rw [hp] at h2
      cases h2
      exact ⟨rfl, rfl, rfl, hc, fun _ => hAp.mem_iff.2 (by simp)⟩
  · rcases List.mem_append.1 (hAp.mem_iff.1 ha) with ha | ha
    · exact h.alarms a ha
    · simp only [List.mem_singleton] at ha
      subst ha
      dsimp only
      omega
  · have := hAp.length_eq
    have := h.few
    simp at *
    omega

theorem DInv.zero {N : Net} (hN : NetOk N) (l : List Evt) {cs : List CellM} {A : List Evt} (h : IInv N N.ps.length cs A) : DInv N l 0 cs [] A := by
  refine ⟨h.len, fun i c p h1 h2 => ?_, ⟨by simp, by simp, by simp, by simp, fun t i _ ht hi => ?_⟩, fun t i v hv => by simp [dueAt, dueFind] at hv, fun a ha => by have := h.alarms a ha; omega, h.heap, ?_⟩
  · obtain ⟨g1, g2, g3, g4, g5⟩ := h.cell i c p h1 h2
    refine ⟨g1, g4, g5, by omega, ?_, fun t ht => by omega, ?_⟩
    · rw [g2, g1]
      have := hN.ps p (List.mem_of_getElem? h2)
      have h3 := this.fl
      have h4 := this.rest
      unfold staOk
      dsimp only
      omega
    · have hlt : i < N.ps.length := (List.getElem?_eq_some_iff.1 h2).1
      rw [g2, g3]
      simp [stAt, sm0, silN, hlt]
  · refine ⟨List.replicate N.ps.length 0, ?_, ?_⟩
    · simp only [stAt, sm0, List.getElem?_replicate]
      rw [if_pos (by omega)]
    · simp [List.getElem?_replicate, hi, dueAt, dueFind]
  · have := h.few
    have := hN.few
    simp [dueCount]
    omega

theorem DInv.begin {N : Net} {l : List Evt} {T : Nat} {cs : List CellM} {Q : List DueRow} {A : List Evt} (h : DInv N l T cs Q A) : PInv N l T cs Q A [] := by
  refine ⟨h.len, fun i c p h1 h2 => ?_, h.due, fun t i v _ hv => h.dueA t i v hv, h.alarms, h.heap, by simp, h.few⟩
  obtain ⟨g1, g2, g3, g4⟩ := h.cell i c p h1 h2
  exact ⟨g1, g2, g3, .inl ⟨g4, by simp, fun v hv => h.dueA T i v hv⟩⟩

theorem PInv.sp_le {N : Net} {l : List Evt} {T : Nat} {cs : List CellM} {Q : List DueRow} {A : List Evt} {sp : List Int} (h : PInv N l T cs Q A sp) : sp.length ≤ N.ps.length :=
  nodup_le N.ps.length 0 sp h.spk.1 (fun x hx => by have := h.spk.2 x hx; omega)

theorem par_at {N : Net} {cs : List CellM} (hl : cs.length = N.ps.length) {i : Nat} {c : CellM} (hi : cs[i]? = some c) : ∃ p, N.ps[i]? = some p := by
  have := (List.getElem?_eq_some_iff.1 hi).1
  exact ⟨N.ps[i]'(by omega), List.getElem?_eq_getElem _⟩

theorem PInv.quiet {N : Net} {l : List Evt} {T i : Nat} {cs : List CellM} {Q : List DueRow} {A : List Evt} {sp : List Int} {c : CellM} (h : PInv N l T cs Q A sp) (hN : NetOk N) (hi : cs[i]? = some c) :
    ParOk c.p ∧ staOk c.p c.s ∧ c.tick ≤ T + 1 ∧ (¬ lookSkip c (dueAt Q T i) T → Go.Gm.quiet c.p c.s (T - c.tick)) := by
  obtain ⟨p, hp⟩ := par_at h.len hi
  obtain ⟨g1, g2, g3, g4⟩ := h.cell i c p hi hp
  rw [g1]
  refine ⟨hN.ps p (List.mem_of_getElem? hp), ?_⟩
  rcases g4 with ⟨⟨k1, k2, k3, k4⟩, _⟩ | ⟨k1, k2, _⟩
  · rw [g1] at k2 k3
    exact ⟨k2, by omega, fun _ => k3⟩
  · rw [g1] at k2
    exact ⟨k2, by omega, fun hn => absurd (show lookSkip c (dueAt Q T i) T from .inl (by omega)) hn⟩

theorem NextC.ge {c : CellM} (h : NextC c) (h0 : 0 ≤ c.next) : (c.tick : Int) ≤ c.next := by
  obtain ⟨r, hr, hn⟩ := h
  by_cases h1 : 0 ≤ r
  · rw [if_pos h1] at hn; omega
  · rw [if_neg h1] at hn; omega

theorem PInv.look {N : Net} (hN : NetOk N) {l : List Evt} {T i : Nat} {cs : List CellM} {Q : List DueRow} {A A1 : List Evt} {sp : List Int} {c : CellM} {y : LookY} (h : PInv N l T cs Q A sp) (hp : A.Perm (⟨T, i⟩ :: A1)) (hA1 : HeapOk A1) (hi : cs[i]? = some c) (hy : LookRel cs i c (dueAt Q T i) T A1 y) :
    PInv N l T y.cells Q y.A (if y.spk then sp ++ [(i : Int)] else sp) := by
  obtain ⟨pi, hpi⟩ := par_at h.len hi
  have hlt : i < cs.length := (List.getElem?_eq_some_iff.1 hi).1
  have hltN : i < N.ps.length := (List.getElem?_eq_some_iff.1 hpi).1
  obtain ⟨c1, c2, c3, c4⟩ := h.cell i c pi hi hpi
  have hA : ∀ a, a ∈ A → a = ⟨(T : Int), (i : Int)⟩ ∨ a ∈ A1 := fun a ha => List.mem_cons.1 (hp.mem_iff.1 ha)
  have hin : ∀ a, a ∈ A1 → a ∈ A := fun a ha => hp.mem_iff.2 (List.mem_cons_of_mem _ ha)
  have hlen := hp.length_eq
  simp only [List.length_cons] at hlen
  rcases hy with ⟨hs, y1, y2, y3⟩ | ⟨hs, c', d1, d2, d3, d4, d5, d6⟩
  · rw [y1, y2, y3]
    simp only [Bool.false_eq_true, if_false]
    refine ⟨h.len, fun j cj pj h1 h2 => ?_, h.due, fun t k v ht hv => ?_, fun a ha => h.alarms a (hin a ha), hA1, h.spk, by have := h.few; omega⟩
    · obtain ⟨g1, g2, g3, g4⟩ := h.cell j cj pj h1 h2
      refine ⟨g1, g2, fun h0 => ?_, ?_⟩
      · rcases hA _ (g3 h0) with e | e
        · simp only [Evt.mk.injEq] at e
          obtain ⟨e1, e2⟩ := e
          have : j = i := by omega
          subst this
          rw [hi] at h1
          cases h1
          have hge := g2.ge h0
          rcases hs with hs | ⟨_, hs⟩
          · omega
          · exact absurd e1 hs
        · exact e
      · rcases g4 with ⟨k1, k2, k3⟩ | g4
        · refine .inl ⟨k1, k2, fun v hv => ?_⟩
          rcases hA _ (k3 v hv) with e | e
          · simp only [Evt.mk.injEq, true_and] at e
            have : j = i := by omega
            subst this
            rw [hi] at h1
            cases h1
            rcases hs with hs | ⟨hs, _⟩
            · have := k1.1; omega
            · rw [hs] at hv; cases hv
          · exact e
        · exact .inr g4
    · rcases hA _ (h.dueA t k v ht hv) with e | e
      · simp only [Evt.mk.injEq] at e
        exact absurd e.1 ht
      · exact e
  · have hcT : c.tick ≤ T := by
      unfold lookSkip at hs
      omega
    obtain ⟨⟨k1, k2, k3, k4⟩, k5, k6⟩ : Rested N l T i c ∧ (i : Int) ∉ sp ∧ ∀ v, dueAt Q T i = some v → ⟨(T : Int), (i : Int)⟩ ∈ A := by
      rcases c4 with c4 | ⟨c4, _⟩
      · exact c4
      · omega
    have hin' : ∀ a, a ∈ A1 → a ∈ y.A := by
      intro a ha
      rcases d6 with ⟨_, d6⟩ | ⟨_, _, d6⟩
      · rw [d6]; exact ha
      · exact d6.mem_iff.2 (List.mem_append_left _ ha)
    have hnew : ∀ a, a ∈ y.A → a ∈ A1 ∨ (a = ⟨c'.next, (i : Int)⟩ ∧ 0 ≤ c'.next) := by
      intro a ha
      rcases d6 with ⟨_, d6⟩ | ⟨d7, _, d6⟩
      · rw [d6] at ha; exact .inl ha
      · rcases List.mem_append.1 (d6.mem_iff.1 ha) with ha | ha
        · exact .inl ha
        · exact .inr ⟨by simpa using ha, d7⟩
    have hylen : y.A.length ≤ A1.length + 1 := by
      rcases d6 with ⟨_, d6⟩ | ⟨_, _, d6⟩
      · rw [d6]; omega
      · have := d6.length_eq; simp at this; omega
    have hpo : ParOk pi := hN.ps pi (List.mem_of_getElem? hpi)
    rw [c1] at k2 k3 k4 d3
    have hst : staOk pi c'.s := by
      have := tick_ok hpo (silN_ok hpo k2 (T - c.tick)) ((dueAt Q T i).getD 0)
      rw [← d3] at this
      exact this
    have hsp : ∀ j : Nat, j ≠ i → ((j : Int) ∈ (if y.spk then sp ++ [(i : Int)] else sp) ↔ (j : Int) ∈ sp) := by
      intro j hj
      split
      · simp; omega
      · rfl
    have hspi : (i : Int) ∈ (if y.spk then sp ++ [(i : Int)] else sp) ↔ y.spk = true := by
      cases y.spk <;> simp [k5]
    refine ⟨by rw [d5]; simpa using h.len, fun j cj pj h1 h2 => ?_, h.due, fun t k v ht hv => ?_, fun a ha => ?_, ?_, ?_, by have := h.few; omega⟩
    · rw [d5, List.getElem?_set] at h1
      by_cases hj : i = j
      · subst hj
        rw [if_pos rfl, if_pos hlt] at h1
        cases h1
        rw [hpi] at h2
        cases h2
        refine ⟨d1.trans c1, d4, fun h0 => ?_, .inr ⟨d2, by rw [d1, c1]; exact hst, _, y.spk, k4, d3.symm, hspi⟩⟩
        rcases d6 with ⟨d6, _⟩ | ⟨_, _, d6⟩
        · omega
        · exact d6.mem_iff.2 (by simp)
      · rw [if_neg hj] at h1
        obtain ⟨g1, g2, g3, g4⟩ := h.cell j cj pj h1 h2
        have hne : ∀ t : Int, (⟨t, (j : Int)⟩ : Evt) ∈ A → (⟨t, (j : Int)⟩ : Evt) ∈ y.A := by
          intro t ht
          rcases hA _ ht with e | e
          · simp only [Evt.mk.injEq] at e
            omega
          · exact hin' _ e
        refine ⟨g1, g2, fun h0 => hne _ (g3 h0), ?_⟩
        rcases g4 with ⟨q1, q2, q3⟩ | ⟨q1, q2, s, b, q3, q4, q5⟩
        · exact .inl ⟨q1, by rw [hsp j (Ne.symm hj)]; exact q2, fun v hv => hne _ (q3 v hv)⟩
        · exact .inr ⟨q1, q2, s, b, q3, q4, by rw [hsp j (Ne.symm hj)]; exact q5⟩
    · rcases hA _ (h.dueA t k v ht hv) with e | e
      · simp only [Evt.mk.injEq] at e
        exact absurd e.1 ht
      · exact hin' _ e
    · rcases hnew a ha with ha | ⟨rfl, h0⟩
      · exact h.alarms a (hin a ha)
      · have := d4.ge h0
        dsimp only
        omega
    · rcases d6 with ⟨_, d6⟩ | ⟨_, d6, _⟩
      · rw [d6]; exact hA1
      · exact d6
    · split
      · refine ⟨?_, fun x hx => ?_⟩
        · rw [List.nodup_append]
          exact ⟨h.spk.1, by simp, fun a ha b hb e => by simp only [List.mem_singleton] at hb; subst hb; subst e; exact k5 ha⟩
        · rcases List.mem_append.1 hx with hx | hx
          · exact h.spk.2 x hx
          · simp only [List.mem_singleton] at hx; subst hx; omega
      · exact h.spk

/-- A rested cell that has nothing due and expects no spike in this tick has none. -/
theorem rested_quiet {p : Par} {s : Sta} {tick T : Nat} {next : Int} (h1 : tick ≤ T) (h2 : Go.Gm.quiet p s (T - tick)) (h3 : NextC ⟨p, s, tick, next⟩) (h4 : next ≠ T) : (Gm.tick p (silN p s (T - tick)) 0).2 = false := by
  obtain ⟨r, hr, hn⟩ := h3
  dsimp only at hr hn
  rcases hr with ⟨hr, hq⟩ | ⟨n, hr, _, hq, hs⟩
  · exact hq (T - tick + 1) (T - tick) (by omega)
  · rw [hr, if_pos (by omega)] at hn
    by_cases hlt : T - tick < n
    · exact hq _ hlt
    · by_cases he : T - tick = n
      · omega
      · have := h2 n (by omega)
        rw [hs] at this
        cases this

/-- What happens to a cell in the tick. -/
theorem PInv.tickAt {N : Net} (hN : NetOk N) {l : List Evt} {T : Nat} {cs : List CellM} {Q : List DueRow} {A : List Evt} {sp : List Int} (h : PInv N l T cs Q A sp) (hA : ∀ a ∈ A, (T : Int) < a.tick) {i : Nat} {c : CellM} {p : Par} (hi : cs[i]? = some c) (hp : N.ps[i]? = some p) :
    c.p = p ∧ ∃ b, (fire N.ps (stAt N l T).sts (((stAt N l T).D[T % 16]?).getD []))[i]? = some (silN p c.s (T + 1 - c.tick), b) ∧ ((i : Int) ∈ sp ↔ b = true) ∧ c.tick ≤ T + 1 ∧ staOk p c.s ∧ Go.Gm.quiet p c.s (T + 1 - c.tick) := by
  obtain ⟨g1, g2, g3, g4⟩ := h.cell i c p hi hp
  have hlt : i < N.ps.length := (List.getElem?_eq_some_iff.1 hp).1
  refine ⟨g1, ?_⟩
  obtain ⟨row, r1, r2⟩ := h.due.ring T i (by omega) (by omega) hlt
  rcases g4 with ⟨⟨k1, k2, k3, k4⟩, k5, k6⟩ | ⟨k1, k2, s, b, k3, k4, k5⟩
  · have hdue : dueAt Q T i = none := by
      cases hd : dueAt Q T i with
      | none => rfl
      | some v => have := hA _ (k6 v hd); dsimp only at this; omega
    have hnext : c.next ≠ T := by
      intro e
      have := hA _ (g3 (by omega))
      dsimp only at this
      omega
    rw [g1] at k2 k3 k4
    have hq := rested_quiet (p := p) (s := c.s) (next := c.next) k1 k3 (by rw [← g1]; exact g2) hnext
    have e1 : T + 1 - c.tick = (T - c.tick) + 1 := by omega
    rw [hdue, Option.getD_none] at r2
    have hf := fire_get hp k4 r2
    rw [r1, Option.getD_some, hf, e1]
    refine ⟨false, ?_, by simp [k5], by omega, k2, ?_⟩
    · rw [← hq]; rfl
    · intro t ht
      by_cases h5 : t < T - c.tick
      · exact k3 t h5
      · obtain rfl : t = T - c.tick := by omega
        exact hq
  · rw [g1] at k2
    have hf := fire_get hp k3 r2
    rw [r1, Option.getD_some, hf, k4]
    refine ⟨b, ?_, k5, by omega, k2, fun t ht => by omega⟩
    have : T + 1 - c.tick = 0 := by omega
    rw [this]
    rfl

theorem spkFrom_mem (F : List (Sta × Bool)) : ∀ (k : Nat) (x : Int), x ∈ spkFrom k F ↔ ∃ i : Nat, x = ((k + i : Nat) : Int) ∧ ∃ s, F[i]? = some (s, true) := by
  induction F with
  | nil => intro k x; simp [spkFrom]
  | cons y F ih =>
    obtain ⟨s, b⟩ := y
    intro k x
    have key : (∃ i : Nat, x = ((k + i : Nat) : Int) ∧ ∃ s', ((s, b) :: F)[i]? = some (s', true)) ↔ (x = (k : Int) ∧ b = true) ∨ ∃ i : Nat, x = ((k + 1 + i : Nat) : Int) ∧ ∃ s, F[i]? = some (s, true) := by
      constructor
      · rintro ⟨i, h1, s', h2⟩
        cases i with
        | zero =>
          simp only [List.getElem?_cons_zero, Option.some.injEq, Prod.mk.injEq] at h2
          exact .inl ⟨by simpa using h1, h2.2⟩
        | succ i => exact .inr ⟨i, by rw [h1]; congr 1; omega, s', by simpa using h2⟩
      · rintro (⟨h1, h2⟩ | ⟨i, h1, s', h2⟩)
        · exact ⟨0, by simpa using h1, s, by simp [h2]⟩
        · exact ⟨i + 1, by rw [h1]; congr 1; omega, s', by simpa using h2⟩
    rw [key]
    simp only [spkFrom]
    cases b
    · simp only [Bool.false_eq_true, if_false, and_false, false_or]
      exact ih (k + 1) x
    · simp only [if_true, List.mem_cons, and_true]
      rw [ih (k + 1) x]

theorem spkFrom_lt (F : List (Sta × Bool)) : ∀ k : Nat, (spkFrom k F).Pairwise (· < ·) ∧ ∀ x ∈ spkFrom k F, (k : Int) ≤ x := by
  induction F with
  | nil => intro k; simp [spkFrom]
  | cons y F ih =>
    intro k
    obtain ⟨h1, h2⟩ := ih (k + 1)
    simp only [spkFrom]
    split
    · refine ⟨List.pairwise_cons.2 ⟨fun x hx => by have := h2 x hx; omega, h1⟩, fun x hx => ?_⟩
      rcases List.mem_cons.1 hx with rfl | hx
      · omega
      · have := h2 x hx; omega
    · exact ⟨h1, fun x hx => by have := h2 x hx; omega⟩

theorem PInv.spikes {N : Net} (hN : NetOk N) {l : List Evt} {T : Nat} {cs : List CellM} {Q : List DueRow} {A : List Evt} {sp : List Int} (h : PInv N l T cs Q A sp) (hA : ∀ a ∈ A, (T : Int) < a.tick) : sorted sp = spkAt N l T := by
  have hlt := (spkFrom_lt (fire N.ps (stAt N l T).sts (((stAt N l T).D[T % 16]?).getD [])) 0).1
  have hnd : (spkAt N l T).Nodup := hlt.imp (fun h e => by omega)
  have hperm : sp.Perm (spkAt N l T) := by
    rw [List.perm_ext_iff_of_nodup h.spk.1 hnd]
    intro x
    unfold spkAt ringSpk Gm.spk
    rw [spkFrom_mem]
    simp only [Nat.zero_add]
    have hfl := (stAt_ok hN l T).fire T
    constructor
    · intro hx
      have hr := h.spk.2 x hx
      have hi : cs[x.toNat]? = some (cs[x.toNat]'(by rw [h.len]; omega)) := List.getElem?_eq_getElem _
      obtain ⟨p, hp⟩ := par_at h.len hi
      obtain ⟨_, b, h1, h2, _⟩ := h.tickAt hN hA hi hp
      have e : ((x.toNat : Nat) : Int) = x := by omega
      rw [e] at h2
      exact ⟨x.toNat, e.symm, _, by rw [h1, h2.1 hx]⟩
    · rintro ⟨i, rfl, s, hs⟩
      have hil : i < N.ps.length := by rw [← hfl]; exact (List.getElem?_eq_some_iff.1 hs).1
      have hi : cs[i]? = some (cs[i]'(by rw [h.len]; omega)) := List.getElem?_eq_getElem _
      obtain ⟨p, hp⟩ := par_at h.len hi
      obtain ⟨_, b, h1, h2, _⟩ := h.tickAt hN hA hi hp
      rw [hs] at h1
      simp only [Option.some.injEq, Prod.mk.injEq] at h1
      exact h2.2 h1.2.symm
  unfold sorted
  refine List.Perm.eq_of_pairwise (le := fun x y => decide (x ≤ y) = true) ?_ ?_ ?_ ((List.mergeSort_perm _ _).trans hperm)
  · intro a b _ _ h1 h2
    simp only [decide_eq_true_eq] at h1 h2
    omega
  · exact List.pairwise_mergeSort (fun a b c h1 h2 => by simp only [decide_eq_true_eq] at *; omega) (fun a b => by simp; omega) sp
  · exact hlt.imp (fun h => by simp only [decide_eq_true_eq]; omega)

end Go.Proofs
