/- Bs: networks beside each other, in plain Lean. -/
import Derived.Test.YtbnipfgbfnhibaaSn
import Derived.Test.YtbnipfgbfnhibaaJn
set_option linter.unusedVariables false
set_option linter.unusedSimpArgs false
namespace Go.Proofs
open Go Go.Gm

/-- Rows beside each other. -/
def rowsApp (D E : List (List Int)) : List (List Int) := List.zipWith (· ++ ·) D E

theorem rowsApp_get (D E : List (List Int)) (r : Nat) : (rowsApp D E)[r]? = match D[r]?, E[r]? with | some d, some e => some (d ++ e) | _, _ => none := by
  unfold rowsApp
  rw [List.getElem?_zipWith]
  cases D[r]? <;> cases E[r]? <;> rfl

theorem due1_left {n t : Nat} {D E : List (List Int)} (hD : ∀ r ∈ D, r.length = n) {s : Syn} (hs : s.to.toNat < n) : due1 t (rowsApp D E) s = rowsApp (due1 t D s) E := by
  apply List.ext_getElem?
  intro r
  unfold due1
  rw [rowsApp_get, List.getElem?_modify, List.getElem?_modify, rowsApp_get]
  by_cases hr : (t + s.dl.toNat) % 16 = r
  · simp only [hr, if_true]
    cases hd : D[r]? with
    | none => rfl
    | some d =>
      cases he : E[r]? with
      | none => rfl
      | some e =>
        have hl := hD d (List.mem_of_getElem? hd)
        simp only [Option.map_eq_map, Option.map_some]
        congr 1
        apply List.ext_getElem?
        intro i
        rw [List.getElem?_modify]
        by_cases hi : i < d.length
        · rw [List.getElem?_append_left hi, List.getElem?_append_left (by simp; exact hi), List.getElem?_modify]
        · rw [List.getElem?_append_right (by omega), List.getElem?_append_right (by simp; omega)]
          have : ¬ s.to.toNat = i := by omega
          simp [this]
  · simp only [hr, if_false]
    cases D[r]? <;> cases E[r]? <;> rfl

theorem due1_right {n t : Nat} {D E : List (List Int)} (hD : ∀ r ∈ D, r.length = n) {s : Syn} {A : Net} (hA : A.ps.length = n) (hs : 0 ≤ s.to) : due1 t (rowsApp D E) (joinSyn A s) = rowsApp D (due1 t E s) := by
  apply List.ext_getElem?
  intro r
  unfold due1
  rw [rowsApp_get, List.getElem?_modify, List.getElem?_modify, rowsApp_get]
  have ed : (joinSyn A s).dl = s.dl := rfl
  have et : (joinSyn A s).to.toNat = n + s.to.toNat := by unfold joinSyn; dsimp only; omega
  have ew : (joinSyn A s).wt = s.wt := rfl
  rw [ed, et, ew]
  by_cases hr : (t + s.dl.toNat) % 16 = r
  · simp only [hr, if_true]
    cases hd : D[r]? with
    | none => rfl
    | some d =>
      cases he : E[r]? with
      | none => rfl
      | some e =>
        have hl := hD d (List.mem_of_getElem? hd)
        simp only [Option.map_eq_map, Option.map_some]
        congr 1
        apply List.ext_getElem?
        intro i
        rw [List.getElem?_modify]
        by_cases hi : i < d.length
        · rw [List.getElem?_append_left hi, List.getElem?_append_left hi]
          have : ¬ n + s.to.toNat = i := by omega
          simp [this]
        · rw [List.getElem?_append_right (by omega), List.getElem?_append_right (by omega), List.getElem?_modify]
          have : (n + s.to.toNat = i) ↔ (s.to.toNat = i - d.length) := by omega
          simp only [this]
  · simp only [hr, if_false]
    cases D[r]? <;> cases E[r]? <;> rfl

theorem due1_rows {n t : Nat} {D : List (List Int)} (hD : ∀ r ∈ D, r.length = n) (s : Syn) : ∀ r ∈ due1 t D s, r.length = n := (due1_len t D s).2 n hD

theorem folds_left {n t : Nat} : ∀ (l : List Syn) {D E : List (List Int)}, (∀ r ∈ D, r.length = n) → (∀ s ∈ l, s.to.toNat < n) → l.foldl (due1 t) (rowsApp D E) = rowsApp (l.foldl (due1 t) D) E
  | [], _, _, _, _ => rfl
  | s :: l, D, E, hD, hl => by
    rw [List.foldl_cons, List.foldl_cons, due1_left hD (hl s (by simp))]
    exact folds_left l (due1_rows hD s) (fun x hx => hl x (by simp [hx]))

theorem folds_right {n t : Nat} {A : Net} (hA : A.ps.length = n) : ∀ (l : List Syn) {D E : List (List Int)}, (∀ r ∈ D, r.length = n) → (∀ s ∈ l, 0 ≤ s.to) → (l.map (joinSyn A)).foldl (due1 t) (rowsApp D E) = rowsApp D (l.foldl (due1 t) E)
  | [], _, _, _, _ => rfl
  | s :: l, D, E, hD, hl => by
    rw [List.map_cons, List.foldl_cons, List.foldl_cons, due1_right hD hA (hl s (by simp))]
    exact folds_right hA l hD (fun x hx => hl x (by simp [hx]))

theorem fire_append : ∀ {ps qs : List Par} {ss ts : List Sta} {xs ys : List Int}, ss.length = ps.length → xs.length = ps.length → fire (ps ++ qs) (ss ++ ts) (xs ++ ys) = fire ps ss xs ++ fire qs ts ys
  | [], qs, ss, ts, xs, ys, h1, h2 => by
    have e1 : ss = [] := List.eq_nil_of_length_eq_zero h1
    have e2 : xs = [] := List.eq_nil_of_length_eq_zero h2
    subst e1 e2
    simp [fire]
  | p :: ps, qs, ss, ts, xs, ys, h1, h2 => by
    cases ss with
    | nil => simp at h1
    | cons s ss =>
      cases xs with
      | nil => simp at h2
      | cons x xs =>
        simp only [List.cons_append, fire]
        rw [fire_append (by simpa using h1) (by simpa using h2)]

theorem spkFrom_shift (F : List (Sta × Bool)) : ∀ k n : Nat, spkFrom (n + k) F = (spkFrom k F).map (· + (n : Int)) := by
  induction F with
  | nil => intro k n; rfl
  | cons x F ih =>
    intro k n
    simp only [spkFrom]
    have e := ih (k + 1) n
    rw [← Nat.add_assoc] at e
    rw [e]
    by_cases hx : x.2 = true
    · simp only [hx, if_true, List.map_cons]
      congr 1
      omega
    · simp [hx]

def shiftEvt (a : Int) (e : Evt) : Evt := ⟨e.tick, e.id + a⟩

/-- The state of networks beside each other. -/
def besideS (x y : Sm) : Sm := ⟨x.sts ++ y.sts, rowsApp x.D y.D⟩

theorem beside_row {A B : Net} {x y : Sm} (hx : SmOk A x) (hy : SmOk B y) (t : Nat) : (((besideS x y).D[t % 16]?).getD []) = ((x.D[t % 16]?).getD []) ++ ((y.D[t % 16]?).getD []) := by
  obtain ⟨r, hr, _⟩ := hx.row t
  obtain ⟨q, hq, _⟩ := hy.row t
  unfold besideS
  dsimp only
  rw [rowsApp_get, hr, hq]
  rfl

theorem beside_fire {A B : Net} {x y : Sm} (hx : SmOk A x) (hy : SmOk B y) (t : Nat) : fire (joinNet A B).ps (besideS x y).sts (((besideS x y).D[t % 16]?).getD []) = fire A.ps x.sts ((x.D[t % 16]?).getD []) ++ fire B.ps y.sts ((y.D[t % 16]?).getD []) := by
  rw [beside_row hx hy]
  obtain ⟨r, hr, hl⟩ := hx.row t
  exact fire_append hx.sts (by rw [hr]; exact hl)

theorem beside_spk {A B : Net} {x y : Sm} (hx : SmOk A x) (hy : SmOk B y) (t : Nat) : ringSpk (joinNet A B) t (besideS x y) = ringSpk A t x ++ (ringSpk B t y).map (· + (A.ps.length : Int)) := by
  unfold ringSpk spk
  rw [beside_fire hx hy, spkFrom_append, hx.fire t, Nat.zero_add]
  congr 1
  exact spkFrom_shift _ 0 A.ps.length

theorem zero_rows {D E : List (List Int)} (a : Nat) : (rowsApp D E).modify a (fun l => List.replicate l.length 0) = rowsApp (D.modify a fun l => List.replicate l.length 0) (E.modify a fun l => List.replicate l.length 0) := by
  apply List.ext_getElem?
  intro r
  rw [rowsApp_get, List.getElem?_modify, List.getElem?_modify, List.getElem?_modify, rowsApp_get]
  by_cases hr : a = r
  · simp only [hr, if_true]
    cases D[r]? <;> cases E[r]? <;> simp
  · simp only [hr, if_false]
    cases D[r]? <;> cases E[r]? <;> rfl

theorem beside_step {A B : Net} (hA : NetOk A) (hB : NetOk B) {t : Nat} {x y : Sm} (hx : SmOk A x) (hy : SmOk B y) {i1 i2 ins : List Int} (h1 : ∀ k ∈ i1, 0 ≤ k ∧ k < A.inputs) (h2 : ∀ k ∈ i2, 0 ≤ k) (n1 : i1.Nodup) (n2 : i2.Nodup)
    (hm : ∀ k, k ∈ ins ↔ k ∈ i1 ∨ ∃ j ∈ i2, k = j + A.inputs) (hn : ins.Nodup) : ringStep (joinNet A B) t (besideS x y) ins = besideS (ringStep A t x i1) (ringStep B t y i2) := by
  have hin := hA.inputs
  have h0 : ∀ k ∈ ins, 0 ≤ k := fun k hk => by
    rcases (hm k).1 hk with h | ⟨j, hj, rfl⟩
    · exact (h1 k h).1
    · have := h2 j hj; omega
  rw [ringStep_filter (joinNet A B) t (besideS x y) h0 hn, ringStep_filter A t x (fun k hk => (h1 k hk).1) n1, ringStep_filter B t y h2 n2, beside_fire hx hy, beside_spk hx hy]
  unfold besideS
  simp only [Sm.mk.injEq]
  refine ⟨List.map_append, ?_⟩
  have eS : (joinNet A B).syns = A.syns ++ B.syns.map (joinSyn A) := rfl
  rw [eS, List.filter_append, List.foldl_append, zero_rows]
  have memA : ∀ s ∈ A.syns, (s.frm ∈ ((ringSpk A t x ++ (ringSpk B t y).map (· + (A.ps.length : Int))) ++ ins.map fun k => -1 - k) ↔ s.frm ∈ (ringSpk A t x ++ i1.map fun k => -1 - k)) := by
    intro s hs
    have hso := hA.syns s hs
    unfold synOk srcOk at hso
    rw [List.mem_append, List.mem_append, List.mem_append, or_assoc]
    refine or_congr Iff.rfl ⟨fun h => ?_, fun h => ?_⟩
    · rcases h with h | h
      · obtain ⟨g, hg, e⟩ := List.mem_map.1 h
        have := spk_range hy hg
        omega
      · obtain ⟨k, hk, e⟩ := List.mem_map.1 h
        rcases (hm k).1 hk with h | ⟨j, hj, rfl⟩
        · exact List.mem_map.2 ⟨k, h, e⟩
        · have := h2 j hj; omega
    · obtain ⟨k, hk, e⟩ := List.mem_map.1 h
      exact .inr (List.mem_map.2 ⟨k, (hm k).2 (.inl hk), e⟩)
  have memB : ∀ s ∈ B.syns, ((joinSyn A s).frm ∈ ((ringSpk A t x ++ (ringSpk B t y).map (· + (A.ps.length : Int))) ++ ins.map fun k => -1 - k) ↔ s.frm ∈ (ringSpk B t y ++ i2.map fun k => -1 - k)) := by
    intro s hs
    have hso := hB.syns s hs
    unfold synOk srcOk at hso
    rw [List.mem_append, List.mem_append, List.mem_append]
    by_cases hf : s.frm < 0
    · have e0 : (joinSyn A s).frm = s.frm - A.inputs := by unfold joinSyn; rw [if_pos hf]
      rw [e0]
      constructor
      · rintro ((h | h) | h)
        · have := spk_range hx h; omega
        · obtain ⟨g, hg, e⟩ := List.mem_map.1 h
          have := spk_range hy hg; omega
        · obtain ⟨k, hk, e⟩ := List.mem_map.1 h
          rcases (hm k).1 hk with h | ⟨j, hj, rfl⟩
          · have := h1 k h; omega
          · exact .inr (List.mem_map.2 ⟨j, hj, by omega⟩)
      · rintro (h | h)
        · have := spk_range hy h; omega
        · obtain ⟨k, hk, e⟩ := List.mem_map.1 h
          exact .inr (List.mem_map.2 ⟨k + A.inputs, (hm _).2 (.inr ⟨k, hk, rfl⟩), by omega⟩)
    · have e0 : (joinSyn A s).frm = s.frm + A.ps.length := by unfold joinSyn; rw [if_neg hf]
      rw [e0]
      constructor
      · rintro ((h | h) | h)
        · have := spk_range hx h; omega
        · obtain ⟨g, hg, e⟩ := List.mem_map.1 h
          exact .inl (by rw [show s.frm = g by omega]; exact hg)
        · obtain ⟨k, hk, e⟩ := List.mem_map.1 h
          have := h0 k hk; omega
      · rintro (h | h)
        · exact .inl (.inr (List.mem_map.2 ⟨s.frm, h, rfl⟩))
        · obtain ⟨k, hk, e⟩ := List.mem_map.1 h
          have := h2 k hk; omega
  have fA : A.syns.filter (fun s => decide (s.frm ∈ ((ringSpk A t x ++ (ringSpk B t y).map (· + (A.ps.length : Int))) ++ ins.map fun k => -1 - k))) = A.syns.filter (fun s => decide (s.frm ∈ (ringSpk A t x ++ i1.map fun k => -1 - k))) :=
    List.filter_congr fun s hs => decide_eq_decide.2 (memA s hs)
  have fB : (B.syns.map (joinSyn A)).filter (fun s => decide (s.frm ∈ ((ringSpk A t x ++ (ringSpk B t y).map (· + (A.ps.length : Int))) ++ ins.map fun k => -1 - k))) = (B.syns.filter (fun s => decide (s.frm ∈ (ringSpk B t y ++ i2.map fun k => -1 - k)))).map (joinSyn A) := by
    rw [List.filter_map]
    congr 1
    exact List.filter_congr fun s hs => decide_eq_decide.2 (memB s hs)
  have hz : ∀ r ∈ (x.D.modify (t % 16) fun l => List.replicate l.length 0), r.length = A.ps.length := by
    intro r hr
    obtain ⟨i, hi⟩ := List.getElem?_of_mem hr
    rw [List.getElem?_modify] at hi
    cases hD : x.D[i]? with
    | none => rw [hD] at hi; simp at hi
    | some d =>
      have := hx.rows d (List.mem_of_getElem? hD)
      rw [hD] at hi
      simp only [Option.map_eq_map, Option.map_some, Option.some.injEq] at hi
      split at hi <;> subst hi <;> simp [this]
  rw [fA, fB, folds_left (n := A.ps.length) _ hz (fun s hs => by have := hA.syns s (List.mem_filter.1 hs).1; unfold synOk at this; omega)]
  exact folds_right rfl _ ((due1s_len t _ _).2 _ hz) (fun s hs => by have := hB.syns s (List.mem_filter.1 hs).1; unfold synOk at this; omega)

/-- The events of both. -/
def besideL (A : Net) (l m : List Evt) : List Evt := l ++ m.map (shiftEvt A.inputs)

theorem besideL_ok {A B : Net} (hA : NetOk A) (hB : NetOk B) {l m : List Evt} {limit : Int} (hl : EvOk A.inputs limit l) (hm : EvOk B.inputs limit m) (hf : l.length + m.length ≤ 65536) : EvOk (joinNet A B).inputs limit (insSort (besideL A l m)) ∧ (insSort (besideL A l m)).Perm (besideL A l m) := by
  have hp := insSort_perm (besideL A l m) []
  rw [List.append_nil] at hp
  have hin := hA.inputs
  have hdist : (besideL A l m).Pairwise fun a b => ¬ (a.tick = b.tick ∧ a.id = b.id) := by
    unfold besideL
    rw [List.pairwise_append]
    refine ⟨hl.sorted.imp fun h => by unfold evLt at h; omega, List.pairwise_map.2 (hm.sorted.imp fun h => by unfold evLt at h; unfold shiftEvt; dsimp only; omega), fun a ha b hb => ?_⟩
    obtain ⟨e, he, rfl⟩ := List.mem_map.1 hb
    have h1 := hl.range a ha
    have h2 := hm.range e he
    unfold shiftEvt
    dsimp only
    omega
  have hs := insSort_sorted (besideL A l m) [] List.Pairwise.nil
  have hd2 : (insSort (besideL A l m)).Pairwise fun a b => ¬ (a.tick = b.tick ∧ a.id = b.id) := (hp.pairwise_iff (fun {a b} h h2 => h ⟨h2.1.symm, h2.2.symm⟩)).2 hdist
  refine ⟨⟨?_, fun x hx => ?_, (hs.and hd2).imp fun {a b} h => ?_⟩, hp⟩
  · rw [show (insSort (besideL A l m)).length = (besideL A l m).length from hp.length_eq]
    unfold besideL
    rw [List.length_append, List.length_map]
    exact hf
  · have := hp.mem_iff.1 hx
    have ej : (joinNet A B).inputs = A.inputs + B.inputs := rfl
    unfold besideL at this
    rcases List.mem_append.1 this with h | h
    · have h1 := hl.range x h
      have h3 := hB.inputs
      rw [ej]
      omega
    · obtain ⟨e, he, rfl⟩ := List.mem_map.1 h
      have h2 := hm.range e he
      unfold shiftEvt
      dsimp only
      rw [ej]
      omega
  · unfold evGe evLt at *
    omega

theorem insAt_mem (l : List Evt) (t : Nat) (k : Int) : k ∈ insAt l t ↔ ⟨(t : Int), k⟩ ∈ l := by
  unfold insAt
  rw [List.mem_map]
  constructor
  · rintro ⟨e, he, rfl⟩
    obtain ⟨h1, h2⟩ := List.mem_filter.1 he
    simp only [decide_eq_true_eq] at h2
    rw [← h2]
    exact h1
  · intro h
    exact ⟨⟨t, k⟩, List.mem_filter.2 ⟨h, by simp⟩, rfl⟩

theorem insAt_beside {A : Net} {l m L : List Evt} (hp : L.Perm (besideL A l m)) (t : Nat) (k : Int) : k ∈ insAt L t ↔ k ∈ insAt l t ∨ ∃ j ∈ insAt m t, k = j + A.inputs := by
  rw [insAt_mem, hp.mem_iff, insAt_mem]
  unfold besideL
  rw [List.mem_append]
  refine or_congr Iff.rfl ⟨fun h => ?_, fun h => ?_⟩
  · obtain ⟨e, he, e2⟩ := List.mem_map.1 h
    unfold shiftEvt at e2
    simp only [Evt.mk.injEq] at e2
    refine ⟨e.id, (insAt_mem m t e.id).2 ?_, by omega⟩
    rw [← e2.1]
    exact he
  · obtain ⟨j, hj, rfl⟩ := h
    exact List.mem_map.2 ⟨⟨t, j⟩, (insAt_mem m t j).1 hj, rfl⟩

theorem beside_st {A B : Net} (hA : NetOk A) (hB : NetOk B) {l m L : List Evt} {limit : Int} (hl : EvOk A.inputs limit l) (hm : EvOk B.inputs limit m) (hL : EvOk (joinNet A B).inputs limit L) (hp : L.Perm (besideL A l m)) :
    ∀ t : Nat, stAt (joinNet A B) L t = besideS (stAt A l t) (stAt B m t)
  | 0 => by
    show sm0 (joinNet A B) = besideS (sm0 A) (sm0 B)
    unfold sm0 besideS rowsApp
    have e : (joinNet A B).ps.length = A.ps.length + B.ps.length := List.length_append
    rw [e]
    simp only [Sm.mk.injEq]
    refine ⟨List.replicate_append_replicate.symm, ?_⟩
    rw [List.zipWith_replicate, Nat.min_self, List.replicate_append_replicate]
  | t + 1 => by
    have ih := beside_st hA hB hl hm hL hp t
    have q1 := insAt_nodup hl t
    have q2 := insAt_nodup hm t
    have q3 := insAt_nodup hL t
    show ringStep (joinNet A B) t (stAt (joinNet A B) L t) (insAt L t) = _
    rw [ih]
    exact beside_step hA hB (stAt_ok hA l t) (stAt_ok hB m t) (fun k hk => (insAt_few hl t).2 k hk) q2.2 q1.1 q2.1 (insAt_beside hp t) q3.1

theorem beside_out {A B : Net} (hA : NetOk A) (hB : NetOk B) {l m L : List Evt} {limit : Int} (hl : EvOk A.inputs limit l) (hm : EvOk B.inputs limit m) (hL : EvOk (joinNet A B).inputs limit L) (hp : L.Perm (besideL A l m)) :
    ∀ t : Nat, (outTo (joinNet A B) L t).Perm (outTo A l t ++ (outTo B m t).map (shiftEvt A.ps.length))
  | 0 => .refl _
  | t + 1 => by
    have ih := beside_out hA hB hl hm hL hp t
    have e : spkAt (joinNet A B) L t = spkAt A l t ++ (spkAt B m t).map (· + (A.ps.length : Int)) := by
      unfold spkAt
      rw [beside_st hA hB hl hm hL hp t]
      exact beside_spk (stAt_ok hA l t) (stAt_ok hB m t) t
    show (outTo (joinNet A B) L t ++ (spkAt (joinNet A B) L t).map (fun i => (⟨t, i⟩ : Evt))).Perm ((outTo A l t ++ (spkAt A l t).map fun i => (⟨t, i⟩ : Evt)) ++ (outTo B m t ++ (spkAt B m t).map fun i => (⟨t, i⟩ : Evt)).map (shiftEvt A.ps.length))
    rw [e, List.map_append, List.map_append, List.map_map, List.map_map]
    have e2 : ((fun i => (⟨t, i⟩ : Evt)) ∘ fun x => x + (A.ps.length : Int)) = (shiftEvt (A.ps.length : Int) ∘ fun i => (⟨t, i⟩ : Evt)) := rfl
    rw [e2]
    generalize outTo A l t = a at *
    generalize (spkAt A l t).map (fun i => (⟨(t : Int), i⟩ : Evt)) = b
    generalize (outTo B m t).map (shiftEvt A.ps.length) = c at *
    generalize (spkAt B m t).map (shiftEvt (A.ps.length : Int) ∘ fun i => (⟨(t : Int), i⟩ : Evt)) = d
    refine (ih.append_right (b ++ d)).trans ?_
    rw [List.append_assoc, List.append_assoc]
    refine List.Perm.append_left a ?_
    rw [← List.append_assoc, ← List.append_assoc]
    exact List.Perm.append_right d List.perm_append_comm

/-- Joined networks have the spikes that each of them has alone. -/
theorem beside_runs {A B : Net} {l m : List Evt} {ticks : Int} (hJ : NetOk (joinNet A B)) (h1 : (runRes A l ticks).2 = 0) (h2 : (runRes B m ticks).2 = 0) (hf : l.length + m.length ≤ 65536) :
    runRes (joinNet A B) (insSort (besideL A l m)) ticks = if 65536 < ((runRes A l ticks).1 ++ (runRes B m ticks).1.map (shiftEvt A.ps.length)).length then ([], 8) else (insSort ((runRes A l ticks).1 ++ (runRes B m ticks).1.map (shiftEvt A.ps.length)), 0) := by
  obtain ⟨a0, a1⟩ := run_zero h1
  obtain ⟨b0, b1⟩ := run_zero h2
  obtain ⟨hA, ht, hl⟩ := prep_zero.1 a0
  obtain ⟨hB, _, hm⟩ := prep_zero.1 b0
  obtain ⟨hL, hp⟩ := besideL_ok hA hB hl hm hf
  have ho := beside_out hA hB hl hm hL hp ticks.toNat
  rw [a1, b1, runRes_eq (prep_zero.2 ⟨hJ, ht, hL⟩), ho.length_eq]
  split
  · rfl
  · rw [insSort_eq (outTo_sorted hJ _ _) ho]

end Go.Proofs
