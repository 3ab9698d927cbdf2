/- Rp: what can be reached in a network, in plain Lean. -/

import Derived.Test.YtbnipfgbfnhibaaNetKnownGa

set_option linter.unusedVariables false

set_option linter.unusedSimpArgs false

namespace Go.Gm

/-- A synapse with a weight leads from u to v. -/
def edge (N : Net) (u v : Int) : Prop := ∃ s ∈ N.syns, s.wt ≠ 0 ∧ s.frm = u ∧ s.to = v

inductive Reaches (N : Net) (u : Int) : Int → Prop
  | refl : Reaches N u u
  | step {v x : Int} (h : Reaches N u v) (he : edge N v x) : Reaches N u x

theorem Reaches.trans {N : Net} {u v x : Int} (h1 : Reaches N u v) (h2 : Reaches N v x) : Reaches N u x := by
  induction h2 with
  | refl => exact h1
  | step _ he ih => exact ih.step he

/-- Under successors closed. -/
def Closed (N : Net) (S : List Int) : Prop := ∀ u ∈ S, ∀ v, edge N u v → v ∈ S

theorem Closed.reach {N : Net} {S : List Int} (h : Closed N S) {u v : Int} (hu : u ∈ S) (hr : Reaches N u v) : v ∈ S := by
  induction hr with
  | refl => exact hu
  | step _ he ih => exact h _ ih _ he

/-- The neurons that are reached. -/
structure IsReach (N : Net) (from_ : List Int) (L : List Bool) : Prop where
  len : L.length = N.ps.length
  get : ∀ (i : Nat) (b : Bool), L[i]? = some b → (b = true ↔ ∃ f ∈ from_, Reaches N f i)

theorem IsReach.eq {N : Net} {F : List Int} {L M : List Bool} (h1 : IsReach N F L) (h2 : IsReach N F M) : L = M := by
  apply List.ext_getElem?
  intro i
  by_cases hi : i < N.ps.length
  · have a1 := List.getElem?_eq_getElem (l := L) (i := i) (by rw [h1.len]; exact hi)
    have a2 := List.getElem?_eq_getElem (l := M) (i := i) (by rw [h2.len]; exact hi)
    have b1 := h1.get i _ a1
    have b2 := h2.get i _ a2
    rw [a1, a2]
    congr 1
    have := b1.trans b2.symm
    generalize L[i]'(by rw [h1.len]; exact hi) = x at *
    generalize M[i]'(by rw [h2.len]; exact hi) = y at *
    cases x <;> cases y <;> simp_all
  · rw [List.getElem?_eq_none (by rw [h1.len]; omega), List.getElem?_eq_none (by rw [h2.len]; omega)]

/-- What a visit of k makes of the numbers that were met. -/
structure Visits (N : Net) (k : Int) (S T : List Int) : Prop where
  sub : ∀ u ∈ S, u ∈ T
  here : k ∈ T
  new : ∀ u ∈ T, u ∈ S ∨ Reaches N k u
  closed : ∀ u ∈ T, u ∈ S ∨ ∀ v, edge N u v → v ∈ T

theorem Visits.met {N : Net} {k : Int} {S : List Int} (h : k ∈ S) : Visits N k S S := ⟨fun _ h => h, h, fun _ h => .inl h, fun _ h => .inl h⟩

/-- The visits of the first successors. -/
structure Visiting (N : Net) (k : Int) (l : List Syn) (S T : List Int) : Prop where
  sub : ∀ u ∈ S, u ∈ T
  here : k ∈ T
  new : ∀ u ∈ T, u ∈ S ∨ Reaches N k u
  closed : ∀ u ∈ T, u ∈ S ∨ u = k ∨ ∀ v, edge N u v → v ∈ T
  done : ∀ s ∈ l, s.wt ≠ 0 → s.to ∈ T

theorem Visiting.begin {N : Net} {k : Int} {S : List Int} : Visiting N k [] S (S ++ [k]) := by
  refine ⟨fun u h => by simp [h], by simp, fun u h => ?_, fun u h => ?_, by simp⟩
  · rcases List.mem_append.1 h with h | h
    · exact .inl h
    · simp only [List.mem_singleton] at h; subst h; exact .inr .refl
  · rcases List.mem_append.1 h with h | h
    · exact .inl h
    · simp only [List.mem_singleton] at h; exact .inr (.inl h)

theorem Visiting.skip {N : Net} {k : Int} {l : List Syn} {S T : List Int} (h : Visiting N k l S T) {s : Syn} (hs : s.wt = 0) : Visiting N k (l ++ [s]) S T := by
  refine ⟨h.sub, h.here, h.new, h.closed, fun x hx hw => ?_⟩
  rcases List.mem_append.1 hx with hx | hx
  · exact h.done x hx hw
  · simp only [List.mem_singleton] at hx; subst hx; exact absurd hs hw

theorem Visiting.next {N : Net} {k : Int} {l : List Syn} {S T U : List Int} (h : Visiting N k l S T) {s : Syn} (hm : s ∈ N.syns) (hf : s.frm = k) (hw : s.wt ≠ 0) (hv : Visits N s.to T U) : Visiting N k (l ++ [s]) S U := by
  have he : edge N k s.to := ⟨s, hm, hw, hf, rfl⟩
  refine ⟨fun u hu => hv.sub u (h.sub u hu), hv.sub k h.here, fun u hu => ?_, fun u hu => ?_, fun x hx hxw => ?_⟩
  · rcases hv.new u hu with h1 | h1
    · exact h.new u h1
    · exact .inr ((Reaches.refl.step he).trans h1)
  · rcases hv.closed u hu with h1 | h1
    · rcases h.closed u h1 with h2 | h2 | h2
      · exact .inl h2
      · exact .inr (.inl h2)
      · exact .inr (.inr fun v hv' => hv.sub v (h2 v hv'))
    · exact .inr (.inr h1)
  · rcases List.mem_append.1 hx with hx | hx
    · exact hv.sub _ (h.done x hx hxw)
    · simp only [List.mem_singleton] at hx; subst hx; exact hv.here

theorem Visiting.finish {N : Net} {k : Int} {l : List Syn} {S T : List Int} (h : Visiting N k l S T) (hl : ∀ s ∈ N.syns, s.frm = k → s ∈ l) : Visits N k S T := by
  refine ⟨h.sub, h.here, h.new, fun u hu => ?_⟩
  rcases h.closed u hu with h1 | h1 | h1
  · exact .inl h1
  · subst h1
    refine .inr fun v ⟨s, hs, hw, hf, ht⟩ => ?_
    subst ht
    exact h.done s (hl s hs hf) hw
  · exact .inr h1

/-- The numbers that were met behind the visits of some. -/
structure Met (N : Net) (F : List Int) (S : List Int) : Prop where
  has : ∀ f ∈ F, f ∈ S
  only : ∀ u ∈ S, ∃ f ∈ F, Reaches N f u
  closed : Closed N S

theorem Met.nil (N : Net) : Met N [] [] := ⟨by simp, by simp, fun u h => by simp at h⟩

theorem Met.next {N : Net} {F S T : List Int} {k : Int} (h : Met N F S) (hv : Visits N k S T) : Met N (F ++ [k]) T := by
  refine ⟨fun f hf => ?_, fun u hu => ?_, fun u hu v he => ?_⟩
  · rcases List.mem_append.1 hf with hf | hf
    · exact hv.sub f (h.has f hf)
    · simp only [List.mem_singleton] at hf; subst hf; exact hv.here
  · rcases hv.new u hu with h1 | h1
    · obtain ⟨f, hf, hr⟩ := h.only u h1
      exact ⟨f, by simp [hf], hr⟩
    · exact ⟨k, by simp, h1⟩
  · rcases hv.closed u hu with h1 | h1
    · exact hv.sub v (h.closed u h1 v he)
    · exact h1 v he

theorem Met.mem {N : Net} {F S : List Int} (h : Met N F S) (u : Int) : u ∈ S ↔ ∃ f ∈ F, Reaches N f u :=
  ⟨h.only u, fun ⟨f, hf, hr⟩ => h.closed.reach (h.has f hf) hr⟩

/-- How many sources are not met yet. -/
def unmet (N : Net) (S : List Int) : Nat := (List.range (N.inputs.toNat + N.ps.length)).countP fun (j : Nat) => decide (((j : Int) - N.inputs) ∉ S)

theorem unmet_le {N : Net} {S T : List Int} (h : ∀ u ∈ S, u ∈ T) : unmet N T ≤ unmet N S := by
  unfold unmet
  refine List.countP_mono_left fun j _ hj => ?_
  simp only [decide_eq_true_eq] at *
  exact fun hs => hj (h _ hs)

theorem countP_lt {α : Type} {p q : α → Bool} {l : List α} (h : ∀ a, p a = true → q a = true) {x : α} (hx : x ∈ l) (h1 : p x = false) (h2 : q x = true) : l.countP p < l.countP q := by
  induction l with
  | nil => simp at hx
  | cons a l ih =>
    have hsub : l.countP p ≤ l.countP q := List.countP_mono_left fun j _ hj => h j hj
    simp only [List.countP_cons]
    rcases List.mem_cons.1 hx with rfl | hx
    · simp only [h1, h2, Bool.false_eq_true, if_false, if_true]
      omega
    · have := ih hx
      by_cases hp : p a = true
      · simp only [hp, h a hp, if_true]; omega
      · by_cases hq : q a = true
        · simp only [hp, hq, if_true, Bool.false_eq_true, if_false]; omega
        · simp only [hp, hq, Bool.false_eq_true, if_false]; omega

theorem unmet_lt {N : Net} (h0 : 0 ≤ N.inputs) {S : List Int} {k : Int} (hk : srcOk N k) (hS : k ∉ S) : unmet N (S ++ [k]) < unmet N S := by
  unfold srcOk at hk
  unfold unmet
  have e : (((k + N.inputs).toNat : Nat) : Int) - N.inputs = k := by omega
  refine countP_lt (x := (k + N.inputs).toNat) (fun j hj => ?_) ?_ ?_ ?_
  · simp only [decide_eq_true_eq] at *
    exact fun hs => hj (List.mem_append_left _ hs)
  · rw [List.mem_range]; omega
  · rw [e]; simp
  · rw [e]; simp [hS]

end Go.Gm
