import Derived.Test.YtephkjicokbckaaGreatDoorVerifyKnownEa
import Derived.Test.YtephkjicokbckaaGreatDoorVerifyKnownDb
set_option linter.unusedVariables false

set_option linter.unusedSimpArgs false

namespace Go.Gm

def chosenT (free : List Int) (c m : Nat) : List Int := (List.range m).filterMap fun k => if c.testBit k = true then free[k]? else none

def chosen (free : List Int) (c : Nat) : List Int := chosenT free c free.length

theorem chosenT_succ (free : List Int) (c m : Nat) : chosenT free c (m + 1) = chosenT free c m ++ (if c.testBit m = true then (free[m]?).toList else []) := by
  unfold chosenT
  rw [List.range_succ, List.filterMap_append]
  congr 1
  by_cases hb : c.testBit m = true
  · cases h : free[m]? <;> simp [hb, h]
  · simp [hb]

theorem mem_chosen {free : List Int} {c : Nat} {i : Int} : i ∈ chosen free c ↔ ∃ k, c.testBit k = true ∧ free[k]? = some i := by
  unfold chosen chosenT
  rw [List.mem_filterMap]
  constructor
  · rintro ⟨k, hk, h⟩
    split at h
    · exact ⟨k, ‹_›, h⟩
    · cases h
  · rintro ⟨k, h1, h2⟩
    exact ⟨k, List.mem_range.2 (List.getElem?_eq_some_iff.1 h2).1, by rw [if_pos h1]; exact h2⟩

theorem chosenT_len (free : List Int) (c m : Nat) : (chosenT free c m).length ≤ m := by
  unfold chosenT
  have := List.length_filterMap_le (fun k => if c.testBit k = true then free[k]? else none) (List.range m)
  rwa [List.length_range] at this

theorem mem_free_of_chosen {free : List Int} {c : Nat} {i : Int} (h : i ∈ chosen free c) : i ∈ free := by
  obtain ⟨k, _, hk⟩ := mem_chosen.1 h
  exact List.mem_of_getElem? hk

def Asc (l : List Int) : Prop := l.Pairwise (· < ·)

theorem asc_ext : ∀ {l l' : List Int}, Asc l → Asc l' → (∀ i, i ∈ l ↔ i ∈ l') → l = l'
  | [], [], _, _, _ => rfl
  | [], b :: l', _, _, h => by have := (h b).2 List.mem_cons_self; simp at this
  | a :: l, [], _, _, h => by have := (h a).1 List.mem_cons_self; simp at this
  | a :: l, b :: l', h1, h2, h => by
    have h1' := List.pairwise_cons.1 h1
    have h2' := List.pairwise_cons.1 h2
    have hab : a = b := by
      have ha := (h a).1 List.mem_cons_self
      have hb := (h b).2 List.mem_cons_self
      rcases List.mem_cons.1 ha with e | ha
      · exact e
      · rcases List.mem_cons.1 hb with e | hb
        · exact e.symm
        · have := h1'.1 b hb
          have := h2'.1 a ha
          omega
    subst hab
    congr 1
    refine asc_ext h1'.2 h2'.2 fun i => ?_
    constructor
    · intro hi
      rcases List.mem_cons.1 ((h i).1 (List.mem_cons_of_mem _ hi)) with e | e
      · have := h1'.1 i hi; omega
      · exact e
    · intro hi
      rcases List.mem_cons.1 ((h i).2 (List.mem_cons_of_mem _ hi)) with e | e
      · have := h2'.1 i hi; omega
      · exact e

theorem asc_nodup {l : List Int} (h : Asc l) : l.Nodup := h.imp fun hab e => by omega

theorem asc_of_sorted {l : List Int} (h1 : l.Pairwise (· ≤ ·)) (h2 : l.Nodup) : Asc l := by
  induction l with
  | nil => exact List.Pairwise.nil
  | cons a l ih =>
    have g1 := List.pairwise_cons.1 h1
    have g2 := List.nodup_cons.1 h2
    refine List.pairwise_cons.2 ⟨fun b hb => ?_, ih g1.2 g2.2⟩
    have := g1.1 b hb
    have hne : a ≠ b := fun e => g2.1 (by rw [e]; exact hb)
    omega

theorem chosen_asc {free : List Int} (h : Asc free) (c : Nat) : Asc (chosen free c) := by
  have key : ∀ m, m ≤ free.length → Asc (chosenT free c m) ∧ ∀ i ∈ chosenT free c m, ∃ k, k < m ∧ free[k]? = some i := by
    intro m
    induction m with
    | zero => intro _; exact ⟨List.Pairwise.nil, by simp [chosenT]⟩
    | succ m ih =>
      intro hm
      obtain ⟨g1, g2⟩ := ih (by omega)
      rw [chosenT_succ]
      obtain ⟨x, hx⟩ : ∃ x, free[m]? = some x := ⟨free[m], List.getElem?_eq_getElem _⟩
      refine ⟨?_, fun i hi => ?_⟩
      · refine List.pairwise_append.2 ⟨g1, ?_, fun a ha b hb => ?_⟩
        · split
          · rw [hx]; simp
          · exact List.Pairwise.nil
        · split at hb
          · rw [hx] at hb
            simp only [Option.toList_some, List.mem_singleton] at hb
            subst hb
            obtain ⟨k, hk, hka⟩ := g2 a ha
            exact List.pairwise_iff_getElem.1 h k m (by omega) (by omega) hk |> fun e => by
              have e1 := (List.getElem?_eq_some_iff.1 hka).2
              have e2 := (List.getElem?_eq_some_iff.1 hx).2
              rw [e1, e2] at e
              exact e
          · simp at hb
      · rcases List.mem_append.1 hi with hi | hi
        · obtain ⟨k, hk, hka⟩ := g2 i hi
          exact ⟨k, by omega, hka⟩
        · split at hi
          · rw [hx] at hi
            simp only [Option.toList_some, List.mem_singleton] at hi
            exact ⟨m, by omega, by rw [hi]; exact hx⟩
          · simp at hi
  exact (key free.length (Nat.le_refl _)).1

def mergedT (fixed free : List Int) (c n : Nat) : List Int := ((List.range n).map fun k : Nat => (k : Int)).filter fun k => decide (k ∈ chosen free c) || decide (k ∈ fixed)

theorem mergedT_asc (fixed free : List Int) (c n : Nat) : Asc (mergedT fixed free c n) := by
  refine List.Pairwise.filter _ (List.pairwise_map.2 ?_)
  exact List.pairwise_lt_range.imp fun h => by omega

theorem mem_mergedT {fixed free : List Int} {c n : Nat} {i : Int} : i ∈ mergedT fixed free c n ↔ (0 ≤ i ∧ i < n) ∧ (i ∈ chosen free c ∨ i ∈ fixed) := by
  unfold mergedT
  rw [List.mem_filter, List.mem_map]
  constructor
  · rintro ⟨⟨k, hk, rfl⟩, h⟩
    have := List.mem_range.1 hk
    simp only [Bool.or_eq_true, decide_eq_true_eq] at h
    exact ⟨by omega, h⟩
  · rintro ⟨h1, h2⟩
    exact ⟨⟨i.toNat, List.mem_range.2 (by omega), by omega⟩, by simpa using h2⟩

theorem sorted_merged {fixed free : List Int} {n : Nat} (hf : Asc fixed) (hfr : Asc free) (hfi : ∀ i ∈ fixed, 0 ≤ i ∧ i < n) (hfri : ∀ i ∈ free, 0 ≤ i ∧ i < n) (hdis : ∀ i ∈ fixed, i ∉ free) (c : Nat) {l : List Int}
    (hl : l.Pairwise (· ≤ ·)) (hp : l.Perm (fixed ++ chosen free c)) : l = mergedT fixed free c n := by
  have hnd : (fixed ++ chosen free c).Nodup := by
    refine List.nodup_append.2 ⟨asc_nodup hf, asc_nodup (chosen_asc hfr c), fun a ha b hb e => ?_⟩
    subst e
    exact hdis a ha (mem_free_of_chosen hb)
  refine asc_ext (asc_of_sorted hl (hp.nodup_iff.2 hnd)) (mergedT_asc _ _ _ _) fun i => ?_
  rw [hp.mem_iff, List.mem_append, mem_mergedT]
  constructor
  · rintro (h | h)
    · exact ⟨hfi i h, .inr h⟩
    · exact ⟨hfri i (mem_free_of_chosen h), .inl h⟩
  · rintro ⟨_, h | h⟩
    · exact .inr h
    · exact .inl h

end Go.Gm
