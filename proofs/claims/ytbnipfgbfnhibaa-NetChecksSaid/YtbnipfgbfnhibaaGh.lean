/- Gh: heaps of alarms, in plain Lean. -/
import Derived.Test.YtbnipfgbfnhibaaGn
set_option linter.unusedVariables false
namespace Go.Gm

/-- One is not behind the other one. -/
def evLe (a b : Evt) : Prop := ¬ evLt b a

theorem evLe_iff {a b : Evt} : evLe a b ↔ a.tick < b.tick ∨ (a.tick = b.tick ∧ a.id ≤ b.id) := by unfold evLe evLt; omega
theorem evLe_refl (a : Evt) : evLe a a := by rw [evLe_iff]; omega
theorem evLe_trans {a b c : Evt} (h1 : evLe a b) (h2 : evLe b c) : evLe a c := by rw [evLe_iff] at *; omega
theorem evLe_of_lt {a b : Evt} (h : evLt a b) : evLe a b := by rw [evLe_iff]; unfold evLt at h; omega

def HeapOk (A : List Evt) : Prop := ∀ i a b, 0 < i → A[(i - 1) / 2]? = some a → A[i]? = some b → evLe a b

def HeapUp (A : List Evt) (j : Nat) : Prop :=
  (∀ i a b, 0 < i → i ≠ j → A[(i - 1) / 2]? = some a → A[i]? = some b → evLe a b) ∧
  (∀ c a b, 0 < j → 0 < c → (c - 1) / 2 = j → A[(j - 1) / 2]? = some a → A[c]? = some b → evLe a b)

def HeapDn (A : List Evt) (j : Nat) : Prop :=
  (∀ i a b, 0 < i → (i - 1) / 2 ≠ j → A[(i - 1) / 2]? = some a → A[i]? = some b → evLe a b) ∧
  (∀ c a b, 0 < j → 0 < c → (c - 1) / 2 = j → A[(j - 1) / 2]? = some a → A[c]? = some b → evLe a b)

theorem swap_get {A : List Evt} {i j : Nat} {a b : Evt} (hi : A[i]? = some a) (hj : A[j]? = some b) (hne : i ≠ j) (k : Nat) :
    ((A.set i b).set j a)[k]? = if k = j then some a else if k = i then some b else A[k]? := by
  have h1 := (List.getElem?_eq_some_iff.1 hi).1
  have h2 := (List.getElem?_eq_some_iff.1 hj).1
  rw [List.getElem?_set, List.length_set]
  by_cases e : k = j
  · subst e; simp [h2]
  · rw [if_neg (Ne.symm e), if_neg e, List.getElem?_set]
    by_cases e2 : k = i
    · subst e2; simp [h1]
    · rw [if_neg (Ne.symm e2), if_neg e2]

theorem swap_perm {A : List Evt} {i j : Nat} {a b : Evt} (hi : A[i]? = some a) (hj : A[j]? = some b) : ((A.set i b).set j a).Perm A := by
  rw [List.perm_iff_count]
  intro x
  have h1 := (List.getElem?_eq_some_iff.1 hi).1
  have h2 := (List.getElem?_eq_some_iff.1 hj).1
  have e1 : A[i] = a := (List.getElem?_eq_some_iff.1 hi).2
  have e2 : A[j] = b := (List.getElem?_eq_some_iff.1 hj).2
  have hlen : j < (A.set i b).length := by simpa using h2
  rw [List.count_set hlen, List.count_set h1]
  have e3 : (A.set i b)[j] = b := by
    rw [List.getElem_set]
    split
    · rfl
    · exact e2
  rw [e3, e1]
  have c1 : (if a == x then 1 else 0) ≤ A.count x := by
    split
    · rename_i h
      have : x ∈ A := by rw [← eq_of_beq h, ← e1]; exact List.getElem_mem _
      exact List.count_pos_iff.2 this
    · omega
  split <;> split <;> simp_all <;> omega

theorem HeapUp.start {A : List Evt} (x : Evt) (h : HeapOk A) : HeapUp (A ++ [x]) A.length := by
  constructor
  · intro i a b h0 hne h1 h2
    have hlt : i < (A ++ [x]).length := (List.getElem?_eq_some_iff.1 h2).1
    simp only [List.length_append, List.length_cons, List.length_nil] at hlt
    rw [List.getElem?_append_left (by omega)] at h1 h2
    exact h i a b h0 h1 h2
  · intro c a b h0 h1 h2 h3 h4
    have hlt : c < (A ++ [x]).length := (List.getElem?_eq_some_iff.1 h4).1
    simp only [List.length_append, List.length_cons, List.length_nil] at hlt
    omega

theorem HeapUp.done {A : List Evt} {j : Nat} (h : HeapUp A j) (hd : ∀ a b, 0 < j → A[(j - 1) / 2]? = some a → A[j]? = some b → evLe a b) : HeapOk A := by
  intro i a b h0 h1 h2
  by_cases e : i = j
  · subst e; exact hd a b h0 h1 h2
  · exact h.1 i a b h0 e h1 h2

theorem HeapUp.step {A : List Evt} {j : Nat} {a b : Evt} (h : HeapUp A j) (h0 : 0 < j) (ha : A[(j - 1) / 2]? = some a) (hb : A[j]? = some b) (hlt : evLt b a) :
    HeapUp ((A.set j a).set ((j - 1) / 2) b) ((j - 1) / 2) := by
  have hne : j ≠ (j - 1) / 2 := by omega
  have hs := swap_get hb ha hne
  have hba := evLe_of_lt hlt
  constructor
  · intro i x y hi hij h1 h2
    rw [hs] at h1 h2
    rw [if_neg hij] at h2
    by_cases e : i = j
    · subst e
      rw [if_pos rfl] at h1 h2
      cases h1; cases h2
      exact hba
    · rw [if_neg e] at h2
      by_cases e2 : (i - 1) / 2 = (j - 1) / 2
      · rw [if_pos e2] at h1
        cases h1
        have := h.1 i a y hi e (by rw [e2]; exact ha) h2
        exact evLe_trans hba this
      · rw [if_neg e2] at h1
        by_cases e3 : (i - 1) / 2 = j
        · rw [if_pos e3] at h1
          cases h1
          exact h.2 i a y h0 hi e3 ha h2
        · rw [if_neg e3] at h1
          exact h.1 i x y hi e h1 h2
  · intro c x y hp hc hcj h1 h2
    rw [hs] at h1 h2
    rw [if_neg (by omega), if_neg (by omega)] at h1
    rw [if_neg (by omega)] at h2
    by_cases e : c = j
    · subst e
      rw [if_pos rfl] at h2
      cases h2
      exact h.1 ((c - 1) / 2) x a hp (by omega) h1 ha
    · rw [if_neg e] at h2
      have g1 := h.1 ((j - 1) / 2) x a hp (by omega) h1 ha
      have g2 := h.1 c a y hc e (by rw [hcj]; exact ha) h2
      exact evLe_trans g1 g2

theorem HeapDn.start {A : List Evt} {y : Evt} (h : HeapOk A) (n : Nat) : HeapDn ((A.set 0 y).take n) 0 := by
  constructor
  · intro i a b h0 hne h1 h2
    rw [List.getElem?_take] at h1 h2
    split at h1
    · split at h2
      · rw [List.getElem?_set] at h1 h2
        rw [if_neg (by omega)] at h1 h2
        exact h i a b h0 h1 h2
      · cases h2
    · cases h1
  · intro c a b h0 _ _ _ _; omega

theorem HeapDn.done {A : List Evt} {j : Nat} (h : HeapDn A j) (hd : ∀ c a b, 0 < c → (c - 1) / 2 = j → A[j]? = some a → A[c]? = some b → evLe a b) : HeapOk A := by
  intro i a b h0 h1 h2
  by_cases e : (i - 1) / 2 = j
  · subst e; exact hd i a b h0 rfl h1 h2
  · exact h.1 i a b h0 e h1 h2

theorem HeapDn.step {A : List Evt} {j l : Nat} {a b : Evt} (h : HeapDn A j) (h0 : 0 < l) (hl : (l - 1) / 2 = j) (ha : A[j]? = some a) (hb : A[l]? = some b) (hlt : evLe b a)
    (hmin : ∀ c y, 0 < c → (c - 1) / 2 = j → A[c]? = some y → evLe b y) : HeapDn ((A.set j b).set l a) l := by
  have hne : j ≠ l := by omega
  have hs := swap_get ha hb hne
  constructor
  · intro i x y hi hij h1 h2
    rw [hs] at h1 h2
    rw [if_neg hij] at h1
    by_cases e : (i - 1) / 2 = j
    · rw [if_pos e] at h1
      cases h1
      by_cases e2 : i = l
      · subst e2; rw [if_pos rfl] at h2; cases h2; exact hlt
      · rw [if_neg e2] at h2
        rw [if_neg (by omega)] at h2
        exact hmin i y hi e h2
    · rw [if_neg e] at h1
      by_cases e2 : i = l
      · subst e2; exact absurd hl e
      · rw [if_neg e2] at h2
        by_cases e3 : i = j
        · subst e3
          rw [if_pos rfl] at h2
          cases h2
          exact h.2 l x b hi h0 hl h1 hb
        · rw [if_neg e3] at h2
          exact h.1 i x y hi e h1 h2
  · intro c x y hp hc hcl h1 h2
    rw [hs] at h1 h2
    rw [hl, if_neg hne, if_pos rfl] at h1
    cases h1
    rw [if_neg (by omega), if_neg (by omega)] at h2
    exact h.1 c _ y hc (by omega) (by rw [hcl]; exact hb) h2

theorem HeapOk.min {A : List Evt} {x : Evt} (h : HeapOk A) (h0 : A[0]? = some x) : ∀ y ∈ A, evLe x y := by
  have key : ∀ (n i : Nat) (y : Evt), i ≤ n → A[i]? = some y → evLe x y := by
    intro n
    induction n with
    | zero => intro i y hi hy; obtain rfl : i = 0 := by omega
              rw [h0] at hy; cases hy; exact evLe_refl _
    | succ n ih =>
      intro i y hi hy
      by_cases e : i = 0
      · subst e; rw [h0] at hy; cases hy; exact evLe_refl _
      · have hlt : i < A.length := (List.getElem?_eq_some_iff.1 hy).1
        have hp : A[(i - 1) / 2]? = some (A[(i - 1) / 2]'(by omega)) := List.getElem?_eq_getElem _
        exact evLe_trans (ih _ _ (by omega) hp) (h i _ y (by omega) hp hy)
  intro y hy
  obtain ⟨i, hi⟩ := List.getElem?_of_mem hy
  exact key i i y (Nat.le_refl _) hi

/-- What pop leaves. -/
theorem pop_perm {A : List Evt} {x y : Evt} {n : Nat} (hn : A.length = n + 1) (h0 : A[0]? = some x) (hy : A[n]? = some y) : A.Perm (x :: (A.set 0 y).take n) := by
  match A, hn with
  | a :: r, hn =>
    simp only [List.getElem?_cons_zero, Option.some.injEq] at h0
    subst h0
    simp only [List.length_cons, Nat.add_right_cancel_iff] at hn
    cases n with
    | zero =>
      have : r = [] := List.eq_nil_of_length_eq_zero hn
      subst this; simp
    | succ n =>
      simp only [List.getElem?_cons_succ] at hy
      simp only [List.set_cons_zero, List.take_succ_cons]
      refine List.Perm.cons _ ?_
      obtain ⟨hlt, rfl⟩ := List.getElem?_eq_some_iff.1 hy
      have e : r = r.take n ++ [r[n]] := by
        conv => lhs; rw [← List.take_append_drop n r, List.drop_eq_getElem_cons hlt, List.drop_eq_nil_of_le (by omega)]
      conv => lhs; rw [e]
      exact List.perm_append_comm

end Go.Gm
