import Derived.Test.YtephkjicokbckaaGreatDoorVerifyCertainsVb
set_option linter.unusedVariables false

set_option linter.unusedSimpArgs false

namespace Go.Proofs

open Go Go.Vx

def Marks (m : List (Int × Value)) (S : List Int) : Prop := ∀ k, mfind m k = if k ∈ S then some (.bool true) else none

theorem mfind_mset (m : List (Int × Value)) (j : Int) (v : Value) (k : Int) : mfind (mset m j v) k = if j = k then some v else mfind m k := by
  induction m with
  | nil => simp [mset, mfind]
  | cons x m ih =>
    obtain ⟨a, b⟩ := x
    simp only [mset, mfind]
    by_cases h : a = j
    · subst h
      by_cases h2 : a = k <;> simp [mfind, h2]
    · by_cases h2 : a = k
      · have : ¬ j = k := fun e => h (by omega)
        subst h2
        rw [if_neg h, if_neg this]
        simp [mfind]
      · simp [mfind, h, h2, ih]

theorem Marks.add {m : List (Int × Value)} {S : List Int} (h : Marks m S) (j : Int) : Marks (mset m j (.bool true)) (S ++ [j]) := by
  intro k
  rw [mfind_mset, h k]
  by_cases e : j = k
  · subst e; simp
  · have : ¬ k = j := fun h => e h.symm
    simp [e, this]

end Go.Proofs
