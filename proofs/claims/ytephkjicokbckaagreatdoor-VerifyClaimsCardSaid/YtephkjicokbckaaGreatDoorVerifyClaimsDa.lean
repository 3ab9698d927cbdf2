import Derived.Test.YtephkjicokbckaaGreatDoorVerifyClaimsNa
import Derived.Test.YtephkjicokbckaaGreatDoorVerifyClaimsGa
import Derived.Test.YtephkjicokbckaaGreatDoorVerifyClaimsVb
section

set_option linter.unusedVariables false

set_option linter.unusedSimpArgs false

namespace Go.Proofs

open Go Go.Vx Go.Gm

end Go.Proofs

end

section

set_option linter.unusedVariables false

set_option linter.unusedSimpArgs false

namespace Go.Proofs

open Go Go.Vx Go.Gm

end Go.Proofs

end

section

set_option linter.unusedVariables false

set_option linter.unusedSimpArgs false

namespace Go.Proofs

open Go Go.Vx Go.Gm

structure CellM where
  p : Par
  s : Sta
  tick : Nat
  next : Int

theorem set_self {α : Type} {l : List α} {k : Nat} {a : α} (h : l[k]? = some a) : l.set k a = l := by
  obtain ⟨hlt, rfl⟩ := List.getElem?_eq_some_iff.1 h
  simp

end Go.Proofs

end

section

set_option linter.unusedVariables false

set_option linter.unusedSimpArgs false

namespace Go.Proofs

open Go Go.Vx Go.Gm

structure DueRow where
  key : Int
  blk : Nat
  l : List (Int × Int)

def dueFind : List DueRow → Int → Option DueRow
  | [], _ => none
  | r :: q, t => if r.key = t then some r else dueFind q t

def aFind : List (Int × Int) → Int → Option Int
  | [], _ => none
  | x :: q, i => if x.1 = i then some x.2 else aFind q i

def dueAt (Q : List DueRow) (t i : Int) : Option Int := (dueFind Q t).bind fun r => aFind r.l i

theorem dueFind_mem {Q : List DueRow} {t : Int} {r : DueRow} (h : dueFind Q t = some r) : r ∈ Q ∧ r.key = t := by
  induction Q with
  | nil => simp [dueFind] at h
  | cons z q ih =>
    simp only [dueFind] at h
    split at h
    · cases h; exact ⟨by simp, ‹_›⟩
    · have := ih h; exact ⟨by simp [this.1], this.2⟩

def NextC (c : CellM) : Prop := ∃ r : Int, NextIs c.p c.s r ∧ c.next = if 0 ≤ r then (c.tick : Int) + r else -1

structure LookY where
  spk : Bool
  cells : List CellM
  A : List Evt
  p : Option Addr
  cap : Nat

def lookSkip (c : CellM) (due : Option Int) (T : Nat) : Prop := T < c.tick ∨ (due = none ∧ c.next ≠ T)

def LookRel (cs : List CellM) (i : Nat) (c : CellM) (due : Option Int) (T : Nat) (A : List Evt) (y : LookY) : Prop :=
  (lookSkip c due T ∧ y.spk = false ∧ y.cells = cs ∧ y.A = A) ∨
  (¬ lookSkip c due T ∧ ∃ c', c'.p = c.p ∧ c'.tick = T + 1 ∧ (c'.s, y.spk) = tick c.p (silN c.p c.s (T - c.tick)) (due.getD 0) ∧ NextC c' ∧ y.cells = cs.set i c' ∧
    ((c'.next < 0 ∧ y.A = A) ∨ (0 ≤ c'.next ∧ HeapOk y.A ∧ y.A.Perm (A ++ [⟨c'.next, i⟩]))))

end Go.Proofs

end
