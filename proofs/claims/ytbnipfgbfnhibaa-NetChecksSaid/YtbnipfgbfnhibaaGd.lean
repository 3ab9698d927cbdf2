/- Gd: simulations by events against simulations by ticks: what is said of them. -/
import Derived.Test.YtbnipfgbfnhibaaDrv5
import Derived.Test.YtbnipfgbfnhibaaNet8
import Derived.Test.YtbnipfgbfnhibaaSortC
set_option linter.unusedVariables false
namespace Go.Proofs
open Go Go.Vx Go.Gm

/-- The events of one tick. -/
def insAt (l : List Evt) (t : Nat) : List Int := (l.filter fun e => e.tick = (t : Int)).map fun e => e.id

/-- The state before a tick. -/
def stAt (N : Net) (l : List Evt) : Nat → Sm
  | 0 => sm0 N
  | t + 1 => ringStep N t (stAt N l t) (insAt l t)

/-- The spikes of a tick. -/
def spkAt (N : Net) (l : List Evt) (t : Nat) : List Int := ringSpk N t (stAt N l t)

/-- The spikes before a tick. -/
def outTo (N : Net) (l : List Evt) : Nat → List Evt
  | 0 => []
  | t + 1 => outTo N l t ++ (spkAt N l t).map fun i => ⟨t, i⟩

/-- How many numbers are due. -/
def dueCount (Q : List DueRow) : Nat := (Q.map fun r => r.l.length).foldr (· + ·) 0

/-- The cells at the beginning. -/
structure IInv (N : Net) (i : Nat) (cs : List CellM) (A : List Evt) : Prop where
  len : cs.length = i
  cell : ∀ (j : Nat) c p, cs[j]? = some c → N.ps[j]? = some p → c.p = p ∧ c.s = ⟨0, 0⟩ ∧ c.tick = 0 ∧ NextC c ∧ (0 ≤ c.next → ⟨c.next, j⟩ ∈ A)
  alarms : ∀ a ∈ A, 0 ≤ a.tick ∧ 0 ≤ a.id ∧ a.id < N.ps.length
  heap : HeapOk A
  few : A.length ≤ i

/-- What is due, against the ring. -/
structure QInv (N : Net) (l : List Evt) (T : Nat) (Q : List DueRow) : Prop where
  keys : (Q.map (·.key)).Nodup
  rows : ∀ r ∈ Q, (r.l.map (·.1)).Nodup
  ne : ∀ r ∈ Q, r.l ≠ []
  span : ∀ r ∈ Q, (T : Int) ≤ r.key ∧ r.key < T + 16 ∧ ∀ x ∈ r.l, 0 ≤ x.1 ∧ x.1 < N.ps.length
  ring : ∀ (t i : Nat), T ≤ t → t < T + 16 → i < N.ps.length → ∃ row, (stAt N l T).D[t % 16]? = some row ∧ row[i]? = some ((dueAt Q t i).getD 0)

/-- A cell that has rested since it was looked at. -/
def Rested (N : Net) (l : List Evt) (T i : Nat) (c : CellM) : Prop :=
  c.tick ≤ T ∧ staOk c.p c.s ∧ quiet c.p c.s (T - c.tick) ∧ (stAt N l T).sts[i]? = some (silN c.p c.s (T - c.tick))

/-- Before tick T. -/
structure DInv (N : Net) (l : List Evt) (T : Nat) (cs : List CellM) (Q : List DueRow) (A : List Evt) : Prop where
  len : cs.length = N.ps.length
  cell : ∀ (i : Nat) c p, cs[i]? = some c → N.ps[i]? = some p → c.p = p ∧ NextC c ∧ (0 ≤ c.next → ⟨c.next, i⟩ ∈ A) ∧ Rested N l T i c
  due : QInv N l T Q
  dueA : ∀ t i v, dueAt Q t i = some v → ⟨t, i⟩ ∈ A
  alarms : ∀ a ∈ A, (T : Int) ≤ a.tick ∧ 0 ≤ a.id ∧ a.id < N.ps.length
  heap : HeapOk A
  few : A.length ≤ 1024 * (T + 1) + dueCount Q

/-- The taker before tick T: k events are taken. -/
structure TkInv (l : List Evt) (T k : Nat) : Prop where
  le : k ≤ l.length
  past : ∀ e ∈ l.take k, e.tick < (T : Int)
  rest : ∀ e ∈ l.drop k, (T : Int) ≤ e.tick

/-- In tick T, some cells looked at. -/
structure PInv (N : Net) (l : List Evt) (T : Nat) (cs : List CellM) (Q : List DueRow) (A : List Evt) (sp : List Int) : Prop where
  len : cs.length = N.ps.length
  cell : ∀ (i : Nat) c p, cs[i]? = some c → N.ps[i]? = some p → c.p = p ∧ NextC c ∧ (0 ≤ c.next → ⟨c.next, i⟩ ∈ A) ∧
    ((Rested N l T i c ∧ (i : Int) ∉ sp ∧ ∀ v, dueAt Q T i = some v → ⟨(T : Int), (i : Int)⟩ ∈ A) ∨
     (c.tick = T + 1 ∧ staOk c.p c.s ∧ ∃ s b, (stAt N l T).sts[i]? = some s ∧ tick p s ((dueAt Q T i).getD 0) = (c.s, b) ∧ ((i : Int) ∈ sp ↔ b = true)))
  due : QInv N l T Q
  dueA : ∀ t i v, t ≠ (T : Int) → dueAt Q t i = some v → ⟨t, i⟩ ∈ A
  alarms : ∀ a ∈ A, (T : Int) ≤ a.tick ∧ 0 ≤ a.id ∧ a.id < N.ps.length
  heap : HeapOk A
  spk : sp.Nodup ∧ ∀ i ∈ sp, 0 ≤ i ∧ i < N.ps.length
  few : A.length ≤ 1024 * (T + 1) + dueCount Q

end Go.Proofs
