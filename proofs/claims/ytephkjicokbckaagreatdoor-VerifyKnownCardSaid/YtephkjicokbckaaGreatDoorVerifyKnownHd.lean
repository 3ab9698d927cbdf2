import Derived.Test.YtephkjicokbckaaGreatDoorVerifyKnownCl
set_option linter.unusedVariables false

set_option linter.unusedSimpArgs false

namespace Go.Gm

def inC (c : Clm) (x : Evt) : Prop := c.frm ≤ x.tick ∧ x.tick < c.to ∧ x.id ∈ c.ns

instance (c : Clm) (x : Evt) : Decidable (inC c x) := by unfold inC; infer_instance

def aboutL (c : Clm) (l : List Evt) : List Evt := l.filter fun x => decide (inC c x)

def LeadsP (c : Clm) (l : List Evt) : Prop := ∃ x ∈ aboutL c l, ∀ y ∈ aboutL c l, x.tick ≤ y.tick ∧ (y.tick = x.tick → c.ns[0]? = some y.id)

def CountsP (c : Clm) (l : List Evt) : Prop := c.lo ≤ ((aboutL c l).length : Int) ∧ ((aboutL c l).length : Int) ≤ c.hi

def HoldsP (c : Clm) (l : List Evt) : Prop := if c.kind = 1 then LeadsP c l else CountsP c l

def hitC (c : Clm) (n : Int) (x : Evt) : Prop := x.id = n ∧ c.frm ≤ x.tick ∧ x.tick < c.to

instance (c : Clm) (n : Int) (x : Evt) : Decidable (hitC c n x) := by unfold hitC; infer_instance

end Go.Gm
