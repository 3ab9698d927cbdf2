/- LawH: what the laws share: run, same, some. -/

import Derived.Test.YtbnipfgbfnhibaaNetSimsLaw1

set_option linter.unusedVariables false

set_option linter.unusedSimpArgs false

namespace Go.Proofs

open Go Go.Vx Go.Gm

theorem vec_ptr {w0 w : World} {M : List Nat} {H : HP} {p : Option Addr} {n cap e size : Nat} {xs : List Value} (hs : St w0 M H w) (hx : Ent.vec p n cap e size xs ∈ H) : 0 < n → ∃ g, p = some ⟨g, 0, none⟩ := by
  intro hn
  rcases vec_some_nil hs hx with h | ⟨_, h1, _⟩
  · exact h
  · omega

end Go.Proofs
