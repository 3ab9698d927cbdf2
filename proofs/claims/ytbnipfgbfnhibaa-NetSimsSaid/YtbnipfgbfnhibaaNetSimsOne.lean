/- One: steps of the laws, walked. -/

import Derived.Test.YtbnipfgbfnhibaaNetSimsStp
import Derived.Test.YtbnipfgbfnhibaaNetSimsGd

set_option linter.unusedVariables false

set_option linter.unusedSimpArgs false

namespace Go.Proofs

open Go Go.Vx Go.Gm

/-- The spikes of some ticks. -/
def seg (N : Net) (l : List Evt) (a : Nat) : Nat → List Evt
  | 0 => []
  | n + 1 => seg N l a n ++ (spkAt N l (a + n)).map fun i => ⟨((a + n : Nat) : Int), i⟩

theorem TkInv.of {l : List Evt} {inputs limit : Int} (hl : EvOk inputs limit l) {T k : Nat} (hk : k ≤ l.length) (hp : ∀ e ∈ l.take k, e.tick < (T : Int)) (hr : ∀ x, l[k]? = some x → (T : Int) ≤ x.tick) : TkInv l T k := by
  refine ⟨hk, hp, fun e he => ?_⟩
  rcases Nat.lt_or_ge k l.length with hlt | hge
  · have hx : (l.drop k)[0]? = some l[k] := by rw [List.getElem?_drop, Nat.add_zero]; exact List.getElem?_eq_getElem hlt
    have := head_least hl hx e he
    have := hr l[k] (List.getElem?_eq_getElem hlt)
    omega
  · rw [List.drop_eq_nil_of_le hge] at he; simp at he

theorem ShOk.sub {w : World} {M M' : List Nat} {x : SimM} (h : ShOk w M x) (hM : ∀ b ∈ M', b ∈ M) : ShOk w M' x :=
  ⟨h.par, fun e => h.parM (hM _ e), h.map, fun e => h.mapM (hM _ e), fun r hr => by
    obtain ⟨g, h1, h2, h3⟩ := h.rows r hr
    exact ⟨g, h1, h2, fun e => h3 (hM _ e)⟩⟩

end Go.Proofs
