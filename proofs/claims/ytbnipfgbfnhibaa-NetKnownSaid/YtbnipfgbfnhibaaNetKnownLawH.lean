/- LawH: what the laws share: run, same, some. -/

import Derived.Test.YtbnipfgbfnhibaaNetKnownLaw1

set_option linter.unusedVariables false

set_option linter.unusedSimpArgs false

namespace Go.Proofs

open Go Go.Vx Go.Gm

/-- Lists of our own, compared. -/
theorem same_call {w0 : World} {M : List Nat} {H r1 r2 : HP} {u1 u2 : Ent → HP} {K : Value → HP → Prop} (l m : List Evt) (hl : ∀ x ∈ l, x.wf) (hm : ∀ x ∈ m, x.wf) (hsz : l.length ≤ 140737488355328) (p q : Option Addr) (n c k d e1 e2 : Nat) (hn : n = l.length) (hk : k = m.length)
    (h1 : At H (.vec p n c e1 2 (flat evtV l)) u1 r1) (h2 : At H (.vec q k d e2 2 (flat evtV m)) u2 r2) (hK : ∀ r : Bool, (r = true ↔ l = m) → K (.bool r) H) :
    VCall Try.cx.P w0 M H 24 [.slice p n c, .slice q k d] K := by
  subst hn hk
  refine VCall.genR (v := fun r => .bool r) (p := fun r => (r = true ↔ l = m)) (G := fun _ => []) (fun w' hw' => ?_) hK
  obtain ⟨b1, hb1⟩ := Sl.own hw' (f := evtV) (l := l) (n := l.length) (k := 2) (p := p) h1 (fun _ => rfl) rfl
  obtain ⟨b2, hb2⟩ := Sl.own hw' (f := evtV) (l := m) (n := m.length) (k := 2) (p := q) h2 (fun _ => rfl) rfl
  exact same_any l m hm hl _ _ _ _ _ _ _ _ w' hb1 hb2 (by omega)

theorem vec_ptr {w0 w : World} {M : List Nat} {H : HP} {p : Option Addr} {n cap e size : Nat} {xs : List Value} (hs : St w0 M H w) (hx : Ent.vec p n cap e size xs ∈ H) : 0 < n → ∃ g, p = some ⟨g, 0, none⟩ := by
  intro hn
  rcases vec_some_nil hs hx with h | ⟨_, h1, _⟩
  · exact h
  · omega

end Go.Proofs
