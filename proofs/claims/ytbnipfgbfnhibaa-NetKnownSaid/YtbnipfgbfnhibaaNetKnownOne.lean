/- One: steps of the laws, walked. -/

import Derived.Test.YtbnipfgbfnhibaaNetKnownStp
import Derived.Test.YtbnipfgbfnhibaaNetKnownGd

set_option linter.unusedVariables false

set_option linter.unusedSimpArgs false

namespace Go.Proofs

open Go Go.Vx Go.Gm

/-- The spikes of some ticks. -/
def seg (N : Net) (l : List Evt) (a : Nat) : Nat → List Evt
  | 0 => []
  | n + 1 => seg N l a n ++ (spkAt N l (a + n)).map fun i => ⟨((a + n : Nat) : Int), i⟩

theorem TkInv.of {l : List Evt} {inputs limit : Int} (hl : EvOk inputs limit l) {T k : Nat} (hk : k ≤ l.length) (hp : ∀ e ∈ l.take k, e.tick < (T : Int)) (hr : ∀ x, l[k]? = some x → (T : Int) ≤ x.tick) : TkInv l T k := by
  refine ⟨hk, hp, fun e he => ?_⟩
  rcases Nat.lt_or_ge k l.length with hlt | hge
  · have hx : (l.drop k)[0]? = some l[k] := by rw [List.getElem?_drop, Nat.add_zero]; exact List.getElem?_eq_getElem hlt
    have := head_least hl hx e he
    have := hr l[k] (List.getElem?_eq_getElem hlt)
    omega
  · rw [List.drop_eq_nil_of_le hge] at he; simp at he

theorem ShOk.sub {w : World} {M M' : List Nat} {x : SimM} (h : ShOk w M x) (hM : ∀ b ∈ M', b ∈ M) : ShOk w M' x :=
  ⟨h.par, fun e => h.parM (hM _ e), h.map, fun e => h.mapM (hM _ e), fun r hr => by
    obtain ⟨g, h1, h2, h3⟩ := h.rows r hr
    exact ⟨g, h1, h2, fun e => h3 (hM _ e)⟩⟩

theorem Step_call {w0 : World} {M : List Nat} {H : HP} {Z : HP → HP} {K : Value → HP → Prop} (y : SimM) (hy : SimRun y) (ins : List Int) (hil : ins.length < 9223372036854775807) (p : Option Addr) (n c : Nat) (hn : n = ins.length)
    (hat : AtS H (ownH y) Z) (hsh : ∀ w, St w0 M H w → ShOk w (ids (ownH y)) y) (hin : ∀ w, St w0 M H w → ∃ bi oi, Sl w intV 1 ins p ins.length bi oi ∧ bi ∉ ids (ownH y))
    (hk : ∀ q cap, (0 < (stepSpk y ins).length → ∃ g, q = some ⟨g, 0, none⟩) → K (.tuple #[.slice q (stepSpk y ins).length cap, .int .i64 (stepErr y ins)]) (.vec q (stepSpk y ins).length cap 3 1 (flat intV (stepSpk y ins)) :: Z (ownH (stepSim y ins)))) :
    VCall Try.cx.P w0 M H 40 [.pointer (some ⟨y.b, 0, none⟩), .slice p n c] K := by
  subst hn
  refine VCall.turnV (α := Option Addr × Nat) (fun z => .tuple #[.slice z.1 (stepSpk y ins).length z.2, .int .i64 (stepErr y ins)]) (fun z => 0 < (stepSpk y ins).length → ∃ g, z.1 = some ⟨g, 0, none⟩) (fun z => ownH (stepSim y ins)) (fun z => [.vec z.1 (stepSpk y ins).length z.2 3 1 (flat intV (stepSpk y ins))]) hat (fun w hw hs => ?_) (fun z hz => hk z.1 z.2 hz)
  obtain ⟨bi, oi, h1, h2⟩ := hin w hw
  exact Step_any y hy ins hil p c bi oi w hs (hsh w hw) h1 h2

end Go.Proofs
