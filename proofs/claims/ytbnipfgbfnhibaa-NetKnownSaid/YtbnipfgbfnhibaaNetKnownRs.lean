/- Rs: Resume of the program, walked. -/

import Derived.Test.YtbnipfgbfnhibaaNetKnownStp
import Derived.Test.YtbnipfgbfnhibaaNetKnownCc

set_option linter.unusedVariables false

set_option linter.unusedSimpArgs false

namespace Go.Vx

open Go

/-- A copy of as many elements as there are. -/
theorem VCp.full {w0 : World} {M : List Nat} {H r : HP} {u : Ent → HP} {p q : Option Addr} {n m cap e size : Nat} {xs news : List Value} {K : Value → HP → Prop} (hat : At H (.vec p n cap e size xs) u r) (hmn : m = n) (hs : Src w0 M H q n size news)
    (h1 : ∀ v ∈ news, v.oneCell' = true) (hl : xs.length = n * size) (hk : K (.int .i64 (n : Int)) (u (.vec p n cap e size news))) : VCp w0 M H p n cap e size q m K := by
  subst hmn
  refine .own hat (by rw [Nat.min_self]; exact hs) h1 ?_
  rw [Nat.min_self, List.drop_eq_nil_of_le (by omega), List.append_nil]
  exact hk

theorem VCp.seg {α : Type} {w0 : World} {M : List Nat} {H : HP} {l : List α} {f : α → Ent} {Z : HP → HP} {i : Nat} {x y : α} {p q : Option Addr} {n m cap e size : Nat} {xs news : List Value} {K : Value → HP → Prop} (h : AtS H (l.map f) Z) (hx : l[i]? = some x)
    (hf : f x = .vec p n cap e size xs) (hmn : m = n) (hs : Src w0 M H q n size news) (h1 : ∀ v ∈ news, v.oneCell' = true) (hl : xs.length = n * size) (hy : f y = .vec p n cap e size news) (hk : K (.int .i64 (n : Int)) (Z ((l.set i y).map f))) : VCp w0 M H p n cap e size q m K := by
  obtain ⟨u, r, hat, hz, _⟩ := h.one hx
  rw [hf] at hat
  rw [← hz, hy] at hk
  exact .full hat hmn hs h1 hl hk

end Go.Vx

namespace Go.Proofs

open Go Go.Vx Go.Gm

def bigK (k : Int) : Prop := ¬ (-268435456 ≤ k ∧ k ≤ 268435456)

instance (k : Int) : Decidable (bigK k) := by unfold bigK; infer_instance

end Go.Proofs
