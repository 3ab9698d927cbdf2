import Derived.Test.YtephkjicokbckaaGreatDoorVerifyFoundSe
import Derived.Test.YtephkjicokbckaaGreatDoorVerifyFoundSu
import Derived.Test.YtephkjicokbckaaGreatDoorVerifyFoundWg
set_option linter.unusedVariables false

set_option linter.unusedSimpArgs false

namespace Go.Proofs

open Go Go.Vx Go.Gm

theorem outTo_few {N : Net} (hN : NetOk N) (l : List Evt) : ∀ t : Nat, (outTo N l t).length ≤ t * N.ps.length
  | 0 => by simp [outTo]
  | t + 1 => by
    have ih := outTo_few hN l t
    have hx := (stAt_ok hN l t).fire t
    have hl : (spkAt N l t).length ≤ N.ps.length := by
      unfold spkAt ringSpk spk
      have := spkFrom_length (fire N.ps (stAt N l t).sts (((stAt N l t).D[t % 16]?).getD [])) 0
      omega
    simp only [outTo, List.length_append, List.length_map]
    rw [Nat.add_mul]
    omega

theorem mem_outTo {N : Net} {l : List Evt} {i : Int} {τ : Int} : ∀ {T : Nat}, (⟨τ, i⟩ : Evt) ∈ outTo N l T ↔ 0 ≤ τ ∧ τ < T ∧ i ∈ spkAt N l τ.toNat
  | 0 => by simp [outTo]; omega
  | T + 1 => by
    simp only [outTo, List.mem_append, List.mem_map]
    rw [mem_outTo]
    constructor
    · rintro (⟨h1, h2, h3⟩ | ⟨j, hj, e⟩)
      · exact ⟨h1, by omega, h3⟩
      · simp only [Evt.mk.injEq] at e
        obtain ⟨rfl, rfl⟩ := e
        exact ⟨by omega, by omega, by rw [Int.toNat_natCast]; exact hj⟩
    · rintro ⟨h1, h2, h3⟩
      by_cases h : τ < T
      · exact .inl ⟨h1, h, h3⟩
      · have e : τ = (T : Int) := by omega
        subst e
        rw [Int.toNat_natCast] at h3
        exact .inr ⟨i, h3, rfl⟩

end Go.Proofs
