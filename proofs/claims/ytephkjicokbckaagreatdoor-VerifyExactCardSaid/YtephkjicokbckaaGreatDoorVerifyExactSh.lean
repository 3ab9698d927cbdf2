import Derived.Test.YtephkjicokbckaaGreatDoorVerifyExactSe
import Derived.Test.YtephkjicokbckaaGreatDoorVerifyExactSu
import Derived.Test.YtephkjicokbckaaGreatDoorVerifyExactWg
import Derived.Test.YtephkjicokbckaaGreatDoorVerifyExactWb
import Derived.Test.YtephkjicokbckaaGreatDoorVerifyExactMk
import Derived.Test.YtephkjicokbckaaGreatDoorVerifyExactLs
section
set_option linter.unusedVariables false

set_option linter.unusedSimpArgs false

namespace Go.Proofs

open Go Go.Vx Go.Gm

theorem leak_ends {p : Par} (hp : ParOk p) : leak p 1048576 ≤ 1048576 ∧ -1048576 ≤ leak p (-1048576) := by
  have h := hp.leak
  unfold leakOk at h
  unfold leak
  rcases h with ⟨h1, h2⟩ | ⟨h1, h2⟩ | ⟨h1, h2⟩
  · rw [if_neg (by omega), if_neg (by omega), if_neg (by omega), if_neg (by omega)]; omega
  · rw [if_pos h1, if_pos h1, if_neg (by omega), if_pos (by omega)]; omega
  · rw [if_neg (by omega), if_pos h1, if_neg (by omega), if_pos h1]
    have e1 : (1048576 * p.lv).tdiv 256 = 4096 * p.lv := by
      rw [show (1048576 : Int) * p.lv = (4096 * p.lv) * 256 by omega]
      exact Int.mul_tdiv_cancel _ (by omega)
    have e2 : (-1048576 * p.lv).tdiv 256 = -4096 * p.lv := by
      rw [show (-1048576 : Int) * p.lv = (-4096 * p.lv) * 256 by omega]
      exact Int.mul_tdiv_cancel _ (by omega)
    rw [e1, e2]; omega

structure Given (N : Net) (sure may : List Evt) (ticks : Int) : Prop where
  net : NetOk N
  sure : EvOk N.inputs 10000 sure
  may : EvOk N.inputs 10000 may
  ticks : 0 ≤ ticks ∧ ticks ≤ 10000

theorem given_of {N : Net} {sure may : List Evt} {ticks : Int} (h : bndErr N sure may ticks = 0) : Given N sure may ticks := by
  unfold bndErr at h
  split at h
  · omega
  · rename_i h1
    split at h
    · omega
    · rename_i h2
      split at h
      · omega
      · rename_i h3
        refine ⟨netchk_zero.1 (by omega), evEr_zero (by omega), evEr_zero (by omega), ?_⟩
        unfold tmE at h
        split at h
        · assumption
        · cases h

end Go.Proofs
end

section
set_option linter.unusedVariables false

set_option linter.unusedSimpArgs false

namespace Go.Proofs

open Go Go.Vx Go.Gm

end Go.Proofs
end

section
set_option linter.unusedVariables false

set_option linter.unusedSimpArgs false

namespace Go.Proofs

open Go Go.Vx Go.Gm

end Go.Proofs
end

section
set_option linter.unusedVariables false

set_option linter.unusedSimpArgs false

namespace Go.Proofs

open Go Go.Vx Go.Gm

end Go.Proofs
end

section
set_option linter.unusedVariables false

set_option linter.unusedSimpArgs false

namespace Go.Proofs

open Go Go.Vx Go.Gm

theorem bndRes_ok {N : Net} {sure may : List Evt} {ticks : Int} (h : (bndRes N sure may ticks).2 = 0) : bndErr N sure may ticks = 0 ∧ (bndRes N sure may ticks).1 = (bst N sure may ticks.toNat).out := by
  unfold bndRes at h ⊢
  split at h
  · contradiction
  · rename_i h0
    exact ⟨by omega, by rw [if_neg h0]⟩

end Go.Proofs
end

section
set_option linter.unusedVariables false

set_option linter.unusedSimpArgs false

namespace Go.Proofs

open Go Go.Vx Go.Gm

theorem tiny_ok {N : Net} (h : NetOk N) : NetOk (tinyN N) := by
  refine ⟨by simp [tinyN], by simp [tinyN], h.inputs, by simp [tinyN], fun p hp => ?_, by simp [tinyN]⟩
  simp only [tinyN, List.mem_singleton] at hp
  subst hp
  constructor <;> simp [leakOk]

theorem evEr_ok {N : Net} (h : NetOk N) {l : List Evt} (hl : EvOk N.inputs 10000 l) : evEr N l = 0 := by
  unfold evEr
  rw [runRes_eq (prep_zero.2 ⟨tiny_ok h, ⟨by omega, by omega⟩, hl⟩)]
  rfl

theorem bnd_again {N : Net} {sure may l : List Evt} {ticks : Int} (h : bndErr N sure may ticks = 0) (hl : EvOk N.inputs 10000 l) : bndErr N sure l ticks = 0 := by
  have hG := given_of h
  unfold bndErr at h ⊢
  rw [if_neg (by rw [netchk_zero.2 hG.net]; omega), if_neg (by rw [evEr_ok hG.net hG.sure]; omega), if_neg (by rw [evEr_ok hG.net hl]; omega)]
  unfold tmE
  rw [if_pos hG.ticks]

theorem bndRes_zero {N : Net} {sure may : List Evt} {ticks : Int} (h : bndErr N sure may ticks = 0) : bndRes N sure may ticks = ((bst N sure may ticks.toNat).out, 0) := by
  unfold bndRes
  rw [if_neg (by omega)]

theorem some_ok {N : Net} {sure may sub : List Evt} {ticks : Int} (h : Given N sure may ticks) (hs : sub.Sublist may) (h2 : may.length ≤ 1000) : EvOk N.inputs 10000 (sortU sub) := by
  have hl := sortU_len sub
  have hl2 := hs.length_le
  exact ⟨by omega, fun x hx => h.may.range x (hs.mem (mem_sortU.1 hx)), sortU_asc _⟩

theorem exact_row {N : Net} {sure may sub : List Evt} {ticks : Int} (h : Given N sure may ticks) (hs : sub.Sublist may) (h2 : may.length ≤ 1000) {t i : Nat} {rx rf rl : List Int} {x f l : Int} (hx : (bst N sure sure ticks.toNat).out[t]? = some rx) (hf : (bst N sure (sortU sub) ticks.toNat).out[t]? = some rf) (hl : (bst N sure may ticks.toNat).out[t]? = some rl)
    (gx : rx[i]? = some x) (gf : rf[i]? = some f) (gl : rl[i]? = some l) : x ≠ 1 ∧ (x = f ∨ f = 1) ∧ (f = l ∨ l = 1) := by
  have hm : ∀ p ∈ N.ps, ∀ u v, u ≤ v → leak p u ≤ leak p v := fun p hp u v huv => leak_mono (h.net.ps p hp) huv
  have h1 := bst_le h.net.ps hm (s1 := sure) (m1 := sure) (s2 := sure) (m2 := sortU sub) (fun _ he => he) (fun e he => by rcases he with he | he <;> exact .inl he) ticks.toNat
  have h3 := bst_le h.net.ps hm (s1 := sure) (m1 := sortU sub) (s2 := sure) (m2 := may) (fun _ he => he) (fun e he => by
    rcases he with he | he
    · exact .inl he
    · exact .inr (hs.mem (mem_sortU.1 he))) ticks.toNat
  have hrun := bst_run h.net hm (fun p hp => leak_ends (h.net.ps p hp)) h.sure ticks.toNat
  have hB := bst_ok h.net.ps sure sure ticks.toNat
  refine ⟨?_, (h1.out.2 t rx rf hx hf).2 i x f gx gf, (h3.out.2 t rf rl hf hl).2 i f l gf gl⟩
  have e := hrun.out t i (List.getElem?_eq_some_iff.1 hx).1 (by rw [← (hB.row rx (List.mem_of_getElem? hx)).1]; exact (List.getElem?_eq_some_iff.1 gx).1)
  rw [hx, Option.getD_some, gx, Option.some.injEq] at e
  split at e <;> omega

end Go.Proofs
end
