import Derived.Test.YtjjcoiicikaaiaaGreatPlaceErrorsTo
import Derived.Test.YtjjcoiicikaaiaaGreatPlaceErrorsMc
import Derived.Test.YtjjcoiicikaaiaaGreatPlaceErrorsQw
import Derived.Test.YtjjcoiicikaaiaaGreatPlaceErrorsWk
import Derived.Test.YtjjcoiicikaaiaaGreatPlaceErrorsMz
set_option linter.unusedVariables false
set_option linter.unusedSimpArgs false
set_option maxHeartbeats 4000000
section

namespace Go.Proofs

open Go Go.Vx Go.Gm Go.RowKit Go.WideShapes Go.ChangeShapes Go.Deep Go.Joins

section

variable {H : Type} {enc : TypeId × Value → H} {P : Program} {w : World} {base : Nat} {spare : Nat → Bool} {held : Bool}

end

structure _root_.Go.Gm.Chp.int (C : Chp) : Prop where
 mesh : C.mesh.wf
 nr : I64 C.nr
 sy : I64 C.sy
 en : I64 C.en
 bits : I64 C.bits
 dead : ∀ x ∈ C.dead, I64 x

theorem _root_.Go.Gm.Chp.int.wf {C : Chp} (h : C.int) (hf : C.dead.length ≤ 1000000) : C.wf := ⟨h.mesh, h.nr, h.sy, h.en, h.bits, h.dead, hf⟩

section

variable {H : Type} {enc : TypeId × Value → H} {W : World} {base : Nat} {spare : Nat → Bool} {held : Bool} {r : Reach} {b0 : Nat}

end

end Go.Proofs
end

section

namespace Go.Proofs

open Go Go.Vx Go.Gm

end Go.Proofs
end

section

namespace Go.Gm

end Go.Gm

namespace Go.Proofs

open Go Go.Vx Go.Gm

end Go.Proofs
end

section

namespace Go.Proofs

open Go Go.Vx Go.Gm

end Go.Proofs
end

section

namespace Go.Gm

def sizeQ (w s : Int) : Int := (2 * max w (-w) + s - 1) / (2 * s)

def beyondM (w s half : Int) : Prop := (0 < w ∧ half ≤ sizeQ w s) ∨ (w < 0 ∧ half < sizeQ w s) ∨ 32768 < sizeQ w s * s

instance (w s half : Int) : Decidable (beyondM w s half) := by unfold beyondM; infer_instance

theorem sizeQ_near {w s : Int} : (0 ≤ w → nearM w s = sizeQ w s) ∧ (w < 0 → nearM w s = -sizeQ w s) := by
 unfold nearM sizeQ
 refine ⟨fun h => ?_, fun h => ?_⟩
 ·rw [if_neg (by omega), show max w (-w) = w by omega]
 ·rw [if_pos h, show max w (-w) = -w by omega]

theorem sizeQ_range {w s : Int} (hs : 1 ≤ s) : 0 ≤ sizeQ w s ∧ sizeQ w s ≤ max w (-w) := by
 have h := near_small (w := w) hs
 rcases Int.lt_or_le w 0 with h1 | h1
 ·have := h.2 (by omega)
  rw [sizeQ_near.2 h1] at this
  omega
 ·have := h.1 h1
  rw [sizeQ_near.1 h1] at this
  omega

theorem beyond_of {w s half : Int} (hs : 1 ≤ s) (hh : 1 ≤ half) (h : ¬ okQ half s w) : beyondM w s half := by
 have hr := sizeQ_range (w := w) hs
 have hm : 0 ≤ sizeQ w s * s := Int.mul_nonneg hr.1 (by omega)
 unfold beyondM
 unfold okQ at h
 rcases Int.lt_or_le w 0 with h1 | h1
 ·rw [sizeQ_near.2 h1, Int.neg_mul] at h
  omega
 ·rw [sizeQ_near.1 h1] at h
  rcases Int.lt_or_le 0 w with h2 | h2
  ·omega
  ·have hw : w = 0 := by omega
   subst hw
   have : sizeQ 0 s = 0 := by have := hr.2; omega
   rw [this] at h
   omega

def scOf (Z : List Int) (s : Syn) : Int := Z[s.to.toNat]?.getD 1

def showsQ (Z : List Int) (half : Int) (s : Syn) : Bool := decide (1 < scOf Z s) && decide (beyondM s.wt (scOf Z s - 1) half)

def smallQ (Z : List Int) (half : Int) (l : List Syn) (i : Nat) : Bool := l.any fun s => decide (s.to = (i : Int)) && showsQ Z half s

theorem smallQ_snoc (Z : List Int) (half : Int) (l : List Syn) (s : Syn) (i : Nat) : smallQ Z half (l ++ [s]) i = if s.to = (i : Int) then (smallQ Z half l i || showsQ Z half s) else smallQ Z half l i := by
 unfold smallQ
 rw [List.any_append]
 by_cases h : s.to = (i : Int) <;> simp [h]

theorem errQ_ge (Z : List Int) (l : List Syn) (i : Nat) : 0 ≤ errQ Z l i ∧ ∀ s ∈ l, s.to = (i : Int) → offS Z s ≤ errQ Z l i := by
 unfold errQ
 refine ⟨(foldl_max_ge _ _).1, fun s hs he => (foldl_max_ge _ _).2 _ ?_⟩
 exact List.mem_map_of_mem (f := offS Z) (List.mem_filter.2 ⟨hs, decide_eq_true he⟩)

theorem errQ_mem (Z : List Int) (l : List Syn) (i : Nat) : errQ Z l i = 0 ∨ ∃ s ∈ l, s.to = (i : Int) ∧ errQ Z l i = offS Z s := by
 unfold errQ
 rcases foldl_max_mem ((l.filter fun s => decide (s.to = (i : Int))).map (offS Z)) 0 with h | h
 ·exact .inl h
 ·obtain ⟨s, hs, he⟩ := List.mem_map.1 h
  rw [List.mem_filter] at hs
  exact .inr ⟨s, hs.1, of_decide_eq_true hs.2, he.symm⟩

theorem offS_nn (Z : List Int) (s : Syn) : 0 ≤ offS Z s := by unfold offS; omega

structure QFacts (N : Net) (Z : List Int) (half : Int) : Prop where
 len : Z.length = N.ps.length
 at_ : ∀ (i : Nat) (z : Int), Z[i]? = some z → 1 ≤ z ∧ z ≤ 65537
 syn : ∀ s ∈ N.syns, -half ≤ quotS Z s ∧ quotS Z s < half ∧ 2 * offS Z s ≤ scOf Z s ∧ -32768 ≤ quotS Z s * scOf Z s ∧ quotS Z s * scOf Z s ≤ 32768
 small : ∀ (i : Nat) (z : Int), Z[i]? = some z → 1 < z → smallQ Z half N.syns i = true
 one : ∀ (i : Nat), Z[i]? = some 1 → errQ Z N.syns i = 0

theorem scales_get {N : Net} {half : Int} {i : Nat} {z : Int} (h : (scalesM N half)[i]? = some z) : i < N.ps.length ∧ z = (scaleM N.syns half i : Int) := by
 unfold scalesM at h
 rw [List.getElem?_map] at h
 by_cases hi : i < N.ps.length
 ·rw [List.getElem?_range hi] at h
  simp only [Option.map_some, Option.some.injEq] at h
  exact ⟨hi, h.symm⟩
 ·rw [List.getElem?_eq_none (by simp; omega)] at h
  cases h

theorem qfacts {N : Net} (hw : WtsOk N.syns) (hto : ∀ s ∈ N.syns, 0 ≤ s.to ∧ s.to < N.ps.length) {half : Int} (hh : 2 ≤ half) : QFacts N (scalesM N half) half := by
 have hsc : ∀ s ∈ N.syns, scOf (scalesM N half) s = (scaleM N.syns half s.to.toNat : Int) := fun s hs => by
  have h := hto s hs
  unfold scOf scalesM
  rw [List.getElem?_map, List.getElem?_range (by omega)]
  rfl
 refine ⟨by unfold scalesM; simp, fun i z hz => ?_, fun s hs => ?_, fun i z hz h1 => ?_, fun i hz => ?_⟩
 ·obtain ⟨_, rfl⟩ := scales_get hz
  have := scale_spec hw hh i
  omega
 ·have h := hto s hs
  obtain ⟨h1, h2, h3, h4⟩ := scale_spec hw hh s.to.toNat
  have e : ((s.to.toNat : Nat) : Int) = s.to := by omega
  have hq := h1 s.wt (mem_wtsTo.2 ⟨s, hs, e.symm, rfl⟩)
  have ho := near_off (w := s.wt) (s := (scaleM N.syns half s.to.toNat : Int)) (by omega)
  have he := hsc s hs
  have hqe : quotS (scalesM N half) s = nearM s.wt (scOf (scalesM N half) s) := rfl
  have hoe : offS (scalesM N half) s = max (s.wt - quotS (scalesM N half) s * scOf (scalesM N half) s) (-(s.wt - quotS (scalesM N half) s * scOf (scalesM N half) s)) := rfl
  rw [hoe, hqe, he]
  unfold okQ at hq
  refine ⟨hq.1.1, by omega, by omega, hq.2.1, hq.2.2⟩
 ·obtain ⟨hi, rfl⟩ := scales_get hz
  obtain ⟨_, h2, h3, h4⟩ := scale_spec hw hh i
  obtain ⟨k, hk⟩ : ∃ k, scaleM N.syns half i = k + 1 := ⟨scaleM N.syns half i - 1, by omega⟩
  have hn := h4 k (by omega) (by omega)
  unfold okS at hn
  obtain ⟨w, hn⟩ := Classical.not_forall.1 hn
  obtain ⟨hwm, hn⟩ := Classical.not_imp.1 hn
  obtain ⟨s, hs, hst, rfl⟩ := mem_wtsTo.1 hwm
  have e : s.to.toNat = i := by omega
  have he := hsc s hs
  rw [e] at he
  unfold smallQ
  rw [List.any_eq_true]
  refine ⟨s, hs, ?_⟩
  unfold showsQ
  rw [he, hk]
  have hb := beyond_of (by omega) (by omega) hn
  have e2 : (((k + 1 : Nat) : Int) - 1) = (k : Int) := by omega
  rw [e2]
  simp only [Bool.and_eq_true, decide_eq_true_eq]
  exact ⟨hst, by omega, hb⟩
 ·obtain ⟨hi, h1⟩ := scales_get hz
  rcases errQ_mem (scalesM N half) N.syns i with h | ⟨s, hs, hst, h⟩
  ·exact h
  ·rw [h]
   have e : s.to.toNat = i := by omega
   have he := hsc s hs
   rw [e, ← h1] at he
   have hqe : quotS (scalesM N half) s = nearM s.wt (scOf (scalesM N half) s) := rfl
   have hoe : offS (scalesM N half) s = max (s.wt - quotS (scalesM N half) s * scOf (scalesM N half) s) (-(s.wt - quotS (scalesM N half) s * scOf (scalesM N half) s)) := rfl
   rw [hoe, hqe, he, near_one]
   omega

theorem exact_iff {N : Net} {Z : List Int} (hto : ∀ s ∈ N.syns, 0 ≤ s.to ∧ s.to < N.ps.length) : (N.syns.all fun s => decide (offS Z s = 0)) = true ↔ ∀ i, i < N.ps.length → errQ Z N.syns i = 0 := by
 rw [List.all_eq_true]
 constructor
 ·intro h i _
  rcases errQ_mem Z N.syns i with e | ⟨s, hs, _, e⟩
  ·exact e
  ·rw [e]; exact of_decide_eq_true (h s hs)
 ·intro h s hs
  rw [decide_eq_true_eq]
  have h1 := hto s hs
  have h2 := (errQ_ge Z N.syns s.to.toNat).2 s hs (by omega)
  have h3 := h s.to.toNat (by omega)
  have h4 := offS_nn Z s
  omega

theorem synQ_same {Z : List Int} {s : Syn} (h : offS Z s = 0) : synQ Z s = s := by
 have e : synQ Z s = ⟨s.frm, s.to, quotS Z s * scOf Z s, s.dl⟩ := rfl
 have hoe : offS Z s = max (s.wt - quotS Z s * scOf Z s) (-(s.wt - quotS Z s * scOf Z s)) := rfl
 rw [e]
 obtain ⟨a, b, c, d⟩ := s
 congr 1
 rw [hoe] at h
 dsimp only at h ⊢
 omega

end Go.Gm
end
