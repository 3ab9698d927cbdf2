import Derived.Test.YtjjcoiicikaaiaaGreatPlaceRowsQw
import Derived.Test.YtjjcoiicikaaiaaGreatPlaceRowsPo
import Derived.Test.YtjjcoiicikaaiaaGreatPlaceRowsNa
set_option linter.unusedVariables false
set_option linter.unusedSimpArgs false
set_option maxHeartbeats 4000000
section

namespace Go.Gm

def sizeQ (w s : Int) : Int := (2 * max w (-w) + s - 1) / (2 * s)

def beyondM (w s half : Int) : Prop := (0 < w ∧ half ≤ sizeQ w s) ∨ (w < 0 ∧ half < sizeQ w s) ∨ 32768 < sizeQ w s * s

instance (w s half : Int) : Decidable (beyondM w s half) := by unfold beyondM; infer_instance

theorem sizeQ_near {w s : Int} : (0 ≤ w → nearM w s = sizeQ w s) ∧ (w < 0 → nearM w s = -sizeQ w s) := by
 unfold nearM sizeQ
 refine ⟨fun h => ?_, fun h => ?_⟩
 ·rw [if_neg (by omega), show max w (-w) = w by omega]
 ·rw [if_pos h, show max w (-w) = -w by omega]

theorem sizeQ_range {w s : Int} (hs : 1 ≤ s) : 0 ≤ sizeQ w s ∧ sizeQ w s ≤ max w (-w) := by
 have h := near_small (w := w) hs
 rcases Int.lt_or_le w 0 with h1 | h1
 ·have := h.2 (by omega)
  rw [sizeQ_near.2 h1] at this
  omega
 ·have := h.1 h1
  rw [sizeQ_near.1 h1] at this
  omega

theorem beyond_of {w s half : Int} (hs : 1 ≤ s) (hh : 1 ≤ half) (h : ¬ okQ half s w) : beyondM w s half := by
 have hr := sizeQ_range (w := w) hs
 have hm : 0 ≤ sizeQ w s * s := Int.mul_nonneg hr.1 (by omega)
 unfold beyondM
 unfold okQ at h
 rcases Int.lt_or_le w 0 with h1 | h1
 ·rw [sizeQ_near.2 h1, Int.neg_mul] at h
  omega
 ·rw [sizeQ_near.1 h1] at h
  rcases Int.lt_or_le 0 w with h2 | h2
  ·omega
  ·have hw : w = 0 := by omega
   subst hw
   have : sizeQ 0 s = 0 := by have := hr.2; omega
   rw [this] at h
   omega

def scOf (Z : List Int) (s : Syn) : Int := Z[s.to.toNat]?.getD 1

def showsQ (Z : List Int) (half : Int) (s : Syn) : Bool := decide (1 < scOf Z s) && decide (beyondM s.wt (scOf Z s - 1) half)

def smallQ (Z : List Int) (half : Int) (l : List Syn) (i : Nat) : Bool := l.any fun s => decide (s.to = (i : Int)) && showsQ Z half s

theorem errQ_mem (Z : List Int) (l : List Syn) (i : Nat) : errQ Z l i = 0 ∨ ∃ s ∈ l, s.to = (i : Int) ∧ errQ Z l i = offS Z s := by
 unfold errQ
 rcases foldl_max_mem ((l.filter fun s => decide (s.to = (i : Int))).map (offS Z)) 0 with h | h
 ·exact .inl h
 ·obtain ⟨s, hs, he⟩ := List.mem_map.1 h
  rw [List.mem_filter] at hs
  exact .inr ⟨s, hs.1, of_decide_eq_true hs.2, he.symm⟩

structure QFacts (N : Net) (Z : List Int) (half : Int) : Prop where
 len : Z.length = N.ps.length
 at_ : ∀ (i : Nat) (z : Int), Z[i]? = some z → 1 ≤ z ∧ z ≤ 65537
 syn : ∀ s ∈ N.syns, -half ≤ quotS Z s ∧ quotS Z s < half ∧ 2 * offS Z s ≤ scOf Z s ∧ -32768 ≤ quotS Z s * scOf Z s ∧ quotS Z s * scOf Z s ≤ 32768
 small : ∀ (i : Nat) (z : Int), Z[i]? = some z → 1 < z → smallQ Z half N.syns i = true
 one : ∀ (i : Nat), Z[i]? = some 1 → errQ Z N.syns i = 0

theorem scales_get {N : Net} {half : Int} {i : Nat} {z : Int} (h : (scalesM N half)[i]? = some z) : i < N.ps.length ∧ z = (scaleM N.syns half i : Int) := by
 unfold scalesM at h
 rw [List.getElem?_map] at h
 by_cases hi : i < N.ps.length
 ·rw [List.getElem?_range hi] at h
  simp only [Option.map_some, Option.some.injEq] at h
  exact ⟨hi, h.symm⟩
 ·rw [List.getElem?_eq_none (by simp; omega)] at h
  cases h

theorem qfacts {N : Net} (hw : WtsOk N.syns) (hto : ∀ s ∈ N.syns, 0 ≤ s.to ∧ s.to < N.ps.length) {half : Int} (hh : 2 ≤ half) : QFacts N (scalesM N half) half := by
 have hsc : ∀ s ∈ N.syns, scOf (scalesM N half) s = (scaleM N.syns half s.to.toNat : Int) := fun s hs => by
  have h := hto s hs
  unfold scOf scalesM
  rw [List.getElem?_map, List.getElem?_range (by omega)]
  rfl
 refine ⟨by unfold scalesM; simp, fun i z hz => ?_, fun s hs => ?_, fun i z hz h1 => ?_, fun i hz => ?_⟩
 ·obtain ⟨_, rfl⟩ := scales_get hz
  have := scale_spec hw hh i
  omega
 ·have h := hto s hs
  obtain ⟨h1, h2, h3, h4⟩ := scale_spec hw hh s.to.toNat
  have e : ((s.to.toNat : Nat) : Int) = s.to := by omega
  have hq := h1 s.wt (mem_wtsTo.2 ⟨s, hs, e.symm, rfl⟩)
  have ho := near_off (w := s.wt) (s := (scaleM N.syns half s.to.toNat : Int)) (by omega)
  have he := hsc s hs
  have hqe : quotS (scalesM N half) s = nearM s.wt (scOf (scalesM N half) s) := rfl
  have hoe : offS (scalesM N half) s = max (s.wt - quotS (scalesM N half) s * scOf (scalesM N half) s) (-(s.wt - quotS (scalesM N half) s * scOf (scalesM N half) s)) := rfl
  rw [hoe, hqe, he]
  unfold okQ at hq
  refine ⟨hq.1.1, by omega, by omega, hq.2.1, hq.2.2⟩
 ·obtain ⟨hi, rfl⟩ := scales_get hz
  obtain ⟨_, h2, h3, h4⟩ := scale_spec hw hh i
  obtain ⟨k, hk⟩ : ∃ k, scaleM N.syns half i = k + 1 := ⟨scaleM N.syns half i - 1, by omega⟩
  have hn := h4 k (by omega) (by omega)
  unfold okS at hn
  obtain ⟨w, hn⟩ := Classical.not_forall.1 hn
  obtain ⟨hwm, hn⟩ := Classical.not_imp.1 hn
  obtain ⟨s, hs, hst, rfl⟩ := mem_wtsTo.1 hwm
  have e : s.to.toNat = i := by omega
  have he := hsc s hs
  rw [e] at he
  unfold smallQ
  rw [List.any_eq_true]
  refine ⟨s, hs, ?_⟩
  unfold showsQ
  rw [he, hk]
  have hb := beyond_of (by omega) (by omega) hn
  have e2 : (((k + 1 : Nat) : Int) - 1) = (k : Int) := by omega
  rw [e2]
  simp only [Bool.and_eq_true, decide_eq_true_eq]
  exact ⟨hst, by omega, hb⟩
 ·obtain ⟨hi, h1⟩ := scales_get hz
  rcases errQ_mem (scalesM N half) N.syns i with h | ⟨s, hs, hst, h⟩
  ·exact h
  ·rw [h]
   have e : s.to.toNat = i := by omega
   have he := hsc s hs
   rw [e, ← h1] at he
   have hqe : quotS (scalesM N half) s = nearM s.wt (scOf (scalesM N half) s) := rfl
   have hoe : offS (scalesM N half) s = max (s.wt - quotS (scalesM N half) s * scOf (scalesM N half) s) (-(s.wt - quotS (scalesM N half) s * scOf (scalesM N half) s)) := rfl
   rw [hoe, hqe, he, near_one]
   omega

end Go.Gm
end

section

namespace Go.Gm

theorem useN_take {cores : List Int} {i : Nat} {k : Int} (h : cores[i]? = some k) (j : Int) : useN (cores.take (i + 1)) j = useN (cores.take i) j + if k = j then 1 else 0 := by
 rw [List.take_add_one, h, Option.toList_some, useN_snoc]

theorem useN_le (cores : List Int) (k : Int) : ∀ {i j : Nat}, i ≤ j → useN (cores.take i) k ≤ useN (cores.take j) k := by
 intro i j hij
 have e : cores.take i = (cores.take j).take i := by rw [List.take_take, Nat.min_eq_left hij]
 rw [e]
 exact (List.take_sublist i _).countP_le

theorem slot_get {cores : List Int} {i : Nat} {k : Int} (h : cores[i]? = some k) : (slotsM cores)[i]? = some (useN (cores.take i) k : Int) := by
 have hlt := (List.getElem?_eq_some_iff.1 h).1
 unfold slotsM
 rw [List.getElem?_map, List.getElem?_range hlt, Option.map_some]
 unfold slotAt
 rw [h]; rfl

theorem slot_lt {cores : List Int} {i : Nat} {k : Int} (h : cores[i]? = some k) {j : Nat} (hij : i < j) : useN (cores.take i) k < useN (cores.take j) k := by
 have h1 := useN_take h k
 rw [if_pos rfl] at h1
 have := useN_le cores k (i := i + 1) (j := j) (by omega)
 omega

theorem slot_all {cores : List Int} {i : Nat} {k : Int} (h : cores[i]? = some k) : useN (cores.take i) k < useN cores k := by
 have hlt := (List.getElem?_eq_some_iff.1 h).1
 have := slot_lt h (j := cores.length) hlt
 rw [List.take_length] at this
 exact this

def plcAt (cores : List Int) (i : Nat) : Int × Int := (cores[i]?.getD 0, slotAt cores i)

theorem plc_get {cores : List Int} {i : Nat} {k : Int} (h : cores[i]? = some k) : plcAt cores i = (k, (useN (cores.take i) k : Int)) := by
 unfold plcAt slotAt
 rw [h]; rfl

theorem plc_ne {cores : List Int} {i j : Nat} (hij : i < j) (hj : j < cores.length) : plcAt cores i ≠ plcAt cores j := by
 obtain ⟨a, ha⟩ : ∃ a, cores[i]? = some a := ⟨_, List.getElem?_eq_getElem (by omega)⟩
 obtain ⟨b, hb⟩ : ∃ b, cores[j]? = some b := ⟨_, List.getElem?_eq_getElem hj⟩
 rw [plc_get ha, plc_get hb]
 intro h
 simp only [Prod.mk.injEq] at h
 obtain ⟨h1, h2⟩ := h
 subst h1
 have := slot_lt ha hij
 omega

def whoF (cores : List Int) (i : Nat) (q : Int × Int) : Option Nat := (List.range i).find? fun j => decide (plcAt cores j = q)

theorem whoF_none {cores : List Int} {i : Nat} (hi : i < cores.length) : whoF cores i (plcAt cores i) = none := by
 unfold whoF
 rw [List.find?_eq_none]
 intro j hj
 have := plc_ne (cores := cores) (i := j) (j := i) (List.mem_range.1 hj) hi
 simpa using this

theorem whoF_next {cores : List Int} {i : Nat} (hi : i < cores.length) (q : Int × Int) : whoF cores (i + 1) q = if q = plcAt cores i then some i else whoF cores i q := by
 by_cases h : q = plcAt cores i
 ·subst h
  rw [if_pos rfl]
  have h0 := whoF_none hi
  unfold whoF at *
  rw [List.range_succ, List.find?_append, h0]
  simp
 ·rw [if_neg h]
  unfold whoF
  rw [List.range_succ, List.find?_append]
  have : [i].find? (fun j => decide (plcAt cores j = q)) = none := by
   rw [List.find?_eq_none]
   intro j hj
   rw [List.mem_singleton] at hj
   subst hj
   simpa using fun e => h e.symm
  rw [this, Option.or_none]

theorem whoF_at {cores : List Int} {t : Nat} : ∀ {i : Nat}, i ≤ cores.length → t < i → whoF cores i (plcAt cores t) = some t
 | 0, _, h => absurd h (Nat.not_lt_zero _)
 | i + 1, hi, h => by
  rw [whoF_next (by omega)]
  by_cases e : t = i
  ·subst e; rw [if_pos rfl]
  ·rw [if_neg (plc_ne (by omega) (by omega)), whoF_at (by omega) (by omega)]

theorem rowsM_append (N : Net) (cores : List Int) (a b : List (Syn × Int)) (k : Int) : rowsM N cores (a ++ b) k = rowsM N cores a k ++ rowsM N cores b k := by
 unfold rowsM
 rw [List.filter_append, List.map_append]

theorem rowsM_at {N : Net} {cores : List Int} {l : List (Syn × Int)} {i : Nat} {x : Syn × Int} {k : Int} (hx : l[i]? = some x) (hk : cores[x.1.to.toNat]? = some k) : (rowsM N cores l k)[(rowsM N cores (l.take i) k).length]? = some (rowOf N cores x.1 x.2) := by
 obtain ⟨hlt, h2⟩ := List.getElem?_eq_some_iff.1 hx
 have e : l = l.take i ++ ([x] ++ l.drop (i + 1)) := by rw [← h2, List.singleton_append, ← List.drop_eq_getElem_cons hlt, List.take_append_drop]
 have e2 : rowsM N cores l k = rowsM N cores (l.take i) k ++ (rowsM N cores [x] k ++ rowsM N cores (l.drop (i + 1)) k) := by
  conv => lhs; rw [e]
  rw [rowsM_append, rowsM_append]
 have e3 : rowsM N cores [x] k = [rowOf N cores x.1 x.2] := by
  unfold rowsM
  simp [hk]
 rw [e2, List.getElem?_append_right (Nat.le_refl _), Nat.sub_self, e3]; rfl

theorem rowsM_len (N : Net) (cores : List Int) {l : List Syn} (q : List Int) (hq : q.length = l.length) (hl : ∀ s ∈ l, 0 ≤ s.to) (k : Int) : (rowsM N cores (l.zip q) k).length = useR l cores k := by
 unfold rowsM useR
 rw [List.length_map, ← List.countP_eq_length_filter]
 have e : l = (l.zip q).map Prod.fst := by rw [List.map_fst_zip (by omega)]
 conv => rhs; rw [e]
 rw [List.countP_map]
 refine List.countP_congr fun x hx => ?_
 have hm : x.1 ∈ l := (List.of_mem_zip hx).1
 have := hl _ hm
 simp [this]

def nxtM (N : Net) (cores : List Int) (l : List (Syn × Int)) (n : Nat) : List Int := (List.range n).map fun (k : Nat) => ((rowsM N cores l (k : Int)).length : Int)

theorem nxtM_next {N : Net} {cores : List Int} {l : List (Syn × Int)} {x : Syn × Int} {n k : Nat} (hk : k < n) (h : cores[x.1.to.toNat]? = some (k : Int)) : nxtM N cores (l ++ [x]) n = (nxtM N cores l n).set k (((rowsM N cores l (k : Int)).length : Int) + 1) := by
 unfold nxtM
 have hr := range_set (f := fun (k : Nat) => ((rowsM N cores l (k : Int)).length : Int)) (g := fun (k : Nat) => ((rowsM N cores (l ++ [x]) (k : Int)).length : Int)) hk fun j hj => by
  rw [rowsM_snoc, h, if_neg (by simp; omega), List.append_nil]
 rw [hr]
 congr 1
 rw [rowsM_snoc, h, if_pos rfl, List.length_append]
 simp

def usesM (cores : List Int) (n : Nat) : List Int := (List.range n).map fun (k : Nat) => (useN cores (k : Int) : Int)

theorem usesM_next {cores : List Int} {i n k : Nat} (hk : k < n) (h : cores[i]? = some (k : Int)) : usesM (cores.take (i + 1)) n = (usesM (cores.take i) n).set k ((useN (cores.take i) (k : Int) : Int) + 1) := by
 unfold usesM
 have hr := range_set (f := fun (k : Nat) => (useN (cores.take i) (k : Int) : Int)) (g := fun (k : Nat) => (useN (cores.take (i + 1)) (k : Int) : Int)) hk fun j hj => by
  rw [useN_take h, if_neg (by omega)]; rfl
 rw [hr]
 congr 1
 rw [useN_take h, if_pos rfl]
 simp

end Go.Gm
end

section
section

set_option linter.unusedVariables false

namespace Go.Proofs

open Go Go.Vx Go.Gm

end Go.Proofs

end

section


namespace Go.Proofs

open Go Go.Vx Go.Gm

end Go.Proofs

end
end

section

namespace Go.Gm

end Go.Gm

namespace Go.Proofs

open Go Go.Vx Go.Gm

end Go.Proofs
end

section

namespace Go.Gm

end Go.Gm

namespace Go.Proofs

open Go Go.Vx Go.Gm

end Go.Proofs
end

section

namespace Go.Proofs

open Go Go.Vx Go.Gm

end Go.Proofs
end
