import Derived.Test.YtjjcoiicikaaiaaGreatPlaceWaysPg
import Derived.Test.YtjjcoiicikaaiaaGreatPlaceWaysQw
import Derived.Test.YtjjcoiicikaaiaaGreatPlaceWaysMg
set_option linter.unusedVariables false
set_option linter.unusedSimpArgs false
set_option maxHeartbeats 4000000
section

namespace Go.Gm

def keysK (N : Net) (k : Nat) : List Int := ((List.range k).map fun (j : Nat) => (j : Int)).filter fun key => decide (∃ s ∈ N.syns, keyM N s.frm = key)

theorem keysK_all (N : Net) : keysK N (nSrc N) = keysM N := rfl

theorem keysK_next (N : Net) (k : Nat) : keysK N (k + 1) = keysK N k ++ if tgtM N N.syns (k : Int) ≠ [] then [(k : Int)] else [] := by
 unfold keysK
 rw [List.range_succ, List.map_append, List.filter_append]
 congr 1
 simp only [List.map_cons, List.map_nil]
 by_cases h : tgtM N N.syns (k : Int) ≠ []
 ·rw [if_pos h, List.filter_cons, if_pos (decide_eq_true (tgt_some.2 h))]; rfl
 ·rw [if_neg h, List.filter_cons, if_neg (fun h2 => h (tgt_some.1 (of_decide_eq_true h2)))]; rfl

theorem keysK_mem {N : Net} {k : Nat} {x : Int} (h : x ∈ keysK N k) : 0 ≤ x ∧ x < k := by
 unfold keysK at h
 rw [List.mem_filter, List.mem_map] at h
 obtain ⟨⟨j, hj, rfl⟩, _⟩ := h
 rw [List.mem_range] at hj
 omega

theorem keysK_asc (N : Net) (k : Nat) : (keysK N k).Pairwise fun a b => a < b := by
 unfold keysK
 refine List.Pairwise.filter _ ?_
 rw [List.pairwise_map]
 exact List.pairwise_lt_range.imp fun h => by omega

theorem keysK_len (N : Net) (k : Nat) : (keysK N k).length ≤ k := by
 unfold keysK
 refine Nat.le_trans (List.length_filter_le _ _) ?_
 simp

def tabF (T : Int → List Int) (keys : List Int) (en : Int) (r : Nat) : List Ety :=
 if ((tableM T keys r).length : Int) ≤ en then tableM T keys r else mergeM (tableM T keys r) ((tableM T keys r).map (·.key))

structure MapM where
 cores : List Int
 slots : List Int
 quant : QR
 rows : List (List RowE)
 tables : List (List Ety)
 waves : List Int
 cost : Int
 load : Int
 steps : Int

def mapNone : MapM := ⟨[], [], qNone, [], [], [], 0, 0, 0⟩

def synQs (N : Net) (q : List Int) : List (Syn × Int) := N.syns.zip q

def tablesF (N : Net) (C : Chp) (cores : List Int) : List (List Ety) := (List.range (nCores C)).map (tabF (srcTree N C cores) (keysM N) C.en)

def mapErr (N : Net) (C : Chp) (cores : List Int) : Int := if asgE N C cores ≠ 0 then asgE N C cores else if ∃ t ∈ tablesF N C cores, ¬ (t.length : Int) ≤ C.en then 15 else 0

def wavesF (N : Net) (C : Chp) (cores : List Int) : List (List Int) := wavesM (srcTree N C cores) C.mesh.room (keysM N)

def mapRes (N : Net) (C : Chp) (cores : List Int) : MapM := if mapErr N C cores ≠ 0 then mapNone else
 ⟨cores, slotsM cores, quantRes N C.bits, (List.range (nCores C)).map fun (k : Nat) => rowsM N cores (synQs N (quantRes N C.bits).quots) (k : Int), tablesF N C cores,
  (List.range (nSrc N)).map fun (k : Nat) => waveOf (wavesF N C cores) (k : Int), (costM N C cores : Int), (mostM ((keysM N).map (srcTree N C cores)) : Int), (stepsM C.mesh.wide (srcTree N C cores) (homeM N cores) (coresM N C cores) (wavesF N C cores) : Int)⟩

end Go.Gm
end

section

namespace Go.Gm

def sizeQ (w s : Int) : Int := (2 * max w (-w) + s - 1) / (2 * s)

def beyondM (w s half : Int) : Prop := (0 < w ∧ half ≤ sizeQ w s) ∨ (w < 0 ∧ half < sizeQ w s) ∨ 32768 < sizeQ w s * s

instance (w s half : Int) : Decidable (beyondM w s half) := by unfold beyondM; infer_instance

theorem sizeQ_near {w s : Int} : (0 ≤ w → nearM w s = sizeQ w s) ∧ (w < 0 → nearM w s = -sizeQ w s) := by
 unfold nearM sizeQ
 refine ⟨fun h => ?_, fun h => ?_⟩
 ·rw [if_neg (by omega), show max w (-w) = w by omega]
 ·rw [if_pos h, show max w (-w) = -w by omega]

theorem sizeQ_range {w s : Int} (hs : 1 ≤ s) : 0 ≤ sizeQ w s ∧ sizeQ w s ≤ max w (-w) := by
 have h := near_small (w := w) hs
 rcases Int.lt_or_le w 0 with h1 | h1
 ·have := h.2 (by omega)
  rw [sizeQ_near.2 h1] at this
  omega
 ·have := h.1 h1
  rw [sizeQ_near.1 h1] at this
  omega

theorem beyond_of {w s half : Int} (hs : 1 ≤ s) (hh : 1 ≤ half) (h : ¬ okQ half s w) : beyondM w s half := by
 have hr := sizeQ_range (w := w) hs
 have hm : 0 ≤ sizeQ w s * s := Int.mul_nonneg hr.1 (by omega)
 unfold beyondM
 unfold okQ at h
 rcases Int.lt_or_le w 0 with h1 | h1
 ·rw [sizeQ_near.2 h1, Int.neg_mul] at h
  omega
 ·rw [sizeQ_near.1 h1] at h
  rcases Int.lt_or_le 0 w with h2 | h2
  ·omega
  ·have hw : w = 0 := by omega
   subst hw
   have : sizeQ 0 s = 0 := by have := hr.2; omega
   rw [this] at h
   omega

def scOf (Z : List Int) (s : Syn) : Int := Z[s.to.toNat]?.getD 1

def showsQ (Z : List Int) (half : Int) (s : Syn) : Bool := decide (1 < scOf Z s) && decide (beyondM s.wt (scOf Z s - 1) half)

def smallQ (Z : List Int) (half : Int) (l : List Syn) (i : Nat) : Bool := l.any fun s => decide (s.to = (i : Int)) && showsQ Z half s

theorem errQ_mem (Z : List Int) (l : List Syn) (i : Nat) : errQ Z l i = 0 ∨ ∃ s ∈ l, s.to = (i : Int) ∧ errQ Z l i = offS Z s := by
 unfold errQ
 rcases foldl_max_mem ((l.filter fun s => decide (s.to = (i : Int))).map (offS Z)) 0 with h | h
 ·exact .inl h
 ·obtain ⟨s, hs, he⟩ := List.mem_map.1 h
  rw [List.mem_filter] at hs
  exact .inr ⟨s, hs.1, of_decide_eq_true hs.2, he.symm⟩

structure QFacts (N : Net) (Z : List Int) (half : Int) : Prop where
 len : Z.length = N.ps.length
 at_ : ∀ (i : Nat) (z : Int), Z[i]? = some z → 1 ≤ z ∧ z ≤ 65537
 syn : ∀ s ∈ N.syns, -half ≤ quotS Z s ∧ quotS Z s < half ∧ 2 * offS Z s ≤ scOf Z s ∧ -32768 ≤ quotS Z s * scOf Z s ∧ quotS Z s * scOf Z s ≤ 32768
 small : ∀ (i : Nat) (z : Int), Z[i]? = some z → 1 < z → smallQ Z half N.syns i = true
 one : ∀ (i : Nat), Z[i]? = some 1 → errQ Z N.syns i = 0

theorem scales_get {N : Net} {half : Int} {i : Nat} {z : Int} (h : (scalesM N half)[i]? = some z) : i < N.ps.length ∧ z = (scaleM N.syns half i : Int) := by
 unfold scalesM at h
 rw [List.getElem?_map] at h
 by_cases hi : i < N.ps.length
 ·rw [List.getElem?_range hi] at h
  simp only [Option.map_some, Option.some.injEq] at h
  exact ⟨hi, h.symm⟩
 ·rw [List.getElem?_eq_none (by simp; omega)] at h
  cases h

theorem qfacts {N : Net} (hw : WtsOk N.syns) (hto : ∀ s ∈ N.syns, 0 ≤ s.to ∧ s.to < N.ps.length) {half : Int} (hh : 2 ≤ half) : QFacts N (scalesM N half) half := by
 have hsc : ∀ s ∈ N.syns, scOf (scalesM N half) s = (scaleM N.syns half s.to.toNat : Int) := fun s hs => by
  have h := hto s hs
  unfold scOf scalesM
  rw [List.getElem?_map, List.getElem?_range (by omega)]
  rfl
 refine ⟨by unfold scalesM; simp, fun i z hz => ?_, fun s hs => ?_, fun i z hz h1 => ?_, fun i hz => ?_⟩
 ·obtain ⟨_, rfl⟩ := scales_get hz
  have := scale_spec hw hh i
  omega
 ·have h := hto s hs
  obtain ⟨h1, h2, h3, h4⟩ := scale_spec hw hh s.to.toNat
  have e : ((s.to.toNat : Nat) : Int) = s.to := by omega
  have hq := h1 s.wt (mem_wtsTo.2 ⟨s, hs, e.symm, rfl⟩)
  have ho := near_off (w := s.wt) (s := (scaleM N.syns half s.to.toNat : Int)) (by omega)
  have he := hsc s hs
  have hqe : quotS (scalesM N half) s = nearM s.wt (scOf (scalesM N half) s) := rfl
  have hoe : offS (scalesM N half) s = max (s.wt - quotS (scalesM N half) s * scOf (scalesM N half) s) (-(s.wt - quotS (scalesM N half) s * scOf (scalesM N half) s)) := rfl
  rw [hoe, hqe, he]
  unfold okQ at hq
  refine ⟨hq.1.1, by omega, by omega, hq.2.1, hq.2.2⟩
 ·obtain ⟨hi, rfl⟩ := scales_get hz
  obtain ⟨_, h2, h3, h4⟩ := scale_spec hw hh i
  obtain ⟨k, hk⟩ : ∃ k, scaleM N.syns half i = k + 1 := ⟨scaleM N.syns half i - 1, by omega⟩
  have hn := h4 k (by omega) (by omega)
  unfold okS at hn
  obtain ⟨w, hn⟩ := Classical.not_forall.1 hn
  obtain ⟨hwm, hn⟩ := Classical.not_imp.1 hn
  obtain ⟨s, hs, hst, rfl⟩ := mem_wtsTo.1 hwm
  have e : s.to.toNat = i := by omega
  have he := hsc s hs
  rw [e] at he
  unfold smallQ
  rw [List.any_eq_true]
  refine ⟨s, hs, ?_⟩
  unfold showsQ
  rw [he, hk]
  have hb := beyond_of (by omega) (by omega) hn
  have e2 : (((k + 1 : Nat) : Int) - 1) = (k : Int) := by omega
  rw [e2]
  simp only [Bool.and_eq_true, decide_eq_true_eq]
  exact ⟨hst, by omega, hb⟩
 ·obtain ⟨hi, h1⟩ := scales_get hz
  rcases errQ_mem (scalesM N half) N.syns i with h | ⟨s, hs, hst, h⟩
  ·exact h
  ·rw [h]
   have e : s.to.toNat = i := by omega
   have he := hsc s hs
   rw [e, ← h1] at he
   have hqe : quotS (scalesM N half) s = nearM s.wt (scOf (scalesM N half) s) := rfl
   have hoe : offS (scalesM N half) s = max (s.wt - quotS (scalesM N half) s * scOf (scalesM N half) s) (-(s.wt - quotS (scalesM N half) s * scOf (scalesM N half) s)) := rfl
   rw [hoe, hqe, he, near_one]
   omega

end Go.Gm
end

section

namespace Go.Gm

end Go.Gm
end
