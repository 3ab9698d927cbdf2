import Derived.Test.YtjjcoiicikaaiaaGreatPlaceCostsPg
import Derived.Test.YtjjcoiicikaaiaaGreatPlaceCostsQw
import Derived.Test.YtjjcoiicikaaiaaGreatPlaceCostsMw
set_option linter.unusedVariables false

set_option linter.unusedSimpArgs false

namespace Go.Gm

def keysK (N : Net) (k : Nat) : List Int := ((List.range k).map fun (j : Nat) => (j : Int)).filter fun key => decide (∃ s ∈ N.syns, keyM N s.frm = key)

theorem keysK_all (N : Net) : keysK N (nSrc N) = keysM N := rfl

theorem keysK_next (N : Net) (k : Nat) : keysK N (k + 1) = keysK N k ++ if tgtM N N.syns (k : Int) ≠ [] then [(k : Int)] else [] := by
  unfold keysK
  rw [List.range_succ, List.map_append, List.filter_append]
  congr 1
  simp only [List.map_cons, List.map_nil]
  by_cases h : tgtM N N.syns (k : Int) ≠ []
  · rw [if_pos h, List.filter_cons, if_pos (decide_eq_true (tgt_some.2 h))]; rfl
  · rw [if_neg h, List.filter_cons, if_neg (fun h2 => h (tgt_some.1 (of_decide_eq_true h2)))]; rfl

theorem keysK_mem {N : Net} {k : Nat} {x : Int} (h : x ∈ keysK N k) : 0 ≤ x ∧ x < k := by
  unfold keysK at h
  rw [List.mem_filter, List.mem_map] at h
  obtain ⟨⟨j, hj, rfl⟩, _⟩ := h
  rw [List.mem_range] at hj
  omega

theorem keysK_asc (N : Net) (k : Nat) : (keysK N k).Pairwise fun a b => a < b := by
  unfold keysK
  refine List.Pairwise.filter _ ?_
  rw [List.pairwise_map]
  exact List.pairwise_lt_range.imp fun h => by omega

theorem keysK_len (N : Net) (k : Nat) : (keysK N k).length ≤ k := by
  unfold keysK
  refine Nat.le_trans (List.length_filter_le _ _) ?_
  simp

def tabF (T : Int → List Int) (keys : List Int) (en : Int) (r : Nat) : List Ety :=
  if ((tableM T keys r).length : Int) ≤ en then tableM T keys r else mergeM (tableM T keys r) ((tableM T keys r).map (·.key))

structure MapM where
  cores : List Int
  slots : List Int
  quant : QR
  rows : List (List RowE)
  tables : List (List Ety)
  waves : List Int
  cost : Int
  load : Int
  steps : Int

def mapNone : MapM := ⟨[], [], qNone, [], [], [], 0, 0, 0⟩

def synQs (N : Net) (q : List Int) : List (Syn × Int) := N.syns.zip q

def tablesF (N : Net) (C : Chp) (cores : List Int) : List (List Ety) := (List.range (nCores C)).map (tabF (srcTree N C cores) (keysM N) C.en)

def mapErr (N : Net) (C : Chp) (cores : List Int) : Int := if asgE N C cores ≠ 0 then asgE N C cores else if ∃ t ∈ tablesF N C cores, ¬ (t.length : Int) ≤ C.en then 15 else 0

def wavesF (N : Net) (C : Chp) (cores : List Int) : List (List Int) := wavesM (srcTree N C cores) C.mesh.room (keysM N)

def mapRes (N : Net) (C : Chp) (cores : List Int) : MapM := if mapErr N C cores ≠ 0 then mapNone else
  ⟨cores, slotsM cores, quantRes N C.bits, (List.range (nCores C)).map fun (k : Nat) => rowsM N cores (synQs N (quantRes N C.bits).quots) (k : Int), tablesF N C cores,
    (List.range (nSrc N)).map fun (k : Nat) => waveOf (wavesF N C cores) (k : Int), (costM N C cores : Int), (mostM ((keysM N).map (srcTree N C cores)) : Int), (stepsM C.mesh.wide (srcTree N C cores) (homeM N cores) (coresM N C cores) (wavesF N C cores) : Int)⟩

end Go.Gm
