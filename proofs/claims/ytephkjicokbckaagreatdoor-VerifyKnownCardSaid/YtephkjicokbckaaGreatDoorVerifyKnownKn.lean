import Derived.Test.YtephkjicokbckaaGreatDoorVerifyKnownSe
import Derived.Test.YtephkjicokbckaaGreatDoorVerifyKnownSu
import Derived.Test.YtephkjicokbckaaGreatDoorVerifyKnownWg
import Derived.Test.YtephkjicokbckaaGreatDoorVerifyKnownImg
import Derived.Test.YtephkjicokbckaaGreatDoorVerifyKnownSd
import Derived.Test.YtephkjicokbckaaGreatDoorVerifyKnownLw
section
set_option linter.unusedVariables false

set_option linter.unusedSimpArgs false

namespace Go.Proofs

open Go Go.Vx Go.Gm

end Go.Proofs
end

section
set_option linter.unusedVariables false

set_option linter.unusedSimpArgs false

namespace Go.Proofs

open Go Go.Vx Go.Gm

theorem voutTo_range {N : Net} (hN : NetOk N) (l : List Evt) : ∀ (t : Nat), ∀ e ∈ outTo N l t, (0 ≤ e.tick ∧ e.tick < t) ∧ (0 ≤ e.id ∧ e.id < N.ps.length)
  | 0, e, he => by simp [outTo] at he
  | t + 1, e, he => by
    simp only [outTo] at he
    rcases List.mem_append.1 he with he | he
    · have := voutTo_range hN l t e he
      omega
    · obtain ⟨i, hi, rfl⟩ := List.mem_map.1 he
      unfold spkAt ringSpk spk at hi
      obtain ⟨j, hj, s, hs⟩ := (spkFrom_mem _ 0 i).1 hi
      have hl := SmOk.fire (stAt_ok hN l t) t
      have := (List.getElem?_eq_some_iff.1 hs).1
      dsimp only
      omega

theorem vevt_wf_of {t n : Int} (ht : t ≤ 2147483648) (hn : n ≤ 65536) {l : List Evt} (h : ∀ e ∈ l, (0 ≤ e.tick ∧ e.tick < t) ∧ (0 ≤ e.id ∧ e.id < n)) : ∀ e ∈ l, e.wf := by
  intro e he
  have := h e he
  unfold Evt.wf I64
  omega

theorem vrun_ok (N : Net) (l : List Evt) (ticks : Int) : (∀ e ∈ (runRes N l ticks).1, e.wf) ∧ (runRes N l ticks).1.length ≤ 65536 := by
  by_cases h : prepErr N l ticks 10000 = 0
  · obtain ⟨h1, h2, h3⟩ := prep_zero.1 h
    have hf := h1.few
    rw [runRes_eq h]
    split
    · simp
    · exact ⟨vevt_wf_of (t := ticks.toNat) (n := N.ps.length) (by omega) (by omega) (voutTo_range h1 l ticks.toNat), by dsimp only; omega⟩
  · unfold runRes
    rw [if_pos h]
    simp

end Go.Proofs
end

section
set_option linter.unusedVariables false

set_option linter.unusedSimpArgs false

namespace Go.Proofs

open Go Go.Vx Go.Gm

def momK : List Mom := [⟨[1], []⟩, ⟨[0], []⟩]

def surK (m : Int) : Sur := ⟨[0], [], m⟩

def evK : List Evt := [⟨0, 0⟩, ⟨4, 0⟩]

def ev1 : List Evt := [⟨1, 0⟩]

def ev02 : List Evt := [⟨0, 0⟩, ⟨2, 0⟩]

def ev01 : List Evt := [⟨0, 0⟩, ⟨1, 0⟩]

def clmA1 : Clm := ⟨2, [1], 0, 7, 2, 2⟩

def clmA2 : Clm := ⟨2, [1], 0, 7, 3, 9⟩

def clmB1 : Clm := ⟨2, [1], 0, 10, 1, 1⟩

def clmB2 : Clm := ⟨2, [0], 0, 12, 2, 2⟩

theorem rch_K1 : (rchRes netE (surK 1) momK 10).2.2 = (false, 0) := by kernel_rfl

theorem rch_K2 : rchRes netE (surK 2) momK 10 = (evK, 5, true, 0) := by kernel_rfl

theorem bnd_K : bndRes netE ev0 ev2 7 = ([[0, 0], [2, 0], [0, 0], [1, 0], [0, 2], [0, 0], [0, 1]], 0) := by kernel_rfl

theorem cert_K1 : certRes netE ev0 ev2 7 clmA1 = (0, 0) := by kernel_rfl

theorem cert_K2 : certRes netE ev0 ev2 7 clmA2 = (-1, 0) := by kernel_rfl

theorem runs_K : runsRes ev1 2 1 = (5, 0) := by kernel_rfl

theorem ev1_wf : ∀ e ∈ ev1, e.wf := evtWfV [(1, 0)] (by simp)

theorem evK_wf : ∀ e ∈ evK, e.wf := evtWfV [(0, 0), (4, 0)] (by simp)

theorem ev02_wf : ∀ e ∈ ev02, e.wf := evtWfV [(0, 0), (2, 0)] (by simp)

theorem ev01_wf : ∀ e ∈ ev01, e.wf := evtWfV [(0, 0), (1, 0)] (by simp)

theorem robB_ok {N : Net} {c : Clm} {ticks : Int} {C O : List Evt} (h1 : runRes N (sortU C) ticks = (O, 0)) (h2 : HoldsP c O) : robB N c ticks C = none :=
  robB_none rfl rfl rfl fun h => by rw [h1] at h; exact h.elim (fun h => h rfl) fun h => h h2

theorem robB_bad {N : Net} {c : Clm} {ticks : Int} {C O S : List Evt} (hS : sortU C = S) (h1 : runRes N S ticks = (O, 0)) (h2 : ¬ HoldsP c O) : robB N c ticks C = some (S, 0) := by
  have := robB_some (c := c) (N := N) (ticks := ticks) (C := C) (S := S) (O := O) (er := 0) hS (by rw [h1]) (by rw [h1]) (.inr h2)
  exact this

theorem holds_two {c : Clm} {l : List Evt} (hk : c.kind = 2) : HoldsP c l ↔ c.lo ≤ ((aboutL c l).length : Int) ∧ ((aboutL c l).length : Int) ≤ c.hi := by
  unfold HoldsP
  rw [if_neg (by omega)]
  exact Iff.rfl

theorem run_1 : runRes netE (sortU [⟨0, 0⟩]) 10 = ([⟨1, 0⟩, ⟨4, 1⟩], 0) := by kernel_rfl

theorem run_2 : runRes netE (sortU [⟨1, 0⟩]) 10 = ([⟨2, 0⟩, ⟨5, 1⟩], 0) := by kernel_rfl

theorem run_3 : runRes netE (sortU [⟨2, 0⟩]) 10 = ([⟨3, 0⟩, ⟨6, 1⟩], 0) := by kernel_rfl

theorem run_4 : runRes netE [] 10 = ([], 0) := by kernel_rfl

theorem dfs_1 : dfs 2 [0] 0 = [[0], [1], [2]] := by kernel_rfl

theorem dfs_2 : dfs 2 [0] 1 = [[0], [1], [2], [-1]] := by kernel_rfl

theorem dfs_3 : dfs 1 [0, 2] 0 = [[0, 2], [0, 1], [0, 3], [1, 2], [1, 1], [1, 3]] := by kernel_rfl

theorem rerr_1 : robErr netE ev0 2 0 10 clmB1 = 0 := by kernel_rfl

theorem rerr_2 : robErr netE ev0 2 1 10 clmB1 = 0 := by kernel_rfl

theorem rerr_3 : robErr netE ev02 1 0 12 clmB2 = 0 := by kernel_rfl

theorem hold_1 : HoldsP clmB1 [⟨1, 0⟩, ⟨4, 1⟩] := (holds_two rfl).2 (by decide)

theorem hold_2 : HoldsP clmB1 [⟨2, 0⟩, ⟨5, 1⟩] := (holds_two rfl).2 (by decide)

theorem hold_3 : HoldsP clmB1 [⟨3, 0⟩, ⟨6, 1⟩] := (holds_two rfl).2 (by decide)

theorem hold_4 : ¬ HoldsP clmB1 [] := fun h => absurd ((holds_two rfl).1 h) (by decide)

theorem rob_K1 : robRes netE ev0 2 0 10 clmB1 = (true, [], 0) := by
  have h : firstB (robB netE clmB1 10) 2 [] ev0 0 = none := by
    unfold firstB
    rw [show ev0.map (·.tick) = [0] from rfl, dfs_1, List.findSome?_cons, robB_ok (C := [] ++ kept ev0 [0]) run_1 hold_1, List.findSome?_cons, robB_ok (C := [] ++ kept ev0 [1]) run_2 hold_2, List.findSome?_cons, robB_ok (C := [] ++ kept ev0 [2]) run_3 hold_3]
    rfl
  unfold robRes
  rw [rerr_1, if_neg (by simp), show (2 : Int).toNat = 2 from rfl, show (0 : Int).toNat = 0 from rfl, h]

theorem rob_K2 : robRes netE ev0 2 1 10 clmB1 = (false, [], 0) := by
  have h : firstB (robB netE clmB1 10) 2 [] ev0 1 = some ([], 0) := by
    unfold firstB
    rw [show ev0.map (·.tick) = [0] from rfl, dfs_2, List.findSome?_cons, robB_ok (C := [] ++ kept ev0 [0]) run_1 hold_1, List.findSome?_cons, robB_ok (C := [] ++ kept ev0 [1]) run_2 hold_2, List.findSome?_cons, robB_ok (C := [] ++ kept ev0 [2]) run_3 hold_3, List.findSome?_cons, robB_bad (C := [] ++ kept ev0 [-1]) (S := []) rfl run_4 hold_4]
  unfold robRes
  rw [rerr_2, if_neg (by simp), show (2 : Int).toNat = 2 from rfl, show (1 : Int).toNat = 1 from rfl, h]
  rfl

theorem run_5 : runRes netE (sortU [⟨0, 0⟩, ⟨2, 0⟩]) 12 = ([⟨1, 0⟩, ⟨3, 0⟩, ⟨4, 1⟩, ⟨6, 1⟩], 0) := by kernel_rfl

theorem run_6 : runRes netE ev01 12 = ([⟨1, 0⟩, ⟨4, 1⟩], 0) := by kernel_rfl

theorem hold_5 : HoldsP clmB2 [⟨1, 0⟩, ⟨3, 0⟩, ⟨4, 1⟩, ⟨6, 1⟩] := (holds_two rfl).2 (by decide)

theorem hold_6 : ¬ HoldsP clmB2 [⟨1, 0⟩, ⟨4, 1⟩] := fun h => absurd ((holds_two rfl).1 h) (by decide)

theorem rob_K3 : robRes netE ev02 1 0 12 clmB2 = (false, ev01, 0) := by
  have h : firstB (robB netE clmB2 12) 1 [] ev02 0 = some (ev01, 0) := by
    unfold firstB
    rw [show ev02.map (·.tick) = [0, 2] from rfl, dfs_3, List.findSome?_cons, robB_ok (C := [] ++ kept ev02 [0, 2]) run_5 hold_5, List.findSome?_cons, robB_bad (C := [] ++ kept ev02 [0, 1]) (S := ev01) rfl run_6 hold_6]
  unfold robRes
  rw [rerr_3, if_neg (by simp), show (1 : Int).toNat = 1 from rfl, show (0 : Int).toNat = 0 from rfl, h]
  rfl

end Go.Proofs
end
