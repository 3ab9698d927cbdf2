/- SortC: sorting a slice of integers of our own. -/
import Derived.Test.YtbnipfgbfnhibaaSort
import Derived.Test.YtbnipfgbfnhibaaNet2
import Derived.Test.YtbnipfgbfnhibaaKit
set_option linter.unusedVariables false
set_option linter.unusedSimpArgs false
namespace Go.Proofs
open Go Go.Vx Go.Gm

def sorted (xs : List Int) : List Int := xs.mergeSort fun x y => decide (x ≤ y)

theorem flat_intV (xs : List Int) : flat intV xs = xs.map (Value.int .i64) := by
  induction xs with
  | nil => rfl
  | cons x r ih => simp only [flat, List.flatMap_cons, intV, List.map_cons] at ih ⊢; rw [ih]; rfl

theorem sort_call {w0 : World} {M : List Nat} {H r : HP} {u : Ent → HP} {K : Value → HP → Prop} (p : Option Addr) (n cap : Nat) (xs : List Int) (hn : xs.length = n) (hat : At H (.vec p n cap 3 1 (flat intV xs)) u r) (hsz : n < 4611686018427387904)
    (hk : K (.tuple #[]) (u (.vec p n cap 3 1 (flat intV (sorted xs))))) : VCall Try.cx.P w0 M H 72 [.slice p n cap] K := by
  refine .mk fun w hw => ?_
  have hsat := hw.own _ hat.mem
  have hsl : (sorted xs).length = n := by unfold sorted; rw [List.length_mergeSort, hn]
  cases p with
  | none =>
    obtain ⟨h1, h2⟩ := hsat
    rcases h2 with ⟨h3, h4⟩ | ⟨g, c, cur, hv, _⟩
    · simp only [Value.slice.injEq] at h3
      have hn0 : n = 0 := h3.2.1
      subst hn0
      have hx : xs = [] := List.eq_nil_of_length_eq_zero hn
      subst hx
      refine (Try.slices_Sort_int_none none cap w).mono fun e w' ⟨he, hw'⟩ => ?_
      subst hw'
      refine ⟨.tuple #[], _, he, ?_, hk⟩
      have : sorted [] = [] := by simp [sorted]
      rw [this]
      exact hw.turn hat (fun h => h)
    · cases hv
  | some a =>
    obtain ⟨g, cur, hg, hh, hnc, hcm, hcs, ht, hlen⟩ := vec_some hsat
    subst hg
    have hcell : ∀ j, j < xs.length → cur[j]? = some (.int .i64 (xs[j]!)) := by
      intro j hj
      have h1 : (cur.toList.take (n * 1))[j]? = (flat intV xs)[j]? := by rw [ht]
      rw [List.getElem?_take, if_pos (by omega), flat_intV, List.getElem?_map, List.getElem?_eq_getElem hj] at h1
      simp only [Option.map_some] at h1
      rw [getElem!_pos _ j hj]
      simpa using h1
    have hH : Go.Sort.Holds (Value.int .i64) w g 0 xs.toArray := by
      intro j hj
      have hj' : j < xs.length := by simpa using hj
      have := hcell j hj'
      refine ⟨?_, ?_⟩
      · simp only [Nat.zero_add, World.cell?, hh]
        simpa using this
      · simp [World.frozen?, hh]
    have hglt : g < w.heap.size := (Array.getElem?_eq_some_iff.1 hh).1
    have hc := Try.slices_Sort_int g 0 cap xs w hH hglt (by omega)
    rw [hn] at hc
    refine hc.mono fun e w' ⟨he, q, os, hw'⟩ => ⟨.tuple #[], _, he, ?_, hk⟩
    subst hw'
    refine hw.turn hat fun hx => ?_
    have hheap : ∀ b, b < w.heap.size → (Go.Sort.grow (Go.Sort.putRow (Value.int .i64) (Go.Sort.ahead w q) g 0 (xs.mergeSort fun x y => decide (x ≤ y)).toArray) os).heap[b]? =
        if g = b then (w.heap[b]?).map (Go.Sort.onCells (Go.Sort.putCells (Value.int .i64) 0 (xs.mergeSort fun x y => decide (x ≤ y)).toArray)) else w.heap[b]? := by
      intro b hb
      simp only [Go.Sort.grow, Go.Sort.putRow, Go.Sort.mapBlock, Go.Sort.ahead]
      rw [Array.getElem?_append_left (by simpa using hb), Array.getElem?_modify]
    refine hx.step rfl rfl rfl (by simp [Go.Sort.grow, Go.Sort.putRow, Go.Sort.mapBlock, Go.Sort.ahead]) (fun b hb hne => ?_) ?_ (fun b hb => .inl hb)
    · rw [hheap b hb, if_neg (fun e => hne (by rw [← e]; rfl))]
    · have h2 := hheap g hglt
      rw [if_pos rfl, hh] at h2
      simp only [Option.map_some, Go.Sort.onCells] at h2
      refine ownsRow_mk h2 hnc hcm (by simp [Go.Sort.putCells, hcs]) ?_
      apply List.ext_getElem?
      intro j
      rw [List.getElem?_take, flat_intV, List.getElem?_map]
      have hsl' : (xs.mergeSort fun x y => decide (x ≤ y)).length = n := hsl
      by_cases hj : j < n
      · rw [if_pos (by omega)]
        have hjc : j < cur.size := by omega
        simp only [Array.getElem?_toList, Go.Sort.putCells, Array.getElem?_mapIdx, List.size_toArray, hsl', Nat.zero_add, Nat.zero_le, true_and, hj, if_true, Nat.sub_zero, Array.getElem?_eq_getElem hjc, Option.map_some]
        have : j < (sorted xs).length := by omega
        rw [List.getElem?_eq_getElem this]
        simp only [Option.map_some, Option.some.injEq, Value.int.injEq, true_and]
        rw [getElem!_pos _ j (by simpa [hsl'] using hj)]
        rfl
      · rw [if_neg (by omega), List.getElem?_eq_none (by omega)]
        rfl

end Go.Proofs
