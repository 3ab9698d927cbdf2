/- To2: more arguments of the laws, opened: lists of lists of numbers, images, calls. -/

import Derived.Test.YtbnipfgbfnhibaaNetSimsTo
import Derived.Test.YtbnipfgbfnhibaaNetSimsCc

set_option linter.unusedVariables false

set_option linter.unusedSimpArgs false

namespace Go.Proofs

open Go Go.Vx Go.Gm Go.RowKit Go.WideShapes Go.ChangeShapes Go.Deep Go.Joins

section

variable {H : Type} {enc : TypeId × Value → H} {W : World} {base b0 : Nat} {spare : Nat → Bool} {held : Bool} {r : Reach}

theorem spot_of_cell {w : World} {a : Addr} {v : Value} (h : w.cell? a = some v) : a.spot = none := by
  unfold World.cell? at h
  split at h
  · split at h
    · cases h
    · rename_i hs
      cases hq : a.spot with
      | none => rfl
      | some s => rw [hq] at hs; simp at hs
  · cases h

/-- A slice of numbers that lies in memory. -/
theorem nums_in {P : Program} {t e : TypeId} {n : Nat} {v : Value} {x : DataW H × List MemPlace} (ht : P.underlying t = some (.slice e)) (he : P.underlying e = some (.int .i64)) (hC : P.cellsOf e = 1)
    (h : DataW.trod enc P W base spare held n t [v] = some x) :
    ∃ d : SlD Int, v = slV d ∧ d.l.length ≤ maxLen ∧ (∃ b off, Sl W intV 1 d.l d.p d.l.length b off) ∧ ∀ n ∈ d.l, I64 n := by
  rcases open_slice ht h with ⟨hcs, _⟩ | ⟨a, len, cap, m, n, D, Pl, hcs, hb, hl, hm, hmm, hx, hel⟩
  · simp only [List.cons.injEq, and_true] at hcs
    exact ⟨⟨none, 0, []⟩, hcs, by simp, ⟨0, 0, Sl.nil (Or.inl rfl)⟩, by simp⟩
  · simp only [List.cons.injEq, and_true] at hcs
    subst hcs
    by_cases h0 : len = 0
    · subst h0
      exact ⟨⟨some a, cap, []⟩, rfl, by simp, ⟨0, 0, Sl.nil (Or.inr ⟨a, rfl⟩)⟩, by simp⟩
    have hlm : len ≤ m := by rw [hmm]; split <;> omega
    have hsp : a.spot = none := by
      obtain ⟨cs', hc, ht'⟩ := hel 0 (by omega)
      obtain ⟨z, hz, _, hw⟩ := DataW.trod_int he ht'
      obtain ⟨_, hcl, hat⟩ := World.cells?_some hc
      have := hat 0 (by omega)
      rw [hz] at this
      simp only [Nat.zero_mul, Addr.add, if_true, List.getElem?_cons_zero] at this
      exact spot_of_cell this
    obtain ⟨l, hlen, hrows⟩ := list_of (fun i (z : Int) => Cells W a.block (a.off + i * 1) (intV z) ∧ I64 z) len (fun i hilt => by
      obtain ⟨cs', hc, ht'⟩ := hel i (by omega)
      obtain ⟨z, hz, _, hw⟩ := DataW.trod_int he ht'
      refine ⟨z, ?_, i64_of_wf hw⟩
      obtain ⟨_, hcl, hat⟩ := World.cells?_some hc
      intro j v hj
      have hj' : cs'[j]? = some v := by rw [hz]; exact hj
      have hjl : j < cs'.length := (List.getElem?_eq_some_iff.1 hj').1
      have := hat j (by omega)
      rw [hj'] at this
      rw [← this]
      congr 1
      rw [hC]
      unfold Addr.add
      obtain ⟨ab, ao, asp⟩ := a
      simp only at hsp
      subst hsp
      split <;> split <;> simp_all <;> omega)
    subst hlen
    refine ⟨⟨some a, cap, l⟩, rfl, by dsimp only; omega, ⟨a.block, a.off, Or.inl ?_, rfl, ?_⟩, ?_⟩
    · obtain ⟨ab, ao, asp⟩ := a
      simp only at hsp
      subst hsp
      rfl
    · exact cells_flat (fun x hx => rfl) (fun i r hr => (hrows i r hr).1)
    · intro r hr
      obtain ⟨i, hi, rfl⟩ := List.mem_iff_getElem.1 hr
      exact (hrows i _ (List.getElem?_eq_getElem hi)).2

/-- A slice whose elements lie in k cells each, of which something is known. -/
theorem open_els {α : Type} (f : α → List Value) (k : Nat) (q : α → Prop) {P : Program} {t e : TypeId} {n : Nat} {v : Value} {x : DataW H × List MemPlace} (ht : P.underlying t = some (.slice e)) (hC : P.cellsOf e = k) (hk : ∀ x, (f x).length = k)
    (hel0 : ∀ (n : Nat) cs y, DataW.trod enc P W base spare held n e cs = some y → ∃ x : α, cs = f x ∧ q x)
    (h : DataW.trod enc P W base spare held n t [v] = some x) (hok : Cell.okWide P W r b0 t v) :
    ∃ (p : Option Addr) (c b off : Nat) (l : List α), v = .slice p l.length c ∧ l.length ≤ c ∧ l.length ≤ maxLen ∧ Sl W f k l p l.length b off ∧ ∀ x ∈ l, q x := by
  rcases open_slice ht h with ⟨hcs, _⟩ | ⟨a, len, cap, m, n, D, Pl, hcs, hb, hl, hm, hmm, hx, hel⟩
  · simp only [List.cons.injEq, and_true] at hcs
    exact ⟨none, 0, 0, 0, [], hcs, by simp, by simp, Sl.nil (Or.inl rfl), by simp⟩
  · simp only [List.cons.injEq, and_true] at hcs
    subst hcs
    have hsp : a.spot = none := by
      simp only [Cell.okWide, ht, Cell.ok] at hok
      exact hok.2.2.2.1
    have hlm : len ≤ m := by rw [hmm]; split <;> omega
    obtain ⟨l, hlen, hrows⟩ := list_of (fun i (z : α) => Cells W a.block (a.off + i * k) (f z) ∧ q z) len (fun i hilt => by
      obtain ⟨cs', hc, ht'⟩ := hel i (by omega)
      obtain ⟨z, hz, hq⟩ := hel0 _ _ _ ht'
      refine ⟨z, ?_, hq⟩
      obtain ⟨_, hcl, hat⟩ := World.cells?_some hc
      intro j v hj
      have hj' : cs'[j]? = some v := by rw [hz]; exact hj
      have hjl : j < cs'.length := (List.getElem?_eq_some_iff.1 hj').1
      have := hat j (by omega)
      rw [hj'] at this
      rw [← this]
      congr 1
      rw [hC]
      unfold Addr.add
      obtain ⟨ab, ao, asp⟩ := a
      simp only at hsp
      subst hsp
      split <;> split <;> simp_all <;> omega)
    subst hlen
    refine ⟨some a, cap, a.block, a.off, l, rfl, hl, by omega, ⟨Or.inl ?_, rfl, ?_⟩, ?_⟩
    · obtain ⟨ab, ao, asp⟩ := a
      simp only at hsp
      subst hsp
      rfl
    · exact cells_flat (fun x hx => hk x) (fun i r hr => (hrows i r hr).1)
    · intro r hr
      obtain ⟨i, hi, rfl⟩ := List.mem_iff_getElem.1 hr
      exact (hrows i _ (List.getElem?_eq_getElem hi)).2

/-- What is known of a list of numbers inside an argument. -/
def InOk (W : World) (d : SlD Int) : Prop := d.l.length ≤ maxLen ∧ (∃ b off, Sl W intV 1 d.l d.p d.l.length b off) ∧ ∀ n ∈ d.l, I64 n

end

end Go.Proofs
