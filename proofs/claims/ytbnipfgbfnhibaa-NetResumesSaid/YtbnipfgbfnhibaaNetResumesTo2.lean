/- To2: more arguments of the laws, opened: lists of lists of numbers, images, calls. -/

import Derived.Test.YtbnipfgbfnhibaaNetResumesTo
import Derived.Test.YtbnipfgbfnhibaaNetResumesCc

set_option linter.unusedVariables false

set_option linter.unusedSimpArgs false

namespace Go.Proofs

open Go Go.Vx Go.Gm Go.RowKit Go.WideShapes Go.ChangeShapes Go.Deep Go.Joins

section

variable {H : Type} {enc : TypeId × Value → H} {W : World} {base b0 : Nat} {spare : Nat → Bool} {held : Bool} {r : Reach}

theorem spot_of_cell {w : World} {a : Addr} {v : Value} (h : w.cell? a = some v) : a.spot = none := by
  unfold World.cell? at h
  split at h
  · split at h
    · cases h
    · rename_i hs
      cases hq : a.spot with
      | none => rfl
      | some s => rw [hq] at hs; simp at hs
  · cases h

/-- A slice of numbers that lies in memory. -/
theorem nums_in {P : Program} {t e : TypeId} {n : Nat} {v : Value} {x : DataW H × List MemPlace} (ht : P.underlying t = some (.slice e)) (he : P.underlying e = some (.int .i64)) (hC : P.cellsOf e = 1)
    (h : DataW.trod enc P W base spare held n t [v] = some x) :
    ∃ d : SlD Int, v = slV d ∧ d.l.length ≤ maxLen ∧ (∃ b off, Sl W intV 1 d.l d.p d.l.length b off) ∧ ∀ n ∈ d.l, I64 n := by
  rcases open_slice ht h with ⟨hcs, _⟩ | ⟨a, len, cap, m, n, D, Pl, hcs, hb, hl, hm, hmm, hx, hel⟩
  · simp only [List.cons.injEq, and_true] at hcs
    exact ⟨⟨none, 0, []⟩, hcs, by simp, ⟨0, 0, Sl.nil (Or.inl rfl)⟩, by simp⟩
  · simp only [List.cons.injEq, and_true] at hcs
    subst hcs
    by_cases h0 : len = 0
    · subst h0
      exact ⟨⟨some a, cap, []⟩, rfl, by simp, ⟨0, 0, Sl.nil (Or.inr ⟨a, rfl⟩)⟩, by simp⟩
    have hlm : len ≤ m := by rw [hmm]; split <;> omega
    have hsp : a.spot = none := by
      obtain ⟨cs', hc, ht'⟩ := hel 0 (by omega)
      obtain ⟨z, hz, _, hw⟩ := DataW.trod_int he ht'
      obtain ⟨_, hcl, hat⟩ := World.cells?_some hc
      have := hat 0 (by omega)
      rw [hz] at this
      simp only [Nat.zero_mul, Addr.add, if_true, List.getElem?_cons_zero] at this
      exact spot_of_cell this
    obtain ⟨l, hlen, hrows⟩ := list_of (fun i (z : Int) => Cells W a.block (a.off + i * 1) (intV z) ∧ I64 z) len (fun i hilt => by
      obtain ⟨cs', hc, ht'⟩ := hel i (by omega)
      obtain ⟨z, hz, _, hw⟩ := DataW.trod_int he ht'
      refine ⟨z, ?_, i64_of_wf hw⟩
      obtain ⟨_, hcl, hat⟩ := World.cells?_some hc
      intro j v hj
      have hj' : cs'[j]? = some v := by rw [hz]; exact hj
      have hjl : j < cs'.length := (List.getElem?_eq_some_iff.1 hj').1
      have := hat j (by omega)
      rw [hj'] at this
      rw [← this]
      congr 1
      rw [hC]
      unfold Addr.add
      obtain ⟨ab, ao, asp⟩ := a
      simp only at hsp
      subst hsp
      split <;> split <;> simp_all <;> omega)
    subst hlen
    refine ⟨⟨some a, cap, l⟩, rfl, by dsimp only; omega, ⟨a.block, a.off, Or.inl ?_, rfl, ?_⟩, ?_⟩
    · obtain ⟨ab, ao, asp⟩ := a
      simp only at hsp
      subst hsp
      rfl
    · exact cells_flat (fun x hx => rfl) (fun i r hr => (hrows i r hr).1)
    · intro r hr
      obtain ⟨i, hi, rfl⟩ := List.mem_iff_getElem.1 hr
      exact (hrows i _ (List.getElem?_eq_getElem hi)).2

/-- A slice whose elements lie in k cells each, of which something is known. -/
theorem open_els {α : Type} (f : α → List Value) (k : Nat) (q : α → Prop) {P : Program} {t e : TypeId} {n : Nat} {v : Value} {x : DataW H × List MemPlace} (ht : P.underlying t = some (.slice e)) (hC : P.cellsOf e = k) (hk : ∀ x, (f x).length = k)
    (hel0 : ∀ (n : Nat) cs y, DataW.trod enc P W base spare held n e cs = some y → ∃ x : α, cs = f x ∧ q x)
    (h : DataW.trod enc P W base spare held n t [v] = some x) (hok : Cell.okWide P W r b0 t v) :
    ∃ (p : Option Addr) (c b off : Nat) (l : List α), v = .slice p l.length c ∧ l.length ≤ c ∧ l.length ≤ maxLen ∧ Sl W f k l p l.length b off ∧ ∀ x ∈ l, q x := by
  rcases open_slice ht h with ⟨hcs, _⟩ | ⟨a, len, cap, m, n, D, Pl, hcs, hb, hl, hm, hmm, hx, hel⟩
  · simp only [List.cons.injEq, and_true] at hcs
    exact ⟨none, 0, 0, 0, [], hcs, by simp, by simp, Sl.nil (Or.inl rfl), by simp⟩
  · simp only [List.cons.injEq, and_true] at hcs
    subst hcs
    have hsp : a.spot = none := by
      simp only [Cell.okWide, ht, Cell.ok] at hok
      exact hok.2.2.2.1
    have hlm : len ≤ m := by rw [hmm]; split <;> omega
    obtain ⟨l, hlen, hrows⟩ := list_of (fun i (z : α) => Cells W a.block (a.off + i * k) (f z) ∧ q z) len (fun i hilt => by
      obtain ⟨cs', hc, ht'⟩ := hel i (by omega)
      obtain ⟨z, hz, hq⟩ := hel0 _ _ _ ht'
      refine ⟨z, ?_, hq⟩
      obtain ⟨_, hcl, hat⟩ := World.cells?_some hc
      intro j v hj
      have hj' : cs'[j]? = some v := by rw [hz]; exact hj
      have hjl : j < cs'.length := (List.getElem?_eq_some_iff.1 hj').1
      have := hat j (by omega)
      rw [hj'] at this
      rw [← this]
      congr 1
      rw [hC]
      unfold Addr.add
      obtain ⟨ab, ao, asp⟩ := a
      simp only at hsp
      subst hsp
      split <;> split <;> simp_all <;> omega)
    subst hlen
    refine ⟨some a, cap, a.block, a.off, l, rfl, hl, by omega, ⟨Or.inl ?_, rfl, ?_⟩, ?_⟩
    · obtain ⟨ab, ao, asp⟩ := a
      simp only at hsp
      subst hsp
      rfl
    · exact cells_flat (fun x hx => hk x) (fun i r hr => (hrows i r hr).1)
    · intro r hr
      obtain ⟨i, hi, rfl⟩ := List.mem_iff_getElem.1 hr
      exact (hrows i _ (List.getElem?_eq_getElem hi)).2

/-- What is known of a list of numbers inside an argument. -/
def InOk (W : World) (d : SlD Int) : Prop := d.l.length ≤ maxLen ∧ (∃ b off, Sl W intV 1 d.l d.p d.l.length b off) ∧ ∀ n ∈ d.l, I64 n

theorem open_lists {P : Program} {t e u : TypeId} {n : Nat} {v : Value} {x : DataW H × List MemPlace} (ht : P.underlying t = some (.slice e)) (he : P.underlying e = some (.slice u)) (hu : P.underlying u = some (.int .i64)) (hC : P.cellsOf e = 1) (hCu : P.cellsOf u = 1)
    (h : DataW.trod enc P W base spare held n t [v] = some x) (hok : Cell.okWide P W r b0 t v) :
    ∃ (p : Option Addr) (c b off : Nat) (l : List (SlD Int)), v = .slice p l.length c ∧ l.length ≤ c ∧ l.length ≤ maxLen ∧ Sl W slVs 1 l p l.length b off ∧ ∀ d ∈ l, InOk W d :=
  open_els slVs 1 (InOk W) ht hC (fun _ => rfl) (fun n cs y hy => by
    rcases open_slice he hy with ⟨hcs, _⟩ | ⟨a, len, cap, m, n, D, Pl, hcs, _⟩
    · subst hcs
      obtain ⟨d, h1, h2, h3, h4⟩ := nums_in he hu hCu hy
      exact ⟨d, by rw [h1]; rfl, h2, h3, h4⟩
    · subst hcs
      obtain ⟨d, h1, h2, h3, h4⟩ := nums_in he hu hCu hy
      exact ⟨d, by rw [h1]; rfl, h2, h3, h4⟩) h hok

def staOf : List Int → Sta
  | [a, b] => ⟨a, b⟩
  | _ => ⟨0, 0⟩

theorem staOf_ok {r : List Int} (h : r.length = 2) (hi : ∀ n ∈ r, I64 n) : staV (staOf r) = r.map (Value.int .i64) ∧ (staOf r).wf := by
  match r, h with
  | [a, b], _ => exact ⟨rfl, hi _ (by simp [staOf]), hi _ (by simp [staOf])⟩

set_option maxRecDepth 100000 in
theorem open_image {v : Value} {d : DataW H} {p : List MemPlace} (hv : Value.okWide Try.prog W r b0 66 v) (h : DataW.Trod enc Try.prog W base spare held 66 v d p) :
    ∃ (tick : Int) (sts : List Sta) (pst : Option Addr) (cst bst ost : Nat) (Ls : List (SlD Int)) (pd : Option Addr) (cd bd od : Nat), v = .agg #[.int .i64 tick, .slice pst sts.length cst, .slice pd Ls.length cd] ∧ I64 tick ∧ (∀ s ∈ sts, s.wf) ∧ (∀ d ∈ Ls, InOk W d) ∧
      Sl W staV 2 sts pst sts.length bst ost ∧ Sl W slVs 1 Ls pd Ls.length bd od := by
  obtain ⟨v0, v1, v2, y0, y1, y2, n, rfl, _, _, h0, h1, h2⟩ := open_agg3 Try.underlying66 (by kernel_rfl) (by kernel_rfl) hv h
  have hts : Try.prog.cellTypes Try.prog.depth 66 = some [3, 63, 64] := by kernel_rfl
  have k1 := cell_of_row Try.underlying66 hts hv 1 rfl rfl (by simp)
  have k2 := cell_of_row Try.underlying66 hts hv 2 rfl rfl (by simp)
  obtain ⟨i, hi, _, hw⟩ := DataW.trod_int Try.underlying3 h0
  simp only [List.cons.injEq, and_true] at hi
  subst hi
  obtain ⟨pn, cn, bn, on, rows, rfl, a1, a2, a3, a4⟩ := open_rows Try.underlying63 Try.underlying98 (by kernel_rfl) (by kernel_rfl) (by decide) (fields_i64 Try.underlying3 (by kernel_rfl)) h1 k1
  obtain ⟨qs, cs, bs, os, Ls, rfl, b1, b2, b3, b4⟩ := open_lists Try.underlying64 Try.underlying46 Try.underlying3 (by kernel_rfl) (by kernel_rfl) h2 k2
  have e1 : (rows.map staOf).length = rows.length := List.length_map _
  refine ⟨i, rows.map staOf, pn, cn, bn, on, Ls, qs, cs, bs, os, by rw [e1], i64_of_wf hw, ?_, b4, ?_, b3⟩
  · intro x hx
    obtain ⟨r, hr, rfl⟩ := List.mem_map.1 hx
    exact (staOf_ok (a4 r hr).1 (a4 r hr).2).2
  · rw [e1]; exact Sl.thr a3 staOf fun x hx => (staOf_ok (a4 x hx).1 (a4 x hx).2).1

end

end Go.Proofs
