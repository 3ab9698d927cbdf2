/- To3: lists of calls, opened. -/

import Derived.Test.YtbnipfgbfnhibaaNetSimsTo2
import Derived.Test.YtbnipfgbfnhibaaNetSimsLawT

set_option linter.unusedVariables false

set_option linter.unusedSimpArgs false

namespace Go.Proofs

open Go Go.Vx Go.Gm Go.RowKit Go.WideShapes Go.ChangeShapes Go.Deep Go.Joins

section

variable {H : Type} {enc : TypeId × Value → H} {W : World} {base b0 : Nat} {spare : Nat → Bool} {held : Bool} {r : Reach}

theorem some_at {α : Type} {l : List α} {n i : Nat} (h : l.length = n) (hi : i < n) : ∃ x, l[i]? = some x := ⟨l[i]'(by omega), List.getElem?_eq_getElem _⟩

set_option maxRecDepth 100000 in
theorem open_acts {v : Value} {d : DataW H} {p : List MemPlace} (hv : Value.okWide Try.prog W r b0 85 v) (h : DataW.Trod enc Try.prog W base spare held 85 v d p) :
    ∃ (l : List ActD) (pe : Option Addr) (ce be oe : Nat), v = .slice pe l.length ce ∧ (∀ a ∈ l, a.what < 256 ∧ InOk W a.d) ∧ Sl W actV 2 l pe l.length be oe := by
  obtain ⟨n, hn⟩ := trod_of_slice Try.underlying85 hv h
  obtain ⟨pe, ce, be, oe, l, rfl, a1, a2, a3, a4⟩ := open_els actV 2 (fun a => a.what < 256 ∧ InOk W a.d) Try.underlying85 (by kernel_rfl) (fun _ => rfl) (fun n cs y hy => by
    obtain ⟨xs, m, _, _, hlen, hxl, hf⟩ := DataW.trod_struct Try.underlying87 hy
    have hc : Try.prog.cellsOf 87 = 2 := by kernel_rfl
    have h0 : Try.prog.cellsOf 5 = 1 := by kernel_rfl
    have h1 : Try.prog.cellsOf 46 = 1 := by kernel_rfl
    rw [hc] at hlen
    match cs, hlen with
    | [c0, c1], _ =>
      have f0 : DataW.trod enc Try.prog W base spare held m 5 (List.take (Try.prog.cellsOf 5) (List.drop 0 [c0, c1])) = xs[0]? := hf 0 _ rfl
      have f1 : DataW.trod enc Try.prog W base spare held m 46 (List.take (Try.prog.cellsOf 46) (List.drop 1 [c0, c1])) = xs[1]? := hf 1 _ rfl
      obtain ⟨x0, hx0⟩ := some_at (i := 0) hxl (by decide)
      obtain ⟨x1, hx1⟩ := some_at (i := 1) hxl (by decide)
      rw [hx0] at f0
      rw [hx1] at f1
      rw [h0] at f0
      rw [h1] at f1
      obtain ⟨z, hz, _, hw⟩ := DataW.trod_int Try.underlying5 f0
      simp only [List.drop_zero, List.take_succ_cons, List.take_zero, List.cons.injEq, and_true] at hz
      subst hz
      simp [Lit.wf, IntKind.min, IntKind.max, IntKind.signed, IntKind.bits] at hw
      obtain ⟨d, hd1, hd2, hd3, hd4⟩ := nums_in Try.underlying46 Try.underlying3 (by kernel_rfl) f1
      subst hd1
      refine ⟨⟨z.toNat, d⟩, ?_, by dsimp only; omega, hd2, hd3, hd4⟩
      unfold actV
      dsimp only
      rw [Int.toNat_of_nonneg (by omega)]) hn (cell_of_slice Try.underlying85 hv)
  exact ⟨l, pe, ce, be, oe, rfl, a4, a3⟩

end

end Go.Proofs
