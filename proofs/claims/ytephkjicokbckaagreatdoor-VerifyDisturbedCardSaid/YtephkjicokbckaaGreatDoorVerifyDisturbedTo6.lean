import Derived.Test.YtephkjicokbckaaGreatDoorVerifyDisturbedTo2
import Derived.Test.YtephkjicokbckaaGreatDoorVerifyDisturbedCl
section
set_option linter.unusedVariables false

set_option linter.unusedSimpArgs false

namespace Go.Proofs

open Go Go.Vx Go.Gm Go.RowKit Go.WideShapes Go.ChangeShapes Go.Deep Go.Joins

section

variable {H : Type} {enc : TypeId × Value → H} {P : Program} {w : World} {base : Nat} {spare : Nat → Bool} {held : Bool}

end

section

variable {H : Type} {enc : TypeId × Value → H} {W : World} {base : Nat} {spare : Nat → Bool} {held : Bool} {r : Reach} {b0 : Nat}

theorem int_of {n : Nat} {v : Value} {y : DataW H × List MemPlace} (h : DataW.trod enc Tryz.prog W base spare held n 3 [v] = some y) : ∃ i : Int, v = .int .i64 i ∧ I64 i := by
  obtain ⟨i, hi, _, hw⟩ := DataW.trod_int Tryz.underlying3 h
  simp only [List.cons.injEq, and_true] at hi
  exact ⟨i, hi, i64_of_wf hw⟩

set_option maxRecDepth 100000 in
theorem open_u64 {v : Value} {d : DataW H} {p : List MemPlace} (hv : Value.okWide Tryz.prog W r b0 67 v) (h : DataW.Trod enc Tryz.prog W base spare held 67 v d p) : ∃ n : Nat, v = .int .u64 (n : Int) ∧ n < 18446744073709551616 := by
  obtain ⟨n, rfl, _, _, hw⟩ := open_int Tryz.underlying67 hv h
  simp [Lit.wf, IntKind.min, IntKind.max, IntKind.signed, IntKind.bits] at hw
  exact ⟨n.toNat, by rw [Int.toNat_of_nonneg (by omega)], by omega⟩

end

end Go.Proofs
end

section
set_option linter.unusedVariables false

set_option linter.unusedSimpArgs false

namespace Go.Proofs

open Go Go.Vx Go.Gm Go.RowKit Go.WideShapes Go.ChangeShapes Go.Deep Go.Joins

section

variable {H : Type} {enc : TypeId × Value → H} {P : Program} {w : World} {base : Nat} {spare : Nat → Bool} {held : Bool}

theorem trod_fields {t : TypeId} {fs : Array Field} {n : Nat} {cells : List Value} {y : DataW H × List MemPlace} (hs : P.underlying t = some (.struct fs)) (h : DataW.trod enc P w base spare held n t cells = some y) :
    ∃ m, ∀ (i : Nat) (f : Field), fs[i]? = some f → ∃ z, DataW.trod enc P w base spare held m f.type ((cells.drop f.offset).take (P.cellsOf f.type)) = some z := by
  obtain ⟨d, p⟩ := y
  obtain ⟨xs, m, e, hx, hl, hxl, hall⟩ := DataW.trod_struct hs h
  refine ⟨m, fun i f h1 => ?_⟩
  have h3 := hall i f h1
  have hxi : i < xs.length := by rw [hxl]; exact (Array.getElem?_eq_some_iff.1 h1).1
  rw [List.getElem?_eq_getElem hxi] at h3
  exact ⟨_, h3⟩

theorem arr13 {cs : Array Value} (h : cs.size = 13) : ∃ a0 a1 a2 a3 a4 a5 a6 a7 a8 a9 a10 a11 a12, cs = #[a0, a1, a2, a3, a4, a5, a6, a7, a8, a9, a10, a11, a12] := by
  obtain ⟨l⟩ := cs
  match l, h with
  | [a0, a1, a2, a3, a4, a5, a6, a7, a8, a9, a10, a11, a12], _ => exact ⟨a0, a1, a2, a3, a4, a5, a6, a7, a8, a9, a10, a11, a12, rfl⟩

end

section

variable {H : Type} {enc : TypeId × Value → H} {W : World} {base : Nat} {spare : Nat → Bool} {held : Bool} {r : Reach} {b0 : Nat}

set_option maxRecDepth 100000 in
theorem open_case {v : Value} {d : DataW H} {p : List MemPlace} (hv : Value.okWide Tryz.prog W r b0 80 v) (h : DataW.Trod enc Tryz.prog W base spare held 80 v d p) :
    ∃ (N : Net) (l : List Evt) (jit los ticks : Int) (c : Clm) (pn : Option Addr) (cn bn on : Nat) (qs : Option Addr) (cs bs os : Nat) (pe : Option Addr) (ce be oe : Nat) (pc : Option Addr) (cc bc oc : Nat),
      v = .agg #[.slice pn N.ps.length cn, .int .i64 N.inputs, .slice qs N.syns.length cs, .slice pe l.length ce, .int .i64 jit, .int .i64 los, .int .i64 ticks, .int .i64 c.kind, .slice pc c.ns.length cc, .int .i64 c.frm, .int .i64 c.to, .int .i64 c.lo, .int .i64 c.hi] ∧
      N.wf ∧ N.ps.length ≤ maxLen ∧ (∀ x ∈ l, x.wf) ∧ I64 jit ∧ I64 los ∧ I64 ticks ∧ c.wf ∧ Sl W parV 8 N.ps pn N.ps.length bn on ∧ Sl W synV 4 N.syns qs N.syns.length bs os ∧ Sl W evtV 2 l pe l.length be oe ∧ l.length ≤ ce ∧ Sl W intV 1 c.ns pc c.ns.length bc oc ∧ c.ns.length ≤ cc := by
  obtain ⟨cs, rfl, hsz⟩ := okWide_struct Tryz.underlying80 hv
  have hc13 : Tryz.prog.cellsOf 80 = 13 := by kernel_rfl
  obtain ⟨a0, a1, a2, a3, a4, a5, a6, a7, a8, a9, a10, a11, a12, rfl⟩ := arr13 (hsz.trans hc13)
  obtain ⟨fuel, hf⟩ := h
  obtain ⟨m, hall⟩ := trod_fields Tryz.underlying80 hf
  have hg0 : ∃ z, DataW.trod enc Tryz.prog W base spare held m 25 [a0, a1, a2] = some z := by
    obtain ⟨z, g⟩ := hall 0 _ rfl
    change DataW.trod enc Tryz.prog W base spare held m 25 (List.take (Tryz.prog.cellsOf 25) (List.drop 0 [a0, a1, a2, a3, a4, a5, a6, a7, a8, a9, a10, a11, a12])) = some z at g
    rw [show Tryz.prog.cellsOf 25 = 3 by kernel_rfl] at g
    exact ⟨z, g⟩
  have hg1 : ∃ z, DataW.trod enc Tryz.prog W base spare held m 27 [a3] = some z := by
    obtain ⟨z, g⟩ := hall 1 _ rfl
    change DataW.trod enc Tryz.prog W base spare held m 27 (List.take (Tryz.prog.cellsOf 27) (List.drop 3 [a0, a1, a2, a3, a4, a5, a6, a7, a8, a9, a10, a11, a12])) = some z at g
    rw [show Tryz.prog.cellsOf 27 = 1 by kernel_rfl] at g
    exact ⟨z, g⟩
  have hg2 : ∃ z, DataW.trod enc Tryz.prog W base spare held m 3 [a4] = some z := by
    obtain ⟨z, g⟩ := hall 2 _ rfl
    change DataW.trod enc Tryz.prog W base spare held m 3 (List.take (Tryz.prog.cellsOf 3) (List.drop 4 [a0, a1, a2, a3, a4, a5, a6, a7, a8, a9, a10, a11, a12])) = some z at g
    rw [show Tryz.prog.cellsOf 3 = 1 by kernel_rfl] at g
    exact ⟨z, g⟩
  have hg3 : ∃ z, DataW.trod enc Tryz.prog W base spare held m 3 [a5] = some z := by
    obtain ⟨z, g⟩ := hall 3 _ rfl
    change DataW.trod enc Tryz.prog W base spare held m 3 (List.take (Tryz.prog.cellsOf 3) (List.drop 5 [a0, a1, a2, a3, a4, a5, a6, a7, a8, a9, a10, a11, a12])) = some z at g
    rw [show Tryz.prog.cellsOf 3 = 1 by kernel_rfl] at g
    exact ⟨z, g⟩
  have hg4 : ∃ z, DataW.trod enc Tryz.prog W base spare held m 3 [a6] = some z := by
    obtain ⟨z, g⟩ := hall 4 _ rfl
    change DataW.trod enc Tryz.prog W base spare held m 3 (List.take (Tryz.prog.cellsOf 3) (List.drop 6 [a0, a1, a2, a3, a4, a5, a6, a7, a8, a9, a10, a11, a12])) = some z at g
    rw [show Tryz.prog.cellsOf 3 = 1 by kernel_rfl] at g
    exact ⟨z, g⟩
  have hg5 : ∃ z, DataW.trod enc Tryz.prog W base spare held m 50 [a7, a8, a9, a10, a11, a12] = some z := by
    obtain ⟨z, g⟩ := hall 5 _ rfl
    change DataW.trod enc Tryz.prog W base spare held m 50 (List.take (Tryz.prog.cellsOf 50) (List.drop 7 [a0, a1, a2, a3, a4, a5, a6, a7, a8, a9, a10, a11, a12])) = some z at g
    rw [show Tryz.prog.cellsOf 50 = 6 by kernel_rfl] at g
    exact ⟨z, g⟩
  obtain ⟨zn, hn⟩ := hg0
  obtain ⟨mn, halln⟩ := trod_fields Tryz.underlying25 hn
  have n0 : ∃ z, DataW.trod enc Tryz.prog W base spare held mn 22 [a0] = some z := by
    obtain ⟨z, g⟩ := halln 0 _ rfl
    change DataW.trod enc Tryz.prog W base spare held mn 22 (List.take (Tryz.prog.cellsOf 22) (List.drop 0 [a0, a1, a2])) = some z at g
    rw [show Tryz.prog.cellsOf 22 = 1 by kernel_rfl] at g
    exact ⟨z, g⟩
  have n1 : ∃ z, DataW.trod enc Tryz.prog W base spare held mn 3 [a1] = some z := by
    obtain ⟨z, g⟩ := halln 1 _ rfl
    change DataW.trod enc Tryz.prog W base spare held mn 3 (List.take (Tryz.prog.cellsOf 3) (List.drop 1 [a0, a1, a2])) = some z at g
    rw [show Tryz.prog.cellsOf 3 = 1 by kernel_rfl] at g
    exact ⟨z, g⟩
  have n2 : ∃ z, DataW.trod enc Tryz.prog W base spare held mn 23 [a2] = some z := by
    obtain ⟨z, g⟩ := halln 2 _ rfl
    change DataW.trod enc Tryz.prog W base spare held mn 23 (List.take (Tryz.prog.cellsOf 23) (List.drop 2 [a0, a1, a2])) = some z at g
    rw [show Tryz.prog.cellsOf 23 = 1 by kernel_rfl] at g
    exact ⟨z, g⟩
  obtain ⟨zc, hc⟩ := hg5
  obtain ⟨mc, hallc⟩ := trod_fields Tryz.underlying50 hc
  have c0 : ∃ z, DataW.trod enc Tryz.prog W base spare held mc 3 [a7] = some z := by
    obtain ⟨z, g⟩ := hallc 0 _ rfl
    change DataW.trod enc Tryz.prog W base spare held mc 3 (List.take (Tryz.prog.cellsOf 3) (List.drop 0 [a7, a8, a9, a10, a11, a12])) = some z at g
    rw [show Tryz.prog.cellsOf 3 = 1 by kernel_rfl] at g
    exact ⟨z, g⟩
  have c1 : ∃ z, DataW.trod enc Tryz.prog W base spare held mc 26 [a8] = some z := by
    obtain ⟨z, g⟩ := hallc 1 _ rfl
    change DataW.trod enc Tryz.prog W base spare held mc 26 (List.take (Tryz.prog.cellsOf 26) (List.drop 1 [a7, a8, a9, a10, a11, a12])) = some z at g
    rw [show Tryz.prog.cellsOf 26 = 1 by kernel_rfl] at g
    exact ⟨z, g⟩
  have c2 : ∃ z, DataW.trod enc Tryz.prog W base spare held mc 3 [a9] = some z := by
    obtain ⟨z, g⟩ := hallc 2 _ rfl
    change DataW.trod enc Tryz.prog W base spare held mc 3 (List.take (Tryz.prog.cellsOf 3) (List.drop 2 [a7, a8, a9, a10, a11, a12])) = some z at g
    rw [show Tryz.prog.cellsOf 3 = 1 by kernel_rfl] at g
    exact ⟨z, g⟩
  have c3 : ∃ z, DataW.trod enc Tryz.prog W base spare held mc 3 [a10] = some z := by
    obtain ⟨z, g⟩ := hallc 3 _ rfl
    change DataW.trod enc Tryz.prog W base spare held mc 3 (List.take (Tryz.prog.cellsOf 3) (List.drop 3 [a7, a8, a9, a10, a11, a12])) = some z at g
    rw [show Tryz.prog.cellsOf 3 = 1 by kernel_rfl] at g
    exact ⟨z, g⟩
  have c4 : ∃ z, DataW.trod enc Tryz.prog W base spare held mc 3 [a11] = some z := by
    obtain ⟨z, g⟩ := hallc 4 _ rfl
    change DataW.trod enc Tryz.prog W base spare held mc 3 (List.take (Tryz.prog.cellsOf 3) (List.drop 4 [a7, a8, a9, a10, a11, a12])) = some z at g
    rw [show Tryz.prog.cellsOf 3 = 1 by kernel_rfl] at g
    exact ⟨z, g⟩
  have c5 : ∃ z, DataW.trod enc Tryz.prog W base spare held mc 3 [a12] = some z := by
    obtain ⟨z, g⟩ := hallc 5 _ rfl
    change DataW.trod enc Tryz.prog W base spare held mc 3 (List.take (Tryz.prog.cellsOf 3) (List.drop 5 [a7, a8, a9, a10, a11, a12])) = some z at g
    rw [show Tryz.prog.cellsOf 3 = 1 by kernel_rfl] at g
    exact ⟨z, g⟩
  clear hall halln hallc hf
  obtain ⟨y, g⟩ := hg2; obtain ⟨jit, rfl, hj⟩ := int_of g; clear g y
  obtain ⟨y, g⟩ := hg3; obtain ⟨los, rfl, hl⟩ := int_of g; clear g y
  obtain ⟨y, g⟩ := hg4; obtain ⟨ticks, rfl, ht⟩ := int_of g; clear g y
  obtain ⟨y, g⟩ := n1; obtain ⟨inp, rfl, hi⟩ := int_of g; clear g y
  obtain ⟨y, g⟩ := c0; obtain ⟨kd, rfl, hk⟩ := int_of g; clear g y
  obtain ⟨y, g⟩ := c2; obtain ⟨fr, rfl, hfr⟩ := int_of g; clear g y
  obtain ⟨y, g⟩ := c3; obtain ⟨to, rfl, hto⟩ := int_of g; clear g y
  obtain ⟨y, g⟩ := c4; obtain ⟨lo, rfl, hlo⟩ := int_of g; clear g y
  obtain ⟨y, g⟩ := c5; obtain ⟨hh, rfl, hhi⟩ := int_of g; clear g y
  have hts : Tryz.prog.cellTypes Tryz.prog.depth 80 = some [22, 3, 23, 27, 3, 3, 3, 3, 26, 3, 3, 3, 3] := by kernel_rfl
  have k0 := cell_of_row Tryz.underlying80 hts hv 0 rfl rfl (by simp)
  have k2 := cell_of_row Tryz.underlying80 hts hv 2 rfl rfl (by simp)
  have k3 := cell_of_row Tryz.underlying80 hts hv 3 rfl rfl (by simp)
  have k8 := cell_of_row Tryz.underlying80 hts hv 8 rfl rfl (by simp)
  obtain ⟨y0, g0⟩ := n0
  obtain ⟨y2, g2⟩ := n2
  obtain ⟨y3, g3⟩ := hg1
  obtain ⟨y8, g8⟩ := c1
  obtain ⟨pn, cn, bn, on, rows, rfl, a1, a2, a3, a4⟩ := open_rows Tryz.underlying22 Tryz.underlying136 (by kernel_rfl) (by kernel_rfl) (by decide) (fields_i64 Tryz.underlying3 (by kernel_rfl)) g0 k0
  obtain ⟨qs, cs, bs, os, rows2, rfl, b1, b2, b3, b4⟩ := open_rows Tryz.underlying23 Tryz.underlying144 (by kernel_rfl) (by kernel_rfl) (by decide) (fields_i64 Tryz.underlying3 (by kernel_rfl)) g2 k2
  obtain ⟨pe, ce, be, oe, rows3, rfl, e1, e2, e3, e4⟩ := open_rows Tryz.underlying27 Tryz.underlying64 (by kernel_rfl) (by kernel_rfl) (by decide) (fields_i64 Tryz.underlying3 (by kernel_rfl)) g3 k3
  obtain ⟨pc, cc, bc, oc, ns, rfl, d1, d2, d3, d4⟩ := open_nums Tryz.underlying26 Tryz.underlying3 (by kernel_rfl) g8 k8
  have f1 : (rows.map parOf).length = rows.length := List.length_map _
  have f2 : (rows2.map synOf).length = rows2.length := List.length_map _
  have f3 : (rows3.map evtOf).length = rows3.length := List.length_map _
  refine ⟨⟨rows.map parOf, inp, rows2.map synOf⟩, rows3.map evtOf, jit, los, ticks, ⟨kd, ns, fr, to, lo, hh⟩, pn, cn, bn, on, qs, cs, bs, os, pe, ce, be, oe, pc, cc, bc, oc, by rw [f1, f2, f3], ⟨?_, hi, ?_⟩, ?_, ?_, hj, hl, ht, ⟨hk, d4, hfr, hto, hlo, hhi⟩, ?_, ?_, ?_, by rw [f3]; exact e1, d3, d1⟩
  · intro x hx
    obtain ⟨r, hr, rfl⟩ := List.mem_map.1 hx
    exact (parOf_ok (a4 r hr).1 (a4 r hr).2).2
  · intro x hx
    obtain ⟨r, hr, rfl⟩ := List.mem_map.1 hx
    exact (synOf_ok (b4 r hr).1 (b4 r hr).2).2
  · rw [f1]; exact a2
  · intro x hx
    obtain ⟨r, hr, rfl⟩ := List.mem_map.1 hx
    exact (evtOf_ok (e4 r hr).1 (e4 r hr).2).2
  · rw [f1]; exact Sl.thr a3 parOf fun x hx => (parOf_ok (a4 x hx).1 (a4 x hx).2).1
  · rw [f2]; exact Sl.thr b3 synOf fun x hx => (synOf_ok (b4 x hx).1 (b4 x hx).2).1
  · rw [f3]; exact Sl.thr e3 evtOf fun x hx => (evtOf_ok (e4 x hx).1 (e4 x hx).2).1

end

end Go.Proofs
end
