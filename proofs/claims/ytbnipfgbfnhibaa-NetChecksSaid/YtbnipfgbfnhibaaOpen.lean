/- Open: arguments of the laws, opened. -/
import Derived.Test.YtbnipfgbfnhibaaTop2
import Derived.Test.YtbnipfgbfnhibaaRows
set_option linter.unusedVariables false
set_option linter.unusedSimpArgs false
namespace Go.Proofs
open Go Go.Vx Go.Gm Go.RowKit Go.WideShapes Go.ChangeShapes Go.Deep Go.Joins

theorem Try.own0 : ownKnob Try.prog.godebug = none := by kernel_rfl
theorem Try.laid0 : laidOutB Try.prog = true := by kernel_rfl

def parOf : List Int → Par
  | [a, b, c, d, e, f, g, h] => ⟨a, b, c, d, e, f, g, h⟩
  | _ => ⟨0, 0, 0, 0, 0, 0, 0, 0⟩
def synOf : List Int → Syn
  | [a, b, c, d] => ⟨a, b, c, d⟩
  | _ => ⟨0, 0, 0, 0⟩
def evtOf : List Int → Evt
  | [a, b] => ⟨a, b⟩
  | _ => ⟨0, 0⟩

theorem parOf_ok {r : List Int} (h : r.length = 8) (hi : ∀ n ∈ r, I64 n) : parV (parOf r) = r.map (Value.int .i64) ∧ (parOf r).wf := by
  match r, h with
  | [a, b, c, d, e, f, g, i], _ => exact ⟨rfl, by constructor <;> exact hi _ (by simp [parOf])⟩
theorem synOf_ok {r : List Int} (h : r.length = 4) (hi : ∀ n ∈ r, I64 n) : synV (synOf r) = r.map (Value.int .i64) ∧ (synOf r).wf := by
  match r, h with
  | [a, b, c, d], _ => exact ⟨rfl, hi _ (by simp [synOf]), hi _ (by simp [synOf]), hi _ (by simp [synOf]), hi _ (by simp [synOf])⟩
theorem evtOf_ok {r : List Int} (h : r.length = 2) (hi : ∀ n ∈ r, I64 n) : evtV (evtOf r) = r.map (Value.int .i64) ∧ (evtOf r).wf := by
  match r, h with
  | [a, b], _ => exact ⟨rfl, hi _ (by simp [evtOf]), hi _ (by simp [evtOf])⟩

theorem fields_i64 {P : Program} {fs : Array Field} {t : TypeId} (ht : P.underlying t = some (.int .i64)) (h : (fs.all fun f => f.type == t) = true) : ∀ (j : Nat) (f : Field), fs[j]? = some f → P.underlying f.type = some (.int .i64) := by
  intro j f hj
  have := Array.all_eq_true_iff_forall_mem.1 h f (Array.mem_of_getElem? hj)
  simp only [beq_iff_eq] at this
  rw [this]
  exact ht

theorem cell_of_row {P : Program} {W : World} {r : Reach} {b0 : Nat} {t : TypeId} {fs : Array Field} {vs : Array Value} {ts : List TypeId} (hs : P.underlying t = some (.struct fs)) (hts : P.cellTypes P.depth t = some ts) (h : Value.okWide P W r b0 t (.agg vs)) (j : Nat) {v : Value} {u : TypeId}
    (hv : vs[j]? = some v) (hu : ts[j]? = some u) (hj : j < ts.length) : Cell.okWide P W r b0 u v := by
  simp only [Value.okWide, hs] at h
  obtain ⟨cs, h1, _, ts', h2, _, h3⟩ := h
  cases h1
  rw [hts] at h2
  cases h2
  obtain ⟨u', hu', hc⟩ := h3 j v hv
  rw [Nat.mod_eq_of_lt hj, hu] at hu'
  cases hu'
  exact hc

section
variable {H : Type} {enc : TypeId × Value → H} {W : World} {base b0 : Nat} {spare : Nat → Bool} {held : Bool} {r : Reach}

set_option maxRecDepth 100000 in
theorem open_net {v : Value} {d : DataW H} {p : List MemPlace} (hv : Value.okWide Try.prog W r b0 25 v) (h : DataW.Trod enc Try.prog W base spare held 25 v d p) :
    ∃ (N : Net) (pn : Option Addr) (cn bn on : Nat) (qs : Option Addr) (cs bs os : Nat), v = .agg #[.slice pn N.ps.length cn, .int .i64 N.inputs, .slice qs N.syns.length cs] ∧ N.wf ∧ (N.ps.length ≤ cn ∧ N.ps.length ≤ maxLen) ∧ (N.syns.length ≤ cs ∧ N.syns.length ≤ maxLen) ∧
      Sl W parV 8 N.ps pn N.ps.length bn on ∧ Sl W synV 4 N.syns qs N.syns.length bs os := by
  obtain ⟨v0, v1, v2, y0, y1, y2, n, rfl, _, _, h0, h1, h2⟩ := open_agg3 Try.underlying25 (by kernel_rfl) (by kernel_rfl) hv h
  have hts : Try.prog.cellTypes Try.prog.depth 25 = some [22, 3, 23] := by kernel_rfl
  have k0 := cell_of_row Try.underlying25 hts hv 0 rfl rfl (by simp)
  have k2 := cell_of_row Try.underlying25 hts hv 2 rfl rfl (by simp)
  obtain ⟨pn, cn, bn, on, rows, rfl, a1, a2, a3, a4⟩ := open_rows Try.underlying22 Try.underlying42 (by kernel_rfl) (by kernel_rfl) (by decide) (fields_i64 Try.underlying3 (by kernel_rfl)) h0 k0
  obtain ⟨qs, cs, bs, os, rows2, rfl, b1, b2, b3, b4⟩ := open_rows Try.underlying23 Try.underlying96 (by kernel_rfl) (by kernel_rfl) (by decide) (fields_i64 Try.underlying3 (by kernel_rfl)) h2 k2
  obtain ⟨i, hi, _, hw⟩ := DataW.trod_int Try.underlying3 h1
  simp only [List.cons.injEq, and_true] at hi
  subst hi
  have e1 : (rows.map parOf).length = rows.length := List.length_map _
  have e2 : (rows2.map synOf).length = rows2.length := List.length_map _
  refine ⟨⟨rows.map parOf, i, rows2.map synOf⟩, pn, cn, bn, on, qs, cs, bs, os, by rw [e1, e2], ⟨?_, i64_of_wf hw, ?_⟩, ?_, ?_, ?_, ?_⟩
  · intro x hx
    obtain ⟨r, hr, rfl⟩ := List.mem_map.1 hx
    exact (parOf_ok (a4 r hr).1 (a4 r hr).2).2
  · intro x hx
    obtain ⟨r, hr, rfl⟩ := List.mem_map.1 hx
    exact (synOf_ok (b4 r hr).1 (b4 r hr).2).2
  · rw [e1]; exact ⟨a1, a2⟩
  · rw [e2]; exact ⟨b1, b2⟩
  · rw [e1]; exact Sl.thr a3 parOf fun x hx => (parOf_ok (a4 x hx).1 (a4 x hx).2).1
  · rw [e2]; exact Sl.thr b3 synOf fun x hx => (synOf_ok (b4 x hx).1 (b4 x hx).2).1

end
end Go.Proofs
