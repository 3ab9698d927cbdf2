/- Rcp: Copy and Image of the reference, walked. -/

import Derived.Test.YtbnipfgbfnhibaaNetKnownRst
import Derived.Test.YtbnipfgbfnhibaaNetKnownImg
import Derived.Test.YtbnipfgbfnhibaaNetKnownCc

set_option linter.unusedVariables false

set_option linter.unusedSimpArgs false

namespace Go.Proofs

open Go Go.Vx Go.Gm

/-- A simulation of the reference that is read. -/
structure RSimRd (w : World) (x : RSim) : Prop where
  cells : Cells w x.b 0 (rsimC x)
  st : Sl w staV 2 x.sts (some ⟨x.sb, 0, none⟩) x.sts.length x.sb 0
  rows : ∃ bd od, Sl w slVs 1 (x.D.map fun d => (⟨some ⟨d.g, 0, none⟩, d.cap, d.l⟩ : SlD Int)) x.dp x.D.length bd od
  due : ∀ d ∈ x.D, Sl w intV 1 d.l (some ⟨d.g, 0, none⟩) d.l.length d.g 0

theorem drows_flat (D : List DRow) : flat slVs (D.map fun d => (⟨some ⟨d.g, 0, none⟩, d.cap, d.l⟩ : SlD Int)) = D.map drowV := by
  induction D with
  | nil => rfl
  | cons d D ih =>
    have h1 : flat slVs ((d :: D).map fun d => (⟨some ⟨d.g, 0, none⟩, d.cap, d.l⟩ : SlD Int)) = [drowV d] ++ flat slVs (D.map fun d => (⟨some ⟨d.g, 0, none⟩, d.cap, d.l⟩ : SlD Int)) := by simp [flat, slVs, slV, drowV]
    rw [h1, ih]
    rfl

theorem RSimRd.of {w0 w : World} {M : List Nat} {H : HP} {x : RSim} (hs : St w0 M H w) (hl : HLe (rsimH x) H) : RSimRd w x := by
  have h := hs.le hl
  obtain ⟨bd, hbd⟩ := Sl.own h (f := slVs) (l := x.D.map fun d => (⟨some ⟨d.g, 0, none⟩, d.cap, d.l⟩ : SlD Int)) (n := x.D.length) (k := 1) (p := x.dp) (cap := x.dc) (e := 46) (by rw [drows_flat]; exact .there (.there .here)) (fun _ => rfl) (List.length_map _)
  refine ⟨?_, Sl.own' (cap := x.sc) (e := 98) h (by simp only [rsimH, List.mem_cons, true_or, or_true]) (fun _ => rfl) rfl, ⟨bd, 0, hbd⟩, fun d hd => Sl.own' (cap := d.cap) (e := 3) h (by simp only [rsimH, List.mem_cons]; exact .inr (.inr (.inr (List.mem_map_of_mem hd)))) (fun _ => rfl) rfl⟩
  have hb := h.own (.row x.b 92 (rsimC x)) (by simp only [rsimH, List.mem_cons, true_or])
  have hb' : w.heap[x.b]? = some (.cells (rsimC x).toArray 92 (0, 0)) := hb
  intro j v hj
  simpa [World.cell?, hb'] using hj

end Go.Proofs
