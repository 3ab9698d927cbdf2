import Derived.Test.YtephkjicokbckaaGreatDoorVerifyFoundTo2
import Derived.Test.YtephkjicokbckaaGreatDoorVerifyFoundSx
import Derived.Test.YtephkjicokbckaaGreatDoorCards
import Derived.Stop.Joined
section
set_option linter.unusedVariables false

set_option linter.unusedSimpArgs false

namespace Go.Proofs

open Go Go.Vx Go.Gm Go.RowKit Go.WideShapes Go.ChangeShapes Go.Deep Go.Joins

def byteV (x : Int) : List Value := [.int .u8 x]

section

variable {H : Type} {enc : TypeId × Value → H} {W : World} {base b0 : Nat} {spare : Nat → Bool} {held : Bool} {r : Reach}

set_option maxRecDepth 100000 in
theorem open_env {v : Value} {d : DataW H} {p : List MemPlace} (hv : Value.okWide Tryz.prog W r b0 29 v) (h : DataW.Trod enc Tryz.prog W base spare held 29 v d p) :
    ∃ (s : Sur) (pf : Option Addr) (cf bf of : Nat) (px : Option Addr) (cx bx ox : Nat), v = .agg (envC pf cf px cx s).toArray ∧ ((∀ x ∈ s.fixed, x.wf) ∧ I64 s.most) ∧ Sl W intV 1 s.free pf s.free.length bf of ∧ Sl W evtV 2 s.fixed px s.fixed.length bx ox ∧ s.fixed.length ≤ cx := by
  obtain ⟨v0, v1, v2, y0, y1, y2, n, rfl, _, _, h0, h1, h2⟩ := open_agg3 Tryz.underlying29 (by kernel_rfl) (by kernel_rfl) hv h
  have hts : Tryz.prog.cellTypes Tryz.prog.depth 29 = some [26, 27, 3] := by kernel_rfl
  have k0 := cell_of_row Tryz.underlying29 hts hv 0 rfl rfl (by simp)
  have k1 := cell_of_row Tryz.underlying29 hts hv 1 rfl rfl (by simp)
  obtain ⟨i, hi, _, hw⟩ := DataW.trod_int Tryz.underlying3 h2
  simp only [List.cons.injEq, and_true] at hi
  subst hi
  obtain ⟨pf, cf, bf, of, l, rfl, a1, a2, a3, a4⟩ := open_nums Tryz.underlying26 Tryz.underlying3 (by kernel_rfl) h0 k0
  obtain ⟨px, cx, bx, ox, rows, rfl, b1, b2, b3, b4⟩ := open_rows Tryz.underlying27 Tryz.underlying64 (by kernel_rfl) (by kernel_rfl) (by decide) (fields_i64 Tryz.underlying3 (by kernel_rfl)) h1 k1
  have e1 : (rows.map evtOf).length = rows.length := List.length_map _
  refine ⟨⟨l, rows.map evtOf, i⟩, pf, cf, bf, of, px, cx, bx, ox, ?_, ⟨?_, i64_of_wf hw⟩, a3, ?_, by dsimp only; rw [e1]; exact b1⟩
  · unfold envC
    dsimp only
    rw [e1]
  · intro x hx
    obtain ⟨r, hr, rfl⟩ := List.mem_map.1 hx
    exact (evtOf_ok (b4 r hr).1 (b4 r hr).2).2
  · dsimp only
    rw [e1]; exact Sl.thr b3 evtOf fun x hx => (evtOf_ok (b4 x hx).1 (b4 x hx).2).1

set_option maxRecDepth 100000 in
theorem open_moms {v : Value} {d : DataW H} {p : List MemPlace} (hv : Value.okWide Tryz.prog W r b0 30 v) (h : DataW.Trod enc Tryz.prog W base spare held 30 v d p) :
    ∃ (l : List MomD) (pe : Option Addr) (ce be oe : Nat), v = .slice pe l.length ce ∧ (∀ x ∈ l, (∃ b o, Sl W intV 1 x.m.l x.m.p x.m.l.length b o) ∧ (∃ b o, Sl W intV 1 x.n.l x.n.p x.n.l.length b o)) ∧ Sl W momV 2 l pe l.length be oe := by
  obtain ⟨n, hn⟩ := trod_of_slice Tryz.underlying30 hv h
  obtain ⟨pe, ce, be, oe, l, rfl, a1, a2, a3, a4⟩ := open_els momV 2 (fun x : MomD => (∃ b o, Sl W intV 1 x.m.l x.m.p x.m.l.length b o) ∧ (∃ b o, Sl W intV 1 x.n.l x.n.p x.n.l.length b o)) Tryz.underlying30 (by kernel_rfl) (fun _ => rfl) (fun n cs y hy => by
    obtain ⟨xs, m, _, _, hlen, hxl, hf⟩ := DataW.trod_struct Tryz.underlying87 hy
    have hc : Tryz.prog.cellsOf 87 = 2 := by kernel_rfl
    have h1 : Tryz.prog.cellsOf 26 = 1 := by kernel_rfl
    rw [hc] at hlen
    match cs, hlen with
    | [c0, c1], _ =>
      have f0 : DataW.trod enc Tryz.prog W base spare held m 26 (List.take (Tryz.prog.cellsOf 26) (List.drop 0 [c0, c1])) = xs[0]? := hf 0 _ rfl
      have f1 : DataW.trod enc Tryz.prog W base spare held m 26 (List.take (Tryz.prog.cellsOf 26) (List.drop 1 [c0, c1])) = xs[1]? := hf 1 _ rfl
      have hx2 : xs.length = 2 := hxl
      have g0 : xs[0]? = some (xs[0]'(by omega)) := List.getElem?_eq_getElem _
      have g1 : xs[1]? = some (xs[1]'(by omega)) := List.getElem?_eq_getElem _
      rw [g0] at f0
      rw [g1] at f1
      rw [h1] at f0 f1
      obtain ⟨d, hd1, hd2, hd3, hd4⟩ := nums_in Tryz.underlying26 Tryz.underlying3 (by kernel_rfl) f0
      subst hd1
      obtain ⟨e, he1, he2, he3, he4⟩ := nums_in Tryz.underlying26 Tryz.underlying3 (by kernel_rfl) f1
      subst he1
      exact ⟨⟨d, e⟩, rfl, hd3, he3⟩) hn (cell_of_slice Tryz.underlying30 hv)
  exact ⟨l, pe, ce, be, oe, rfl, a4, a3⟩

set_option maxRecDepth 100000 in
theorem open_bytes {v : Value} {d : DataW H} {p : List MemPlace} (hv : Value.okWide Tryz.prog W r b0 58 v) (h : DataW.Trod enc Tryz.prog W base spare held 58 v d p) :
    ∃ (l : List Int) (pe : Option Addr) (ce be oe : Nat), v = .slice pe l.length ce ∧ (∀ x ∈ l, 0 ≤ x ∧ x < 256) ∧ Sl W byteV 1 l pe l.length be oe := by
  obtain ⟨n, hn⟩ := trod_of_slice Tryz.underlying58 hv h
  obtain ⟨pe, ce, be, oe, l, rfl, a1, a2, a3, a4⟩ := open_els byteV 1 (fun x : Int => 0 ≤ x ∧ x < 256) Tryz.underlying58 (by kernel_rfl) (fun _ => rfl) (fun n cs y hy => by
    obtain ⟨z, hz, _, hw⟩ := DataW.trod_int Tryz.underlying5 hy
    simp [Lit.wf, IntKind.min, IntKind.max, IntKind.signed, IntKind.bits] at hw
    exact ⟨z, hz, by omega⟩) hn (cell_of_slice Tryz.underlying58 hv)
  exact ⟨l, pe, ce, be, oe, rfl, a4, a3⟩

end

end Go.Proofs
end

section
set_option linter.unusedVariables false

set_option linter.unusedSimpArgs false

namespace Go.Proofs.YtephkjicokbckaaGreatDoor.verifyFound

open Go Go.Proofs

theorem k1 : (Rows.verifyFoundRow.wf (OpenSpec.ofChange Rows.verifyFoundSpec)) = true := by kernel_rfl

theorem k2 : (laidOutB Tryz.pinned.checked.prog) = true := by kernel_rfl

theorem k3 : (mapsRowed Tryz.pinned.checked.prog) = true := by kernel_rfl

theorem k4 : (Tryz.f7.params.all (Tryz.pinned.checked.prog.readableRec ·)) = true := by kernel_rfl

theorem k5 : (namedTie Tryz.pinned.checked.prog Rows.verifyFoundRow.named Rows.verifyFoundSpec.vars) = true := by kernel_rfl

theorem k6 : ((Rows.verifyFoundRow.stops == [])) = true := by kernel_rfl

theorem k7 : ((Tryz.pinned.checked.prog.stops == [])) = true := by kernel_rfl

theorem k8 : ((Rows.verifyFoundRow.knobs == [])) = true := by kernel_rfl

theorem k9 : ((Tryz.pinned.checked.prog.stopKnobs == [])) = true := by kernel_rfl

theorem k10 : ((Rows.verifyFoundRow.inPlace == Tryz.pinned.checked.prog.inPlace 7)) = true := by kernel_rfl

theorem k11 : ((Rows.verifyFoundRow.unfollowed == Tryz.pinned.checked.prog.unfollowed 7)) = true := by kernel_rfl

theorem k12 : ((Rows.verifyFoundRow.recurses == Tryz.pinned.checked.prog.recurses 7)) = true := by kernel_rfl

theorem k13 : ((Rows.verifyFoundRow.named == Tryz.pinned.checked.prog.varsNamed 7)) = true := by kernel_rfl

theorem k14 : ((Rows.verifyFoundRow.maps == (Tryz.f7.params.toList ++ Rows.verifyFoundSpec.plain.varTypes Tryz.pinned.checked.prog).any (Tryz.pinned.checked.prog.mapsRec ·))) = true := by kernel_rfl

theorem k15 : ((Rows.verifyFoundRow.ifaces == (Tryz.f7.params.toList ++ Rows.verifyFoundSpec.plain.varTypes Tryz.pinned.checked.prog).any (Tryz.pinned.checked.prog.ifacesRec ·))) = true := by kernel_rfl

theorem k16 : ((Rows.verifyFoundRow.mapsOut == Tryz.pinned.checked.prog.mapsAmong Tryz.f7.resultTypes.toList)) = true := by kernel_rfl

end Go.Proofs.YtephkjicokbckaaGreatDoor.verifyFound
end

section
set_option linter.unusedVariables false

set_option linter.unusedSimpArgs false

namespace Go.Proofs.YtephkjicokbckaaGreatDoor.verifyFound

open Go Go.Proofs

theorem and2 {a b : Bool} (ha : a = true) (hb : b = true) : (a && b) = true := by rw [ha, hb]; rfl

theorem k17 : ((Rows.verifyFoundRow.loops == (Tryz.f7.params.toList ++ Rows.verifyFoundSpec.plain.varTypes Tryz.pinned.checked.prog).any (Tryz.pinned.checked.prog.loopsFrom ·))) = true := by kernel_rfl

theorem k17b : ((Rows.verifyFoundRow.wideKeys == (Tryz.f7.params.toList ++ Rows.verifyFoundSpec.plain.varTypes Tryz.pinned.checked.prog ++ Tryz.f7.resultTypes.toList).any (Tryz.pinned.checked.prog.wideKeysFrom ·))) = true := by kernel_rfl

theorem k18 : (Rows.verifyFoundSpec.vars.all (Tryz.pinned.checked.prog.varReadable ·)) = true := by kernel_rfl

theorem k19 : (Tryz.f7.resultTypes.all (fun t => Tryz.pinned.checked.prog.readableRec t && decide (t < Tryz.pinned.checked.prog.types.size))) = true := by kernel_rfl

theorem k20 : ((Rows.verifyFoundRow.ifacesOut == Tryz.f7.resultTypes.toList.any (Tryz.pinned.checked.prog.ifacesRec ·))) = true := by kernel_rfl

theorem k21 : ((Rows.verifyFoundRow.loopsOut == Tryz.f7.resultTypes.toList.any (Tryz.pinned.checked.prog.loopsFrom ·))) = true := by kernel_rfl

theorem k22 : ((Rows.verifyFoundRow.plainKeys == Tryz.pinned.checked.prog.plainKeys)) = true := by kernel_rfl

theorem k23 : (Rows.verifyFoundRow.shortTexts.isNone) = true := by kernel_rfl

theorem k23b : (Tryz.pinned.checked.prog.stopsHeard) = true := by kernel_rfl

theorem k24 : (Tryz.pinned.checked.prog.mayEnter) = true := by kernel_rfl

theorem k24b : ((Rows.verifyFoundRow.lifted == Tryz.pinned.checked.prog.liftsFinal)) = true := by kernel_rfl

theorem k24c : ((Tryz.pinned.checked.prog.make == some Rows.verifyFoundRow.make)) = true := by kernel_rfl

theorem k25 : ((Rows.verifyFoundRow.kinds == (if Rows.verifyFoundRow.domain.isEmpty then [] else Tryz.f7.params.toList.map fun t => match Tryz.pinned.checked.prog.underlying t with | some (.int k) => some k | _ => none))) = true := by kernel_rfl

theorem k26 : ((Rows.verifyFoundRow.pinned == Rows.verifyFoundRow.pinnedBy)) = true := by kernel_rfl

theorem k27 : ((Rows.verifyFoundRow.veiled == (Tryz.f7.params.toList ++ Rows.verifyFoundSpec.plain.varTypes Tryz.pinned.checked.prog ++ Tryz.f7.resultTypes.toList).any (Tryz.pinned.checked.prog.veiledRec ·))) = true := by kernel_rfl

theorem k28 : (Rows.verifyFoundRow.veiledFits Tryz.pinned.checked.prog Tryz.f7.params.toList (Tryz.f7.params.toList ++ Rows.verifyFoundSpec.plain.varTypes Tryz.pinned.checked.prog ++ Tryz.f7.resultTypes.toList)) = true := by kernel_rfl

theorem named : Tryz.pinned.checked.prog.funcNamed Rows.verifyFoundRow.func = some 7 := by kernel_rfl

theorem inst : Tryz.f7.isInstance Tryz.pinned.checked.prog Rows.verifyFoundRow.origin Rows.verifyFoundRow.targs := of_decide_eq_true (by kernel_rfl)

theorem wrap : Tryz.f7.isWrapper Tryz.pinned.checked.prog Rows.verifyFoundRow.wrapper Rows.verifyFoundRow.mainSum := by unfold Func.isWrapper; first | (rw [if_pos (by decide +kernel)]; kernel_rfl) | (rw [if_neg (by decide +kernel)]; exact ⟨rfl, rfl⟩)

theorem card_wf : Rows.verifyFoundRow.wfByText (OpenSpec.ofChange Rows.verifyFoundSpec) = true := by kernel_rfl

theorem card_goes : false = Rows.verifyFoundRow.goesBy Tryz.pinned.checked.prog := by kernel_rfl

theorem card_looks : false = Tryz.pinned.checked.prog.looks [] := by kernel_rfl

theorem card_params : (([25, 29, 30, 3, 58] : List TypeId).all fun u => !Tryz.pinned.checked.prog.wantsStandIn u) = true := by kernel_rfl

theorem card_main : Tryz.pinned.checked.prog.mainIs = some (Rows.verifyFoundCard.stood.harness.1, Rows.verifyFoundCard.stood.harness.2.toList) := by kernel_rfl

end Go.Proofs.YtephkjicokbckaaGreatDoor.verifyFound
end
