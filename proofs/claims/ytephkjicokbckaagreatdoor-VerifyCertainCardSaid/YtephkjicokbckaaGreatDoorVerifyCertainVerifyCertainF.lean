import Derived.Test.YtephkjicokbckaaGreatDoorVerifyCertainTo2
import Derived.Test.YtephkjicokbckaaGreatDoorVerifyCertainCl
import Derived.Test.YtephkjicokbckaaGreatDoorCards
import Derived.Stop.Joined
section
set_option linter.unusedVariables false

set_option linter.unusedSimpArgs false

namespace Go.Proofs

open Go Go.Vx Go.Gm Go.RowKit Go.WideShapes Go.ChangeShapes Go.Deep Go.Joins

section

variable {H : Type} {enc : TypeId × Value → H} {P : Program} {w : World} {base : Nat} {spare : Nat → Bool} {held : Bool}

theorem open_cells {r : Reach} {b0 : Nat} {t : TypeId} {fs : Array Field} {v : Value} {d : DataW H} {p : List MemPlace} (hs : P.underlying t = some (.struct fs)) (hone : (fs.toList.zipIdx.all fun x => x.1.offset == x.2 && P.cellsOf x.1.type == 1) = true) (hC : P.cellsOf t = fs.size)
    (hv : Value.okWide P w r b0 t v) (h : DataW.Trod enc P w base spare held t v d p) :
    ∃ (cs : Array Value) (n : Nat), v = .agg cs ∧ cs.size = fs.size ∧ ∀ (i : Nat) (f : Field) (c : Value), fs[i]? = some f → cs[i]? = some c → ∃ y, DataW.trod enc P w base spare held n f.type [c] = some y := by
  obtain ⟨cs, rfl, hsz⟩ := okWide_struct hs hv
  obtain ⟨fuel, hf⟩ := h
  obtain ⟨xs, n, rfl, hx, hl, hxl, hall⟩ := DataW.trod_struct hs hf
  refine ⟨cs, n, rfl, hsz.trans hC, fun i f c h1 h2 => ?_⟩
  have h3 := hall i f h1
  have hi : (f, i) ∈ fs.toList.zipIdx := by
    rw [List.mem_iff_getElem?]
    exact ⟨i, by rw [List.getElem?_zipIdx]; simp [h1]⟩
  have h4 := List.all_eq_true.1 hone (f, i) hi
  simp only [Bool.and_eq_true, beq_iff_eq] at h4
  have hlt := (Array.getElem?_eq_some_iff.1 h2).1
  have e : ((Value.agg cs).cells.toList.drop f.offset).take (P.cellsOf f.type) = [c] := by
    rw [h4.1, h4.2]
    have h2' : cs.toList[i]? = some c := by simpa using h2
    obtain ⟨hlt', he⟩ := List.getElem?_eq_some_iff.1 h2'
    rw [show (Value.agg cs).cells = cs from rfl, List.drop_eq_getElem_cons hlt', he]
    rfl
  rw [e] at h3
  have hxi : i < xs.length := by rw [hxl]; exact (Array.getElem?_eq_some_iff.1 h1).1
  rw [List.getElem?_eq_getElem hxi] at h3
  exact ⟨_, h3⟩

theorem arr6 {cs : Array Value} (h : cs.size = 6) : ∃ a b c d e f, cs = #[a, b, c, d, e, f] := by
  obtain ⟨l⟩ := cs
  match l, h with
  | [a, b, c, d, e, f], _ => exact ⟨a, b, c, d, e, f, rfl⟩

end

section

variable {H : Type} {enc : TypeId × Value → H} {W : World} {base : Nat} {spare : Nat → Bool} {held : Bool} {r : Reach} {b0 : Nat}

theorem int_of {n : Nat} {v : Value} {y : DataW H × List MemPlace} (h : DataW.trod enc Tryz.prog W base spare held n 3 [v] = some y) : ∃ i : Int, v = .int .i64 i ∧ I64 i := by
  obtain ⟨i, hi, _, hw⟩ := DataW.trod_int Tryz.underlying3 h
  simp only [List.cons.injEq, and_true] at hi
  exact ⟨i, hi, i64_of_wf hw⟩

set_option maxRecDepth 100000 in
theorem open_u64 {v : Value} {d : DataW H} {p : List MemPlace} (hv : Value.okWide Tryz.prog W r b0 67 v) (h : DataW.Trod enc Tryz.prog W base spare held 67 v d p) : ∃ n : Nat, v = .int .u64 (n : Int) ∧ n < 18446744073709551616 := by
  obtain ⟨n, rfl, _, _, hw⟩ := open_int Tryz.underlying67 hv h
  simp [Lit.wf, IntKind.min, IntKind.max, IntKind.signed, IntKind.bits] at hw
  exact ⟨n.toNat, by rw [Int.toNat_of_nonneg (by omega)], by omega⟩

set_option maxRecDepth 100000 in
theorem open_clm {v : Value} {d : DataW H} {p : List MemPlace} (hv : Value.okWide Tryz.prog W r b0 50 v) (h : DataW.Trod enc Tryz.prog W base spare held 50 v d p) :
    ∃ (c : Clm) (pc : Option Addr) (cc bc oc : Nat), v = clmA c pc cc ∧ c.wf ∧ c.ns.length ≤ cc ∧ c.ns.length ≤ maxLen ∧ Sl W intV 1 c.ns pc c.ns.length bc oc := by
  obtain ⟨cs, n, rfl, hsz, hall⟩ := open_cells Tryz.underlying50 (by kernel_rfl) (by kernel_rfl) hv h
  obtain ⟨v0, v1, v2, v3, v4, v5, rfl⟩ := arr6 hsz
  obtain ⟨y0, h0⟩ := hall 0 _ v0 rfl rfl
  obtain ⟨y1, h1⟩ := hall 1 _ v1 rfl rfl
  obtain ⟨y2, h2⟩ := hall 2 _ v2 rfl rfl
  obtain ⟨y3, h3⟩ := hall 3 _ v3 rfl rfl
  obtain ⟨y4, h4⟩ := hall 4 _ v4 rfl rfl
  obtain ⟨y5, h5⟩ := hall 5 _ v5 rfl rfl
  obtain ⟨k, rfl, hk⟩ := int_of h0
  obtain ⟨f, rfl, hf⟩ := int_of h2
  obtain ⟨t, rfl, ht⟩ := int_of h3
  obtain ⟨lo, rfl, hlo⟩ := int_of h4
  obtain ⟨hi, rfl, hhi⟩ := int_of h5
  have hts : Tryz.prog.cellTypes Tryz.prog.depth 50 = some [3, 26, 3, 3, 3, 3] := by kernel_rfl
  have k1 := cell_of_row Tryz.underlying50 hts hv 1 rfl rfl (by simp)
  obtain ⟨pe, ce, be, oe, l, rfl, a1, a2, a3, a4⟩ := open_nums Tryz.underlying26 Tryz.underlying3 (by kernel_rfl) h1 k1
  exact ⟨⟨k, l, f, t, lo, hi⟩, pe, ce, be, oe, rfl, ⟨hk, a4, hf, ht, hlo, hhi⟩, a1, a2, a3⟩

end

end Go.Proofs
end

section
set_option linter.unusedVariables false

set_option linter.unusedSimpArgs false

namespace Go.Proofs.YtephkjicokbckaaGreatDoor.verifyCertain

open Go Go.Proofs

theorem k1 : (Rows.verifyCertainRow.wf (OpenSpec.ofChange Rows.verifyCertainSpec)) = true := by kernel_rfl

theorem k2 : (laidOutB Tryz.pinned.checked.prog) = true := by kernel_rfl

theorem k3 : (mapsRowed Tryz.pinned.checked.prog) = true := by kernel_rfl

theorem k4 : (Tryz.f11.params.all (Tryz.pinned.checked.prog.readableRec ·)) = true := by kernel_rfl

theorem k5 : (namedTie Tryz.pinned.checked.prog Rows.verifyCertainRow.named Rows.verifyCertainSpec.vars) = true := by kernel_rfl

theorem k6 : ((Rows.verifyCertainRow.stops == [])) = true := by kernel_rfl

theorem k7 : ((Tryz.pinned.checked.prog.stops == [])) = true := by kernel_rfl

theorem k8 : ((Rows.verifyCertainRow.knobs == [])) = true := by kernel_rfl

theorem k9 : ((Tryz.pinned.checked.prog.stopKnobs == [])) = true := by kernel_rfl

theorem k10 : ((Rows.verifyCertainRow.inPlace == Tryz.pinned.checked.prog.inPlace 11)) = true := by kernel_rfl

theorem k11 : ((Rows.verifyCertainRow.unfollowed == Tryz.pinned.checked.prog.unfollowed 11)) = true := by kernel_rfl

theorem k12 : ((Rows.verifyCertainRow.recurses == Tryz.pinned.checked.prog.recurses 11)) = true := by kernel_rfl

theorem k13 : ((Rows.verifyCertainRow.named == Tryz.pinned.checked.prog.varsNamed 11)) = true := by kernel_rfl

theorem k14 : ((Rows.verifyCertainRow.maps == (Tryz.f11.params.toList ++ Rows.verifyCertainSpec.plain.varTypes Tryz.pinned.checked.prog).any (Tryz.pinned.checked.prog.mapsRec ·))) = true := by kernel_rfl

theorem k15 : ((Rows.verifyCertainRow.ifaces == (Tryz.f11.params.toList ++ Rows.verifyCertainSpec.plain.varTypes Tryz.pinned.checked.prog).any (Tryz.pinned.checked.prog.ifacesRec ·))) = true := by kernel_rfl

theorem k16 : ((Rows.verifyCertainRow.mapsOut == Tryz.pinned.checked.prog.mapsAmong Tryz.f11.resultTypes.toList)) = true := by kernel_rfl

end Go.Proofs.YtephkjicokbckaaGreatDoor.verifyCertain
end

section
set_option linter.unusedVariables false

set_option linter.unusedSimpArgs false

namespace Go.Proofs.YtephkjicokbckaaGreatDoor.verifyCertain

open Go Go.Proofs

theorem and2 {a b : Bool} (ha : a = true) (hb : b = true) : (a && b) = true := by rw [ha, hb]; rfl

theorem k17 : ((Rows.verifyCertainRow.loops == (Tryz.f11.params.toList ++ Rows.verifyCertainSpec.plain.varTypes Tryz.pinned.checked.prog).any (Tryz.pinned.checked.prog.loopsFrom ·))) = true := by kernel_rfl

theorem k17b : ((Rows.verifyCertainRow.wideKeys == (Tryz.f11.params.toList ++ Rows.verifyCertainSpec.plain.varTypes Tryz.pinned.checked.prog ++ Tryz.f11.resultTypes.toList).any (Tryz.pinned.checked.prog.wideKeysFrom ·))) = true := by kernel_rfl

theorem k18 : (Rows.verifyCertainSpec.vars.all (Tryz.pinned.checked.prog.varReadable ·)) = true := by kernel_rfl

theorem k19 : (Tryz.f11.resultTypes.all (fun t => Tryz.pinned.checked.prog.readableRec t && decide (t < Tryz.pinned.checked.prog.types.size))) = true := by kernel_rfl

theorem k20 : ((Rows.verifyCertainRow.ifacesOut == Tryz.f11.resultTypes.toList.any (Tryz.pinned.checked.prog.ifacesRec ·))) = true := by kernel_rfl

theorem k21 : ((Rows.verifyCertainRow.loopsOut == Tryz.f11.resultTypes.toList.any (Tryz.pinned.checked.prog.loopsFrom ·))) = true := by kernel_rfl

theorem k22 : ((Rows.verifyCertainRow.plainKeys == Tryz.pinned.checked.prog.plainKeys)) = true := by kernel_rfl

theorem k23 : (Rows.verifyCertainRow.shortTexts.isNone) = true := by kernel_rfl

theorem k23b : (Tryz.pinned.checked.prog.stopsHeard) = true := by kernel_rfl

theorem k24 : (Tryz.pinned.checked.prog.mayEnter) = true := by kernel_rfl

theorem k24b : ((Rows.verifyCertainRow.lifted == Tryz.pinned.checked.prog.liftsFinal)) = true := by kernel_rfl

theorem k24c : ((Tryz.pinned.checked.prog.make == some Rows.verifyCertainRow.make)) = true := by kernel_rfl

theorem k25 : ((Rows.verifyCertainRow.kinds == (if Rows.verifyCertainRow.domain.isEmpty then [] else Tryz.f11.params.toList.map fun t => match Tryz.pinned.checked.prog.underlying t with | some (.int k) => some k | _ => none))) = true := by kernel_rfl

theorem k26 : ((Rows.verifyCertainRow.pinned == Rows.verifyCertainRow.pinnedBy)) = true := by kernel_rfl

theorem k27 : ((Rows.verifyCertainRow.veiled == (Tryz.f11.params.toList ++ Rows.verifyCertainSpec.plain.varTypes Tryz.pinned.checked.prog ++ Tryz.f11.resultTypes.toList).any (Tryz.pinned.checked.prog.veiledRec ·))) = true := by kernel_rfl

theorem k28 : (Rows.verifyCertainRow.veiledFits Tryz.pinned.checked.prog Tryz.f11.params.toList (Tryz.f11.params.toList ++ Rows.verifyCertainSpec.plain.varTypes Tryz.pinned.checked.prog ++ Tryz.f11.resultTypes.toList)) = true := by kernel_rfl

theorem named : Tryz.pinned.checked.prog.funcNamed Rows.verifyCertainRow.func = some 11 := by kernel_rfl

theorem inst : Tryz.f11.isInstance Tryz.pinned.checked.prog Rows.verifyCertainRow.origin Rows.verifyCertainRow.targs := of_decide_eq_true (by kernel_rfl)

theorem wrap : Tryz.f11.isWrapper Tryz.pinned.checked.prog Rows.verifyCertainRow.wrapper Rows.verifyCertainRow.mainSum := by unfold Func.isWrapper; first | (rw [if_pos (by decide +kernel)]; kernel_rfl) | (rw [if_neg (by decide +kernel)]; exact ⟨rfl, rfl⟩)

theorem card_wf : Rows.verifyCertainRow.wfByText (OpenSpec.ofChange Rows.verifyCertainSpec) = true := by kernel_rfl

theorem card_goes : false = Rows.verifyCertainRow.goesBy Tryz.pinned.checked.prog := by kernel_rfl

theorem card_looks : false = Tryz.pinned.checked.prog.looks [] := by kernel_rfl

theorem card_params : (([25, 27, 27, 3, 50, 67] : List TypeId).all fun u => !Tryz.pinned.checked.prog.wantsStandIn u) = true := by kernel_rfl

theorem card_main : Tryz.pinned.checked.prog.mainIs = some (Rows.verifyCertainCard.stood.harness.1, Rows.verifyCertainCard.stood.harness.2.toList) := by kernel_rfl

end Go.Proofs.YtephkjicokbckaaGreatDoor.verifyCertain
end
