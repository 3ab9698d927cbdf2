import Derived.Test.YtjjcoiicikaaiaaGreatRows
import Derived.Stop.Joined
set_option linter.unusedVariables false
set_option linter.unusedSimpArgs false
set_option maxHeartbeats 4000000
section

namespace Go.Proofs.YtjjcoiicikaaiaaGreat.placeRows

open Go Go.Proofs

theorem k1 : (Rows.placeRowsRow.wf (OpenSpec.ofChange Rows.placeRowsSpec)) = true := by kernel_rfl

theorem k2 : (laidOutB Tryz.pinned.checked.prog) = true := by kernel_rfl

theorem k3 : (mapsRowed Tryz.pinned.checked.prog) = true := by kernel_rfl

theorem k4 : (Tryz.f8.params.all (Tryz.pinned.checked.prog.readableRec ·)) = true := by kernel_rfl

theorem k5 : (namedTie Tryz.pinned.checked.prog Rows.placeRowsRow.named Rows.placeRowsSpec.vars) = true := by kernel_rfl

theorem k6 : ((Rows.placeRowsRow.stops == [])) = true := by kernel_rfl

theorem k7 : ((Tryz.pinned.checked.prog.stops == [])) = true := by kernel_rfl

theorem k8 : ((Rows.placeRowsRow.knobs == [])) = true := by kernel_rfl

theorem k9 : ((Tryz.pinned.checked.prog.stopKnobs == [])) = true := by kernel_rfl

theorem k10 : ((Rows.placeRowsRow.inPlace == Tryz.pinned.checked.prog.inPlace 8)) = true := by kernel_rfl

theorem k11 : ((Rows.placeRowsRow.unfollowed == Tryz.pinned.checked.prog.unfollowed 8)) = true := by kernel_rfl

theorem k12 : ((Rows.placeRowsRow.recurses == Tryz.pinned.checked.prog.recurses 8)) = true := by kernel_rfl

theorem k13 : ((Rows.placeRowsRow.named == Tryz.pinned.checked.prog.varsNamed 8)) = true := by kernel_rfl

theorem k14 : ((Rows.placeRowsRow.maps == (Tryz.f8.params.toList ++ Rows.placeRowsSpec.plain.varTypes Tryz.pinned.checked.prog).any (Tryz.pinned.checked.prog.mapsRec ·))) = true := by kernel_rfl

theorem k15 : ((Rows.placeRowsRow.ifaces == (Tryz.f8.params.toList ++ Rows.placeRowsSpec.plain.varTypes Tryz.pinned.checked.prog).any (Tryz.pinned.checked.prog.ifacesRec ·))) = true := by kernel_rfl

theorem k16 : ((Rows.placeRowsRow.mapsOut == Tryz.pinned.checked.prog.mapsAmong Tryz.f8.resultTypes.toList)) = true := by kernel_rfl

end Go.Proofs.YtjjcoiicikaaiaaGreat.placeRows
end

section

namespace Go.Proofs.YtjjcoiicikaaiaaGreat.placeRows

open Go Go.Proofs

theorem and2 {a b : Bool} (ha : a = true) (hb : b = true) : (a && b) = true := by rw [ha, hb]; rfl

theorem k17 : ((Rows.placeRowsRow.loops == (Tryz.f8.params.toList ++ Rows.placeRowsSpec.plain.varTypes Tryz.pinned.checked.prog).any (Tryz.pinned.checked.prog.loopsFrom ·))) = true := by kernel_rfl

theorem k17b : ((Rows.placeRowsRow.wideKeys == (Tryz.f8.params.toList ++ Rows.placeRowsSpec.plain.varTypes Tryz.pinned.checked.prog ++ Tryz.f8.resultTypes.toList).any (Tryz.pinned.checked.prog.wideKeysFrom ·))) = true := by kernel_rfl

theorem k18 : (Rows.placeRowsSpec.vars.all (Tryz.pinned.checked.prog.varReadable ·)) = true := by kernel_rfl

theorem k19 : (Tryz.f8.resultTypes.all (fun t => Tryz.pinned.checked.prog.readableRec t && decide (t < Tryz.pinned.checked.prog.types.size))) = true := by kernel_rfl

theorem k20 : ((Rows.placeRowsRow.ifacesOut == Tryz.f8.resultTypes.toList.any (Tryz.pinned.checked.prog.ifacesRec ·))) = true := by kernel_rfl

theorem k21 : ((Rows.placeRowsRow.loopsOut == Tryz.f8.resultTypes.toList.any (Tryz.pinned.checked.prog.loopsFrom ·))) = true := by kernel_rfl

theorem k22 : ((Rows.placeRowsRow.plainKeys == Tryz.pinned.checked.prog.plainKeys)) = true := by kernel_rfl

theorem k23 : (Rows.placeRowsRow.shortTexts.isNone) = true := by kernel_rfl

theorem k23b : (Tryz.pinned.checked.prog.stopsHeard) = true := by kernel_rfl

theorem k24 : (Tryz.pinned.checked.prog.mayEnter) = true := by kernel_rfl

theorem k24b : ((Rows.placeRowsRow.lifted == Tryz.pinned.checked.prog.liftsFinal)) = true := by kernel_rfl

theorem k24c : ((Tryz.pinned.checked.prog.make == some Rows.placeRowsRow.make)) = true := by kernel_rfl

theorem k25 : ((Rows.placeRowsRow.kinds == (if Rows.placeRowsRow.domain.isEmpty then [] else Tryz.f8.params.toList.map fun t => match Tryz.pinned.checked.prog.underlying t with | some (.int k) => some k | _ => none))) = true := by kernel_rfl

theorem k26 : ((Rows.placeRowsRow.pinned == Rows.placeRowsRow.pinnedBy)) = true := by kernel_rfl

theorem k27 : ((Rows.placeRowsRow.veiled == (Tryz.f8.params.toList ++ Rows.placeRowsSpec.plain.varTypes Tryz.pinned.checked.prog ++ Tryz.f8.resultTypes.toList).any (Tryz.pinned.checked.prog.veiledRec ·))) = true := by kernel_rfl

theorem k28 : (Rows.placeRowsRow.veiledFits Tryz.pinned.checked.prog Tryz.f8.params.toList (Tryz.f8.params.toList ++ Rows.placeRowsSpec.plain.varTypes Tryz.pinned.checked.prog ++ Tryz.f8.resultTypes.toList)) = true := by kernel_rfl

theorem named : Tryz.pinned.checked.prog.funcNamed Rows.placeRowsRow.func = some 8 := by kernel_rfl

theorem inst : Tryz.f8.isInstance Tryz.pinned.checked.prog Rows.placeRowsRow.origin Rows.placeRowsRow.targs := of_decide_eq_true (by kernel_rfl)

theorem wrap : Tryz.f8.isWrapper Tryz.pinned.checked.prog Rows.placeRowsRow.wrapper Rows.placeRowsRow.mainSum := by unfold Func.isWrapper; first | (rw [if_pos (by decide +kernel)]; kernel_rfl) | (rw [if_neg (by decide +kernel)]; exact ⟨rfl, rfl⟩)

end Go.Proofs.YtjjcoiicikaaiaaGreat.placeRows
end
