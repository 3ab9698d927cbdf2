/- ChipSame: the statement. -/
import Derived.Test.YtlbekjokdlkghaaGreatChipSameTo9
import Derived.Test.YtlbekjokdlkghaaGreatChipSameVSame

set_option linter.unusedVariables false

set_option linter.unusedSimpArgs false

namespace Go.Proofs.YtlbekjokdlkghaaGreat.chipSame

open Go Go.Vx Go.Gm Go.RowKit Go.WideShapes Go.ChangeShapes Go.Deep Go.Joins Go.Proofs

set_option maxRecDepth 100000 in
theorem lifted (os : Os) (started : os.Started) (H : Type) (enc : TypeId × Value → H) :
    ReturnsInHanded {} Tryz.checked os 7 .any (Rows.chipSameSpec.pre6 enc Tryz.prog Tryz.f7 Rows.chipSameRow.domain false) (Rows.chipSameSpec.post enc Tryz.prog Tryz.f7 false true false false) := by
  refine returnsInHanded_of_change (C := Tryz.checked) Tryz.own0 started (by kernel_rfl) Tryz.func7
    (ChangeSpec.witness6 (enc := enc) (C := Tryz.checked) false ⟨#[], #[.agg #[.slice none 0 0, .int .i64 0, .slice none 0 0, .int .i64 0, .int .i64 0, .int .i64 0, .int .i64 0, .int .i64 0, .int .i64 0, .int .i64 0, .slice none 0 0, .slice none 0 0, .slice none 0 0, .int .i64 0]], []⟩ 8 (by kernel_rfl) (by kernel_rfl) (by kernel_rfl) (by kernel_rfl)) ?_
  intro W base args ds gs before hval0 hW hcnd _
  have hval : ∀ (j : Nat) t v, Tryz.f7.params[j]? = some t → args[j]? = some v → Value.okWide Tryz.prog W .any base t v := hval0
  have hW' := hW
  obtain ⟨p, q, hA0, hV, rfl, hfz, hnd⟩ := hW
  have hA : DataW.TrodAll enc Tryz.prog W 0 (fun _ => true) true Tryz.f7.params.toList args.toList ds p := hA0
  rw [Tryz.params7] at hA hval
  obtain ⟨v0, vs0, d0, ds0, p0, q0, hargs, rfl, rfl, h0, r0⟩ := trodAll_cons hA
  obtain ⟨rfl, rfl, rfl⟩ := trodAll_nil r0
  obtain rfl : args = #[v0] := by cases args; simp_all
  obtain ⟨N0, C0, cores0, l0, ticks0, pn0, cn0, bn0, on0, qs0, cs0, bs0, os0, pd0, cd0, bd0, od0, pc0, cc0, bc0, oc0, pe0, ce0, be0, oe0, rfl, hN0, hC0, hcw0, hlw0, hti0, hlens0, ⟨hcd0, hce0⟩, hs10, hs20, hsd0, hsc0, hse0⟩ := open_case8 (hval 0 33 v0 rfl rfl) h0
  refine (ChipSame_any ⟨⟨C0, pd0, cd0, N0, pn0, cn0, qs0, cs0⟩, cores0, pc0, cc0, l0, pe0, ce0, ticks0⟩ W ⟨⟨hN0, hC0, hcd0, ⟨_, _, hsd0⟩, ⟨_, _, hs10⟩, ⟨_, _, hs20⟩⟩, hcw0, ⟨_, _, hsc0⟩, hlw0, ⟨_, _, hse0⟩, hce0, hti0⟩).mono fun e W' ⟨he, hs⟩ => ⟨_, he, ?_⟩
  exact law_post Tryz.laid0 (by kernel_rfl) rfl (by kernel_rfl) Tryz.underlying4 rfl hW' hs

set_option maxRecDepth 100000 in
theorem closed : joinedFacts Tryz.pinned.checked.prog 7 Tryz.f7 Rows.chipSameSpec Rows.chipSameRow = true := and2 (and2 (and2 (and2 (and2 (and2 (and2 (and2 (and2 (and2 (and2 (and2 (and2 (and2 (and2 (and2 (and2 (and2 (and2 (and2 (and2 (and2 (and2 (and2 (and2 (and2 (and2 (and2 (and2 (and2 (and2 (k1) k2) k3) k4) k5) k6) k7) k8) k9) k10) k11) k12) k13) k14) k15) k16) k17) k17b) k18) k19) k20) k21) k22) k23) k23b) k24) k24b) k24c) k25) k26) k27) k28

theorem lifted2 (os : Os) (started : os.Started) (H : Type) (enc : TypeId × Value → H) : ReturnsInHanded Rows.chipSameRow.assume Tryz.pinned.checked os 7 .any (Rows.chipSameRow.pre enc Tryz.pinned.checked.prog Tryz.f7 (OpenSpec.ofChange Rows.chipSameSpec)) (Rows.chipSameSpec.post enc Tryz.pinned.checked.prog Tryz.f7 Rows.chipSameRow.apart Rows.chipSameRow.fresh Rows.chipSameRow.handsOn Rows.chipSameRow.again) := lifted os started H enc

theorem holds : Rows.ChipSameSaid :=
  OpenClaim.holds_of_wide 7 Tryz.f7 rfl rfl rfl rfl rfl rfl rfl ⟨rfl, rfl, rfl, rfl, rfl⟩ rfl rfl rfl rfl rfl named Tryz.func7 closed inst wrap (fun os started H enc _ => lifted2 os started H enc)

end Go.Proofs.YtlbekjokdlkghaaGreat.chipSame
