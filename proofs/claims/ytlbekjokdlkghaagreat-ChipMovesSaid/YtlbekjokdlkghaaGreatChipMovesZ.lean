/- ChipMoves: the statement. -/
import Derived.Test.YtlbekjokdlkghaaGreatChipMovesTo9
import Derived.Test.YtlbekjokdlkghaaGreatChipMovesVMoves

set_option linter.unusedVariables false

set_option linter.unusedSimpArgs false

namespace Go.Proofs.YtlbekjokdlkghaaGreat.chipMoves

open Go Go.Vx Go.Gm Go.RowKit Go.WideShapes Go.ChangeShapes Go.Deep Go.Joins Go.Proofs

set_option maxRecDepth 100000 in
theorem lifted (os : Os) (started : os.Started) (H : Type) (enc : TypeId × Value → H) :
    ReturnsInHanded {} Tryz.checked os 8 .any (Rows.chipMovesSpec.pre6 enc Tryz.prog Tryz.f8 Rows.chipMovesRow.domain false) (Rows.chipMovesSpec.post enc Tryz.prog Tryz.f8 false true false false) := by
  refine returnsInHanded_of_change (C := Tryz.checked) Tryz.own0 started (by kernel_rfl) Tryz.func8
    (ChangeSpec.witness6 (enc := enc) (C := Tryz.checked) false ⟨#[], #[.agg #[.slice none 0 0, .int .i64 0, .slice none 0 0, .int .i64 0, .int .i64 0, .int .i64 0, .int .i64 0, .int .i64 0, .int .i64 0, .int .i64 0, .slice none 0 0, .slice none 0 0, .slice none 0 0, .int .i64 0], .slice none 0 0, .int .u8 0], []⟩ 8 (by kernel_rfl) (by kernel_rfl) (by kernel_rfl) (by kernel_rfl)) ?_
  intro W base args ds gs before hval0 hW hcnd _
  have hval : ∀ (j : Nat) t v, Tryz.f8.params[j]? = some t → args[j]? = some v → Value.okWide Tryz.prog W .any base t v := hval0
  have hW' := hW
  obtain ⟨p, q, hA0, hV, rfl, hfz, hnd⟩ := hW
  have hA : DataW.TrodAll enc Tryz.prog W 0 (fun _ => true) true Tryz.f8.params.toList args.toList ds p := hA0
  rw [Tryz.params8] at hA hval
  obtain ⟨v0, vs0, d0, ds0, p0, q0, hargs, rfl, rfl, h0, r0⟩ := trodAll_cons hA
  obtain ⟨v1, vs1, d1, ds1, p1, q1, rfl, rfl, rfl, h1, r1⟩ := trodAll_cons r0
  obtain ⟨v2, vs2, d2, ds2, p2, q2, rfl, rfl, rfl, h2, r2⟩ := trodAll_cons r1
  obtain ⟨rfl, rfl, rfl⟩ := trodAll_nil r2
  obtain rfl : args = #[v0, v1, v2] := by cases args; simp_all
  obtain ⟨N0, C0, cores0, l0, ticks0, pn0, cn0, bn0, on0, qs0, cs0, bs0, os0, pd0, cd0, bd0, od0, pc0, cc0, bc0, oc0, pe0, ce0, be0, oe0, rfl, hN0, hC0, hcw0, hlw0, hti0, hlens0, ⟨hcd0, hce0⟩, hs10, hs20, hsd0, hsc0, hse0⟩ := gN5 (hval 0 33 v0 rfl rfl) h0
  obtain ⟨l1, pe1, ce1, be1, oe1, rfl, hl1, hle1, hlm1, hse1⟩ := kT7 (hval 1 28 v1 rfl rfl) h1
  obtain ⟨x2, rfl, hx2⟩ := kT6 (hval 2 5 v2 rfl rfl) h2
  refine (fK7 ⟨⟨C0, pd0, cd0, N0, pn0, cn0, qs0, cs0⟩, cores0, pc0, cc0, l0, pe0, ce0, ticks0⟩ W ⟨⟨hN0, hC0, hcd0, ⟨_, _, hsd0⟩, ⟨_, _, hs10⟩, ⟨_, _, hs20⟩⟩, hcw0, ⟨_, _, hsc0⟩, hlw0, ⟨_, _, hse0⟩, hce0, hti0⟩ l1 hl1 pe1 ce1 be1 oe1 hse1 x2 hx2).mono fun e W' ⟨he, hs⟩ => ⟨_, he, ?_⟩
  exact kK7 Tryz.laid0 (by kernel_rfl) rfl (by kernel_rfl) Tryz.underlying4 rfl hW' hs

set_option maxRecDepth 100000 in
theorem closed : joinedFacts Tryz.pinned.checked.prog 8 Tryz.f8 Rows.chipMovesSpec Rows.chipMovesRow = true := and2 (and2 (and2 (and2 (and2 (and2 (and2 (and2 (and2 (and2 (and2 (and2 (and2 (and2 (and2 (and2 (and2 (and2 (and2 (and2 (and2 (and2 (and2 (and2 (and2 (and2 (and2 (and2 (and2 (and2 (and2 (k1) k2) k3) k4) k5) k6) k7) k8) k9) k10) k11) k12) k13) k14) k15) k16) k17) k17b) k18) k19) k20) k21) k22) k23) k23b) k24) k24b) k24c) k25) k26) k27) k28

theorem lifted2 (os : Os) (started : os.Started) (H : Type) (enc : TypeId × Value → H) : ReturnsInHanded Rows.chipMovesRow.assume Tryz.pinned.checked os 8 .any (Rows.chipMovesRow.pre enc Tryz.pinned.checked.prog Tryz.f8 (OpenSpec.ofChange Rows.chipMovesSpec)) (Rows.chipMovesSpec.post enc Tryz.pinned.checked.prog Tryz.f8 Rows.chipMovesRow.apart Rows.chipMovesRow.fresh Rows.chipMovesRow.handsOn Rows.chipMovesRow.again) := lifted os started H enc

theorem holds : Rows.ChipMovesSaid :=
  OpenClaim.holds_of_wide 8 Tryz.f8 rfl rfl rfl rfl rfl rfl rfl ⟨rfl, rfl, rfl, rfl, rfl⟩ rfl rfl rfl rfl rfl named Tryz.func8 closed inst wrap (fun os started H enc _ => lifted2 os started H enc)

end Go.Proofs.YtlbekjokdlkghaaGreat.chipMoves
