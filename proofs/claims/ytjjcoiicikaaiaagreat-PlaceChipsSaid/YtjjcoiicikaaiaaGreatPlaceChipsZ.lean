/- PlaceChips: the statement. -/
import Derived.Test.YtjjcoiicikaaiaaGreatPlaceChipsTo
import Derived.Test.YtjjcoiicikaaiaaGreatPlaceChipsVChips

set_option linter.unusedVariables false

set_option linter.unusedSimpArgs false

namespace Go.Proofs.YtjjcoiicikaaiaaGreat.placeChips

open Go Go.Vx Go.Gm Go.RowKit Go.WideShapes Go.ChangeShapes Go.Deep Go.Joins Go.Proofs

set_option maxRecDepth 100000 in
theorem lifted (os : Os) (started : os.Started) (H : Type) (enc : TypeId × Value → H) :
    ReturnsInHanded {} Tryz.checked os 3 .any (Rows.placeChipsSpec.pre6 enc Tryz.prog Tryz.f3 Rows.placeChipsRow.domain false) (Rows.placeChipsSpec.post enc Tryz.prog Tryz.f3 false true false false) := by
  refine returnsInHanded_of_change (C := Tryz.checked) Tryz.own0 started (by kernel_rfl) Tryz.func3
    (ChangeSpec.witness6 (enc := enc) (C := Tryz.checked) false ⟨#[], #[.agg #[.int .i64 0, .int .i64 0, .int .i64 0, .int .i64 0, .int .i64 0, .int .i64 0, .int .i64 0, .slice none 0 0]], []⟩ 8 (by kernel_rfl) (by kernel_rfl) (by kernel_rfl) (by kernel_rfl)) ?_
  intro W base args ds gs before hval0 hW hcnd _
  have hval : ∀ (j : Nat) t v, Tryz.f3.params[j]? = some t → args[j]? = some v → Value.okWide Tryz.prog W .any base t v := hval0
  have hW' := hW
  obtain ⟨p, q, hA0, hV, rfl, hfz, hnd⟩ := hW
  have hA : DataW.TrodAll enc Tryz.prog W 0 (fun _ => true) true Tryz.f3.params.toList args.toList ds p := hA0
  rw [Tryz.params3] at hA hval
  obtain ⟨v0, vs0, d0, ds0, p0, q0, hargs, rfl, rfl, h0, r0⟩ := trodAll_cons hA
  obtain ⟨rfl, rfl, rfl⟩ := trodAll_nil r0
  obtain rfl : args = #[v0] := by cases args; simp_all
  obtain ⟨C0, pd0, cd0, bd0, od0, rfl, hC0, hcd0, hml0, hsd0⟩ := open_chp (hval 0 26 v0 rfl rfl) h0
  refine (PlaceChips_any C0 hC0 pd0 cd0 bd0 od0 hcd0 W hsd0).mono fun e W' ⟨he, hs⟩ => ⟨_, he, ?_⟩
  exact law_post Tryz.laid0 (by kernel_rfl) rfl (by kernel_rfl) Tryz.underlying4 rfl hW' hs

theorem holds : Rows.PlaceChipsSaid :=
  OpenClaim.holds_of_wide 3 Tryz.f3 rfl rfl rfl rfl rfl rfl rfl ⟨rfl, rfl, rfl, rfl, rfl⟩ rfl rfl rfl rfl rfl (by kernel_rfl) Tryz.func3 (by kernel_rfl)
    (of_decide_eq_true (by kernel_rfl)) (by unfold Func.isWrapper; first | (rw [if_pos (by decide +kernel)]; kernel_rfl) | (rw [if_neg (by decide +kernel)]; exact ⟨rfl, rfl⟩))
    (fun os started H enc _ => lifted os started H enc)

end Go.Proofs.YtjjcoiicikaaiaaGreat.placeChips
