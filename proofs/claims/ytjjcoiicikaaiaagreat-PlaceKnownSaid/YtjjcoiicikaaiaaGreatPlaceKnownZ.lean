/- PlaceKnown: the statement. -/
import Derived.Test.YtjjcoiicikaaiaaGreatPlaceKnownSq
import Derived.Test.YtjjcoiicikaaiaaGreatPlaceKnownVKnownQ

set_option linter.unusedVariables false

set_option linter.unusedSimpArgs false

namespace Go.Proofs.YtjjcoiicikaaiaaGreat.placeKnown

open Go Go.Vx Go.Gm Go.RowKit Go.WideShapes Go.ChangeShapes Go.Deep Go.Joins Go.Proofs

set_option maxRecDepth 100000 in
theorem lifted (os : Os) (started : os.Started) (H : Type) (enc : TypeId × Value → H) :
    ReturnsInHanded {} Tryz.checked os 13 .any (Rows.placeKnownSpec.pre6 enc Tryz.prog Tryz.f13 Rows.placeKnownRow.domain false) (Rows.placeKnownSpec.post enc Tryz.prog Tryz.f13 false true false false) := by
  refine returnsInHanded_of_change (C := Tryz.checked) Tryz.own0 started (by kernel_rfl) Tryz.func13
    (ChangeSpec.witness6 (enc := enc) (C := Tryz.checked) false ⟨#[], #[], []⟩ 8 (by kernel_rfl) (by kernel_rfl) (by kernel_rfl) (by kernel_rfl)) ?_
  intro W base args ds gs before hval0 hW hcnd _
  have hval : ∀ (j : Nat) t v, Tryz.f13.params[j]? = some t → args[j]? = some v → Value.okWide Tryz.prog W .any base t v := hval0
  have hW' := hW
  obtain ⟨p, q, hA0, hV, rfl, hfz, hnd⟩ := hW
  have hA : DataW.TrodAll enc Tryz.prog W 0 (fun _ => true) true Tryz.f13.params.toList args.toList ds p := hA0
  rw [Tryz.params13] at hA hval
  obtain ⟨hargs0, rfl, rfl⟩ := trodAll_nil hA
  obtain rfl : args = #[] := by cases args; simp_all
  refine (PlaceKnown_any W).mono fun e W' ⟨he, hs⟩ => ⟨_, he, ?_⟩
  exact law_post Tryz.laid0 (by kernel_rfl) rfl (by kernel_rfl) Tryz.underlying4 rfl hW' hs

set_option maxRecDepth 100000 in
theorem closed : joinedFacts Tryz.pinned.checked.prog 13 Tryz.f13 Rows.placeKnownSpec Rows.placeKnownRow = true := and2 (and2 (and2 (and2 (and2 (and2 (and2 (and2 (and2 (and2 (and2 (and2 (and2 (and2 (and2 (and2 (and2 (and2 (and2 (and2 (and2 (and2 (and2 (and2 (and2 (and2 (and2 (and2 (and2 (and2 (and2 (k1) k2) k3) k4) k5) k6) k7) k8) k9) k10) k11) k12) k13) k14) k15) k16) k17) k17b) k18) k19) k20) k21) k22) k23) k23b) k24) k24b) k24c) k25) k26) k27) k28

theorem lifted2 (os : Os) (started : os.Started) (H : Type) (enc : TypeId × Value → H) : ReturnsInHanded Rows.placeKnownRow.assume Tryz.pinned.checked os 13 .any (Rows.placeKnownRow.pre enc Tryz.pinned.checked.prog Tryz.f13 (OpenSpec.ofChange Rows.placeKnownSpec)) (Rows.placeKnownSpec.post enc Tryz.pinned.checked.prog Tryz.f13 Rows.placeKnownRow.apart Rows.placeKnownRow.fresh Rows.placeKnownRow.handsOn Rows.placeKnownRow.again) := lifted os started H enc

theorem holds : Rows.PlaceKnownSaid :=
  OpenClaim.holds_of_wide 13 Tryz.f13 rfl rfl rfl rfl rfl rfl rfl ⟨rfl, rfl, rfl, rfl, rfl⟩ rfl rfl rfl rfl rfl named Tryz.func13 closed inst wrap (fun os started H enc _ => lifted2 os started H enc)

end Go.Proofs.YtjjcoiicikaaiaaGreat.placeKnown
