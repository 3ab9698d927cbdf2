/- PlaceWays: the statement. -/
import Derived.Test.YtjjcoiicikaaiaaGreatPlaceWaysTo
import Derived.Test.YtjjcoiicikaaiaaGreatPlaceWaysDm
import Derived.Test.YtjjcoiicikaaiaaGreatPlaceWaysVWays

set_option linter.unusedVariables false

set_option linter.unusedSimpArgs false

namespace Go.Proofs.YtjjcoiicikaaiaaGreat.placeWays

open Go Go.Vx Go.Gm Go.RowKit Go.WideShapes Go.ChangeShapes Go.Deep Go.Joins Go.Proofs

set_option maxRecDepth 100000 in
theorem lifted (os : Os) (started : os.Started) (H : Type) (enc : TypeId × Value → H) :
    ReturnsInHanded {} Tryz.checked os 14 .any (Rows.placeWaysSpec.pre6 enc Tryz.prog Tryz.f14 Rows.placeWaysRow.domain false) (Rows.placeWaysSpec.post enc Tryz.prog Tryz.f14 false true false false) := by
  refine returnsInHanded_of_change (C := Tryz.checked) Tryz.own0 started (by kernel_rfl) Tryz.func14
    (ChangeSpec.witness6 (enc := enc) (C := Tryz.checked) false ⟨#[], #[.agg #[.slice none 0 0, .int .i64 0, .slice none 0 0], .agg #[.int .i64 0, .int .i64 0, .int .i64 0, .int .i64 0, .int .i64 0, .int .i64 0, .int .i64 0, .slice none 0 0], .slice none 0 0], []⟩ 8 (by kernel_rfl) (by kernel_rfl) (by kernel_rfl) (by kernel_rfl)) ?_
  intro W base args ds gs before hval0 hW hcnd _
  have hval : ∀ (j : Nat) t v, Tryz.f14.params[j]? = some t → args[j]? = some v → Value.okWide Tryz.prog W .any base t v := hval0
  have hW' := hW
  obtain ⟨p, q, hA0, hV, rfl, hfz, hnd⟩ := hW
  have hA : DataW.TrodAll enc Tryz.prog W 0 (fun _ => true) true Tryz.f14.params.toList args.toList ds p := hA0
  rw [Tryz.params14] at hA hval
  obtain ⟨v0, vs0, d0, ds0, p0, q0, hargs, rfl, rfl, h0, r0⟩ := trodAll_cons hA
  obtain ⟨v1, vs1, d1, ds1, p1, q1, rfl, rfl, rfl, h1, r1⟩ := trodAll_cons r0
  obtain ⟨v2, vs2, d2, ds2, p2, q2, rfl, rfl, rfl, h2, r2⟩ := trodAll_cons r1
  obtain ⟨rfl, rfl, rfl⟩ := trodAll_nil r2
  obtain rfl : args = #[v0, v1, v2] := by cases args; simp_all
  obtain ⟨N0, pn0, cn0, bn0, on0, qs0, cs0, bs0, os0, rfl, hN0, hlp0, hls0, hs10, hs20⟩ := open_net (hval 0 39 v0 rfl rfl) h0
  obtain ⟨C1, pd1, cd1, bd1, od1, rfl, hC1, hcd1, hml1, hsd1⟩ := open_chp (hval 1 26 v1 rfl rfl) h1
  obtain ⟨l2, pe2, ce2, be2, oe2, rfl, hl2, hle2, hlm2, hse2⟩ := open_is (hval 2 24 v2 rfl rfl) h2
  refine (PlaceWays_any ⟨C1, pd1, cd1, N0, pn0, cn0, qs0, cs0⟩ l2 hl2 pe2 ce2 be2 oe2 W ⟨hN0, hC1, hcd1, ⟨_, _, hsd1⟩, ⟨_, _, hs10⟩, ⟨_, _, hs20⟩⟩ hse2).mono fun e W' ⟨he, hs⟩ => ⟨_, he, ?_⟩
  exact law_post Tryz.laid0 (by kernel_rfl) rfl (by kernel_rfl) Tryz.underlying4 rfl hW' hs

set_option maxRecDepth 100000 in
theorem closed : joinedFacts Tryz.pinned.checked.prog 14 Tryz.f14 Rows.placeWaysSpec Rows.placeWaysRow = true := and2 (and2 (and2 (and2 (and2 (and2 (and2 (and2 (and2 (and2 (and2 (and2 (and2 (and2 (and2 (and2 (and2 (and2 (and2 (and2 (and2 (and2 (and2 (and2 (and2 (and2 (and2 (and2 (and2 (and2 (and2 (k1) k2) k3) k4) k5) k6) k7) k8) k9) k10) k11) k12) k13) k14) k15) k16) k17) k17b) k18) k19) k20) k21) k22) k23) k23b) k24) k24b) k24c) k25) k26) k27) k28

theorem lifted2 (os : Os) (started : os.Started) (H : Type) (enc : TypeId × Value → H) : ReturnsInHanded Rows.placeWaysRow.assume Tryz.pinned.checked os 14 .any (Rows.placeWaysRow.pre enc Tryz.pinned.checked.prog Tryz.f14 (OpenSpec.ofChange Rows.placeWaysSpec)) (Rows.placeWaysSpec.post enc Tryz.pinned.checked.prog Tryz.f14 Rows.placeWaysRow.apart Rows.placeWaysRow.fresh Rows.placeWaysRow.handsOn Rows.placeWaysRow.again) := lifted os started H enc

theorem holds : Rows.PlaceWaysSaid :=
  OpenClaim.holds_of_wide 14 Tryz.f14 rfl rfl rfl rfl rfl rfl rfl ⟨rfl, rfl, rfl, rfl, rfl⟩ rfl rfl rfl rfl rfl named Tryz.func14 closed inst wrap (fun os started H enc _ => lifted2 os started H enc)

end Go.Proofs.YtjjcoiicikaaiaaGreat.placeWays
