/- VerifyRuns: the statement. -/

import Derived.Test.YtephkjicokbckaaGreatDoorVerifyRunsCd
import Derived.Test.YtephkjicokbckaaGreatDoorCards
import Derived.Test.YtephkjicokbckaaGreatDoorVerifyRunsVRuns

set_option linter.unusedVariables false

set_option linter.unusedSimpArgs false

namespace Go.Proofs.YtephkjicokbckaaGreatDoor.verifyRuns

open Go Go.Vx Go.Gm Go.RowKit Go.WideShapes Go.ChangeShapes Go.Deep Go.Joins Go.Proofs

set_option maxRecDepth 100000 in
theorem lifted (os : Os) (started : os.Started) (H : Type) (enc : TypeId × Value → H) :
    ReturnsInHanded {} Tryz.checked os 6 .any (fun w args => (Rows.verifyRunsSpec.pre enc Tryz.prog Tryz.f6 [] false w args ∧ laidMetH Tryz.prog laid3 w) ∧ sizedMet enc Tryz.prog Tryz.f6 (OpenSpec.ofChange Rows.verifyRunsSpec) false w args) (Rows.verifyRunsSpec.post enc Tryz.prog Tryz.f6 false true false false) := by
  refine returnsInHanded_of_change_and (C := Tryz.checked) (X := fun w _ => laidMetH Tryz.prog laid3 w) (fun _ _ _ hh h => h.of_heap hh) Tryz.own0 started (by kernel_rfl) Tryz.func6
    (ChangeSpec.witness_shaped (enc := enc) (C := Tryz.checked) (os := os) (X := fun w _ => laidMetH Tryz.prog laid3 w) false (World.doorLaid Tryz.prog 4000 os) #[.slice none 0 0, .int .i64 0, .int .i64 0] 8 rfl (World.shaped_of_RefB (by kernel_rfl) (by kernel_rfl)) (by kernel_rfl) (by kernel_rfl) (by kernel_rfl) (door_met os _)) ?_
  intro W base args ds gs before hval0 hW _ _ hL _
  have htab := pow_of_laid hL
  have hval : ∀ (j : Nat) t v, Tryz.f6.params[j]? = some t → args[j]? = some v → Value.okWide Tryz.prog W .any base t v := hval0
  have hW' := hW
  obtain ⟨p, q, hA0, hV, rfl, hfz, hnd⟩ := hW
  have hA : DataW.TrodAll enc Tryz.prog W 0 (fun _ => true) true Tryz.f6.params.toList args.toList ds p := hA0
  rw [Tryz.params6] at hA hval
  obtain ⟨v0, vs0, d0, ds0, p0, q0, hargs, rfl, rfl, h0, r0⟩ := trodAll_cons hA
  obtain ⟨v1, vs1, d1, ds1, p1, q1, rfl, rfl, rfl, h1, r1⟩ := trodAll_cons r0
  obtain ⟨v2, vs2, d2, ds2, p2, q2, rfl, rfl, rfl, h2, r2⟩ := trodAll_cons r1
  obtain ⟨rfl, rfl, rfl⟩ := trodAll_nil r2
  obtain rfl : args = #[v0, v1, v2] := by cases args; simp_all
  obtain ⟨l0, pe0, ce0, be0, oe0, rfl, hl0, hle0, hlm0, hse0⟩ := open_evts (hval 0 27 v0 rfl rfl) h0
  obtain ⟨x1, rfl, hx1⟩ := open_i64 (hval 1 3 v1 rfl rfl) h1
  obtain ⟨x2, rfl, hx2⟩ := open_i64 (hval 2 3 v2 rfl rfl) h2
  refine (VerifyRuns_any l0 hl0 x1 hx1 x2 hx2 pe0 ce0 be0 oe0 W htab hse0 hle0).mono fun e W' ⟨he, hs⟩ => ⟨_, he, ?_⟩
  exact law_post Tryz.laid0 (by kernel_rfl) rfl (by kernel_rfl) Tryz.underlying4 rfl hW' hs

theorem closed : joinedFacts Tryz.pinned.checked.prog 6 Tryz.f6 Rows.verifyRunsSpec Rows.verifyRunsRow = true := by kernel_rfl

theorem named : Tryz.pinned.checked.prog.funcNamed Rows.verifyRunsRow.func = some 6 := by kernel_rfl

theorem lifted2 (os : Os) (started : os.Started) (H : Type) (enc : TypeId × Value → H) : ReturnsInHanded Rows.verifyRunsRow.assume Tryz.pinned.checked os 6 .any (Rows.verifyRunsRow.pre enc Tryz.pinned.checked.prog Tryz.f6 (OpenSpec.ofChange Rows.verifyRunsSpec)) (Rows.verifyRunsSpec.post enc Tryz.pinned.checked.prog Tryz.f6 Rows.verifyRunsRow.apart Rows.verifyRunsRow.fresh Rows.verifyRunsRow.handsOn Rows.verifyRunsRow.again) := lifted os started H enc

theorem inst : Tryz.f6.isInstance Tryz.pinned.checked.prog Rows.verifyRunsRow.origin Rows.verifyRunsRow.targs := of_decide_eq_true (by kernel_rfl)

theorem wrap : Tryz.f6.isWrapper Tryz.pinned.checked.prog Rows.verifyRunsRow.wrapper Rows.verifyRunsRow.mainSum := by unfold Func.isWrapper; first | (rw [if_pos (by decide +kernel)]; kernel_rfl) | (rw [if_neg (by decide +kernel)]; exact ⟨rfl, rfl⟩)

theorem holds : Rows.VerifyRunsSaid :=
  OpenClaim.holds_of_wide 6 Tryz.f6 rfl rfl rfl rfl rfl rfl rfl ⟨rfl, rfl, rfl, rfl, rfl⟩ rfl rfl rfl rfl rfl named Tryz.func6 closed inst wrap (fun os started H enc _ => lifted2 os started H enc)

theorem card_wf : Rows.verifyRunsRow.wfByText (OpenSpec.ofChange Rows.verifyRunsSpec) = true := by kernel_rfl

theorem card_goes : false = Rows.verifyRunsRow.goesBy Tryz.pinned.checked.prog := by kernel_rfl

theorem card_looks : false = Tryz.pinned.checked.prog.looks [] := by kernel_rfl

theorem card_params : (([27, 3, 3] : List TypeId).all fun u => !Tryz.pinned.checked.prog.wantsStandIn u) = true := by kernel_rfl

theorem card_main : Tryz.pinned.checked.prog.mainIs = some (Rows.verifyRunsCard.stood.harness.1, Rows.verifyRunsCard.stood.harness.2.toList) := by kernel_rfl

theorem card_fn (f : FuncId) (fn : Func) (hf : Tryz.pinned.checked.prog.funcNamed Rows.verifyRunsRow.func = some f) (hfn : Tryz.pinned.checked.prog.funcs[f]? = some fn) : false = Tryz.pinned.checked.prog.looks [] ∧ ∀ (j : Nat) t, fn.params[j]? = some t → Tryz.pinned.checked.prog.wantsStandIn t = false := by
  have e1 : 6 = f := Option.some.inj (named.symm.trans hf)
  rw [← e1] at hfn
  have e2 : Tryz.f6 = fn := Option.some.inj (Tryz.func6.symm.trans hfn)
  refine ⟨card_looks, fun j t ht => ?_⟩
  rw [← e2, Tryz.params6] at ht
  have hm : t ∈ ([27, 3, 3] : List TypeId) := by simpa using Array.mem_of_getElem? ht
  have h := List.all_eq_true.1 card_params t hm
  cases hw : Tryz.pinned.checked.prog.wantsStandIn t with
  | false => rfl
  | true => rw [hw] at h; cases h

theorem card : Rows.VerifyRunsCardSaid :=
  Claim7.holds_tied_plain_at .later [] [.data, .data, .data] true Rows.verifyRunsCard.stood.harness false
    holds (fun _ h => nomatch h) card_wf (fun _ h => nomatch h) verifyRuns_row_tie rfl ⟨rfl, rfl⟩ card_main rfl card_fn card_goes

end Go.Proofs.YtephkjicokbckaaGreatDoor.verifyRuns
