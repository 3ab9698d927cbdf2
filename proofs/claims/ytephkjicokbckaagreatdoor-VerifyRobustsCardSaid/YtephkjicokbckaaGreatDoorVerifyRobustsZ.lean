/- VerifyRobusts: the statement. -/
import Derived.Test.YtephkjicokbckaaGreatDoorVerifyRobustsWk
import Derived.Test.YtephkjicokbckaaGreatDoorCards
import Derived.Test.YtephkjicokbckaaGreatDoorVerifyRobustsTo6
import Derived.Test.YtephkjicokbckaaGreatDoorVerifyRobustsSu
import Derived.Test.YtephkjicokbckaaGreatDoorVerifyRobustsVRobusts

set_option linter.unusedVariables false

set_option linter.unusedSimpArgs false

namespace Go.Proofs.YtephkjicokbckaaGreatDoor.verifyRobusts

open Go Go.Vx Go.Gm Go.RowKit Go.WideShapes Go.ChangeShapes Go.Deep Go.Joins Go.Proofs

set_option maxRecDepth 100000 in
theorem lifted (os : Os) (started : os.Started) (H : Type) (enc : TypeId × Value → H) :
    ReturnsInHanded {} Tryz.checked os 12 .any (fun w args => (Rows.verifyRobustsSpec.pre enc Tryz.prog Tryz.f12 [] false w args ∧ laidMetH Tryz.prog laid3 w) ∧ sizedMet enc Tryz.prog Tryz.f12 (OpenSpec.ofChange Rows.verifyRobustsSpec) false w args) (Rows.verifyRobustsSpec.post enc Tryz.prog Tryz.f12 false true false false) := by
  refine returnsInHanded_of_change_and (C := Tryz.checked) (X := fun w _ => laidMetH Tryz.prog laid3 w) (fun _ _ _ hh h => h.of_heap hh) Tryz.own0 started (by kernel_rfl) Tryz.func12
    (ChangeSpec.witness_shaped (enc := enc) (C := Tryz.checked) (os := os) (X := fun w _ => laidMetH Tryz.prog laid3 w) false (World.doorLaid Tryz.prog 4000 os) #[.agg #[.slice none 0 0, .int .i64 0, .slice none 0 0, .slice none 0 0, .int .i64 0, .int .i64 0, .int .i64 0, .int .i64 0, .slice none 0 0, .int .i64 0, .int .i64 0, .int .i64 0, .int .i64 0]] 8 rfl (World.shaped_of_RefB (by kernel_rfl) (by kernel_rfl)) (by kernel_rfl) (by kernel_rfl) (by kernel_rfl) (door_met os _)) ?_
  intro W base args ds gs before hval0 hW _ _ hL _
  have htab := pow_of_laid hL
  have hval : ∀ (j : Nat) t v, Tryz.f12.params[j]? = some t → args[j]? = some v → Value.okWide Tryz.prog W .any base t v := hval0
  have hW' := hW
  obtain ⟨p, q, hA0, hV, rfl, hfz, hnd⟩ := hW
  have hA : DataW.TrodAll enc Tryz.prog W 0 (fun _ => true) true Tryz.f12.params.toList args.toList ds p := hA0
  rw [Tryz.params12] at hA hval
  obtain ⟨v0, vs0, d0, ds0, p0, q0, hargs, rfl, rfl, h0, r0⟩ := trodAll_cons hA
  obtain ⟨rfl, rfl, rfl⟩ := trodAll_nil r0
  obtain rfl : args = #[v0] := by cases args; simp_all
  obtain ⟨N0, l0, ja0, jb0, jc0, c0, pn0, cn0, bn0, on0, qs0, cs0, bs0, os0, pe0, ce0, be0, oe0, pc0, cc0, bc0, oc0, rfl, hN0, _, hl0, hja0, hjb0, hjc0, hc0, hs10, hs20, hs30, hle0, hs40, hlc0⟩ := open_case (hval 0 80 v0 rfl rfl) h0
  refine (VerifyRobusts_any N0 hN0 l0 hl0 ja0 hja0 jb0 hjb0 jc0 hjc0 c0 hc0 pn0 cn0 bn0 on0 qs0 cs0 bs0 os0 pe0 ce0 be0 oe0 pc0 cc0 bc0 oc0 W htab hs10 hs20 hs30 hle0 hs40 hlc0).mono fun e W' ⟨he, hs⟩ => ⟨_, he, ?_⟩
  exact law_post Tryz.laid0 (by kernel_rfl) rfl (by kernel_rfl) Tryz.underlying4 rfl hW' hs

set_option maxRecDepth 100000 in
theorem closed : joinedFacts Tryz.pinned.checked.prog 12 Tryz.f12 Rows.verifyRobustsSpec Rows.verifyRobustsRow = true := and2 (and2 (and2 (and2 (and2 (and2 (and2 (and2 (and2 (and2 (and2 (and2 (and2 (and2 (and2 (and2 (and2 (and2 (and2 (and2 (and2 (and2 (and2 (and2 (and2 (and2 (and2 (and2 (and2 (and2 (and2 (k1) k2) k3) k4) k5) k6) k7) k8) k9) k10) k11) k12) k13) k14) k15) k16) k17) k17b) k18) k19) k20) k21) k22) k23) k23b) k24) k24b) k24c) k25) k26) k27) k28

theorem lifted2 (os : Os) (started : os.Started) (H : Type) (enc : TypeId × Value → H) : ReturnsInHanded Rows.verifyRobustsRow.assume Tryz.pinned.checked os 12 .any (Rows.verifyRobustsRow.pre enc Tryz.pinned.checked.prog Tryz.f12 (OpenSpec.ofChange Rows.verifyRobustsSpec)) (Rows.verifyRobustsSpec.post enc Tryz.pinned.checked.prog Tryz.f12 Rows.verifyRobustsRow.apart Rows.verifyRobustsRow.fresh Rows.verifyRobustsRow.handsOn Rows.verifyRobustsRow.again) := lifted os started H enc

theorem holds : Rows.VerifyRobustsSaid :=
  OpenClaim.holds_of_wide 12 Tryz.f12 rfl rfl rfl rfl rfl rfl rfl ⟨rfl, rfl, rfl, rfl, rfl⟩ rfl rfl rfl rfl rfl named Tryz.func12 closed inst wrap (fun os started H enc _ => lifted2 os started H enc)

theorem card_fn (f : FuncId) (fn : Func) (hf : Tryz.pinned.checked.prog.funcNamed Rows.verifyRobustsRow.func = some f) (hfn : Tryz.pinned.checked.prog.funcs[f]? = some fn) : false = Tryz.pinned.checked.prog.looks [] ∧ ∀ (j : Nat) t, fn.params[j]? = some t → Tryz.pinned.checked.prog.wantsStandIn t = false := by
  have e1 : 12 = f := Option.some.inj (named.symm.trans hf)
  rw [← e1] at hfn
  have e2 : Tryz.f12 = fn := Option.some.inj (Tryz.func12.symm.trans hfn)
  refine ⟨card_looks, fun j t ht => ?_⟩
  rw [← e2, Tryz.params12] at ht
  have hm : t ∈ ([80] : List TypeId) := by simpa using Array.mem_of_getElem? ht
  have h := List.all_eq_true.1 card_params t hm
  cases hw : Tryz.pinned.checked.prog.wantsStandIn t with
  | false => rfl
  | true => rw [hw] at h; cases h

theorem card : Rows.VerifyRobustsCardSaid :=
  Claim7.holds_tied_plain_at .later [] [.data, .data, .data] true Rows.verifyRobustsCard.stood.harness false
    holds (fun _ h => nomatch h) card_wf (fun _ h => nomatch h) verifyRobusts_row_tie rfl ⟨rfl, rfl⟩ card_main rfl card_fn card_goes

end Go.Proofs.YtephkjicokbckaaGreatDoor.verifyRobusts
