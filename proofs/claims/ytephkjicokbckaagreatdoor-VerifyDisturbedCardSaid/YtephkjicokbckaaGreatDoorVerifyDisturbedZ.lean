/- VerifyDisturbed: the statement. -/
import Derived.Test.YtephkjicokbckaaGreatDoorVerifyDisturbedMk
import Derived.Test.YtephkjicokbckaaGreatDoorCards
import Derived.Test.YtephkjicokbckaaGreatDoorVerifyDisturbedTo6
import Derived.Test.YtephkjicokbckaaGreatDoorVerifyDisturbedHd
import Derived.Test.YtephkjicokbckaaGreatDoorVerifyDisturbedVDisturbed

set_option linter.unusedVariables false

set_option linter.unusedSimpArgs false

namespace Go.Proofs.YtephkjicokbckaaGreatDoor.verifyDisturbed

open Go Go.Vx Go.Gm Go.RowKit Go.WideShapes Go.ChangeShapes Go.Deep Go.Joins Go.Proofs

set_option maxRecDepth 100000 in
theorem lifted (os : Os) (started : os.Started) (H : Type) (enc : TypeId × Value → H) :
    ReturnsInHanded {} Tryz.checked os 14 .any (fun w args => (Rows.verifyDisturbedSpec.pre enc Tryz.prog Tryz.f14 [] false w args ∧ laidMetH Tryz.prog laid3 w) ∧ sizedMet enc Tryz.prog Tryz.f14 (OpenSpec.ofChange Rows.verifyDisturbedSpec) false w args) (Rows.verifyDisturbedSpec.post enc Tryz.prog Tryz.f14 false true false false) := by
  refine returnsInHanded_of_change_and (C := Tryz.checked) (X := fun w _ => laidMetH Tryz.prog laid3 w) (fun _ _ _ hh h => h.of_heap hh) Tryz.own0 started (by kernel_rfl) Tryz.func14
    (ChangeSpec.witness_shaped (enc := enc) (C := Tryz.checked) (os := os) (X := fun w _ => laidMetH Tryz.prog laid3 w) false (World.doorLaid Tryz.prog 4000 os) #[.agg #[.slice none 0 0, .int .i64 0, .slice none 0 0, .slice none 0 0, .int .i64 0, .int .i64 0, .int .i64 0, .int .i64 0, .slice none 0 0, .int .i64 0, .int .i64 0, .int .i64 0, .int .i64 0], .slice none 0 0, .int .u64 0] 8 rfl (World.shaped_of_RefB (by kernel_rfl) (by kernel_rfl)) (by kernel_rfl) (by kernel_rfl) (by kernel_rfl) (door_met os _)) ?_
  intro W base args ds gs before hval0 hW _ _ hL _
  have htab := pow_of_laid hL
  have hval : ∀ (j : Nat) t v, Tryz.f14.params[j]? = some t → args[j]? = some v → Value.okWide Tryz.prog W .any base t v := hval0
  have hW' := hW
  obtain ⟨p, q, hA0, hV, rfl, hfz, hnd⟩ := hW
  have hA : DataW.TrodAll enc Tryz.prog W 0 (fun _ => true) true Tryz.f14.params.toList args.toList ds p := hA0
  rw [Tryz.params14] at hA hval
  obtain ⟨v0, vs0, d0, ds0, p0, q0, hargs, rfl, rfl, h0, r0⟩ := trodAll_cons hA
  obtain ⟨v1, vs1, d1, ds1, p1, q1, rfl, rfl, rfl, h1, r1⟩ := trodAll_cons r0
  obtain ⟨v2, vs2, d2, ds2, p2, q2, rfl, rfl, rfl, h2, r2⟩ := trodAll_cons r1
  obtain ⟨rfl, rfl, rfl⟩ := trodAll_nil r2
  obtain rfl : args = #[v0, v1, v2] := by cases args; simp_all
  obtain ⟨N0, l0, ja0, jb0, jc0, c0, pn0, cn0, bn0, on0, qs0, cs0, bs0, os0, pe0, ce0, be0, oe0, pc0, cc0, bc0, oc0, rfl, hN0, _, hl0, hja0, hjb0, hjc0, hc0, hs10, hs20, hs30, hle0, hs40, hlc0⟩ := open_case (hval 0 80 v0 rfl rfl) h0
  obtain ⟨l1, pe1, ce1, be1, oe1, rfl, hm1, hse1⟩ := open_bytes (hval 1 58 v1 rfl rfl) h1
  obtain ⟨x2, rfl, hx2⟩ := open_u64 (hval 2 67 v2 rfl rfl) h2
  refine (VerifyDisturbed_any N0 hN0 l0 hl0 ja0 hja0 jb0 hjb0 jc0 hjc0 c0 hc0 l1 hm1 x2 hx2 pn0 cn0 bn0 on0 qs0 cs0 bs0 os0 pe0 ce0 be0 oe0 pc0 cc0 bc0 oc0 pe1 ce1 be1 oe1 W htab hs10 hs20 hs30 hle0 hs40 hlc0 hse1).mono fun e W' ⟨he, hs⟩ => ⟨_, he, ?_⟩
  exact law_post Tryz.laid0 (by kernel_rfl) rfl (by kernel_rfl) Tryz.underlying4 rfl hW' hs

set_option maxRecDepth 100000 in
theorem closed : joinedFacts Tryz.pinned.checked.prog 14 Tryz.f14 Rows.verifyDisturbedSpec Rows.verifyDisturbedRow = true := and2 (and2 (and2 (and2 (and2 (and2 (and2 (and2 (and2 (and2 (and2 (and2 (and2 (and2 (and2 (and2 (and2 (and2 (and2 (and2 (and2 (and2 (and2 (and2 (and2 (and2 (and2 (and2 (and2 (and2 (and2 (k1) k2) k3) k4) k5) k6) k7) k8) k9) k10) k11) k12) k13) k14) k15) k16) k17) k17b) k18) k19) k20) k21) k22) k23) k23b) k24) k24b) k24c) k25) k26) k27) k28

theorem lifted2 (os : Os) (started : os.Started) (H : Type) (enc : TypeId × Value → H) : ReturnsInHanded Rows.verifyDisturbedRow.assume Tryz.pinned.checked os 14 .any (Rows.verifyDisturbedRow.pre enc Tryz.pinned.checked.prog Tryz.f14 (OpenSpec.ofChange Rows.verifyDisturbedSpec)) (Rows.verifyDisturbedSpec.post enc Tryz.pinned.checked.prog Tryz.f14 Rows.verifyDisturbedRow.apart Rows.verifyDisturbedRow.fresh Rows.verifyDisturbedRow.handsOn Rows.verifyDisturbedRow.again) := lifted os started H enc

theorem holds : Rows.VerifyDisturbedSaid :=
  OpenClaim.holds_of_wide 14 Tryz.f14 rfl rfl rfl rfl rfl rfl rfl ⟨rfl, rfl, rfl, rfl, rfl⟩ rfl rfl rfl rfl rfl named Tryz.func14 closed inst wrap (fun os started H enc _ => lifted2 os started H enc)

theorem card_fn (f : FuncId) (fn : Func) (hf : Tryz.pinned.checked.prog.funcNamed Rows.verifyDisturbedRow.func = some f) (hfn : Tryz.pinned.checked.prog.funcs[f]? = some fn) : false = Tryz.pinned.checked.prog.looks [] ∧ ∀ (j : Nat) t, fn.params[j]? = some t → Tryz.pinned.checked.prog.wantsStandIn t = false := by
  have e1 : 14 = f := Option.some.inj (named.symm.trans hf)
  rw [← e1] at hfn
  have e2 : Tryz.f14 = fn := Option.some.inj (Tryz.func14.symm.trans hfn)
  refine ⟨card_looks, fun j t ht => ?_⟩
  rw [← e2, Tryz.params14] at ht
  have hm : t ∈ ([80, 58, 67] : List TypeId) := by simpa using Array.mem_of_getElem? ht
  have h := List.all_eq_true.1 card_params t hm
  cases hw : Tryz.pinned.checked.prog.wantsStandIn t with
  | false => rfl
  | true => rw [hw] at h; cases h

theorem card : Rows.VerifyDisturbedCardSaid :=
  Claim7.holds_tied_plain_at .later [] [.data, .data, .data] true Rows.verifyDisturbedCard.stood.harness false
    holds (fun _ h => nomatch h) card_wf (fun _ h => nomatch h) verifyDisturbed_row_tie rfl ⟨rfl, rfl⟩ card_main rfl card_fn card_goes

end Go.Proofs.YtephkjicokbckaaGreatDoor.verifyDisturbed
