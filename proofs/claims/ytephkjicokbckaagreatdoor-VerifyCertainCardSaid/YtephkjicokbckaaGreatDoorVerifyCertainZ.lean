/- VerifyCertain: the statement. -/
import Derived.Test.YtephkjicokbckaaGreatDoorVerifyCertainMk
import Derived.Test.YtephkjicokbckaaGreatDoorCards
import Derived.Test.YtephkjicokbckaaGreatDoorVerifyCertainVerifyCertainF
import Derived.Test.YtephkjicokbckaaGreatDoorVerifyCertainVCertain

set_option linter.unusedVariables false

set_option linter.unusedSimpArgs false

namespace Go.Proofs.YtephkjicokbckaaGreatDoor.verifyCertain

open Go Go.Vx Go.Gm Go.RowKit Go.WideShapes Go.ChangeShapes Go.Deep Go.Joins Go.Proofs

set_option maxRecDepth 100000 in
theorem lifted (os : Os) (started : os.Started) (H : Type) (enc : TypeId × Value → H) :
    ReturnsInHanded {} Tryz.checked os 11 .any (fun w args => (Rows.verifyCertainSpec.pre enc Tryz.prog Tryz.f11 [] false w args ∧ laidMetH Tryz.prog laid3 w) ∧ sizedMet enc Tryz.prog Tryz.f11 (OpenSpec.ofChange Rows.verifyCertainSpec) false w args) (Rows.verifyCertainSpec.post enc Tryz.prog Tryz.f11 false true false false) := by
  refine returnsInHanded_of_change_and (C := Tryz.checked) (X := fun w _ => laidMetH Tryz.prog laid3 w) (fun _ _ _ hh h => h.of_heap hh) Tryz.own0 started (by kernel_rfl) Tryz.func11
    (ChangeSpec.witness_shaped (enc := enc) (C := Tryz.checked) (os := os) (X := fun w _ => laidMetH Tryz.prog laid3 w) false (World.doorLaid Tryz.prog 4000 os) #[.agg #[.slice none 0 0, .int .i64 0, .slice none 0 0], .slice none 0 0, .slice none 0 0, .int .i64 0, .agg #[.int .i64 0, .slice none 0 0, .int .i64 0, .int .i64 0, .int .i64 0, .int .i64 0], .int .u64 0] 8 rfl (World.shaped_of_RefB (by kernel_rfl) (by kernel_rfl)) (by kernel_rfl) (by kernel_rfl) (by kernel_rfl) (door_met os _)) ?_
  intro W base args ds gs before hval0 hW _ _ hL _
  have htab := pow_of_laid hL
  have hval : ∀ (j : Nat) t v, Tryz.f11.params[j]? = some t → args[j]? = some v → Value.okWide Tryz.prog W .any base t v := hval0
  have hW' := hW
  obtain ⟨p, q, hA0, hV, rfl, hfz, hnd⟩ := hW
  have hA : DataW.TrodAll enc Tryz.prog W 0 (fun _ => true) true Tryz.f11.params.toList args.toList ds p := hA0
  rw [Tryz.params11] at hA hval
  obtain ⟨v0, vs0, d0, ds0, p0, q0, hargs, rfl, rfl, h0, r0⟩ := trodAll_cons hA
  obtain ⟨v1, vs1, d1, ds1, p1, q1, rfl, rfl, rfl, h1, r1⟩ := trodAll_cons r0
  obtain ⟨v2, vs2, d2, ds2, p2, q2, rfl, rfl, rfl, h2, r2⟩ := trodAll_cons r1
  obtain ⟨v3, vs3, d3, ds3, p3, q3, rfl, rfl, rfl, h3, r3⟩ := trodAll_cons r2
  obtain ⟨v4, vs4, d4, ds4, p4, q4, rfl, rfl, rfl, h4, r4⟩ := trodAll_cons r3
  obtain ⟨v5, vs5, d5, ds5, p5, q5, rfl, rfl, rfl, h5, r5⟩ := trodAll_cons r4
  obtain ⟨rfl, rfl, rfl⟩ := trodAll_nil r5
  obtain rfl : args = #[v0, v1, v2, v3, v4, v5] := by cases args; simp_all
  obtain ⟨N0, pn0, cn0, bn0, on0, qs0, cs0, bs0, os0, rfl, hN0, hlp0, hls0, hs10, hs20⟩ := open_net (hval 0 25 v0 rfl rfl) h0
  obtain ⟨l1, pe1, ce1, be1, oe1, rfl, hl1, hle1, hlm1, hse1⟩ := open_evts (hval 1 27 v1 rfl rfl) h1
  obtain ⟨l2, pe2, ce2, be2, oe2, rfl, hl2, hle2, hlm2, hse2⟩ := open_evts (hval 2 27 v2 rfl rfl) h2
  obtain ⟨x3, rfl, hx3⟩ := open_i64 (hval 3 3 v3 rfl rfl) h3
  obtain ⟨c4, pe4, ce4, be4, oe4, rfl, hc4, hle4, hlm4, hse4⟩ := open_clm (hval 4 50 v4 rfl rfl) h4
  obtain ⟨x5, rfl, hx5⟩ := open_u64 (hval 5 67 v5 rfl rfl) h5
  refine (VerifyCertain_any N0 hN0 l1 hl1 l2 hl2 x3 hx3 c4 hc4 x5 hx5 pn0 cn0 bn0 on0 qs0 cs0 bs0 os0 pe1 ce1 be1 oe1 pe2 ce2 be2 oe2 pe4 ce4 be4 oe4 W htab hs10 hs20 hse1 hle1 hse2 hle2 hse4 hle4).mono fun e W' ⟨he, hs⟩ => ⟨_, he, ?_⟩
  exact law_post Tryz.laid0 (by kernel_rfl) rfl (by kernel_rfl) Tryz.underlying4 rfl hW' hs

set_option maxRecDepth 100000 in
theorem closed : joinedFacts Tryz.pinned.checked.prog 11 Tryz.f11 Rows.verifyCertainSpec Rows.verifyCertainRow = true := and2 (and2 (and2 (and2 (and2 (and2 (and2 (and2 (and2 (and2 (and2 (and2 (and2 (and2 (and2 (and2 (and2 (and2 (and2 (and2 (and2 (and2 (and2 (and2 (and2 (and2 (and2 (and2 (and2 (and2 (and2 (k1) k2) k3) k4) k5) k6) k7) k8) k9) k10) k11) k12) k13) k14) k15) k16) k17) k17b) k18) k19) k20) k21) k22) k23) k23b) k24) k24b) k24c) k25) k26) k27) k28

theorem lifted2 (os : Os) (started : os.Started) (H : Type) (enc : TypeId × Value → H) : ReturnsInHanded Rows.verifyCertainRow.assume Tryz.pinned.checked os 11 .any (Rows.verifyCertainRow.pre enc Tryz.pinned.checked.prog Tryz.f11 (OpenSpec.ofChange Rows.verifyCertainSpec)) (Rows.verifyCertainSpec.post enc Tryz.pinned.checked.prog Tryz.f11 Rows.verifyCertainRow.apart Rows.verifyCertainRow.fresh Rows.verifyCertainRow.handsOn Rows.verifyCertainRow.again) := lifted os started H enc

theorem holds : Rows.VerifyCertainSaid :=
  OpenClaim.holds_of_wide 11 Tryz.f11 rfl rfl rfl rfl rfl rfl rfl ⟨rfl, rfl, rfl, rfl, rfl⟩ rfl rfl rfl rfl rfl named Tryz.func11 closed inst wrap (fun os started H enc _ => lifted2 os started H enc)

theorem card_fn (f : FuncId) (fn : Func) (hf : Tryz.pinned.checked.prog.funcNamed Rows.verifyCertainRow.func = some f) (hfn : Tryz.pinned.checked.prog.funcs[f]? = some fn) : false = Tryz.pinned.checked.prog.looks [] ∧ ∀ (j : Nat) t, fn.params[j]? = some t → Tryz.pinned.checked.prog.wantsStandIn t = false := by
  have e1 : 11 = f := Option.some.inj (named.symm.trans hf)
  rw [← e1] at hfn
  have e2 : Tryz.f11 = fn := Option.some.inj (Tryz.func11.symm.trans hfn)
  refine ⟨card_looks, fun j t ht => ?_⟩
  rw [← e2, Tryz.params11] at ht
  have hm : t ∈ ([25, 27, 27, 3, 50, 67] : List TypeId) := by simpa using Array.mem_of_getElem? ht
  have h := List.all_eq_true.1 card_params t hm
  cases hw : Tryz.pinned.checked.prog.wantsStandIn t with
  | false => rfl
  | true => rw [hw] at h; cases h

theorem card : Rows.VerifyCertainCardSaid :=
  Claim7.holds_tied_plain_at .later [] [.data, .data, .data] true Rows.verifyCertainCard.stood.harness false
    holds (fun _ h => nomatch h) card_wf (fun _ h => nomatch h) verifyCertain_row_tie rfl ⟨rfl, rfl⟩ card_main rfl card_fn card_goes

end Go.Proofs.YtephkjicokbckaaGreatDoor.verifyCertain
