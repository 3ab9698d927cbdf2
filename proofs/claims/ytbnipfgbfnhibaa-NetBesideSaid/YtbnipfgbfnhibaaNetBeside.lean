/- NetBeside: the statement. -/
import Derived.Test.YtbnipfgbfnhibaaTo
import Derived.Test.YtbnipfgbfnhibaaLawB
set_option linter.unusedVariables false
set_option linter.unusedSimpArgs false
namespace Go.Proofs.Ytbnipfgbfnhibaa.netBeside
open Go Go.Vx Go.Gm Go.RowKit Go.WideShapes Go.ChangeShapes Go.Deep Go.Joins Go.Proofs

set_option maxRecDepth 100000 in
theorem lifted (os : Os) (started : os.Started) (H : Type) (enc : TypeId × Value → H) :
    ReturnsInHanded {} Try.checked os 12 .any (Rows.netBesideSpec.pre6 enc Try.prog Try.f12 Rows.netBesideRow.domain false) (Rows.netBesideSpec.post enc Try.prog Try.f12 false true false false) := by
  refine returnsInHanded_of_change (C := Try.checked) Try.own0 started (by kernel_rfl) Try.func12
    (ChangeSpec.witness6 (enc := enc) (C := Try.checked) false ⟨#[], #[.agg #[.slice none 0 0, .int .i64 0, .slice none 0 0], .agg #[.slice none 0 0, .int .i64 0, .slice none 0 0], .slice none 0 0, .slice none 0 0, .int .i64 0], []⟩ 8 (by kernel_rfl) (by kernel_rfl) (by kernel_rfl) (by kernel_rfl)) ?_
  intro W base args ds gs before hval0 hW hcnd _
  have hval : ∀ (j : Nat) t v, Try.f12.params[j]? = some t → args[j]? = some v → Value.okWide Try.prog W .any base t v := hval0
  have hW' := hW
  obtain ⟨p, q, hA0, hV, rfl, hfz, hnd⟩ := hW
  have hA : DataW.TrodAll enc Try.prog W 0 (fun _ => true) true Try.f12.params.toList args.toList ds p := hA0
  rw [Try.params12] at hA hval
  obtain ⟨v0, vs0, d0, ds0, p0, q0, hargs, rfl, rfl, h0, r0⟩ := trodAll_cons hA
  obtain ⟨v1, vs1, d1, ds1, p1, q1, rfl, rfl, rfl, h1, r1⟩ := trodAll_cons r0
  obtain ⟨v2, vs2, d2, ds2, p2, q2, rfl, rfl, rfl, h2, r2⟩ := trodAll_cons r1
  obtain ⟨v3, vs3, d3, ds3, p3, q3, rfl, rfl, rfl, h3, r3⟩ := trodAll_cons r2
  obtain ⟨v4, vs4, d4, ds4, p4, q4, rfl, rfl, rfl, h4, r4⟩ := trodAll_cons r3
  obtain ⟨rfl, rfl, rfl⟩ := trodAll_nil r4
  obtain rfl : args = #[v0, v1, v2, v3, v4] := by cases args; simp_all
  obtain ⟨N0, pn0, cn0, bn0, on0, qs0, cs0, bs0, os0, rfl, hN0, hlp0, hls0, hs10, hs20⟩ := open_net (hval 0 25 v0 rfl rfl) h0
  obtain ⟨N1, pn1, cn1, bn1, on1, qs1, cs1, bs1, os1, rfl, hN1, hlp1, hls1, hs11, hs21⟩ := open_net (hval 1 25 v1 rfl rfl) h1
  obtain ⟨l2, pe2, ce2, be2, oe2, rfl, hl2, hle2, hlm2, hse2⟩ := open_evts (hval 2 30 v2 rfl rfl) h2
  obtain ⟨l3, pe3, ce3, be3, oe3, rfl, hl3, hle3, hlm3, hse3⟩ := open_evts (hval 3 30 v3 rfl rfl) h3
  obtain ⟨x4, rfl, hx4⟩ := open_i64 (hval 4 3 v4 rfl rfl) h4
  refine (NetBeside_any N0 hN0 N1 hN1 l2 hl2 l3 hl3 x4 pn0 cn0 bn0 on0 qs0 cs0 bs0 os0 pn1 cn1 bn1 on1 qs1 cs1 bs1 os1 pe2 ce2 be2 oe2 pe3 ce3 be3 oe3 W hs10 hs20 hs11 hs21 hse2 hle2 hse3 hle3).mono fun e W' ⟨he, hs⟩ => ⟨_, he, ?_⟩
  exact law_post Try.laid0 (by kernel_rfl) rfl (by kernel_rfl) Try.underlying4 rfl hW' hs

theorem holds : Rows.NetBesideSaid :=
  OpenClaim.holds_of_wide 12 Try.f12 rfl rfl rfl rfl rfl rfl rfl ⟨rfl, rfl, rfl, rfl, rfl⟩ rfl rfl rfl rfl rfl (by kernel_rfl) Try.func12 (by kernel_rfl)
    (of_decide_eq_true (by kernel_rfl)) (by unfold Func.isWrapper; first | (rw [if_pos (by decide +kernel)]; kernel_rfl) | (rw [if_neg (by decide +kernel)]; exact ⟨rfl, rfl⟩))
    (fun os started H enc _ => lifted os started H enc)

end Go.Proofs.Ytbnipfgbfnhibaa.netBeside
