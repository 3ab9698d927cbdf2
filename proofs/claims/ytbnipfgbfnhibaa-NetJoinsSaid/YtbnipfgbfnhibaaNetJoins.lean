/- NetJoins: the statement. -/
import Derived.Test.YtbnipfgbfnhibaaTo
import Derived.Test.YtbnipfgbfnhibaaLaw9
set_option linter.unusedVariables false
set_option linter.unusedSimpArgs false
namespace Go.Proofs.Ytbnipfgbfnhibaa.netJoins
open Go Go.Vx Go.Gm Go.RowKit Go.WideShapes Go.ChangeShapes Go.Deep Go.Joins Go.Proofs

set_option maxRecDepth 100000 in
theorem lifted (os : Os) (started : os.Started) (H : Type) (enc : TypeId × Value → H) :
    ReturnsInHanded {} Try.checked os 11 .any (Rows.netJoinsSpec.pre6 enc Try.prog Try.f11 Rows.netJoinsRow.domain false) (Rows.netJoinsSpec.post enc Try.prog Try.f11 false true false false) := by
  refine returnsInHanded_of_change (C := Try.checked) Try.own0 started (by kernel_rfl) Try.func11
    (ChangeSpec.witness6 (enc := enc) (C := Try.checked) false ⟨#[], #[.agg #[.slice none 0 0, .int .i64 0, .slice none 0 0], .agg #[.slice none 0 0, .int .i64 0, .slice none 0 0], .bool false], []⟩ 8 (by kernel_rfl) (by kernel_rfl) (by kernel_rfl) (by kernel_rfl)) ?_
  intro W base args ds gs before hval0 hW hcnd _
  have hval : ∀ (j : Nat) t v, Try.f11.params[j]? = some t → args[j]? = some v → Value.okWide Try.prog W .any base t v := hval0
  have hW' := hW
  obtain ⟨p, q, hA0, hV, rfl, hfz, hnd⟩ := hW
  have hA : DataW.TrodAll enc Try.prog W 0 (fun _ => true) true Try.f11.params.toList args.toList ds p := hA0
  rw [Try.params11] at hA hval
  obtain ⟨v0, vs0, d0, ds0, p0, q0, hargs, rfl, rfl, h0, r0⟩ := trodAll_cons hA
  obtain ⟨v1, vs1, d1, ds1, p1, q1, rfl, rfl, rfl, h1, r1⟩ := trodAll_cons r0
  obtain ⟨v2, vs2, d2, ds2, p2, q2, rfl, rfl, rfl, h2, r2⟩ := trodAll_cons r1
  obtain ⟨rfl, rfl, rfl⟩ := trodAll_nil r2
  obtain rfl : args = #[v0, v1, v2] := by cases args; simp_all
  obtain ⟨N0, pn0, cn0, bn0, on0, qs0, cs0, bs0, os0, rfl, hN0, hlp0, hls0, hs10, hs20⟩ := open_net (hval 0 25 v0 rfl rfl) h0
  obtain ⟨N1, pn1, cn1, bn1, on1, qs1, cs1, bs1, os1, rfl, hN1, hlp1, hls1, hs11, hs21⟩ := open_net (hval 1 25 v1 rfl rfl) h1
  obtain ⟨x2, rfl, _, _⟩ := open_bool Try.underlying4 (hval 2 4 v2 rfl rfl) h2
  refine (NetJoins_any N0 hN0 N1 hN1 x2 pn0 cn0 bn0 on0 qs0 cs0 bs0 os0 pn1 cn1 bn1 on1 qs1 cs1 bs1 os1 W hs10 hs20 hs11 hs21).mono fun e W' ⟨he, hs⟩ => ⟨_, he, ?_⟩
  exact law_post Try.laid0 (by kernel_rfl) rfl (by kernel_rfl) Try.underlying4 rfl hW' hs

theorem holds : Rows.NetJoinsSaid :=
  OpenClaim.holds_of_wide 11 Try.f11 rfl rfl rfl rfl rfl rfl rfl ⟨rfl, rfl, rfl, rfl, rfl⟩ rfl rfl rfl rfl rfl (by kernel_rfl) Try.func11 (by kernel_rfl)
    (of_decide_eq_true (by kernel_rfl)) (by unfold Func.isWrapper; first | (rw [if_pos (by decide +kernel)]; kernel_rfl) | (rw [if_neg (by decide +kernel)]; exact ⟨rfl, rfl⟩))
    (fun os started H enc _ => lifted os started H enc)

end Go.Proofs.Ytbnipfgbfnhibaa.netJoins
