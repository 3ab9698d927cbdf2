/- NetResumes: the statement. -/

import Derived.Test.YtbnipfgbfnhibaaNetResumesTo2
import Derived.Test.YtbnipfgbfnhibaaNetResumesLawR

set_option linter.unusedVariables false

set_option linter.unusedSimpArgs false

namespace Go.Proofs.Ytbnipfgbfnhibaa.netResumes

open Go Go.Vx Go.Gm Go.RowKit Go.WideShapes Go.ChangeShapes Go.Deep Go.Joins Go.Proofs

set_option maxRecDepth 100000 in
theorem lifted (os : Os) (started : os.Started) (H : Type) (enc : TypeId × Value → H) :
    ReturnsInHanded {} Try.checked os 13 .any (Rows.netResumesSpec.pre6 enc Try.prog Try.f13 Rows.netResumesRow.domain false) (Rows.netResumesSpec.post enc Try.prog Try.f13 false true false false) := by
  refine returnsInHanded_of_change (C := Try.checked) Try.own0 started (by kernel_rfl) Try.func13
    (ChangeSpec.witness6 (enc := enc) (C := Try.checked) false ⟨#[], #[.agg #[.slice none 0 0, .int .i64 0, .slice none 0 0], .agg #[.int .i64 0, .slice none 0 0, .slice none 0 0]], []⟩ 8 (by kernel_rfl) (by kernel_rfl) (by kernel_rfl) (by kernel_rfl)) ?_
  intro W base args ds gs before hval0 hW hcnd _
  have hval : ∀ (j : Nat) t v, Try.f13.params[j]? = some t → args[j]? = some v → Value.okWide Try.prog W .any base t v := hval0
  have hW' := hW
  obtain ⟨p, q, hA0, hV, rfl, hfz, hnd⟩ := hW
  have hA : DataW.TrodAll enc Try.prog W 0 (fun _ => true) true Try.f13.params.toList args.toList ds p := hA0
  rw [Try.params13] at hA hval
  obtain ⟨v0, vs0, d0, ds0, p0, q0, hargs, rfl, rfl, h0, r0⟩ := trodAll_cons hA
  obtain ⟨v1, vs1, d1, ds1, p1, q1, rfl, rfl, rfl, h1, r1⟩ := trodAll_cons r0
  obtain ⟨rfl, rfl, rfl⟩ := trodAll_nil r1
  obtain rfl : args = #[v0, v1] := by cases args; simp_all
  obtain ⟨N0, pn0, cn0, bn0, on0, qs0, cs0, bs0, os0, rfl, hN0, hlp0, hls0, hs10, hs20⟩ := open_net (hval 0 25 v0 rfl rfl) h0
  obtain ⟨tk1, sts1, pst1, cst1, bst1, ost1, Ls1, pd1, cd1, bd1, od1, rfl, htk1, hsw1, hLi1, hss1, hsd1⟩ := open_image (hval 1 66 v1 rfl rfl) h1
  refine (NetResumes_any N0 hN0 tk1 htk1 sts1 hsw1 Ls1 (fun d hd => ⟨(hLi1 d hd).2.2, (hLi1 d hd).1⟩) pn0 cn0 bn0 on0 qs0 cs0 bs0 os0 pst1 cst1 bst1 ost1 pd1 cd1 bd1 od1 W hs10 hs20 hss1 hsd1 (fun d hd => (hLi1 d hd).2.1)).mono fun e W' ⟨he, hs⟩ => ⟨_, he, ?_⟩
  exact law_post Try.laid0 (by kernel_rfl) rfl (by kernel_rfl) Try.underlying4 rfl hW' hs

theorem holds : Rows.NetResumesSaid :=
  OpenClaim.holds_of_wide 13 Try.f13 rfl rfl rfl rfl rfl rfl rfl ⟨rfl, rfl, rfl, rfl, rfl⟩ rfl rfl rfl rfl rfl (by kernel_rfl) Try.func13 (by kernel_rfl)
    (of_decide_eq_true (by kernel_rfl)) (by unfold Func.isWrapper; first | (rw [if_pos (by decide +kernel)]; kernel_rfl) | (rw [if_neg (by decide +kernel)]; exact ⟨rfl, rfl⟩))
    (fun os started H enc _ => lifted os started H enc)

end Go.Proofs.Ytbnipfgbfnhibaa.netResumes
