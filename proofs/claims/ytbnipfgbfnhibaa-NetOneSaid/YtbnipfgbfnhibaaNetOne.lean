/- NetOne: the statement. -/
import Derived.Test.YtbnipfgbfnhibaaTo
import Derived.Test.YtbnipfgbfnhibaaLawO
set_option linter.unusedVariables false
set_option linter.unusedSimpArgs false
namespace Go.Proofs.Ytbnipfgbfnhibaa.netOne
open Go Go.Vx Go.Gm Go.RowKit Go.WideShapes Go.ChangeShapes Go.Deep Go.Joins Go.Proofs

set_option maxRecDepth 100000 in
theorem lifted (os : Os) (started : os.Started) (H : Type) (enc : TypeId × Value → H) :
    ReturnsInHanded {} Try.checked os 14 .any (Rows.netOneSpec.pre6 enc Try.prog Try.f14 Rows.netOneRow.domain false) (Rows.netOneSpec.post enc Try.prog Try.f14 false true false false) := by
  refine returnsInHanded_of_change (C := Try.checked) Try.own0 started (by kernel_rfl) Try.func14
    (ChangeSpec.witness6 (enc := enc) (C := Try.checked) false ⟨#[], #[.agg #[.slice none 0 0, .int .i64 0, .slice none 0 0], .slice none 0 0, .int .i64 0, .int .u16 0], []⟩ 8 (by kernel_rfl) (by kernel_rfl) (by kernel_rfl) (by kernel_rfl)) ?_
  intro W base args ds gs before hval0 hW hcnd _
  have hval : ∀ (j : Nat) t v, Try.f14.params[j]? = some t → args[j]? = some v → Value.okWide Try.prog W .any base t v := hval0
  have hW' := hW
  obtain ⟨p, q, hA0, hV, rfl, hfz, hnd⟩ := hW
  have hA : DataW.TrodAll enc Try.prog W 0 (fun _ => true) true Try.f14.params.toList args.toList ds p := hA0
  rw [Try.params14] at hA hval
  obtain ⟨v0, vs0, d0, ds0, p0, q0, hargs, rfl, rfl, h0, r0⟩ := trodAll_cons hA
  obtain ⟨v1, vs1, d1, ds1, p1, q1, rfl, rfl, rfl, h1, r1⟩ := trodAll_cons r0
  obtain ⟨v2, vs2, d2, ds2, p2, q2, rfl, rfl, rfl, h2, r2⟩ := trodAll_cons r1
  obtain ⟨v3, vs3, d3, ds3, p3, q3, rfl, rfl, rfl, h3, r3⟩ := trodAll_cons r2
  obtain ⟨rfl, rfl, rfl⟩ := trodAll_nil r3
  obtain rfl : args = #[v0, v1, v2, v3] := by cases args; simp_all
  obtain ⟨N0, pn0, cn0, bn0, on0, qs0, cs0, bs0, os0, rfl, hN0, hlp0, hls0, hs10, hs20⟩ := open_net (hval 0 25 v0 rfl rfl) h0
  obtain ⟨l1, pe1, ce1, be1, oe1, rfl, hl1, hle1, hlm1, hse1⟩ := open_evts (hval 1 30 v1 rfl rfl) h1
  obtain ⟨x2, rfl, hx2⟩ := open_i64 (hval 2 3 v2 rfl rfl) h2
  obtain ⟨x3, rfl, hx3⟩ := open_u16 (hval 3 56 v3 rfl rfl) h3
  refine (NetOne_any N0 hN0 l1 hl1 x2 x3 hx3 pn0 cn0 bn0 on0 qs0 cs0 bs0 os0 pe1 ce1 be1 oe1 W hs10 hs20 hse1 hle1).mono fun e W' ⟨he, hs⟩ => ⟨_, he, ?_⟩
  exact law_post Try.laid0 (by kernel_rfl) rfl (by kernel_rfl) Try.underlying4 rfl hW' hs

theorem holds : Rows.NetOneSaid :=
  OpenClaim.holds_of_wide 14 Try.f14 rfl rfl rfl rfl rfl rfl rfl ⟨rfl, rfl, rfl, rfl, rfl⟩ rfl rfl rfl rfl rfl (by kernel_rfl) Try.func14 (by kernel_rfl)
    (of_decide_eq_true (by kernel_rfl)) (by unfold Func.isWrapper; first | (rw [if_pos (by decide +kernel)]; kernel_rfl) | (rw [if_neg (by decide +kernel)]; exact ⟨rfl, rfl⟩))
    (fun os started H enc _ => lifted os started H enc)

end Go.Proofs.Ytbnipfgbfnhibaa.netOne
