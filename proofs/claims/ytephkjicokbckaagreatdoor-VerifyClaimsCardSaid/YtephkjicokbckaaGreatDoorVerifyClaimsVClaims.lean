import Derived.Test.YtephkjicokbckaaGreatDoorVerifyClaimsHd
import Derived.Test.YtephkjicokbckaaGreatDoorVerifyClaimsHh
set_option linter.unusedVariables false

set_option linter.unusedSimpArgs false

namespace Go.Proofs

open Go Go.Vx Go.Gm

set_option maxHeartbeats 2000000 in
theorem VerifyClaims_any (N : Net) (hN : N.wf) (c : Clm) (hc : c.wf) (l : List Evt) (hlw : ∀ x ∈ l, x.wf) (pn : Option Addr) (cn bn on : Nat) (qs : Option Addr) (cs bs os : Nat) (pc : Option Addr) (cc bc oc : Nat) (pe : Option Addr) (ce be oe : Nat) (w : World) (htab : PowTab w)
    (h1 : Sl w parV 8 N.ps pn N.ps.length bn on) (h2 : Sl w synV 4 N.syns qs N.syns.length bs os) (h5 : Sl w intV 1 c.ns pc c.ns.length bc oc) (hcc : c.ns.length ≤ cc) (h3 : Sl w evtV 2 l pe l.length be oe) (hce : l.length ≤ ce) :
    Calls Tryz.prog 10 #[.agg #[.slice pn N.ps.length cn, .int .i64 N.inputs, .slice qs N.syns.length cs], clmA c pc cc, .slice pe l.length ce] w fun e w' => e = .returned (.bool true) ∧ St w [] [] w' := by
  refine enter (C := Tryz.cx) (F := Tryz.fx10) (args := [_, _, _]) Tryz.func10 rfl rfl rfl Tryz.ok10 (St.start w []) ?_
  repeat' (conv => whnf); first | (refine VNew.mk fun b5 => ?_) | (refine VCall.isF 15 ?_; (refine VCall.genR (fun w' _ => vfew_any _ _ _ _ _ _ _ w') ?_; intro bf hbf)) | (refine VCall.isF 17 ?_; (refine VCall.valR (fun w' hw' => vworks_any w' (Lib.tabBelow_of_tabIs htab w' hw'.below)) ?_)) | (refine VCall.isF 37 ?_; (refine VCall.genR (fun w' hw' => vholds_any N hN c hc (by omega) (by have := hbf rfl; omega) l (by omega) pn cn bn on qs cs bs os pc cc bc oc hcc pe ce be oe w' (h1.keep hw' (by simp)) (h2.keep hw' (by simp)) (h5.keep hw' (by simp)) (h3.keep hw' (by simp))) ?_; intro b1 hb1)) | (refine VCall.isF 38 ?_; (refine VCall.genR (fun w' hw' => rhld_any N hN c hc (by omega) (by have := hbf rfl; omega) l (by omega) hlw pn cn bn on qs cs bs os pc cc bc oc hcc pe ce be oe w' (h1.keep hw' (by simp)) (h2.keep hw' (by simp)) (h5.keep hw' (by simp)) (h3.keep hw' (by simp))) ?_; intro b2 hb2; have hbb : b2 = b1 := Bool.eq_iff_iff.2 (hb2.trans hb1.symm); subst hbb)) | (refine VCall.isF 39 ?_; (refine VCall.valR (fun w' hw' => vchk_any N hN c hc (by omega) (by have := hbf rfl; omega) pn cn bn on qs cs bs os pc cc bc oc hcc w' (h1.keep hw' (by simp)) (h2.keep hw' (by simp)) (h5.keep hw' (by simp))) ?_)) | (refine VCall.isF 40 ?_; (refine VCall.valR (fun w' hw' => rchk_any N hN c hc (by omega) (by have := hbf rfl; omega) pn cn bn on qs cs bs os pc cc bc oc hcc w' (h1.keep hw' (by simp)) (h2.keep hw' (by simp)) (h5.keep hw' (by simp))) ?_)) | (refine VSeq.go ?_) | (refine VB.is ?_; refine VB.yes (by omega) fun _ => ?_) | (refine VB.split (fun _ => ?_) (fun _ => ?_)) | (refine boolE_split (fun h => ?_) (fun h => ?_) <;> subst h) | (refine VLd.is ?_; refine VLd.mk (.row aT (by rfl)) ?_) | (refine VKeep.is ?_; refine VKeep.mk aH ?_) | (refine VHs.mk _ (.refl _) ?_)
  all_goals (conv => whnf)
  all_goals first
    | exact ⟨fun w' hw' => ⟨rfl, hw'.le .nil⟩⟩
    | (exfalso; cases b2 <;> simp_all; done)
    | (exfalso; omega)

end Go.Proofs
