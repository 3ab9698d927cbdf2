import Derived.Test.YtephkjicokbckaaGreatDoorVerifyCertainsLf
import Derived.Test.YtephkjicokbckaaGreatDoorVerifyCertainsCu
set_option linter.unusedVariables false

set_option linter.unusedSimpArgs false

namespace Go.Proofs

open Go Go.Vx Go.Gm

set_option maxHeartbeats 2000000 in
theorem VerifyCertains_any (N : Net) (hN : N.wf) (sure : List Evt) (hsu : ∀ x ∈ sure, x.wf) (may : List Evt) (hma : ∀ x ∈ may, x.wf) (ticks : Int) (hti : I64 ticks) (c : Clm) (hc : c.wf) (pn : Option Addr) (cn bn on : Nat) (qs : Option Addr) (cs bs os : Nat) (ps : Option Addr) (ce be oe : Nat) (pm : Option Addr) (cm bm om : Nat) (pc : Option Addr) (cc bc oc : Nat) (w : World) (htab : PowTab w)
    (h1 : Sl w parV 8 N.ps pn N.ps.length bn on) (h2 : Sl w synV 4 N.syns qs N.syns.length bs os) (h3 : Sl w evtV 2 sure ps sure.length be oe) (hce : sure.length ≤ ce) (h4 : Sl w evtV 2 may pm may.length bm om) (hcm : may.length ≤ cm) (h5 : Sl w intV 1 c.ns pc c.ns.length bc oc) (hcc : c.ns.length ≤ cc) :
    Calls Tryz.prog 5 #[.agg #[.slice pn N.ps.length cn, .int .i64 N.inputs, .slice qs N.syns.length cs], .slice ps sure.length ce, .slice pm may.length cm, .int .i64 ticks, clmA c pc cc] w fun e w' => e = .returned (.bool true) ∧ St w [] [] w' := by
  have hti' := hti
  unfold I64 at hti'
  unfold clmA
  refine enter (C := Tryz.cx) (F := Tryz.fx5) (args := [_, _, _, _, _]) Tryz.func5 rfl rfl rfl Tryz.ok5 (St.start w []) ?_
  repeat' (conv => whnf); first | (refine VCall.isF 15 ?_; (refine VCall.genR (fun w' _ => vfew_any _ _ _ _ _ _ _ w') ?_; intro bf hbf)) | (refine VCall.isF 22 ?_; (refine VCall.genR (fun w' _ => vsome_any _ _ _ w') ?_; intro bs1 hbs1)) | (refine VCall.isF 17 ?_; (refine VCall.valR (fun w' hw' => vworks_any w' (Lib.tabBelow_of_tabIs htab w' hw'.below)) ?_)) | (refine VCall.isF 26 ?_; (refine VCall.valR (fun w' hw' => Certain_any N hN sure may hsu hma ticks hti _ _ _ _ _ _ _ _ _ _ _ _ _ _ _ _ c hc (by omega) pc cc bc oc hcc (by have := hbf rfl; omega) w' (h1.keep hw' (by simp)) (h2.keep hw' (by simp)) (h3.keep hw' (by simp)) (h4.keep hw' (by simp)) hce hcm (h5.keep hw' (by simp))) ?_)) | (refine VCall.isF 27 ?_; (refine VCall.valR (fun w' hw' => refCertain_any N hN sure may hsu hma ticks hti _ _ _ _ _ _ _ _ _ _ _ _ _ _ _ _ c hc (by omega) pc cc bc oc hcc (by have := hbf rfl; omega) w' (h1.keep hw' (by simp)) (h2.keep hw' (by simp)) (h3.keep hw' (by simp)) (h4.keep hw' (by simp)) (h5.keep hw' (by simp))) ?_)) | (refine VSeq.go ?_) | (refine VB.is ?_; refine VB.yes (by omega) fun _ => ?_) | (refine VB.split (fun _ => ?_) (fun _ => ?_)) | (refine boolE_split (fun h => ?_) (fun h => ?_) <;> subst h) | (refine VLd.is ?_; refine VLd.mk (.row aT (by rfl)) ?_) | (refine VNew.mk fun _ => ?_)
  all_goals (conv => whnf)
  all_goals exact ⟨fun w' hw' => ⟨rfl, hw'.le .nil⟩⟩

end Go.Proofs
