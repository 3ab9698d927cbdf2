/- VRuns: VerifyRuns walked: it is true at every input at which the table of internal/strconv is as it was laid. -/

import Derived.Test.YtephkjicokbckaaGreatDoorVerifyRunsLw
import Derived.Test.YtephkjicokbckaaGreatDoorVerifyRunsVs

set_option linter.unusedVariables false

set_option linter.unusedSimpArgs false

namespace Go.Proofs

open Go Go.Vx Go.Gm

theorem VerifyRuns_any (l : List Evt) (hl : ∀ x ∈ l, x.wf) (jit : Int) (hj : I64 jit) (losses : Int) (hlo : I64 losses) (p : Option Addr) (cap b o : Nat) (w : World) (htab : PowTab w) (h1 : Sl w evtV 2 l p l.length b o) (_ : l.length ≤ cap) :
    Calls Tryz.prog 6 #[.slice p l.length cap, .int .i64 jit, .int .i64 losses] w fun e w' => e = .returned (.bool true) ∧ St w [] [] w' := by
  refine enter (C := Tryz.cx) (F := Tryz.fx6) (args := [_, _, _]) Tryz.func6 rfl rfl rfl Tryz.ok6 (St.start w []) ?_
  repeat' (conv => whnf); first | (refine VCall.isF 17 ?_; (refine VCall.valR (fun w' hw' => vworks_any w' (Lib.tabBelow_of_tabIs htab w' hw'.below)) ?_)) | (refine VCall.isF 28 ?_; (refine VCall.valR (fun w' hw' => Runs_any l hl jit losses hj hlo p cap b o w' (h1.keep hw' (by simp))) ?_)) | (refine VCall.isF 29 ?_; (refine VCall.valR (fun w' hw' => refRuns_any l hl jit losses hj hlo p cap b o w' (h1.keep hw' (by simp))) ?_)) | (refine VSeq.is ?_; refine VSeq.go ?_) | (refine VB.is ?_; refine VB.yes (by omega) fun _ => ?_) | (refine VB.is ?_; refine VB.no (by omega) fun _ => ?_) | (refine VB.is ?_; refine VB.split (fun _ => ?_) (fun _ => ?_)) | (refine boolE_split (fun h => ?_) (fun h => ?_) <;> subst h) | (refine VLd.is ?_; refine VLd.mk (.row aT (by rfl)) ?_) | (refine VSt.is ?_; refine VSt.row aT (by rfl) (by first | rfl | assumption) ?_) | (refine VNew.is ?_; refine VNew.mk fun _ => ?_) | (refine VAr.is ?_; refine VAr.i64 (by omega) (by omega) ?_) | (refine VIx.is ?_; refine VIx.mk rfl (by omega) (by omega) ?_) | (refine VKeep.is ?_; refine VKeep.mk aH ?_) | (refine VHs.is ?_; refine VHs.mk _ (HLe.refl _) ?_) | (refine VQ.is ?_; refine VQ.pos (by omega) (by omega) (by omega) ?_) | (refine VM.is ?_; refine VM.pos (by omega) (by omega) ?_) | (refine And.intro ?_ ?_)
  all_goals (conv => whnf)
  all_goals exact ⟨fun w' hw' => ⟨rfl, hw'.le .nil⟩⟩

end Go.Proofs
