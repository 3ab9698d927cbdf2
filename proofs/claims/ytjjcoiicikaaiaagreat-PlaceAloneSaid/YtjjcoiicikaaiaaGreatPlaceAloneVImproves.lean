import Derived.Test.YtjjcoiicikaaiaaGreatPlaceAloneIm
import Derived.Test.YtjjcoiicikaaiaaGreatPlaceAlonePb
import Derived.Test.YtjjcoiicikaaiaaGreatPlaceAlonePd
section
set_option linter.unusedVariables false

set_option linter.unusedSimpArgs false

namespace Go.Proofs

open Go Go.Vx Go.Gm

theorem placeImprove_any (X : PlnX) (w : World) (hX : PlnRd X w) (cores : List Int) (hcw : ∀ k ∈ cores, I64 k) (hlc : cores.length ≤ 1000000) (rounds : Int) (hrw : I64 rounds) (p : Option Addr) (c b o : Nat) (h1 : Sl w intV 1 cores p cores.length b o) :
    Calls Tryz.prog 39 #[.agg X.net.toArray, .agg (chpC X.C X.pd X.cd).toArray, .slice p cores.length c, .int .i64 rounds] w fun e w' => ∃ z : Option Addr × Nat, e = .returned (.tuple #[.slice z.1 (impR X.N X.C cores rounds).1.length z.2, .int .i64 (impR X.N X.C cores rounds).2]) ∧ (0 < (impR X.N X.C cores rounds).1.length → ∃ g, z.1 = some ⟨g, 0, none⟩) ∧ St w [] [.vec z.1 (impR X.N X.C cores rounds).1.length z.2 3 1 (flat intV (impR X.N X.C cores rounds).1)] w' := by
  have hasg := asgE_chk X.N X.C cores
  have hb := fun he (w' : World) h => planned_bad X w' h he (.slice p cores.length c) rfl
  have hg := fun he (w' : World) h h1 => planned_any X w' h he cores hcw hlc p c b o h1
  unfold I64 at hrw
  unfold impR
  by_cases he : Gm.planE X.N X.C ≠ 0
  · have hb := hb he
    rw [if_pos he] at hasg
    rw [hasg, if_pos he]
    obtain ⟨E, hE⟩ : ∃ E, Gm.planE X.N X.C = E := ⟨_, rfl⟩
    rw [hE] at hb he ⊢
    unfold PlnX.net chpC at hb ⊢
    refine enter (C := Tryz.cx) (F := Tryz.fx39) (args := [_, _, _, _]) Tryz.func39 rfl rfl rfl Tryz.ok39 (St.start w []) ?_
    repeat' (conv => whnf); first | (refine VCall.isF 68 ?_; (refine VCall.valR (fun w' hw' => hb w' (hX.keep hw')) ?_)) | (refine VSeq.go ?_) | (refine VB.is ?_; refine VB.yes (by omega) fun _ => ?_) | (refine VB.is ?_; refine VB.no (by omega) fun _ => ?_) | (refine VB.split (fun _ => ?_) (fun _ => ?_)) | (refine boolE_split (fun h => ?_) (fun h => ?_) <;> subst h) | (refine VLd.is ?_; refine VLd.mk (.row aT (by rfl)) ?_) | (refine VSt.is ?_; refine VSt.row aT (by rfl) (by first | rfl | assumption) ?_) | (refine VNew.mk fun _ => ?_) | (refine VAr.is ?_; refine oA ?_) | (refine VIx.is ?_; refine VIx.mk rfl (by omega) (by omega) ?_) | (refine VKeep.is ?_; refine VKeep.mk aH ?_) | (refine VHs.mk _ (.refl _) ?_) | (refine VQ.is ?_; refine oQ ?_) | (refine VM.is ?_; refine oM ?_) | (refine And.intro ?_ ?_)
    all_goals (conv => whnf)
    all_goals first
      | exact ⟨fun w' hw' => ⟨(none, 0), rfl, (fun h => by cases h), hw'.le (HLe.nilv .nil)⟩⟩
      | (exfalso; omega)
  have hp0 := Decidable.not_not.1 he
  have hg := hg hp0
  rw [if_neg he] at hasg
  by_cases hc : chkA X.N X.C cores ≠ 0
  · rw [hasg, if_pos hc]
    obtain ⟨E, hE⟩ : ∃ E, chkA X.N X.C cores = E := ⟨_, rfl⟩
    rw [hE] at hg hc ⊢
    unfold PlnX.net chpC at hg ⊢
    refine enter (C := Tryz.cx) (F := Tryz.fx39) (args := [_, _, _, _]) Tryz.func39 rfl rfl rfl Tryz.ok39 (St.start w []) ?_
    repeat' (conv => whnf); first | (refine VCall.isF 68 ?_; (refine VCall.genR (fun w' hw' => hg w' (hX.keep hw') (h1.keep hw' (by simp))) ?_; rintro x hup)) | (refine VSeq.go ?_) | (refine VB.is ?_; refine VB.yes (by omega) fun _ => ?_) | (refine VB.is ?_; refine VB.no (by omega) fun _ => ?_) | (refine VB.split (fun _ => ?_) (fun _ => ?_)) | (refine boolE_split (fun h => ?_) (fun h => ?_) <;> subst h) | (refine VLd.is ?_; refine VLd.mk (.row aT (by rfl)) ?_) | (refine VSt.is ?_; refine VSt.row aT (by rfl) (by first | rfl | assumption) ?_) | (refine VNew.mk fun _ => ?_) | (refine VAr.is ?_; refine oA ?_) | (refine VIx.is ?_; refine VIx.mk rfl (by omega) (by omega) ?_) | (refine VKeep.is ?_; refine VKeep.mk aH ?_) | (refine VHs.mk _ (.refl _) ?_) | (refine VQ.is ?_; refine oQ ?_) | (refine VM.is ?_; refine oM ?_) | (refine And.intro ?_ ?_)
    all_goals (conv => whnf)
    all_goals first
      | exact ⟨fun w' hw' => ⟨(none, 0), rfl, (fun h => by cases h), hw'.le (HLe.nilv .nil)⟩⟩
      | (exfalso; omega)
  have hc0 := Decidable.not_not.1 hc
  rw [hasg, if_neg hc]
  by_cases hr : ¬ (0 ≤ rounds ∧ rounds ≤ 16)
  · rw [if_pos hr]
    rw [hc0] at hg
    unfold PlnX.net chpC at hg ⊢
    refine enter (C := Tryz.cx) (F := Tryz.fx39) (args := [_, _, _, _]) Tryz.func39 rfl rfl rfl Tryz.ok39 (St.start w []) ?_
    repeat' (conv => whnf); first | (refine VCall.isF 47 ?_; refine VCall.inl (F := Tryz.fx47) Tryz.func47 rfl rfl rfl Tryz.ok47 ?_) | (refine VCall.isF 68 ?_; (refine VCall.genR (fun w' hw' => hg w' (hX.keep hw') (h1.keep hw' (by simp))) ?_; rintro x hup)) | (refine VSeq.go ?_) | (refine VB.is ?_; refine VB.yes (by omega) fun _ => ?_) | (refine VB.is ?_; refine VB.no (by omega) fun _ => ?_) | (refine VB.split (fun _ => ?_) (fun _ => ?_)) | (refine boolE_split (fun h => ?_) (fun h => ?_) <;> subst h) | (refine VLd.is ?_; refine VLd.mk (.row aT (by rfl)) ?_) | (refine VSt.is ?_; refine VSt.row aT (by rfl) (by first | rfl | assumption) ?_) | (refine VNew.mk fun _ => ?_) | (refine VAr.is ?_; refine oA ?_) | (refine VIx.is ?_; refine VIx.mk rfl (by omega) (by omega) ?_) | (refine VKeep.is ?_; refine VKeep.mk aH ?_) | (refine VHs.mk _ (.refl _) ?_) | (refine VQ.is ?_; refine oQ ?_) | (refine VM.is ?_; refine oM ?_) | (refine And.intro ?_ ?_)
    all_goals (conv => whnf)
    all_goals first
      | exact ⟨fun w' hw' => ⟨(none, 0), rfl, (fun h => by cases h), hw'.le (HLe.nilv .nil)⟩⟩
      | (exfalso; omega)
  rw [if_neg hr]
  obtain ⟨R, rfl⟩ : ∃ R : Nat, rounds = (R : Int) := ⟨rounds.toNat, by omega⟩
  have := improve_good X w hX hp0 cores hcw hlc hc0 R (by omega) p c b o h1
  refine this.mono fun e w' ⟨z, h2, _, h4⟩ => ⟨(some ⟨z.1, 0, none⟩, z.2), h2, fun _ => ⟨_, rfl⟩, h4⟩

end Go.Proofs
end

section
set_option linter.unusedVariables false

set_option linter.unusedSimpArgs false

namespace Go.Gm

end Go.Gm

namespace Go.Proofs

open Go Go.Vx Go.Gm

end Go.Proofs
end

section
set_option linter.unusedVariables false

set_option linter.unusedSimpArgs false

namespace Go.Proofs

open Go Go.Vx Go.Gm

end Go.Proofs
end

section
set_option linter.unusedVariables false

set_option linter.unusedSimpArgs false

namespace Go.Gm

end Go.Gm

namespace Go.Proofs

open Go Go.Vx Go.Gm

structure PlnRi (X : PlnX) (w : World) : Prop where
  net : X.N.wf
  chip : X.C.int
  cap : X.C.dead.length ≤ X.cd
  dead : ∃ b o, Sl w intV 1 X.C.dead X.pd X.C.dead.length b o
  ps : ∃ b o, Sl w parV 8 X.N.ps X.pn X.N.ps.length b o
  syns : ∃ b o, Sl w synV 4 X.N.syns X.qs X.N.syns.length b o

theorem PlnRi.rd {X : PlnX} {w w' : World} {H : HP} (h : PlnRi X w) (hw' : St w [] H w') (hf : X.C.dead.length ≤ 1000000) : PlnRd X w' :=
  PlnRd.keep ⟨h.net, h.chip.wf hf, h.cap, h.dead, h.ps, h.syns⟩ hw'

end Go.Proofs
end

section
set_option linter.unusedVariables false

set_option linter.unusedSimpArgs false

namespace Go.Proofs

open Go Go.Vx Go.Gm

end Go.Proofs
end
