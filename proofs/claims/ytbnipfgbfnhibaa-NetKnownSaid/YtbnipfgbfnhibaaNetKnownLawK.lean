/- LawK: NetKnown, walked. -/

import Derived.Test.YtbnipfgbfnhibaaNetKnownLawR
import Derived.Test.YtbnipfgbfnhibaaNetKnownRq
import Derived.Test.YtbnipfgbfnhibaaNetKnownJn
import Derived.Test.YtbnipfgbfnhibaaNetKnownRo

set_option linter.unusedVariables false

set_option linter.unusedSimpArgs false

namespace Go.Proofs

open Go Go.Vx Go.Gm

def netL : Net := ⟨[parA, parA], 1, [⟨-1, 0, 6, 1⟩, ⟨0, 1, 6, 3⟩, ⟨0, 0, 6, 2⟩]⟩

def ev1 : List Evt := [⟨0, 0⟩]

def ev2 : List Evt := [⟨0, 0⟩, ⟨1, 0⟩]

def ev3 : List Evt := [⟨0, 1⟩]

def ev4 : List Evt := [⟨1, 0⟩, ⟨0, 0⟩]

def ev5 : List Evt := [⟨0, 0⟩, ⟨0, 0⟩]

def out1 : List Evt := [⟨1, 0⟩, ⟨3, 0⟩, ⟨4, 1⟩, ⟨5, 0⟩, ⟨6, 1⟩, ⟨7, 0⟩]

def out2 : List Evt := [⟨1, 0⟩, ⟨4, 1⟩]

theorem run_1 : runRes netL ev1 8 = (out1, 0) := by kernel_rfl

theorem run_2 : runRes netE ev2 10 = (out2, 0) := by kernel_rfl

theorem run_3 : runRes netE ev3 1 = ([], 3) := by kernel_rfl

theorem run_4 : runRes netE ev4 1 = ([], 2) := by kernel_rfl

theorem run_5 : runRes netE ev5 1 = ([], 2) := by kernel_rfl

theorem run_6 : runRes netE [] (-1) = ([], 3) := by kernel_rfl

theorem netL_wf : netL.wf := by
  refine ⟨?_, ?_, ?_⟩
  · intro p hp
    simp only [netL, List.mem_cons, List.not_mem_nil, or_false, or_self] at hp
    subst hp
    constructor <;> simp [parA, I64]
  · simp [netL, I64]
  · simp [netL, Syn.wf, I64]

theorem ev1_wf : ∀ e ∈ ev1, e.wf := evtWf [(0, 0)] (by simp)

theorem ev2_wf : ∀ e ∈ ev2, e.wf := evtWf [(0, 0), (1, 0)] (by simp)

theorem ev3_wf : ∀ e ∈ ev3, e.wf := evtWf [(0, 1)] (by simp)

theorem ev4_wf : ∀ e ∈ ev4, e.wf := evtWf [(1, 0), (0, 0)] (by simp)

theorem ev5_wf : ∀ e ∈ ev5, e.wf := evtWf [(0, 0), (0, 0)] (by simp)

theorem out1_wf : ∀ e ∈ out1, e.wf := evtWf [(1, 0), (3, 0), (4, 1), (5, 0), (6, 1), (7, 0)] (by simp)

theorem out2_wf : ∀ e ∈ out2, e.wf := evtWf [(1, 0), (4, 1)] (by simp)

theorem edgeE {u v : Int} : edge netE u v ↔ (u = -1 ∧ v = 0) ∨ (u = 0 ∧ v = 1) := by
  unfold edge netE
  simp only [List.mem_cons, List.not_mem_nil, or_false]
  constructor
  · rintro ⟨s, rfl | rfl, _, h1, h2⟩
    · exact .inl ⟨h1.symm, h2.symm⟩
    · exact .inr ⟨h1.symm, h2.symm⟩
  · rintro (⟨rfl, rfl⟩ | ⟨rfl, rfl⟩)
    · exact ⟨_, .inl rfl, by decide, rfl, rfl⟩
    · exact ⟨_, .inr rfl, by decide, rfl, rfl⟩

theorem chkE : netchk netE = 0 := by kernel_rfl

theorem reach_1 {L : List Bool} {e : Int} (h : ReachRes netE [-1] L e) : L = [true, true] ∧ e = 0 := by
  refine h.eq (.inr (.inr ⟨chkE, by simp [srcOk, netE], ⟨rfl, fun i b hb => ?_⟩, rfl⟩))
  have h0 : Reaches netE (-1) 0 := .step .refl (edgeE.2 (.inl ⟨rfl, rfl⟩))
  have h1 : Reaches netE (-1) 1 := .step h0 (edgeE.2 (.inr ⟨rfl, rfl⟩))
  match i, hb with
  | 0, hb => cases hb; simpa using h0
  | 1, hb => cases hb; simpa using h1

theorem reach_2 {L : List Bool} {e : Int} (h : ReachRes netE [1] L e) : L = [false, true] ∧ e = 0 := by
  refine h.eq (.inr (.inr ⟨chkE, by simp [srcOk, netE], ⟨rfl, fun i b hb => ?_⟩, rfl⟩))
  have hc : Closed netE [1] := by
    intro u hu v he
    simp only [List.mem_singleton] at hu
    rcases edgeE.1 he with h | h <;> omega
  match i, hb with
  | 0, hb =>
    cases hb
    simp only [List.mem_singleton, exists_eq_left, Bool.false_eq_true, false_iff]
    intro hr
    have := hc.reach (u := 1) (by simp) hr
    simp at this
  | 1, hb => cases hb; simpa using Reaches.refl

theorem reach_3 {L : List Bool} {e : Int} (h : ReachRes netE [2] L e) : L = [] ∧ e = 3 := by
  refine h.eq (.inr (.inl ⟨chkE, ⟨2, by simp, by simp [srcOk, netE]⟩, rfl, rfl⟩))

def net2 : Net := ⟨[parA, parA, parA, parA], 2, [⟨-1, 0, 6, 1⟩, ⟨0, 1, 6, 3⟩, ⟨-2, 2, 6, 1⟩, ⟨2, 3, 6, 3⟩]⟩

def netT : Net := ⟨[parA, parA], 1, [⟨-1, 1, 6, 1⟩, ⟨1, 0, 6, 3⟩]⟩

theorem join_E : joinRes netE netE = (net2, 0) := by kernel_rfl

theorem ren_E : renRes netE [1, 0] = (netT, 0) := by kernel_rfl

def smE1 : Sm := ringStep netE 0 (sm0 netE) [0]

def smE2 : Sm := ringStep netE 1 smE1 []

theorem spk_0 : ringSpk netE 0 (sm0 netE) = [] := by kernel_rfl

theorem spk_1 : ringSpk netE 1 smE1 = [0] := by kernel_rfl

def rowE (d : Nat) : List Int := if d = 2 then [0, 6] else [0, 0]

theorem sts_2 : smE2.sts = [⟨0, 1⟩, ⟨0, 0⟩] := by kernel_rfl

theorem due_2 : rot 2 smE2.D = (List.range 16).map rowE := by kernel_rfl

theorem kn_1 {x : SimM} (hx : SimOk x) (hN : x.N = netE) (ht : x.tick = 0) (hs : x.sts = List.replicate netE.ps.length ⟨0, 0⟩) (hD : x.D.map (·.l) = List.replicate 16 (List.replicate netE.ps.length 0)) :
    SimRun x ∧ stepErr x [0] = 0 ∧ stepSpk x [0] = [] ∧ SimRun (stepSim x [0]) ∧ (stepSim x [0]).tick = 1 ∧ (stepSim x [0]).N = netE ∧ smOf (stepSim x [0]) = smE1 := by
  have hsm : smOf x = sm0 netE := by unfold smOf sm0; rw [hs, hD]
  have hrun : SimRun x := by
    refine ⟨hx, ?_, by omega⟩
    rw [hN, hs]
    intro i p s g1 g2
    rw [List.getElem?_replicate] at g2
    split at g2
    · cases g2
      have := (netE_ok.ps p (List.mem_of_getElem? g1))
      have h1 := this.fl
      have h2 := this.rest
      unfold staOk
      dsimp only
      omega
    · cases g2
  have he : stepErr x [0] = 0 := by
    unfold stepErr
    rw [if_neg (by omega), hN]
    kernel_rfl
  have hsp : stepSpk x [0] = [] := by
    unfold stepSpk
    rw [if_pos he]
    have : spk (simFire x) = ringSpk netE x.tick (smOf x) := by
      rw [← hN]
      simp only [ringSpk, simFire, smOf, List.getElem?_map]
    rw [this, hsm, ht]
    exact spk_0
  have hst : stepSim x [0] = simStep x [0] := by unfold stepSim; rw [if_pos he]
  refine ⟨hrun, he, hsp, hrun.step [0], by rw [hst]; show x.tick + 1 = 1; omega, by rw [hst]; exact hN, ?_⟩
  rw [hst, smOf_step, hN, ht, hsm]
  rfl

theorem kn_2 {x : SimM} (hr : SimRun x) (ht : x.tick = 1) (hN : x.N = netE) (hsm : smOf x = smE1) :
    stepErr x [] = 0 ∧ stepSpk x [] = [0] ∧ SimRun (stepSim x []) ∧ (stepSim x []).tick = 2 ∧ smOf (stepSim x []) = smE2 := by
  have he : stepErr x [] = 0 := by
    unfold stepErr
    rw [if_neg (by omega), hN]
    kernel_rfl
  have hsp : stepSpk x [] = [0] := by
    unfold stepSpk
    rw [if_pos he]
    have : spk (simFire x) = ringSpk netE x.tick (smOf x) := by
      rw [← hN]
      simp only [ringSpk, simFire, smOf, List.getElem?_map]
    rw [this, hsm, ht]
    exact spk_1
  have hst : stepSim x [] = simStep x [] := by unfold stepSim; rw [if_pos he]
  refine ⟨he, hsp, hr.step [], by rw [hst]; show x.tick + 1 = 2; omega, ?_⟩
  rw [hst, smOf_step, hN, ht, hsm]
  rfl

set_option maxHeartbeats 1600000 in
theorem NetKnown_any (w : World) : Calls Try.prog 16 #[] w fun e w' => e = .returned (.bool true) ∧ St w [] [] w' := by
  refine enter (C := Try.cx) (F := Try.fx16) (args := []) Try.func16 rfl rfl rfl Try.ok16 (St.start w []) ?_
  repeat' (conv => whnf); first | (refine VCall.isF 51 ?_; refine VCall.inl (F := Try.fx51) Try.func51 rfl rfl rfl Try.ok51 ?_) | (refine VCall.isF 93 ?_; refine VCall.inl (F := Try.fx93) Try.func93 rfl rfl rfl Try.ok93 ?_) | (refine VAp.is ?_; refine VAp.own aT (.at_ (.vec aT rfl)) (by simp [Value.oneCell']) (by (try dsimp only); omega) (by simp only [maxLen]; omega) fun p' cap' hp' => ?_; obtain ⟨g', hg'⟩ := hp' (by omega); subst hg') | (refine VCall.is ?_; refine VCall.isF 22 ?_; refine VCall.genR (fun w' hw' => Run_any netL netL_wf ev1 ev1_wf 8 _ _ _ _ _ _ _ _ _ _ _ _ w' (Sl.own' hw' (l := netL.ps) (f := parV) (k := 8) (by repeat (first | exact List.mem_cons_self | apply List.mem_cons_of_mem)) (fun _ => rfl) rfl) (Sl.own' hw' (l := netL.syns) (f := synV) (k := 4) (by repeat (first | exact List.mem_cons_self | apply List.mem_cons_of_mem)) (fun _ => rfl) rfl) (Sl.own' hw' (l := ev1) (f := evtV) (k := 2) (by repeat (first | exact List.mem_cons_self | apply List.mem_cons_of_mem)) (fun _ => rfl) rfl) (by decide)) ?_; rintro ⟨p1, c1⟩ _; rw [run_1]; dsimp only) | (refine VSeq.is ?_; refine VSeq.cut (at_ := 4) (α := Option Addr × Nat) (fun _ => True) (fun y => [(1000000, .tuple #[]), (0, .bool false), (2, .slice y.1 out1.length y.2), (3, .int .i64 0)]) (fun y => [.vec y.1 out1.length y.2 44 2 (flat evtV out1)]) ?_ ?_) | (refine VSeq.is ?_; refine VSeq.go ?_) | (refine VB.is ?_; refine VB.yes (by omega) fun _ => ?_) | (refine VB.is ?_; refine VB.no (by omega) fun _ => ?_) | (refine VB.is ?_; refine VB.split (fun _ => ?_) (fun _ => ?_)) | (refine boolE_split (fun h => ?_) (fun h => ?_) <;> subst h) | (refine VLd.is ?_; refine VLd.mk (.row aT (by rfl)) ?_) | (refine VSt.is ?_; refine VSt.row aT (by rfl) (by first | rfl | assumption) ?_) | (refine VNew.is ?_; refine VNew.mk fun _ => ?_) | (refine VAr.is ?_; refine VAr.i64 (by omega) (by omega) ?_) | (refine VIx.is ?_; refine VIx.mk rfl (by omega) (by omega) ?_) | (refine VKeep.is ?_; refine VKeep.mk aH ?_) | (refine VHs.is ?_; refine VHs.mk _ (HLe.refl _) ?_) | (refine VQ.is ?_; refine VQ.pos (by omega) (by omega) (by omega) ?_) | (refine VM.is ?_; refine VM.pos (by omega) (by omega) ?_) | (refine And.intro ?_ ?_)
  all_goals (conv => whnf)
  · exact VMid.mk (p1, c1) trivial aE aH
  rintro ⟨p1, c1⟩ _
  repeat' (conv => whnf); first | (refine VCall.isF 51 ?_; refine VCall.inl (F := Try.fx51) Try.func51 rfl rfl rfl Try.ok51 ?_) | (refine VCall.isF 93 ?_; refine VCall.inl (F := Try.fx93) Try.func93 rfl rfl rfl Try.ok93 ?_) | (refine VCall.is ?_; refine VCall.isF 22 ?_; refine VCall.genR (fun w' hw' => Run_any netE netE_wf ev2 ev2_wf 10 _ _ _ _ _ _ _ _ _ _ _ _ w' (Sl.own' hw' (l := netE.ps) (f := parV) (k := 8) (by repeat (first | exact List.mem_cons_self | apply List.mem_cons_of_mem)) (fun _ => rfl) rfl) (Sl.own' hw' (l := netE.syns) (f := synV) (k := 4) (by repeat (first | exact List.mem_cons_self | apply List.mem_cons_of_mem)) (fun _ => rfl) rfl) (Sl.own' hw' (l := ev2) (f := evtV) (k := 2) (by repeat (first | exact List.mem_cons_self | apply List.mem_cons_of_mem)) (fun _ => rfl) rfl) (by decide)) ?_; rintro ⟨p2, c2⟩ _; rw [run_2]; dsimp only) | (refine VCall.is ?_; refine VCall.isF 24 ?_; refine VCall.isA (.slice p1 (out1).length c1) ?_; refine same_call out1 out1 out1_wf out1_wf (by decide) _ _ _ _ _ _ _ _ rfl rfl aT aT ?_; intro r hr; have hr := hr.2 rfl; subst hr) | (refine VCall.is ?_; refine VCall.isF 24 ?_; refine VCall.isA (.slice p2 (out2).length c2) ?_; refine same_call out2 out2 out2_wf out2_wf (by decide) _ _ _ _ _ _ _ _ rfl rfl aT aT ?_; intro r hr; have hr := hr.2 rfl; subst hr) | (refine VSeq.is ?_; refine VSeq.cut (at_ := 7) (α := Unit) (fun _ => True) (fun y => [(1000000, .tuple #[]), (0, .bool false)]) (fun y => []) ?_ ?_) | (refine VSeq.is ?_; refine VSeq.go ?_) | (refine VB.is ?_; refine VB.yes (by omega) fun _ => ?_) | (refine VB.is ?_; refine VB.no (by omega) fun _ => ?_) | (refine VB.is ?_; refine VB.split (fun _ => ?_) (fun _ => ?_)) | (refine boolE_split (fun h => ?_) (fun h => ?_) <;> subst h) | (refine VLd.is ?_; refine VLd.mk (.row aT (by rfl)) ?_) | (refine VSt.is ?_; refine VSt.row aT (by rfl) (by first | rfl | assumption) ?_) | (refine VNew.is ?_; refine VNew.mk fun _ => ?_) | (refine VAr.is ?_; refine VAr.i64 (by omega) (by omega) ?_) | (refine VIx.is ?_; refine VIx.mk rfl (by omega) (by omega) ?_) | (refine VKeep.is ?_; refine VKeep.mk aH ?_) | (refine VHs.is ?_; refine VHs.mk _ (HLe.refl _) ?_) | (refine VQ.is ?_; refine VQ.pos (by omega) (by omega) (by omega) ?_) | (refine VM.is ?_; refine VM.pos (by omega) (by omega) ?_) | (refine And.intro ?_ ?_)
  all_goals (conv => whnf)
  · exact VMid.mk () trivial aE aH
  rintro _ _
  repeat' (conv => whnf); first | (refine VCall.isF 51 ?_; refine VCall.inl (F := Try.fx51) Try.func51 rfl rfl rfl Try.ok51 ?_) | (refine VCall.isF 93 ?_; refine VCall.inl (F := Try.fx93) Try.func93 rfl rfl rfl Try.ok93 ?_) | (refine VCall.is ?_; refine VCall.isF 22 ?_; refine VCall.genR (fun w' hw' => Run_any netE netE_wf ev3 ev3_wf 1 _ _ _ _ _ _ _ _ _ _ _ _ w' (Sl.own' hw' (l := netE.ps) (f := parV) (k := 8) (by repeat (first | exact List.mem_cons_self | apply List.mem_cons_of_mem)) (fun _ => rfl) rfl) (Sl.own' hw' (l := netE.syns) (f := synV) (k := 4) (by repeat (first | exact List.mem_cons_self | apply List.mem_cons_of_mem)) (fun _ => rfl) rfl) (Sl.own' hw' (l := ev3) (f := evtV) (k := 2) (by repeat (first | exact List.mem_cons_self | apply List.mem_cons_of_mem)) (fun _ => rfl) rfl) (by decide)) ?_; rintro ⟨p1, c1⟩ _; rw [run_3]; dsimp only) | (refine VSeq.is ?_; refine VSeq.cut (at_ := 8) (α := Unit) (fun _ => True) (fun y => [(1000000, .tuple #[]), (0, .bool false), (3, .int .i64 3)]) (fun y => []) ?_ ?_) | (refine VSeq.is ?_; refine VSeq.go ?_) | (refine VB.is ?_; refine VB.yes (by omega) fun _ => ?_) | (refine VB.is ?_; refine VB.no (by omega) fun _ => ?_) | (refine VB.is ?_; refine VB.split (fun _ => ?_) (fun _ => ?_)) | (refine boolE_split (fun h => ?_) (fun h => ?_) <;> subst h) | (refine VLd.is ?_; refine VLd.mk (.row aT (by rfl)) ?_) | (refine VSt.is ?_; refine VSt.row aT (by rfl) (by first | rfl | assumption) ?_) | (refine VNew.is ?_; refine VNew.mk fun _ => ?_) | (refine VAr.is ?_; refine VAr.i64 (by omega) (by omega) ?_) | (refine VIx.is ?_; refine VIx.mk rfl (by omega) (by omega) ?_) | (refine VKeep.is ?_; refine VKeep.mk aH ?_) | (refine VHs.is ?_; refine VHs.mk _ (HLe.refl _) ?_) | (refine VQ.is ?_; refine VQ.pos (by omega) (by omega) (by omega) ?_) | (refine VM.is ?_; refine VM.pos (by omega) (by omega) ?_) | (refine And.intro ?_ ?_)
  all_goals (conv => whnf)
  · exact VMid.mk () trivial aE aH
  rintro _ _
  repeat' (conv => whnf); first | (refine VCall.isF 51 ?_; refine VCall.inl (F := Try.fx51) Try.func51 rfl rfl rfl Try.ok51 ?_) | (refine VCall.isF 93 ?_; refine VCall.inl (F := Try.fx93) Try.func93 rfl rfl rfl Try.ok93 ?_) | (refine VCall.is ?_; refine VCall.isF 22 ?_; refine VCall.genR (fun w' hw' => Run_any netE netE_wf ev4 ev4_wf 1 _ _ _ _ _ _ _ _ _ _ _ _ w' (Sl.own' hw' (l := netE.ps) (f := parV) (k := 8) (by repeat (first | exact List.mem_cons_self | apply List.mem_cons_of_mem)) (fun _ => rfl) rfl) (Sl.own' hw' (l := netE.syns) (f := synV) (k := 4) (by repeat (first | exact List.mem_cons_self | apply List.mem_cons_of_mem)) (fun _ => rfl) rfl) (Sl.own' hw' (l := ev4) (f := evtV) (k := 2) (by repeat (first | exact List.mem_cons_self | apply List.mem_cons_of_mem)) (fun _ => rfl) rfl) (by decide)) ?_; rintro ⟨p1, c1⟩ _; rw [run_4]; dsimp only) | (refine VSeq.is ?_; refine VSeq.cut (at_ := 9) (α := Unit) (fun _ => True) (fun y => [(1000000, .tuple #[]), (0, .bool false), (3, .int .i64 3), (5, .int .i64 2)]) (fun y => []) ?_ ?_) | (refine VSeq.is ?_; refine VSeq.go ?_) | (refine VB.is ?_; refine VB.yes (by omega) fun _ => ?_) | (refine VB.is ?_; refine VB.no (by omega) fun _ => ?_) | (refine VB.is ?_; refine VB.split (fun _ => ?_) (fun _ => ?_)) | (refine boolE_split (fun h => ?_) (fun h => ?_) <;> subst h) | (refine VLd.is ?_; refine VLd.mk (.row aT (by rfl)) ?_) | (refine VSt.is ?_; refine VSt.row aT (by rfl) (by first | rfl | assumption) ?_) | (refine VNew.is ?_; refine VNew.mk fun _ => ?_) | (refine VAr.is ?_; refine VAr.i64 (by omega) (by omega) ?_) | (refine VIx.is ?_; refine VIx.mk rfl (by omega) (by omega) ?_) | (refine VKeep.is ?_; refine VKeep.mk aH ?_) | (refine VHs.is ?_; refine VHs.mk _ (HLe.refl _) ?_) | (refine VQ.is ?_; refine VQ.pos (by omega) (by omega) (by omega) ?_) | (refine VM.is ?_; refine VM.pos (by omega) (by omega) ?_) | (refine And.intro ?_ ?_)
  all_goals (conv => whnf)
  · exact VMid.mk () trivial aE aH
  rintro _ _
  repeat' (conv => whnf); first | (refine VCall.isF 51 ?_; refine VCall.inl (F := Try.fx51) Try.func51 rfl rfl rfl Try.ok51 ?_) | (refine VCall.isF 93 ?_; refine VCall.inl (F := Try.fx93) Try.func93 rfl rfl rfl Try.ok93 ?_) | (refine VCall.is ?_; refine VCall.isF 22 ?_; refine VCall.genR (fun w' hw' => Run_any netE netE_wf ev5 ev5_wf 1 _ _ _ _ _ _ _ _ _ _ _ _ w' (Sl.own' hw' (l := netE.ps) (f := parV) (k := 8) (by repeat (first | exact List.mem_cons_self | apply List.mem_cons_of_mem)) (fun _ => rfl) rfl) (Sl.own' hw' (l := netE.syns) (f := synV) (k := 4) (by repeat (first | exact List.mem_cons_self | apply List.mem_cons_of_mem)) (fun _ => rfl) rfl) (Sl.own' hw' (l := ev5) (f := evtV) (k := 2) (by repeat (first | exact List.mem_cons_self | apply List.mem_cons_of_mem)) (fun _ => rfl) rfl) (by decide)) ?_; rintro ⟨p1, c1⟩ _; rw [run_5]; dsimp only) | (refine VSeq.is ?_; refine VSeq.cut (at_ := 10) (α := Unit) (fun _ => True) (fun y => [(1000000, .tuple #[]), (0, .bool false), (3, .int .i64 3), (5, .int .i64 2), (7, .int .i64 2)]) (fun y => []) ?_ ?_) | (refine VSeq.is ?_; refine VSeq.go ?_) | (refine VB.is ?_; refine VB.yes (by omega) fun _ => ?_) | (refine VB.is ?_; refine VB.no (by omega) fun _ => ?_) | (refine VB.is ?_; refine VB.split (fun _ => ?_) (fun _ => ?_)) | (refine boolE_split (fun h => ?_) (fun h => ?_) <;> subst h) | (refine VLd.is ?_; refine VLd.mk (.row aT (by rfl)) ?_) | (refine VSt.is ?_; refine VSt.row aT (by rfl) (by first | rfl | assumption) ?_) | (refine VNew.is ?_; refine VNew.mk fun _ => ?_) | (refine VAr.is ?_; refine VAr.i64 (by omega) (by omega) ?_) | (refine VIx.is ?_; refine VIx.mk rfl (by omega) (by omega) ?_) | (refine VKeep.is ?_; refine VKeep.mk aH ?_) | (refine VHs.is ?_; refine VHs.mk _ (HLe.refl _) ?_) | (refine VQ.is ?_; refine VQ.pos (by omega) (by omega) (by omega) ?_) | (refine VM.is ?_; refine VM.pos (by omega) (by omega) ?_) | (refine And.intro ?_ ?_)
  all_goals (conv => whnf)
  · exact VMid.mk () trivial aE aH
  rintro _ _
  repeat' (conv => whnf); first | (refine VCall.isF 51 ?_; refine VCall.inl (F := Try.fx51) Try.func51 rfl rfl rfl Try.ok51 ?_) | (refine VCall.isF 93 ?_; refine VCall.inl (F := Try.fx93) Try.func93 rfl rfl rfl Try.ok93 ?_) | (refine VCall.is ?_; refine VCall.isF 22 ?_; refine VCall.genR (fun w' hw' => Run_any netE netE_wf [] (by simp) (-1) _ _ _ _ _ _ _ _ _ 0 0 0 w' (Sl.own' hw' (l := netE.ps) (f := parV) (k := 8) (by repeat (first | exact List.mem_cons_self | apply List.mem_cons_of_mem)) (fun _ => rfl) rfl) (Sl.own' hw' (l := netE.syns) (f := synV) (k := 4) (by repeat (first | exact List.mem_cons_self | apply List.mem_cons_of_mem)) (fun _ => rfl) rfl) (.nil (.inl rfl)) (by decide)) ?_; rintro ⟨p1, c1⟩ _; rw [run_6]; dsimp only) | (refine VSeq.is ?_; refine VSeq.cut (at_ := 13) (α := Unit) (fun _ => True) (fun y => [(1000000, .tuple #[]), (0, .bool false)]) (fun y => []) ?_ ?_) | (refine VSeq.is ?_; refine VSeq.go ?_) | (refine VB.is ?_; refine VB.yes (by omega) fun _ => ?_) | (refine VB.is ?_; refine VB.no (by omega) fun _ => ?_) | (refine VB.is ?_; refine VB.split (fun _ => ?_) (fun _ => ?_)) | (refine boolE_split (fun h => ?_) (fun h => ?_) <;> subst h) | (refine VLd.is ?_; refine VLd.mk (.row aT (by rfl)) ?_) | (refine VSt.is ?_; refine VSt.row aT (by rfl) (by first | rfl | assumption) ?_) | (refine VNew.is ?_; refine VNew.mk fun _ => ?_) | (refine VAr.is ?_; refine VAr.i64 (by omega) (by omega) ?_) | (refine VIx.is ?_; refine VIx.mk rfl (by omega) (by omega) ?_) | (refine VKeep.is ?_; refine VKeep.mk aH ?_) | (refine VHs.is ?_; refine VHs.mk _ (HLe.refl _) ?_) | (refine VQ.is ?_; refine VQ.pos (by omega) (by omega) (by omega) ?_) | (refine VM.is ?_; refine VM.pos (by omega) (by omega) ?_) | (refine And.intro ?_ ?_)
  all_goals (conv => whnf)
  · exact VMid.mk () trivial aE aH
  rintro _ _
  repeat' (conv => whnf); first | (refine VCall.isF 51 ?_; refine VCall.inl (F := Try.fx51) Try.func51 rfl rfl rfl Try.ok51 ?_) | (refine VCall.isF 93 ?_; refine VCall.inl (F := Try.fx93) Try.func93 rfl rfl rfl Try.ok93 ?_) | (refine VCall.is ?_; refine VCall.isF 32 ?_; refine VCall.genR (fun w' hw' => Reach_any netE netE_wf [-1] (by simp [I64]) (by decide) _ _ _ _ _ _ _ _ _ _ _ _ w' (Sl.own' hw' (l := netE.ps) (f := parV) (k := 8) (by repeat (first | exact List.mem_cons_self | apply List.mem_cons_of_mem)) (fun _ => rfl) rfl) (Sl.own' hw' (l := netE.syns) (f := synV) (k := 4) (by repeat (first | exact List.mem_cons_self | apply List.mem_cons_of_mem)) (fun _ => rfl) rfl) (Sl.own' hw' (l := [-1]) (f := intV) (k := 1) (by repeat (first | exact List.mem_cons_self | apply List.mem_cons_of_mem)) (fun _ => rfl) rfl)) ?_; rintro ⟨⟨p1, c1⟩, L, er⟩ hr; obtain ⟨rfl, rfl⟩ := reach_1 hr; dsimp only) | (refine VSeq.is ?_; refine VSeq.cut (at_ := 14) (α := Option Addr × Nat) (fun _ => True) (fun y => [(1000000, .tuple #[]), (0, .bool false), (10, .slice y.1 2 y.2), (3, .int .i64 0)]) (fun y => [.vec y.1 2 y.2 4 1 (flat bV [true, true])]) ?_ ?_) | (refine VSeq.is ?_; refine VSeq.go ?_) | (refine VB.is ?_; refine VB.yes (by omega) fun _ => ?_) | (refine VB.is ?_; refine VB.no (by omega) fun _ => ?_) | (refine VB.is ?_; refine VB.split (fun _ => ?_) (fun _ => ?_)) | (refine boolE_split (fun h => ?_) (fun h => ?_) <;> subst h) | (refine VLd.is ?_; refine VLd.mk (.row aT (by rfl)) ?_) | (refine VSt.is ?_; refine VSt.row aT (by rfl) (by first | rfl | assumption) ?_) | (refine VNew.is ?_; refine VNew.mk fun _ => ?_) | (refine VAr.is ?_; refine VAr.i64 (by omega) (by omega) ?_) | (refine VIx.is ?_; refine VIx.mk rfl (by omega) (by omega) ?_) | (refine VKeep.is ?_; refine VKeep.mk aH ?_) | (refine VHs.is ?_; refine VHs.mk _ (HLe.refl _) ?_) | (refine VQ.is ?_; refine VQ.pos (by omega) (by omega) (by omega) ?_) | (refine VM.is ?_; refine VM.pos (by omega) (by omega) ?_) | (refine And.intro ?_ ?_)
  all_goals (conv => whnf)
  · exact VMid.mk (p1, c1) trivial aE aH
  rintro ⟨p1, c1⟩ _
  repeat' (conv => whnf); first | (refine VCall.isF 51 ?_; refine VCall.inl (F := Try.fx51) Try.func51 rfl rfl rfl Try.ok51 ?_) | (refine VCall.isF 93 ?_; refine VCall.inl (F := Try.fx93) Try.func93 rfl rfl rfl Try.ok93 ?_) | (refine VCall.is ?_; refine VCall.isF 32 ?_; refine VCall.genR (fun w' hw' => Reach_any netE netE_wf [1] (by simp [I64]) (by decide) _ _ _ _ _ _ _ _ _ _ _ _ w' (Sl.own' hw' (l := netE.ps) (f := parV) (k := 8) (by repeat (first | exact List.mem_cons_self | apply List.mem_cons_of_mem)) (fun _ => rfl) rfl) (Sl.own' hw' (l := netE.syns) (f := synV) (k := 4) (by repeat (first | exact List.mem_cons_self | apply List.mem_cons_of_mem)) (fun _ => rfl) rfl) (Sl.own' hw' (l := [1]) (f := intV) (k := 1) (by repeat (first | exact List.mem_cons_self | apply List.mem_cons_of_mem)) (fun _ => rfl) rfl)) ?_; rintro ⟨⟨p2, c2⟩, L, er⟩ hr; obtain ⟨rfl, rfl⟩ := reach_2 hr; dsimp only) | (refine VSeq.is ?_; refine VSeq.cut (at_ := 15) (α := Option Addr × Nat) (fun _ => True) (fun y => [(1000000, .tuple #[]), (0, .bool false), (10, .slice p1 2 c1), (3, .int .i64 0), (11, .slice y.1 2 y.2), (5, .int .i64 0)]) (fun y => [.vec p1 2 c1 4 1 (flat bV [true, true]), .vec y.1 2 y.2 4 1 (flat bV [false, true])]) ?_ ?_) | (refine VSeq.is ?_; refine VSeq.go ?_) | (refine VB.is ?_; refine VB.yes (by omega) fun _ => ?_) | (refine VB.is ?_; refine VB.no (by omega) fun _ => ?_) | (refine VB.is ?_; refine VB.split (fun _ => ?_) (fun _ => ?_)) | (refine boolE_split (fun h => ?_) (fun h => ?_) <;> subst h) | (refine VLd.is ?_; refine VLd.mk (.row aT (by rfl)) ?_) | (refine VSt.is ?_; refine VSt.row aT (by rfl) (by first | rfl | assumption) ?_) | (refine VNew.is ?_; refine VNew.mk fun _ => ?_) | (refine VAr.is ?_; refine VAr.i64 (by omega) (by omega) ?_) | (refine VIx.is ?_; refine VIx.mk rfl (by omega) (by omega) ?_) | (refine VKeep.is ?_; refine VKeep.mk aH ?_) | (refine VHs.is ?_; refine VHs.mk _ (HLe.refl _) ?_) | (refine VQ.is ?_; refine VQ.pos (by omega) (by omega) (by omega) ?_) | (refine VM.is ?_; refine VM.pos (by omega) (by omega) ?_) | (refine And.intro ?_ ?_)
  all_goals (conv => whnf)
  · exact VMid.mk (p2, c2) trivial aE aH
  rintro ⟨p2, c2⟩ _
  repeat' (conv => whnf); first | (refine VCall.isF 51 ?_; refine VCall.inl (F := Try.fx51) Try.func51 rfl rfl rfl Try.ok51 ?_) | (refine VCall.isF 93 ?_; refine VCall.inl (F := Try.fx93) Try.func93 rfl rfl rfl Try.ok93 ?_) | (refine VCall.is ?_; refine VCall.isF 32 ?_; refine VCall.genR (fun w' hw' => Reach_any netE netE_wf [2] (by simp [I64]) (by decide) _ _ _ _ _ _ _ _ _ _ _ _ w' (Sl.own' hw' (l := netE.ps) (f := parV) (k := 8) (by repeat (first | exact List.mem_cons_self | apply List.mem_cons_of_mem)) (fun _ => rfl) rfl) (Sl.own' hw' (l := netE.syns) (f := synV) (k := 4) (by repeat (first | exact List.mem_cons_self | apply List.mem_cons_of_mem)) (fun _ => rfl) rfl) (Sl.own' hw' (l := [2]) (f := intV) (k := 1) (by repeat (first | exact List.mem_cons_self | apply List.mem_cons_of_mem)) (fun _ => rfl) rfl)) ?_; rintro ⟨⟨p3, c3⟩, L, er⟩ hr; obtain ⟨rfl, rfl⟩ := reach_3 hr; dsimp only) | (refine VSeq.is ?_; refine VSeq.cutL (at_ := 16) (α := Unit) (fun _ => True) (fun y => [(1000000, .tuple #[]), (0, .bool false), (10, .slice p1 2 c1), (3, .int .i64 0), (11, .slice p2 2 c2), (5, .int .i64 0), (7, .int .i64 3)]) (fun y => [.vec p1 2 c1 4 1 (flat bV [true, true]), .vec p2 2 c2 4 1 (flat bV [false, true])]) (fun _ => (∃ g, p1 = some ⟨g, 0, none⟩) ∧ ∃ g, p2 = some ⟨g, 0, none⟩) (fun _ _ w hw => ⟨(vec_facts (hw (.vec p1 2 c1 4 1 (flat bV [true, true])) (by simp))).2.1 (by omega), (vec_facts (hw (.vec p2 2 c2 4 1 (flat bV [false, true])) (by simp))).2.1 (by omega)⟩) ?_ ?_) | (refine VSeq.is ?_; refine VSeq.go ?_) | (refine VB.is ?_; refine VB.yes (by omega) fun _ => ?_) | (refine VB.is ?_; refine VB.no (by omega) fun _ => ?_) | (refine VB.is ?_; refine VB.split (fun _ => ?_) (fun _ => ?_)) | (refine boolE_split (fun h => ?_) (fun h => ?_) <;> subst h) | (refine VLd.is ?_; refine VLd.mk (.row aT (by rfl)) ?_) | (refine VSt.is ?_; refine VSt.row aT (by rfl) (by first | rfl | assumption) ?_) | (refine VNew.is ?_; refine VNew.mk fun _ => ?_) | (refine VAr.is ?_; refine VAr.i64 (by omega) (by omega) ?_) | (refine VIx.is ?_; refine VIx.mk rfl (by omega) (by omega) ?_) | (refine VKeep.is ?_; refine VKeep.mk aH ?_) | (refine VHs.is ?_; refine VHs.mk _ (HLe.refl _) ?_) | (refine VQ.is ?_; refine VQ.pos (by omega) (by omega) (by omega) ?_) | (refine VM.is ?_; refine VM.pos (by omega) (by omega) ?_) | (refine And.intro ?_ ?_)
  all_goals (conv => whnf)
  · exact VMid.mk () trivial aE aH
  rintro _ _ ⟨⟨g1, rfl⟩, g2, rfl⟩
  repeat' (conv => whnf); first | (refine VLd.is ?_; refine VLd.mk (Rd.cast (.vec aT (rfl)) (by first | omega | (dsimp only; omega) | rfl)) ?_) | (refine VSeq.is ?_; refine VSeq.cut (at_ := 18) (α := Unit) (fun _ => True) (fun y => [(1000000, .tuple #[]), (0, .bool false)]) (fun y => []) ?_ ?_) | (refine VSeq.is ?_; refine VSeq.go ?_) | (refine VB.is ?_; refine VB.yes (by omega) fun _ => ?_) | (refine VB.is ?_; refine VB.no (by omega) fun _ => ?_) | (refine VB.is ?_; refine VB.split (fun _ => ?_) (fun _ => ?_)) | (refine boolE_split (fun h => ?_) (fun h => ?_) <;> subst h) | (refine VLd.is ?_; refine VLd.mk (.row aT (by rfl)) ?_) | (refine VSt.is ?_; refine VSt.row aT (by rfl) (by first | rfl | assumption) ?_) | (refine VNew.is ?_; refine VNew.mk fun _ => ?_) | (refine VAr.is ?_; refine VAr.i64 (by omega) (by omega) ?_) | (refine VIx.is ?_; refine VIx.mk rfl (by omega) (by omega) ?_) | (refine VKeep.is ?_; refine VKeep.mk aH ?_) | (refine VHs.is ?_; refine VHs.mk _ (HLe.refl _) ?_) | (refine VQ.is ?_; refine VQ.pos (by omega) (by omega) (by omega) ?_) | (refine VM.is ?_; refine VM.pos (by omega) (by omega) ?_) | (refine And.intro ?_ ?_)
  all_goals (conv => whnf)
  · exact VMid.mk () trivial aE aH
  rintro _ _
  repeat' (conv => whnf); first | (refine VCall.isF 51 ?_; refine VCall.inl (F := Try.fx51) Try.func51 rfl rfl rfl Try.ok51 ?_) | (refine VCall.isF 93 ?_; refine VCall.inl (F := Try.fx93) Try.func93 rfl rfl rfl Try.ok93 ?_) | (refine VCall.is ?_; refine VCall.isF 36 ?_; refine VCall.genR (fun w' hw' => Join_any netE netE netE_wf netE_wf _ _ _ _ _ _ _ _ _ _ _ _ _ _ _ _ w' (Sl.own' hw' (l := netE.ps) (f := parV) (k := 8) (by repeat (first | exact List.mem_cons_self | apply List.mem_cons_of_mem)) (fun _ => rfl) rfl) (Sl.own' hw' (l := netE.syns) (f := synV) (k := 4) (by repeat (first | exact List.mem_cons_self | apply List.mem_cons_of_mem)) (fun _ => rfl) rfl) (Sl.own' hw' (l := netE.ps) (f := parV) (k := 8) (by repeat (first | exact List.mem_cons_self | apply List.mem_cons_of_mem)) (fun _ => rfl) rfl) (Sl.own' hw' (l := netE.syns) (f := synV) (k := 4) (by repeat (first | exact List.mem_cons_self | apply List.mem_cons_of_mem)) (fun _ => rfl) rfl)) ?_; rintro ⟨⟨p1, c1⟩, q1, d1⟩ _; rw [join_E]; dsimp only) | (refine VNew.is ?_; refine VNew.mk fun bx => ?_) | (refine VSeq.is ?_; refine VSeq.cut (at_ := 19) (α := Nat × (Option Addr × Nat) × Option Addr × Nat) (fun _ => True) (fun y => [(1000000, .tuple #[]), (0, .bool false), (12, .pointer (some ⟨y.1, 0, none⟩)), (3, .int .i64 0)]) (fun y => [.row y.1 25 [.slice y.2.1.1 4 y.2.1.2, .int .i64 2, .slice y.2.2.1 4 y.2.2.2], .vec y.2.2.1 4 y.2.2.2 96 4 (flat synV net2.syns)]) ?_ ?_) | (refine VSeq.is ?_; refine VSeq.go ?_) | (refine VB.is ?_; refine VB.yes (by omega) fun _ => ?_) | (refine VB.is ?_; refine VB.no (by omega) fun _ => ?_) | (refine VB.is ?_; refine VB.split (fun _ => ?_) (fun _ => ?_)) | (refine boolE_split (fun h => ?_) (fun h => ?_) <;> subst h) | (refine VLd.is ?_; refine VLd.mk (.row aT (by rfl)) ?_) | (refine VSt.is ?_; refine VSt.row aT (by rfl) (by first | rfl | assumption) ?_) | (refine VNew.is ?_; refine VNew.mk fun _ => ?_) | (refine VAr.is ?_; refine VAr.i64 (by omega) (by omega) ?_) | (refine VIx.is ?_; refine VIx.mk rfl (by omega) (by omega) ?_) | (refine VKeep.is ?_; refine VKeep.mk aH ?_) | (refine VHs.is ?_; refine VHs.mk _ (HLe.refl _) ?_) | (refine VQ.is ?_; refine VQ.pos (by omega) (by omega) (by omega) ?_) | (refine VM.is ?_; refine VM.pos (by omega) (by omega) ?_) | (refine And.intro ?_ ?_)
  all_goals (conv => whnf)
  · exact VMid.mk (bx, (p1, c1), q1, d1) trivial aE aH
  rintro ⟨b12, ⟨p1, c1⟩, q1, d1⟩ _
  repeat' (conv => whnf); first | (refine VCall.isF 51 ?_; refine VCall.inl (F := Try.fx51) Try.func51 rfl rfl rfl Try.ok51 ?_) | (refine VCall.isF 93 ?_; refine VCall.inl (F := Try.fx93) Try.func93 rfl rfl rfl Try.ok93 ?_) | (refine VCall.is ?_; refine VCall.isF 28 ?_; refine VCall.genR (fun w' hw' => Renumber_any netE netE_wf [1, 0] (by simp [I64]) _ _ _ _ _ _ _ _ _ _ _ _ w' (Sl.own' hw' (l := netE.ps) (f := parV) (k := 8) (by repeat (first | exact List.mem_cons_self | apply List.mem_cons_of_mem)) (fun _ => rfl) rfl) (Sl.own' hw' (l := netE.syns) (f := synV) (k := 4) (by repeat (first | exact List.mem_cons_self | apply List.mem_cons_of_mem)) (fun _ => rfl) rfl) (Sl.own' hw' (l := [1, 0]) (f := intV) (k := 1) (by repeat (first | exact List.mem_cons_self | apply List.mem_cons_of_mem)) (fun _ => rfl) rfl)) ?_; rintro ⟨⟨p2, c2⟩, q2, d2⟩ _; rw [ren_E]; dsimp only) | (refine VNew.is ?_; refine VNew.mk fun bx => ?_) | (refine VSeq.is ?_; refine VSeq.cutL (at_ := 20) (α := Nat × (Option Addr × Nat) × Option Addr × Nat) (fun _ => True) (fun y => [(1000000, .tuple #[]), (0, .bool false), (12, .pointer (some ⟨b12, 0, none⟩)), (3, .int .i64 0), (13, .pointer (some ⟨y.1, 0, none⟩)), (5, .int .i64 0)]) (fun y => [.row b12 25 [.slice p1 4 c1, .int .i64 2, .slice q1 4 d1], .vec q1 4 d1 96 4 (flat synV net2.syns), .row y.1 25 [.slice y.2.1.1 2 y.2.1.2, .int .i64 1, .slice y.2.2.1 2 y.2.2.2], .vec y.2.2.1 2 y.2.2.2 96 4 (flat synV netT.syns)]) (fun y => (∃ g, q1 = some ⟨g, 0, none⟩) ∧ ∃ g, y.2.2.1 = some ⟨g, 0, none⟩) (fun y _ w hw => ⟨(vec_facts (hw (.vec q1 4 d1 96 4 (flat synV net2.syns)) (by simp))).2.1 (by omega), (vec_facts (hw (.vec y.2.2.1 2 y.2.2.2 96 4 (flat synV netT.syns)) (by simp))).2.1 (by omega)⟩) ?_ ?_) | (refine VSeq.is ?_; refine VSeq.go ?_) | (refine VB.is ?_; refine VB.yes (by omega) fun _ => ?_) | (refine VB.is ?_; refine VB.no (by omega) fun _ => ?_) | (refine VB.is ?_; refine VB.split (fun _ => ?_) (fun _ => ?_)) | (refine boolE_split (fun h => ?_) (fun h => ?_) <;> subst h) | (refine VLd.is ?_; refine VLd.mk (.row aT (by rfl)) ?_) | (refine VSt.is ?_; refine VSt.row aT (by rfl) (by first | rfl | assumption) ?_) | (refine VNew.is ?_; refine VNew.mk fun _ => ?_) | (refine VAr.is ?_; refine VAr.i64 (by omega) (by omega) ?_) | (refine VIx.is ?_; refine VIx.mk rfl (by omega) (by omega) ?_) | (refine VKeep.is ?_; refine VKeep.mk aH ?_) | (refine VHs.is ?_; refine VHs.mk _ (HLe.refl _) ?_) | (refine VQ.is ?_; refine VQ.pos (by omega) (by omega) (by omega) ?_) | (refine VM.is ?_; refine VM.pos (by omega) (by omega) ?_) | (refine And.intro ?_ ?_)
  all_goals (conv => whnf)
  · exact VMid.mk (bx, (p2, c2), q2, d2) trivial aE aH
  rintro ⟨b13, ⟨p2, c2⟩, q2, d2⟩ _ ⟨⟨g1, rfl⟩, g2, hg2⟩
  dsimp only at hg2
  subst hg2
  repeat' (conv => whnf); first | (refine VLd.is ?_; refine VLd.mk (Rd.cast (.vec aT (rfl)) (by first | omega | (dsimp only; omega) | rfl)) ?_) | (refine VSeq.is ?_; refine VSeq.cut (at_ := 22) (α := Unit) (fun _ => True) (fun y => [(1000000, .tuple #[]), (0, .bool false)]) (fun y => []) ?_ ?_) | (refine VSeq.is ?_; refine VSeq.go ?_) | (refine VB.is ?_; refine VB.yes (by omega) fun _ => ?_) | (refine VB.is ?_; refine VB.no (by omega) fun _ => ?_) | (refine VB.is ?_; refine VB.split (fun _ => ?_) (fun _ => ?_)) | (refine boolE_split (fun h => ?_) (fun h => ?_) <;> subst h) | (refine VLd.is ?_; refine VLd.mk (.row aT (by rfl)) ?_) | (refine VSt.is ?_; refine VSt.row aT (by rfl) (by first | rfl | assumption) ?_) | (refine VNew.is ?_; refine VNew.mk fun _ => ?_) | (refine VAr.is ?_; refine VAr.i64 (by omega) (by omega) ?_) | (refine VIx.is ?_; refine VIx.mk rfl (by omega) (by omega) ?_) | (refine VKeep.is ?_; refine VKeep.mk aH ?_) | (refine VHs.is ?_; refine VHs.mk _ (HLe.refl _) ?_) | (refine VQ.is ?_; refine VQ.pos (by omega) (by omega) (by omega) ?_) | (refine VM.is ?_; refine VM.pos (by omega) (by omega) ?_) | (refine And.intro ?_ ?_)
  all_goals (conv => whnf)
  all_goals first
    | exact VMid.mk () trivial aE aH
    | (exfalso; rename_i hh; exact hh rfl)
    | skip
  rintro _ _
  repeat' (conv => whnf); first | (refine VCall.isF 51 ?_; refine VCall.inl (F := Try.fx51) Try.func51 rfl rfl rfl Try.ok51 ?_) | (refine VCall.isF 93 ?_; refine VCall.inl (F := Try.fx93) Try.func93 rfl rfl rfl Try.ok93 ?_) | (refine VCall.isF 46 ?_; refine VCall.inl (F := Try.fx46) Try.func46 rfl rfl rfl Try.ok46 ?_) | (refine VCall.isF 19 ?_; (refine VCall.valR (fun w' hw' => Check_any netE netE_wf _ _ _ _ _ _ _ _ _ (Sl.own' hw' (l := netE.ps) (f := parV) (k := 8) (by repeat (first | exact List.mem_cons_self | apply List.mem_cons_of_mem)) (fun _ => rfl) rfl) (Sl.own' hw' (l := netE.syns) (f := synV) (k := 4) (by repeat (first | exact List.mem_cons_self | apply List.mem_cons_of_mem)) (fun _ => rfl) rfl)) ?_; rw [chkE])) | (refine VCall.is ?_; refine VCall.isF 59 ?_; refine VCall.genR (fun w' hw' => start_any netE netE_ok _ _ _ _ _ _ _ _ _ (Sl.own' hw' (l := netE.ps) (f := parV) (k := 8) (by repeat (first | exact List.mem_cons_self | apply List.mem_cons_of_mem)) (fun _ => rfl) rfl) (Sl.own' hw' (l := netE.syns) (f := synV) (k := 4) (by repeat (first | exact List.mem_cons_self | apply List.mem_cons_of_mem)) (fun _ => rfl) rfl)) ?_; rintro x ⟨hx, hxN, hxt, hxs, hxD⟩) | (refine VSeq.is ?_; refine VSeq.cut (at_ := 23) (α := SimM) (fun x => SimOk x ∧ x.N = netE ∧ x.tick = 0 ∧ x.sts = List.replicate netE.ps.length ⟨0, 0⟩ ∧ x.D.map (·.l) = List.replicate 16 (List.replicate netE.ps.length 0)) (fun x => [(1000000, .tuple #[]), (0, .bool false), (14, .pointer (some ⟨x.b, 0, none⟩)), (3, .int .i64 0)]) (fun x => ownH x ++ shrH x) ?_ ?_) | (refine VSeq.is ?_; refine VSeq.go ?_) | (refine VB.is ?_; refine VB.yes (by omega) fun _ => ?_) | (refine VB.is ?_; refine VB.no (by omega) fun _ => ?_) | (refine VB.is ?_; refine VB.split (fun _ => ?_) (fun _ => ?_)) | (refine boolE_split (fun h => ?_) (fun h => ?_) <;> subst h) | (refine VLd.is ?_; refine VLd.mk (.row aT (by rfl)) ?_) | (refine VSt.is ?_; refine VSt.row aT (by rfl) (by first | rfl | assumption) ?_) | (refine VNew.is ?_; refine VNew.mk fun _ => ?_) | (refine VAr.is ?_; refine VAr.i64 (by omega) (by omega) ?_) | (refine VIx.is ?_; refine VIx.mk rfl (by omega) (by omega) ?_) | (refine VKeep.is ?_; refine VKeep.mk aH ?_) | (refine VHs.is ?_; refine VHs.mk _ (HLe.refl _) ?_) | (refine VQ.is ?_; refine VQ.pos (by omega) (by omega) (by omega) ?_) | (refine VM.is ?_; refine VM.pos (by omega) (by omega) ?_) | (refine And.intro ?_ ?_)
  all_goals (conv => whnf)
  · refine VMid.mk x ⟨hx, hxN, hxt, hxs, hxD⟩ aE ?_
    unfold simH
    rw [List.append_assoc]
    exact aH
  rintro x ⟨hx, hxN, hxt, hxs, hxD⟩
  obtain ⟨k1, k2, k3, k4, k5, k6, k7⟩ := kn_1 hx hxN hxt hxs hxD
  repeat' (conv => whnf); first | (refine VCall.isF 40 ?_; (refine Step_call x k1 [0] (by simp) _ _ _ rfl aS (fun w hw => ShOk.of (hw.le (by exact aH : HLe (ownH x ++ shrH x) _)) .here k1.ok.rows (fun y hy => by simpa using hy)) (fun w hw => by obtain ⟨b, g1, g2⟩ := Sl.vecOut (f := intV) (l := [0]) (S := ownH x) hw aH (fun _ => rfl) rfl; exact ⟨b, 0, g1, g2⟩) ?_; intro q1 c1 hq1; rw [k2, k3])) | (refine VSeq.is ?_; refine VSeq.cut (at_ := 24) (α := SimM × Option Addr × Nat) (fun y => SimRun y.1 ∧ y.1.tick = 1 ∧ y.1.N = netE ∧ smOf y.1 = smE1) (fun y => [(1000000, .tuple #[]), (0, .bool false), (14, .pointer (some ⟨y.1.b, 0, none⟩)), (3, .int .i64 0), (15, .slice y.2.1 0 y.2.2), (5, .int .i64 0)]) (fun y => ownH y.1 ++ shrH y.1) ?_ ?_) | (refine VSeq.is ?_; refine VSeq.go ?_) | (refine VB.is ?_; refine VB.yes (by omega) fun _ => ?_) | (refine VB.is ?_; refine VB.no (by omega) fun _ => ?_) | (refine VB.is ?_; refine VB.split (fun _ => ?_) (fun _ => ?_)) | (refine boolE_split (fun h => ?_) (fun h => ?_) <;> subst h) | (refine VLd.is ?_; refine VLd.mk (.row aT (by rfl)) ?_) | (refine VSt.is ?_; refine VSt.row aT (by rfl) (by first | rfl | assumption) ?_) | (refine VNew.is ?_; refine VNew.mk fun _ => ?_) | (refine VAr.is ?_; refine VAr.i64 (by omega) (by omega) ?_) | (refine VIx.is ?_; refine VIx.mk rfl (by omega) (by omega) ?_) | (refine VKeep.is ?_; refine VKeep.mk aH ?_) | (refine VHs.is ?_; refine VHs.mk _ (HLe.refl _) ?_) | (refine VQ.is ?_; refine VQ.pos (by omega) (by omega) (by omega) ?_) | (refine VM.is ?_; refine VM.pos (by omega) (by omega) ?_) | (refine And.intro ?_ ?_)
  all_goals (conv => whnf)
  · refine VMid.mk (stepSim x [0], q1, c1) ⟨k4, k5, k6, k7⟩ ?_ ?_
    · dsimp only; rw [(stepSim_b x [0]).1]; exact aE
    · dsimp only; rw [(stepSim_b x [0]).2.2]; exact aH
  rintro ⟨x1, q1, c1⟩ ⟨m1, m2, m3, m4⟩
  dsimp only at m1 m2 m3 m4 ⊢
  obtain ⟨n1, n2, n3, n4, n5⟩ := kn_2 m1 m2 m3 m4
  repeat' (conv => whnf); first | (refine VCall.isF 40 ?_; (refine Step_call x1 m1 [] (by simp) _ _ _ rfl aS (fun w hw => ShOk.of (hw.le (by exact aH : HLe (ownH x1 ++ shrH x1) _)) .here m1.ok.rows (fun y hy => by simpa using hy)) (fun w hw => nil_in hw aH) ?_; intro q2 c2 hq2; rw [n1, n2])) | (refine VSeq.is ?_; refine VSeq.cut (at_ := 25) (α := SimM × Option Addr × Nat) (fun y => SimRun y.1 ∧ y.1.tick = 2 ∧ smOf y.1 = smE2) (fun y => [(1000000, .tuple #[]), (0, .bool false), (14, .pointer (some ⟨y.1.b, 0, none⟩)), (3, .int .i64 0), (15, .slice q1 0 c1), (5, .int .i64 0), (16, .slice y.2.1 1 y.2.2), (7, .int .i64 0)]) (fun y => .vec y.2.1 1 y.2.2 3 1 (flat intV [0]) :: ownH y.1) ?_ ?_) | (refine VSeq.is ?_; refine VSeq.go ?_) | (refine VB.is ?_; refine VB.yes (by omega) fun _ => ?_) | (refine VB.is ?_; refine VB.no (by omega) fun _ => ?_) | (refine VB.is ?_; refine VB.split (fun _ => ?_) (fun _ => ?_)) | (refine boolE_split (fun h => ?_) (fun h => ?_) <;> subst h) | (refine VLd.is ?_; refine VLd.mk (.row aT (by rfl)) ?_) | (refine VSt.is ?_; refine VSt.row aT (by rfl) (by first | rfl | assumption) ?_) | (refine VNew.is ?_; refine VNew.mk fun _ => ?_) | (refine VAr.is ?_; refine VAr.i64 (by omega) (by omega) ?_) | (refine VIx.is ?_; refine VIx.mk rfl (by omega) (by omega) ?_) | (refine VKeep.is ?_; refine VKeep.mk aH ?_) | (refine VHs.is ?_; refine VHs.mk _ (HLe.refl _) ?_) | (refine VQ.is ?_; refine VQ.pos (by omega) (by omega) (by omega) ?_) | (refine VM.is ?_; refine VM.pos (by omega) (by omega) ?_) | (refine And.intro ?_ ?_)
  all_goals (conv => whnf)
  · refine VMid.mk (stepSim x1 [], q2, c2) ⟨n3, n4, n5⟩ ?_ ?_
    · dsimp only; rw [(stepSim_b x1 []).1]; exact aE
    · dsimp only; exact aH
  rintro ⟨x2, q2, c2⟩ ⟨o1, o2, o3⟩
  dsimp only at o1 o2 o3 ⊢
  repeat' (conv => whnf); first | (refine VCall.isF 42 ?_; (refine VCall.genR (fun w' hw' => Image_any x2 o1 w' (SimRd.of hw' aH)) ?_; rintro im ⟨hm1, hm2, hm3⟩)) | (refine VNew.is ?_; refine VNew.mk fun bx => ?_) | (refine VSeq.is ?_; refine VSeq.cutL (at_ := 26) (α := Nat × ImgM) (fun y => y.2.tick = 2 ∧ y.2.sts = [⟨0, 1⟩, ⟨0, 0⟩] ∧ y.2.D.map (·.l) = (List.range 16).map rowE) (fun y => [(1000000, .tuple #[]), (0, .bool false), (3, .int .i64 0), (15, .slice q1 0 c1), (5, .int .i64 0), (16, .slice q2 1 c2), (7, .int .i64 0), (17, .pointer (some ⟨y.1, 0, none⟩)), (9, .int .i64 0)]) (fun y => .row y.1 66 [.int .i64 (y.2.tick : Int), .slice y.2.sp y.2.sts.length y.2.sc, .slice y.2.dp y.2.D.length y.2.dc] :: .vec q2 1 c2 3 1 (flat intV [0]) :: imgH y.2) (fun y => (0 < y.2.sts.length → ∃ g, y.2.sp = some ⟨g, 0, none⟩) ∧ (0 < y.2.D.length → ∃ g, y.2.dp = some ⟨g, 0, none⟩)) (fun y _ w hw => ⟨(vec_facts (hw (.vec y.2.sp y.2.sts.length y.2.sc 98 2 (flat staV y.2.sts)) (by simp [imgH]))).2.1, (vec_facts (hw (.vec y.2.dp y.2.D.length y.2.dc 46 1 (flat drowVs y.2.D)) (by simp [imgH]))).2.1⟩) ?_ ?_) | (refine VSeq.is ?_; refine VSeq.go ?_) | (refine VB.is ?_; refine VB.yes (by omega) fun _ => ?_) | (refine VB.is ?_; refine VB.no (by omega) fun _ => ?_) | (refine VB.is ?_; refine VB.split (fun _ => ?_) (fun _ => ?_)) | (refine boolE_split (fun h => ?_) (fun h => ?_) <;> subst h) | (refine VLd.is ?_; refine VLd.mk (.row aT (by rfl)) ?_) | (refine VSt.is ?_; refine VSt.row aT (by rfl) (by first | rfl | assumption) ?_) | (refine VNew.is ?_; refine VNew.mk fun _ => ?_) | (refine VAr.is ?_; refine VAr.i64 (by omega) (by omega) ?_) | (refine VIx.is ?_; refine VIx.mk rfl (by omega) (by omega) ?_) | (refine VKeep.is ?_; refine VKeep.mk aH ?_) | (refine VHs.is ?_; refine VHs.mk _ (HLe.refl _) ?_) | (refine VQ.is ?_; refine VQ.pos (by omega) (by omega) (by omega) ?_) | (refine VM.is ?_; refine VM.pos (by omega) (by omega) ?_) | (refine And.intro ?_ ?_)
  all_goals (conv => whnf)
  · refine VMid.mk (bx, im) ⟨by dsimp only; omega, ?_, ?_⟩ aE ?_
    · dsimp only; rw [hm2]; exact (congrArg Sm.sts o3).trans sts_2
    · dsimp only; rw [hm3, o2]; exact (congrArg (fun z => rot 2 (Sm.D z)) o3).trans due_2
    · dsimp only; exact aH
  rintro ⟨b17, tick, sp, sc, sts, dp, dc, D⟩ ⟨e1, e2, e3⟩ ⟨e4, e5⟩
  dsimp only at e1 e2 e3 e4 e5
  subst e1; subst e2
  have hD16 : D.length = 16 := by have := congrArg List.length e3; simpa using this
  obtain ⟨gs, rfl⟩ := e4 (by simp)
  obtain ⟨gd, rfl⟩ := e5 (by omega)
  unfold imgH
  dsimp only
  repeat' (conv => whnf); first | (refine VLd.is ?_; refine VLd.mk (Rd.cast (.vec aT (rfl)) (by first | omega | (dsimp only; omega) | rfl)) ?_) | (refine VCall.isF 43 ?_; (refine equal_call [0] [0] (by simp [I64]) (by simp [I64]) (by decide) (by decide) _ _ _ _ _ _ _ _ rfl rfl aT aT ?_; intro r hr; have hr := hr.2 rfl; subst hr)) | (refine VSeq.is ?_; refine VSeq.cut (at_ := 28) (α := Unit) (fun _ => True) (fun y => [(1000000, .tuple #[]), (0, .bool false), (17, .pointer (some ⟨b17, 0, none⟩))]) (fun y => .row b17 66 [.int .i64 2, .slice (some ⟨gs, 0, none⟩) 2 sc, .slice (some ⟨gd, 0, none⟩) D.length dc] :: .vec (some ⟨gd, 0, none⟩) D.length dc 46 1 (flat drowVs D) :: D.map drowE) ?_ ?_) | (refine VSeq.is ?_; refine VSeq.go ?_) | (refine VB.is ?_; refine VB.yes (by omega) fun _ => ?_) | (refine VB.is ?_; refine VB.no (by omega) fun _ => ?_) | (refine VB.is ?_; refine VB.split (fun _ => ?_) (fun _ => ?_)) | (refine boolE_split (fun h => ?_) (fun h => ?_) <;> subst h) | (refine VLd.is ?_; refine VLd.mk (.row aT (by rfl)) ?_) | (refine VSt.is ?_; refine VSt.row aT (by rfl) (by first | rfl | assumption) ?_) | (refine VNew.is ?_; refine VNew.mk fun _ => ?_) | (refine VAr.is ?_; refine VAr.i64 (by omega) (by omega) ?_) | (refine VIx.is ?_; refine VIx.mk rfl (by omega) (by omega) ?_) | (refine VKeep.is ?_; refine VKeep.mk aH ?_) | (refine VHs.is ?_; refine VHs.mk _ (HLe.refl _) ?_) | (refine VQ.is ?_; refine VQ.pos (by omega) (by omega) (by omega) ?_) | (refine VM.is ?_; refine VM.pos (by omega) (by omega) ?_) | (refine And.intro ?_ ?_)
  all_goals (conv => whnf)
  all_goals first
    | exact VMid.mk () trivial aE aH
    | (exfalso; rename_i hh; first | exact hh rfl | exact hh ⟨rfl, rfl, trivial⟩ | (simp at hh; done))
    | skip
  rintro _ _
  repeat' (conv => whnf); first | (refine VSeq.is ?_; refine VSeq.go ?_) | (refine VB.is ?_; refine VB.yes (by omega) fun _ => ?_) | (refine VB.is ?_; refine VB.no (by omega) fun _ => ?_) | (refine VB.is ?_; refine VB.split (fun _ => ?_) (fun _ => ?_)) | (refine boolE_split (fun h => ?_) (fun h => ?_) <;> subst h) | (refine VLd.is ?_; refine VLd.mk (.row aT (by rfl)) ?_) | (refine VSt.is ?_; refine VSt.row aT (by rfl) (by first | rfl | assumption) ?_) | (refine VNew.is ?_; refine VNew.mk fun _ => ?_) | (refine VAr.is ?_; refine VAr.i64 (by omega) (by omega) ?_) | (refine VIx.is ?_; refine VIx.mk rfl (by omega) (by omega) ?_) | (refine VKeep.is ?_; refine VKeep.mk aH ?_) | (refine VHs.is ?_; refine VHs.mk _ (HLe.refl _) ?_) | (refine VQ.is ?_; refine VQ.pos (by omega) (by omega) (by omega) ?_) | (refine VM.is ?_; refine VM.pos (by omega) (by omega) ?_) | (refine And.intro ?_ ?_)
  all_goals (conv => whnf)
  have hrow : ∀ (i : Nat) (d : DRow), D[i]? = some d → d.l = rowE i ∧ i < 16 := by
    intro i d hd
    have h1 : (D.map (·.l))[i]? = some d.l := by rw [List.getElem?_map, hd]; rfl
    have hlt := (List.getElem?_eq_some_iff.1 hd).1
    rw [e3, List.getElem?_map, List.getElem?_range (by omega)] at h1
    simp only [Option.map_some, Option.some.injEq] at h1
    exact ⟨h1.symm, by omega⟩
  refine VLoop.mk (α := Nat) (fun i => i ≤ 16) (fun i => [(1000000, .tuple #[]), (0, .bool false), (17, .pointer (some ⟨b17, 0, none⟩)), (18, .int .i64 (i : Int))])
    (fun _ => .row b17 66 [.int .i64 2, .slice (some ⟨gs, 0, none⟩) 2 sc, .slice (some ⟨gd, 0, none⟩) D.length dc] :: .vec (some ⟨gd, 0, none⟩) D.length dc 46 1 (flat drowVs D) :: D.map drowE) (fun i => 16 - i) 0 (by omega) aE aH ?_
  intro i hi
  rcases Nat.lt_or_ge i 16 with hlt | hge
  · obtain ⟨d, hd⟩ : ∃ d, D[i]? = some d := ⟨D[i]'(by omega), List.getElem?_eq_getElem _⟩
    obtain ⟨hdl, _⟩ := hrow i d hd
    have hdm := List.mem_of_getElem? hd
    have hl2 : (rowE i).length = 2 := by unfold rowE; split <;> rfl
    have hi64 : ∀ k ∈ rowE i, I64 k := by
      intro k hk
      unfold rowE at hk
      split at hk <;> simp only [List.mem_cons, List.not_mem_nil, or_false] at hk <;> unfold I64 <;> omega
    repeat' (conv => whnf); first | (refine VSt.is ?_; refine VSt.vec aT (by rfl) rfl ?_) | (refine VSeq.is ?_; refine VSeq.cut (at_ := 34) (α := Nat) (fun _ => True) (fun g => [(1000000, .tuple #[]), (0, .bool false), (17, .pointer (some ⟨b17, 0, none⟩)), (18, .int .i64 (i : Int)), (19, .slice (some ⟨g, 0, none⟩) 2 2)]) (fun g => .vec (some ⟨g, 0, none⟩) 2 2 3 1 (flat intV (rowE i)) :: .row b17 66 [.int .i64 2, .slice (some ⟨gs, 0, none⟩) 2 sc, .slice (some ⟨gd, 0, none⟩) D.length dc] :: .vec (some ⟨gd, 0, none⟩) D.length dc 46 1 (flat drowVs D) :: D.map drowE) ?_ ?_) | (refine VSeq.is ?_; refine VSeq.go ?_) | (refine VB.is ?_; refine VB.yes (by omega) fun _ => ?_) | (refine VB.is ?_; refine VB.no (by omega) fun _ => ?_) | (refine VB.is ?_; refine VB.split (fun _ => ?_) (fun _ => ?_)) | (refine boolE_split (fun h => ?_) (fun h => ?_) <;> subst h) | (refine VLd.is ?_; refine VLd.mk (.row aT (by rfl)) ?_) | (refine VSt.is ?_; refine VSt.row aT (by rfl) (by first | rfl | assumption) ?_) | (refine VNew.is ?_; refine VNew.mk fun _ => ?_) | (refine VAr.is ?_; refine VAr.i64 (by omega) (by omega) ?_) | (refine VIx.is ?_; refine VIx.mk rfl (by omega) (by omega) ?_) | (refine VKeep.is ?_; refine VKeep.mk aH ?_) | (refine VHs.is ?_; refine VHs.mk _ (HLe.refl _) ?_) | (refine VQ.is ?_; refine VQ.pos (by omega) (by omega) (by omega) ?_) | (refine VM.is ?_; refine VM.pos (by omega) (by omega) ?_) | (refine And.intro ?_ ?_)
    all_goals (conv => whnf)
    · rename_i g _
      have hi2 : i = 2 := by omega
      subst hi2
      exact VMid.mk g trivial aE aH
    · rename_i g _
      have e : rowE i = [0, 0] := by unfold rowE; rw [if_neg (by omega)]
      refine VMid.mk g trivial aE ?_
      dsimp only
      rw [e]
      exact aH
    intro g _
    repeat' (conv => whnf); first | (refine VIx.is ?_; refine VIx.mk rfl (by omega) (by omega) ?_) | (refine VLd.is ?_; refine VLd.mk (Rd.cast (.vec aT (sub_flat0 (f := drowVs) (k := 1) (fun _ => rfl) hd rfl)) (by first | omega | (dsimp only; omega) | rfl)) ?_) | (refine VCall.isF 43 ?_; (refine VCall.genR (v := fun r => .bool r) (p := fun r => (r = true ↔ d.l = rowE i)) (G := fun _ => []) (fun w' hw' => by have h := equal_any d.l (rowE i) (some ⟨d.g, 0, none⟩) d.cap d.g 0 (some ⟨g, 0, none⟩) 2 g 0 w' (by rw [hdl]; exact hi64) hi64 (Sl.own' hw' (f := intV) (k := 1) (cap := d.cap) (e := 3) (by repeat (first | exact List.mem_map_of_mem hdm | apply List.mem_cons_of_mem)) (fun _ => rfl) rfl) (Sl.own' hw' (f := intV) (k := 1) (cap := 2) (e := 3) (by rw [hl2]; exact List.mem_cons_self) (fun _ => rfl) rfl) (by rw [hdl, hl2]; decide) (by rw [hl2]; decide); rw [hl2] at h; exact h) ?_; intro r hr; have hr := hr.2 hdl; subst hr)) | (refine VSeq.is ?_; refine VSeq.go ?_) | (refine VB.is ?_; refine VB.yes (by omega) fun _ => ?_) | (refine VB.is ?_; refine VB.no (by omega) fun _ => ?_) | (refine VB.is ?_; refine VB.split (fun _ => ?_) (fun _ => ?_)) | (refine boolE_split (fun h => ?_) (fun h => ?_) <;> subst h) | (refine VLd.is ?_; refine VLd.mk (.row aT (by rfl)) ?_) | (refine VSt.is ?_; refine VSt.row aT (by rfl) (by first | rfl | assumption) ?_) | (refine VNew.is ?_; refine VNew.mk fun _ => ?_) | (refine VAr.is ?_; refine VAr.i64 (by omega) (by omega) ?_) | (refine VIx.is ?_; refine VIx.mk rfl (by omega) (by omega) ?_) | (refine VKeep.is ?_; refine VKeep.mk aH ?_) | (refine VHs.is ?_; refine VHs.mk _ (HLe.refl _) ?_) | (refine VQ.is ?_; refine VQ.pos (by omega) (by omega) (by omega) ?_) | (refine VM.is ?_; refine VM.pos (by omega) (by omega) ?_) | (refine And.intro ?_ ?_)
    all_goals (conv => whnf)
    exact VNext.mk (i + 1) (by omega) (by omega) aE aH
  repeat' (conv => whnf); first | (refine VCall.isF 40 ?_; refine VCall.inl (F := Try.fx40) Try.func40 rfl rfl rfl Try.ok40 ?_) | (refine VCall.isF 89 ?_; refine VCall.inl (F := Try.fx89) Try.func89 rfl rfl rfl Try.ok89 ?_) | (refine VCall.isF 42 ?_; refine VCall.inl (F := Try.fx42) Try.func42 rfl rfl rfl Try.ok42 ?_) | (refine VCall.isF 50 ?_; refine VCall.inl (F := Try.fx50) Try.func50 rfl rfl rfl Try.ok50 ?_) | (refine VCall.isF 52 ?_; refine VCall.inl (F := Try.fx52) Try.func52 rfl rfl rfl Try.ok52 ?_) | (refine VCall.isF 18 ?_; refine VCall.val (fun w' => works_any _) ?_) | (refine VNew.is ?_; refine VNew.mk fun bx => ?_) | (refine VSeq.is ?_; refine VSeq.go ?_) | (refine VB.is ?_; refine VB.yes (by omega) fun _ => ?_) | (refine VB.is ?_; refine VB.no (by omega) fun _ => ?_) | (refine VB.is ?_; refine VB.split (fun _ => ?_) (fun _ => ?_)) | (refine boolE_split (fun h => ?_) (fun h => ?_) <;> subst h) | (refine VLd.is ?_; refine VLd.mk (.row aT (by rfl)) ?_) | (refine VSt.is ?_; refine VSt.row aT (by rfl) (by first | rfl | assumption) ?_) | (refine VNew.is ?_; refine VNew.mk fun _ => ?_) | (refine VAr.is ?_; refine VAr.i64 (by omega) (by omega) ?_) | (refine VIx.is ?_; refine VIx.mk rfl (by omega) (by omega) ?_) | (refine VKeep.is ?_; refine VKeep.mk aH ?_) | (refine VHs.is ?_; refine VHs.mk _ (HLe.refl _) ?_) | (refine VQ.is ?_; refine VQ.pos (by omega) (by omega) (by omega) ?_) | (refine VM.is ?_; refine VM.pos (by omega) (by omega) ?_) | (refine And.intro ?_ ?_)
  all_goals (conv => whnf)
  all_goals first
    | exact ⟨fun w' hw' => ⟨rfl, hw'.le .nil⟩⟩
    | (exfalso; rename_i hh; first | exact hh rfl | (simp at hh; done))
    | skip

end Go.Proofs
