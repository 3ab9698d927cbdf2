import Derived.Test.YtjjcoiicikaaiaaGreatPlaceBoundIm
import Derived.Test.YtjjcoiicikaaiaaGreatPlaceBoundWk
import Derived.Test.YtjjcoiicikaaiaaGreatPlaceBoundSq1
import Derived.Test.YtjjcoiicikaaiaaGreatPlaceBoundAr
import Derived.Test.YtjjcoiicikaaiaaGreatPlaceBoundPb
section
set_option linter.unusedVariables false

set_option linter.unusedSimpArgs false

namespace Go.Proofs

open Go Go.Vx Go.Gm

theorem placeImprove_any (X : PlnX) (w : World) (hX : PlnRd X w) (cores : List Int) (hcw : ∀ k ∈ cores, I64 k) (hlc : cores.length ≤ 1000000) (rounds : Int) (hrw : I64 rounds) (p : Option Addr) (c b o : Nat) (h1 : Sl w intV 1 cores p cores.length b o) :
    Calls Tryz.prog 39 #[.agg X.net.toArray, .agg (chpC X.C X.pd X.cd).toArray, .slice p cores.length c, .int .i64 rounds] w fun e w' => ∃ z : Option Addr × Nat, e = .returned (.tuple #[.slice z.1 (impR X.N X.C cores rounds).1.length z.2, .int .i64 (impR X.N X.C cores rounds).2]) ∧ (0 < (impR X.N X.C cores rounds).1.length → ∃ g, z.1 = some ⟨g, 0, none⟩) ∧ St w [] [.vec z.1 (impR X.N X.C cores rounds).1.length z.2 3 1 (flat intV (impR X.N X.C cores rounds).1)] w' := by
  have hasg := asgE_chk X.N X.C cores
  have hb := fun he (w' : World) h => planned_bad X w' h he (.slice p cores.length c) rfl
  have hg := fun he (w' : World) h h1 => planned_any X w' h he cores hcw hlc p c b o h1
  unfold I64 at hrw
  unfold impR
  by_cases he : Gm.planE X.N X.C ≠ 0
  · have hb := hb he
    rw [if_pos he] at hasg
    rw [hasg, if_pos he]
    obtain ⟨E, hE⟩ : ∃ E, Gm.planE X.N X.C = E := ⟨_, rfl⟩
    rw [hE] at hb he ⊢
    unfold PlnX.net chpC at hb ⊢
    refine enter (C := Tryz.cx) (F := Tryz.fx39) (args := [_, _, _, _]) Tryz.func39 rfl rfl rfl Tryz.ok39 (St.start w []) ?_
    repeat' (conv => whnf); first | (refine VCall.isF 68 ?_; (refine VCall.valR (fun w' hw' => hb w' (hX.keep hw')) ?_)) | (refine VSeq.go ?_) | (refine VB.is ?_; refine VB.yes (by omega) fun _ => ?_) | (refine VB.is ?_; refine VB.no (by omega) fun _ => ?_) | (refine VB.split (fun _ => ?_) (fun _ => ?_)) | (refine boolE_split (fun h => ?_) (fun h => ?_) <;> subst h) | (refine VLd.is ?_; refine VLd.mk (.row aT (by rfl)) ?_) | (refine VSt.is ?_; refine VSt.row aT (by rfl) (by first | rfl | assumption) ?_) | (refine VNew.mk fun _ => ?_) | (refine VAr.is ?_; refine oA ?_) | (refine VIx.is ?_; refine VIx.mk rfl (by omega) (by omega) ?_) | (refine VKeep.is ?_; refine VKeep.mk aH ?_) | (refine VHs.mk _ (.refl _) ?_) | (refine VQ.is ?_; refine oQ ?_) | (refine VM.is ?_; refine oM ?_) | (refine And.intro ?_ ?_)
    all_goals (conv => whnf)
    all_goals first
      | exact ⟨fun w' hw' => ⟨(none, 0), rfl, (fun h => by cases h), hw'.le (HLe.nilv .nil)⟩⟩
      | (exfalso; omega)
  have hp0 := Decidable.not_not.1 he
  have hg := hg hp0
  rw [if_neg he] at hasg
  by_cases hc : chkA X.N X.C cores ≠ 0
  · rw [hasg, if_pos hc]
    obtain ⟨E, hE⟩ : ∃ E, chkA X.N X.C cores = E := ⟨_, rfl⟩
    rw [hE] at hg hc ⊢
    unfold PlnX.net chpC at hg ⊢
    refine enter (C := Tryz.cx) (F := Tryz.fx39) (args := [_, _, _, _]) Tryz.func39 rfl rfl rfl Tryz.ok39 (St.start w []) ?_
    repeat' (conv => whnf); first | (refine VCall.isF 68 ?_; (refine VCall.genR (fun w' hw' => hg w' (hX.keep hw') (h1.keep hw' (by simp))) ?_; rintro x hup)) | (refine VSeq.go ?_) | (refine VB.is ?_; refine VB.yes (by omega) fun _ => ?_) | (refine VB.is ?_; refine VB.no (by omega) fun _ => ?_) | (refine VB.split (fun _ => ?_) (fun _ => ?_)) | (refine boolE_split (fun h => ?_) (fun h => ?_) <;> subst h) | (refine VLd.is ?_; refine VLd.mk (.row aT (by rfl)) ?_) | (refine VSt.is ?_; refine VSt.row aT (by rfl) (by first | rfl | assumption) ?_) | (refine VNew.mk fun _ => ?_) | (refine VAr.is ?_; refine oA ?_) | (refine VIx.is ?_; refine VIx.mk rfl (by omega) (by omega) ?_) | (refine VKeep.is ?_; refine VKeep.mk aH ?_) | (refine VHs.mk _ (.refl _) ?_) | (refine VQ.is ?_; refine oQ ?_) | (refine VM.is ?_; refine oM ?_) | (refine And.intro ?_ ?_)
    all_goals (conv => whnf)
    all_goals first
      | exact ⟨fun w' hw' => ⟨(none, 0), rfl, (fun h => by cases h), hw'.le (HLe.nilv .nil)⟩⟩
      | (exfalso; omega)
  have hc0 := Decidable.not_not.1 hc
  rw [hasg, if_neg hc]
  by_cases hr : ¬ (0 ≤ rounds ∧ rounds ≤ 16)
  · rw [if_pos hr]
    rw [hc0] at hg
    unfold PlnX.net chpC at hg ⊢
    refine enter (C := Tryz.cx) (F := Tryz.fx39) (args := [_, _, _, _]) Tryz.func39 rfl rfl rfl Tryz.ok39 (St.start w []) ?_
    repeat' (conv => whnf); first | (refine VCall.isF 47 ?_; refine VCall.inl (F := Tryz.fx47) Tryz.func47 rfl rfl rfl Tryz.ok47 ?_) | (refine VCall.isF 68 ?_; (refine VCall.genR (fun w' hw' => hg w' (hX.keep hw') (h1.keep hw' (by simp))) ?_; rintro x hup)) | (refine VSeq.go ?_) | (refine VB.is ?_; refine VB.yes (by omega) fun _ => ?_) | (refine VB.is ?_; refine VB.no (by omega) fun _ => ?_) | (refine VB.split (fun _ => ?_) (fun _ => ?_)) | (refine boolE_split (fun h => ?_) (fun h => ?_) <;> subst h) | (refine VLd.is ?_; refine VLd.mk (.row aT (by rfl)) ?_) | (refine VSt.is ?_; refine VSt.row aT (by rfl) (by first | rfl | assumption) ?_) | (refine VNew.mk fun _ => ?_) | (refine VAr.is ?_; refine oA ?_) | (refine VIx.is ?_; refine VIx.mk rfl (by omega) (by omega) ?_) | (refine VKeep.is ?_; refine VKeep.mk aH ?_) | (refine VHs.mk _ (.refl _) ?_) | (refine VQ.is ?_; refine oQ ?_) | (refine VM.is ?_; refine oM ?_) | (refine And.intro ?_ ?_)
    all_goals (conv => whnf)
    all_goals first
      | exact ⟨fun w' hw' => ⟨(none, 0), rfl, (fun h => by cases h), hw'.le (HLe.nilv .nil)⟩⟩
      | (exfalso; omega)
  rw [if_neg hr]
  obtain ⟨R, rfl⟩ : ∃ R : Nat, rounds = (R : Int) := ⟨rounds.toNat, by omega⟩
  have := improve_good X w hX hp0 cores hcw hlc hc0 R (by omega) p c b o h1
  refine this.mono fun e w' ⟨z, h2, _, h4⟩ => ⟨(some ⟨z.1, 0, none⟩, z.2), h2, fun _ => ⟨_, rfl⟩, h4⟩

end Go.Proofs
end

section
set_option linter.unusedVariables false

set_option linter.unusedSimpArgs false

namespace Go.Gm

end Go.Gm

namespace Go.Proofs

open Go Go.Vx Go.Gm

end Go.Proofs
end

section
set_option linter.unusedVariables false

set_option linter.unusedSimpArgs false

namespace Go.Proofs

open Go Go.Vx Go.Gm

end Go.Proofs
end

section
set_option linter.unusedVariables false

set_option linter.unusedSimpArgs false

namespace Go.Gm

theorem place_len (N : Net) (C : Chp) : (placeR N C).1.length ≤ 1000000 := by
  unfold placeR
  split
  · simp
  · rename_i h
    have hp := planE_zero (Decidable.not_not.1 h)
    have hn := hp.net.few
    split
    · simp
    · rename_i c hc
      have := (placeF_ok N.ps.length [] (SoFar.nil hp.chip) hc).2
      dsimp only
      rw [this]
      simp; omega

theorem impM_len (N : Net) (C : Chp) : ∀ (n : Nat) (cores : List Int), (impM N C n cores).length = cores.length
  | 0, cores => rfl
  | n + 1, cores => by
    have h : ∀ (l : List Nat) (cores : List Int), (l.foldl (impStep N C) cores).length = cores.length := fun l => by
      induction l with
      | nil => intro cores; rfl
      | cons i l ih => intro cores; rw [List.foldl_cons, ih, impStep_len]
    rw [impM, impM_len N C n, impRound, h]

theorem imp_len (N : Net) (C : Chp) (cores : List Int) (rounds : Int) (hl : cores.length ≤ 1000000) : (impR N C cores rounds).1.length ≤ 1000000 := by
  unfold impR
  split
  · simp
  · split
    · simp
    · dsimp only
      rw [impM_len]; exact hl

end Go.Gm

namespace Go.Proofs

open Go Go.Vx Go.Gm

structure PlnRi (X : PlnX) (w : World) : Prop where
  net : X.N.wf
  chip : X.C.int
  cap : X.C.dead.length ≤ X.cd
  dead : ∃ b o, Sl w intV 1 X.C.dead X.pd X.C.dead.length b o
  ps : ∃ b o, Sl w parV 8 X.N.ps X.pn X.N.ps.length b o
  syns : ∃ b o, Sl w synV 4 X.N.syns X.qs X.N.syns.length b o

theorem PlnRi.rd {X : PlnX} {w w' : World} {H : HP} (h : PlnRi X w) (hw' : St w [] H w') (hf : X.C.dead.length ≤ 1000000) : PlnRd X w' :=
  PlnRd.keep ⟨h.net, h.chip.wf hf, h.cap, h.dead, h.ps, h.syns⟩ hw'

theorem place7_any (X : PlnX) (w : World) (hX : PlnRd X w) :
    Calls Tryz.prog 23 #[.agg X.net.toArray, .agg (chpC X.C X.pd X.cd).toArray] w fun e w' => ∃ z : Option Addr × Nat, e = .returned (.tuple #[.slice z.1 (placeR X.N X.C).1.length z.2, .int .i64 (placeR X.N X.C).2]) ∧ True ∧ St w [] [.vec z.1 (placeR X.N X.C).1.length z.2 3 1 (flat intV (placeR X.N X.C).1)] w' := by
  by_cases he : Gm.planE X.N X.C = 0
  · exact (placePlace_any X w hX he).mono fun e w' ⟨z, h1, _, h3⟩ => ⟨z, h1, trivial, h3⟩
  · have hr : placeR X.N X.C = ([], Gm.planE X.N X.C) := by unfold placeR; rw [if_pos he]
    rw [hr]
    exact (placePlace_bad X w hX he).mono fun e w' ⟨h1, h3⟩ => ⟨(none, 0), h1, trivial, h3.le (HLe.nilv .nil)⟩

end Go.Proofs
end

section
set_option linter.unusedVariables false

set_option linter.unusedSimpArgs false

namespace Go.Proofs

open Go Go.Vx Go.Gm

end Go.Proofs
end

section
set_option linter.unusedVariables false

set_option linter.unusedSimpArgs false

namespace Go.Proofs

open Go Go.Vx Go.Gm

theorem _root_.Go.Vx.VCall.third (z : Value) {P : Program} {w0 : World} {M : List Nat} {H : HP} {f : Nat} {x y : Value} {zs : List Value} {K : Value → HP → Prop} (hh : VCall P w0 M H f (x :: y :: z :: zs) K) : VCall P w0 M H f (x :: y :: z :: zs) K := hh

theorem asg_zero {N : Net} {C : Chp} {cores : List Int} (hp : Gm.planE N C = 0) (h : AsgOk N C cores) : asgE N C cores = 0 := by
  unfold asgE
  rw [if_neg (by rw [hp]; simp), if_neg (by rw [h.len]; simp), if_neg (by rw [coreE_zero.2 h.core]; simp), if_neg (fun hn => hn h.fits)]

theorem asg_i64 {N : Net} {C : Chp} {cores : List Int} (h : AsgOk N C cores) : (∀ k ∈ cores, I64 k) ∧ cores.length ≤ 1024 := by
  have ha := area_ok h.plan.chip.mesh
  refine ⟨fun k hk => ?_, ?_⟩
  · have := (h.core k hk).1
    unfold I64; omega
  · have h1 := h.len
    have h2 := h.plan.net.few
    omega

end Go.Proofs
end

section
set_option linter.unusedVariables false

set_option linter.unusedSimpArgs false

namespace Go.Proofs

open Go Go.Vx Go.Gm

theorem place_facts {N : Net} {C : Chp} (hp : Gm.planE N C = 0) : ((placeR N C).2 = 15 ∨ (placeR N C).2 = 0) ∧ (∀ k ∈ (placeR N C).1, I64 k) ∧ ((placeR N C).2 = 0 → AsgOk N C (placeR N C).1) := by
  have hpo := planE_zero hp
  unfold placeR
  rw [if_neg (by rw [hp]; simp)]
  split
  · exact ⟨.inl rfl, by simp, fun h => by cases h⟩
  · rename_i c hc
    obtain ⟨h1, h2⟩ := placeF_ok N.ps.length [] (SoFar.nil hpo.chip) hc
    have hA : AsgOk N C c := asg_of hpo (by simpa using h2) h1
    exact ⟨.inr rfl, (asg_i64 hA).1, fun _ => hA⟩

theorem cost_facts {N : Net} {C : Chp} {L : List Int} (hp : Gm.planE N C = 0) (h : AsgOk N C L) : asgE N C L = 0 ∧ (costR N C L).2 = 0 ∧ (costR N C L).1 = (costM N C L : Int) ∧ 0 ≤ lowM N C ∧ lowM N C ≤ (costR N C L).1 := by
  have h0 := asg_zero hp h
  have h1 := low_le h
  unfold costR
  rw [if_neg (by rw [h0]; simp)]
  exact ⟨h0, rfl, rfl, h1⟩

theorem imp_facts {N : Net} {C : Chp} {cores : List Int} : (asgE N C cores = 0 → (impR N C cores 2).2 = 0 ∧ AsgOk N C (impR N C cores 2).1 ∧ costM N C (impR N C cores 2).1 ≤ costM N C cores) ∧ (∀ k ∈ (impR N C cores 2).1, I64 k) := by
  unfold impR
  split
  · rename_i h
    exact ⟨fun h0 => absurd h0 h, by simp⟩
  · rename_i h
    have h := Decidable.not_not.1 h
    rw [if_neg (by omega)]
    have hA := impM_ok (N := N) (C := C) 2 (asgE_zero h)
    exact ⟨fun _ => ⟨rfl, hA.1, hA.2⟩, (asg_i64 hA.1).1⟩

set_option maxHeartbeats 4000000 in
theorem PlaceBound_any (X : PlnX) (cores : List Int) (hcw : ∀ k ∈ cores, I64 k) (p : Option Addr) (c b o : Nat) (w : World) (hX : PlnRi X w) (h1 : Sl w intV 1 cores p cores.length b o) :
    Calls Tryz.prog 12 #[.agg X.net.toArray, .agg (chpC X.C X.pd X.cd).toArray, .slice p cores.length c] w fun e w' => e = .returned (.bool true) ∧ St w [] [] w' := by
  have hf := fun (w' : World) => few7_any X w'
  have g1 := fun (w' : World) h => placeLow_any X w' h
  by_cases hp : Gm.planE X.N X.C ≠ 0
  · have hlr : lowR X.N X.C = (0, Gm.planE X.N X.C) := by unfold lowR; rw [if_pos hp]
    rw [hlr] at g1
    obtain ⟨E, hE⟩ : ∃ E, Gm.planE X.N X.C = E := ⟨_, rfl⟩
    rw [hE] at g1 hp
    dsimp only at g1
    unfold PlnX.net chpC at hf g1
    unfold PlnX.net chpC
    refine enter (C := Tryz.cx) (F := Tryz.fx12) (args := [_, _, _]) Tryz.func12 rfl rfl rfl Tryz.ok12 (St.start w []) ?_
    repeat' (conv => whnf); first | (refine VCall.isF 15 ?_; (refine VCall.valR (fun w' _ => works7_any w') ?_)) | (refine VCall.isF 19 ?_; (refine VCall.genR (fun w' hw' => hf w') ?_; rintro r hrr)) | (refine VCall.isF 35 ?_; (refine VCall.valR (fun w' hw' => g1 w' (hX.rd hw' (by have := hrr.1 rfl; omega))) ?_)) | (refine VSeq.go ?_) | (refine VB.is ?_; refine VB.yes (by omega) fun _ => ?_) | (refine VB.is ?_; refine VB.no (by omega) fun _ => ?_) | (refine VB.split (fun _ => ?_) (fun _ => ?_)) | (refine boolE_split (fun h => ?_) (fun h => ?_) <;> subst h) | (refine VLd.is ?_; refine VLd.mk (.row aT (by rfl)) ?_) | (refine VSt.is ?_; refine VSt.row aT (by rfl) (by first | rfl | assumption) ?_) | (refine VNew.mk fun _ => ?_) | (refine VAr.is ?_; refine oA ?_) | (refine VIx.is ?_; refine VIx.mk rfl (by omega) (by omega) ?_) | (refine VKeep.is ?_; refine VKeep.mk aH ?_) | (refine VHs.mk _ (.refl _) ?_) | (refine VQ.is ?_; refine oQ ?_) | (refine VM.is ?_; refine oM ?_) | (refine And.intro ?_ ?_)
    all_goals (conv => whnf)
    all_goals exact ⟨fun w' hw' => ⟨rfl, hw'.le .nil⟩⟩
  have hp := Decidable.not_not.1 hp
  have hlr : lowR X.N X.C = (lowM X.N X.C, 0) := by unfold lowR; rw [if_neg (by rw [hp]; simp)]
  rw [hlr] at g1
  dsimp only at g1
  obtain ⟨q1, q2, q3⟩ := place_facts hp
  have q4 := fun h => cost_facts hp (q3 h)
  have hPl := place_len X.N X.C
  have g2 := fun (w' : World) h => place7_any X w' h
  obtain ⟨⟨P, E⟩, hPE⟩ : ∃ P, placeR X.N X.C = P := ⟨_, rfl⟩
  rw [hPE] at g2 q1 q2 q3 q4 hPl
  dsimp only at g2 q1 q2 q3 q4 hPl
  have g3 := fun (w' : World) h p c b => placeCheck_any X w' h P q2 hPl p c b 0
  have g4 := fun (w' : World) h p c b => placeCost_any X w' h P q2 hPl p c b 0
  have g5 := fun hl (w' : World) h => placeCheck_any X w' h cores hcw hl p c b o
  have g6 := fun hl (w' : World) h => placeCost_any X w' h cores hcw hl p c b o
  have g7 := fun hl (w' : World) h => placeImprove_any X w' h cores hcw hl 2 (by simp [I64]) p c b o
  obtain ⟨f1, f2⟩ := imp_facts (N := X.N) (C := X.C) (cores := cores)
  have hIl := imp_len X.N X.C cores 2
  have a1 := fun h => cost_facts hp (asgE_zero (N := X.N) (C := X.C) (cores := cores) h)
  have a2 := fun h => cost_facts hp (f1 h).2.1
  have a3 : asgE X.N X.C cores = 0 → 1 ≤ X.C.mesh.wide * X.C.mesh.high ∧ X.C.mesh.wide * X.C.mesh.high ≤ 64 := fun h => area_ok (asgE_zero h).plan.chip.mesh
  obtain ⟨⟨L, EL⟩, hL⟩ : ∃ P, impR X.N X.C cores 2 = P := ⟨_, rfl⟩
  rw [hL] at g7 f1 f2 a2 hIl
  dsimp only at g7 f1 f2 a2 hIl
  have g8 := fun hl (w' : World) h p c b => placeCost_any X w' h L f2 hl p c b 0
  have f3 : asgE X.N X.C cores = 0 → EL = 0 ∧ (costR X.N X.C L).1 ≤ (costR X.N X.C cores).1 := fun h => by
    have h1 := (a1 h).2.2.1
    have h2 := (a2 h).2.2.1
    have h3 := (f1 h).2.2
    rw [h1, h2]
    exact ⟨(f1 h).1, by omega⟩
  clear f1 q3
  obtain ⟨⟨cP, eP⟩, hcP⟩ : ∃ x, costR X.N X.C P = x := ⟨_, rfl⟩
  obtain ⟨⟨cA, eA⟩, hcA⟩ : ∃ x, costR X.N X.C cores = x := ⟨_, rfl⟩
  obtain ⟨⟨cL, eL⟩, hcL⟩ : ∃ x, costR X.N X.C L = x := ⟨_, rfl⟩
  obtain ⟨EP, hEP⟩ : ∃ x, asgE X.N X.C P = x := ⟨_, rfl⟩
  obtain ⟨EA, hEA⟩ : ∃ x, asgE X.N X.C cores = x := ⟨_, rfl⟩
  obtain ⟨lo, hlo⟩ : ∃ x, lowM X.N X.C = x := ⟨_, rfl⟩
  obtain ⟨pr, hpr⟩ : ∃ pr, X.C.mesh.wide * X.C.mesh.high = pr := ⟨_, rfl⟩
  rw [hlo] at g1
  rw [hcP, hEP, hlo] at q4
  rw [hEP] at g3
  rw [hcP] at g4
  rw [hEA] at g5 a1 a2 a3 f3
  rw [hcA] at g6 a1 f3
  rw [hcL] at g8 a2 f3
  rw [hlo] at a1 a2
  rw [hpr] at a3
  dsimp only at g4 g6 g8 q4 a1 a2 f3
  have q5 : E = 0 → EP = 0 ∧ eP = 0 ∧ lo ≤ cP := fun h => ⟨(q4 h).1, (q4 h).2.1, (q4 h).2.2.2.2⟩
  have a5 : EA = 0 → eA = 0 ∧ 0 ≤ lo ∧ lo ≤ cA := fun h => ⟨(a1 h).2.1, (a1 h).2.2.2.1, (a1 h).2.2.2.2⟩
  have a6 : EA = 0 → eL = 0 ∧ lo ≤ cL := fun h => ⟨(a2 h).2.1, (a2 h).2.2.2.2⟩
  clear q4 a1 a2 hcP hcA hcL hL hPE hEP hlo
  unfold PlnX.net chpC at hf g1 g2 g3 g4 g5 g6 g7 g8
  unfold PlnX.net chpC
  refine enter (C := Tryz.cx) (F := Tryz.fx12) (args := [_, _, _]) Tryz.func12 rfl rfl rfl Tryz.ok12 (St.start w []) ?_
  repeat' (conv => whnf); first | (refine VCall.isF 15 ?_; (refine VCall.valR (fun w' _ => works7_any w') ?_)) | (refine VCall.isF 19 ?_; (refine VCall.genR (fun w' hw' => hf w') ?_; rintro r hrr)) | (refine VCall.isF 35 ?_; (refine VCall.valR (fun w' hw' => g1 w' (hX.rd hw' (by have := hrr.1 rfl; omega))) ?_)) | (refine VCall.isF 23 ?_; (refine VCall.genR (fun w' hw' => g2 w' (hX.rd hw' (by have := hrr.1 rfl; omega))) ?_; rintro ⟨p1, c1⟩ _; dsimp only)) | (refine VCall.isF 37 ?_; (refine VCall.third (.slice p cores.length c) ?_; refine VCall.valR (fun w' hw' => g5 (by omega) w' (hX.rd hw' (by have := hrr.1 rfl; omega)) (h1.keep hw' (by simp))) ?_)) | (refine VCall.isF 37 ?_; (refine VCall.third (.slice p1 P.length c1) ?_; refine VCall.valR (fun w' hw' => (Exists.elim (Sl.own (f := intV) (l := P) (p := p1) (cap := c1) (k := 1) hw' aT (fun _ => rfl) rfl) fun b1 hb1 => g3 w' (hX.rd hw' (by have := hrr.1 rfl; omega)) _ _ b1 hb1)) ?_)) | (refine VCall.isF 33 ?_; (refine VCall.third (.slice p cores.length c) ?_; refine VCall.valR (fun w' hw' => g6 (by omega) w' (hX.rd hw' (by have := hrr.1 rfl; omega)) (h1.keep hw' (by simp))) ?_)) | (refine VCall.isF 33 ?_; (refine VCall.third (.slice p1 P.length c1) ?_; refine VCall.valR (fun w' hw' => (Exists.elim (Sl.own (f := intV) (l := P) (p := p1) (cap := c1) (k := 1) hw' aT (fun _ => rfl) rfl) fun b1 hb1 => g4 w' (hX.rd hw' (by have := hrr.1 rfl; omega)) _ _ b1 hb1)) ?_)) | (refine VAr.is ?_; refine VAr.is ?_; refine VAr.mul hpr (by omega) (by omega) ?_) | (refine VCall.isF 39 ?_; (refine VCall.genR (fun w' hw' => g7 (by omega) w' (hX.rd hw' (by have := hrr.1 rfl; omega)) (h1.keep hw' (by simp))) ?_; rintro ⟨p2, c2⟩ _; dsimp only)) | (refine VCall.isF 33 ?_; (refine VCall.third (.slice p2 L.length c2) ?_; refine VCall.valR (fun w' hw' => (Exists.elim (Sl.own (f := intV) (l := L) (p := p2) (cap := c2) (k := 1) hw' aT (fun _ => rfl) rfl) fun b1 hb1 => g8 (hIl (by omega)) w' (hX.rd hw' (by have := hrr.1 rfl; omega)) _ _ b1 hb1)) ?_)) | (refine VSeq.go ?_) | (refine VB.is ?_; refine VB.yes (by omega) fun _ => ?_) | (refine VB.is ?_; refine VB.no (by omega) fun _ => ?_) | (refine VB.split (fun _ => ?_) (fun _ => ?_)) | (refine boolE_split (fun h => ?_) (fun h => ?_) <;> subst h) | (refine VLd.is ?_; refine VLd.mk (.row aT (by rfl)) ?_) | (refine VSt.is ?_; refine VSt.row aT (by rfl) (by first | rfl | assumption) ?_) | (refine VNew.mk fun _ => ?_) | (refine VAr.is ?_; refine oA ?_) | (refine VIx.is ?_; refine VIx.mk rfl (by omega) (by omega) ?_) | (refine VKeep.is ?_; refine VKeep.mk aH ?_) | (refine VHs.mk _ (.refl _) ?_) | (refine VQ.is ?_; refine oQ ?_) | (refine VM.is ?_; refine oM ?_) | (refine And.intro ?_ ?_)
  all_goals (conv => whnf)
  all_goals first
    | exact ⟨fun w' hw' => ⟨rfl, hw'.le .nil⟩⟩
    | (exfalso; omega)
    | trace_state

end Go.Proofs
end
