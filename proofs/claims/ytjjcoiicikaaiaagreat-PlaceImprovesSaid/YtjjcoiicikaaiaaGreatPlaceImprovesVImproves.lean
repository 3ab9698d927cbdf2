import Derived.Test.YtjjcoiicikaaiaaGreatPlaceImprovesIo
import Derived.Test.YtjjcoiicikaaiaaGreatPlaceImprovesWk
import Derived.Test.YtjjcoiicikaaiaaGreatPlaceImprovesPd
section
set_option linter.unusedVariables false

set_option linter.unusedSimpArgs false

namespace Go.Proofs

open Go Go.Vx Go.Gm

theorem refImprove_any (X : PlnX) (w : World) (hX : PlnRd X w) (cores : List Int) (hcw : ∀ k ∈ cores, I64 k) (hlc : cores.length ≤ 1000000) (rounds : Int) (hrw : I64 rounds) (p : Option Addr) (c b o : Nat) (h1 : Sl w intV 1 cores p cores.length b o) :
    Calls Tryz.prog 40 #[.agg X.net.toArray, .agg (chpC X.C X.pd X.cd).toArray, .slice p cores.length c, .int .i64 rounds] w fun e w' => ∃ z : Option Addr × Nat, e = .returned (.tuple #[.slice z.1 (impR X.N X.C cores rounds).1.length z.2, .int .i64 (impR X.N X.C cores rounds).2]) ∧ (0 < (impR X.N X.C cores rounds).1.length → ∃ g, z.1 = some ⟨g, 0, none⟩) ∧ St w [] [.vec z.1 (impR X.N X.C cores rounds).1.length z.2 3 1 (flat intV (impR X.N X.C cores rounds).1)] w' := by
  have hck := fun (w' : World) h => rCheck_any X w' h cores hcw hlc p c b o
  unfold I64 at hrw
  unfold impR
  by_cases he : asgE X.N X.C cores ≠ 0
  · rw [if_pos he]
    obtain ⟨E, hE⟩ : ∃ E, asgE X.N X.C cores = E := ⟨_, rfl⟩
    rw [hE] at hck he ⊢
    unfold PlnX.net chpC at hck ⊢
    refine enter (C := Tryz.cx) (F := Tryz.fx40) (args := [_, _, _, _]) Tryz.func40 rfl rfl rfl Tryz.ok40 (St.start w []) ?_
    repeat' (conv => whnf); first | (refine VCall.isF 38 ?_; (refine VCall.valR (fun w' hw' => hck w' (hX.keep hw') (h1.keep hw' (by simp))) ?_)) | (refine VSeq.go ?_) | (refine VB.is ?_; refine VB.yes (by omega) fun _ => ?_) | (refine VB.is ?_; refine VB.no (by omega) fun _ => ?_) | (refine VB.split (fun _ => ?_) (fun _ => ?_)) | (refine boolE_split (fun h => ?_) (fun h => ?_) <;> subst h) | (refine VLd.is ?_; refine VLd.mk (.row aT (by rfl)) ?_) | (refine VSt.is ?_; refine VSt.row aT (by rfl) (by first | rfl | assumption) ?_) | (refine VNew.mk fun _ => ?_) | (refine VAr.is ?_; refine oA ?_) | (refine VIx.is ?_; refine VIx.mk rfl (by omega) (by omega) ?_) | (refine VKeep.is ?_; refine VKeep.mk aH ?_) | (refine VHs.mk _ (.refl _) ?_) | (refine VQ.is ?_; refine oQ ?_) | (refine VM.is ?_; refine oM ?_) | (refine And.intro ?_ ?_)
    all_goals (conv => whnf)
    all_goals first
      | exact ⟨fun w' hw' => ⟨(none, 0), rfl, (fun h => by cases h), hw'.le (HLe.nilv .nil)⟩⟩
      | (exfalso; omega)
  have he0 := Decidable.not_not.1 he
  rw [if_neg he]
  by_cases hr : ¬ (0 ≤ rounds ∧ rounds ≤ 16)
  · rw [if_pos hr]
    rw [he0] at hck
    unfold PlnX.net chpC at hck ⊢
    refine enter (C := Tryz.cx) (F := Tryz.fx40) (args := [_, _, _, _]) Tryz.func40 rfl rfl rfl Tryz.ok40 (St.start w []) ?_
    repeat' (conv => whnf); first | (refine VCall.isF 51 ?_; refine VCall.inl (F := Tryz.fx51) Tryz.func51 rfl rfl rfl Tryz.ok51 ?_) | (refine VCall.isF 38 ?_; (refine VCall.valR (fun w' hw' => hck w' (hX.keep hw') (h1.keep hw' (by simp))) ?_)) | (refine VSeq.go ?_) | (refine VB.is ?_; refine VB.yes (by omega) fun _ => ?_) | (refine VB.is ?_; refine VB.no (by omega) fun _ => ?_) | (refine VB.split (fun _ => ?_) (fun _ => ?_)) | (refine boolE_split (fun h => ?_) (fun h => ?_) <;> subst h) | (refine VLd.is ?_; refine VLd.mk (.row aT (by rfl)) ?_) | (refine VSt.is ?_; refine VSt.row aT (by rfl) (by first | rfl | assumption) ?_) | (refine VNew.mk fun _ => ?_) | (refine VAr.is ?_; refine oA ?_) | (refine VIx.is ?_; refine VIx.mk rfl (by omega) (by omega) ?_) | (refine VKeep.is ?_; refine VKeep.mk aH ?_) | (refine VHs.mk _ (.refl _) ?_) | (refine VQ.is ?_; refine oQ ?_) | (refine VM.is ?_; refine oM ?_) | (refine And.intro ?_ ?_)
    all_goals (conv => whnf)
    all_goals first
      | exact ⟨fun w' hw' => ⟨(none, 0), rfl, (fun h => by cases h), hw'.le (HLe.nilv .nil)⟩⟩
      | (exfalso; omega)
  rw [if_neg hr]
  obtain ⟨R, rfl⟩ : ∃ R : Nat, rounds = (R : Int) := ⟨rounds.toNat, by omega⟩
  have := refImprove_good X w hX cores hcw hlc (asgE_zero he0) he0 R (by omega) p c b o h1
  refine this.mono fun e w' ⟨z, h2, _, h4⟩ => ⟨(some ⟨z.1, 0, none⟩, z.2), h2, fun _ => ⟨_, rfl⟩, h4⟩

end Go.Proofs
end

section
set_option linter.unusedVariables false

set_option linter.unusedSimpArgs false

namespace Go.Gm

theorem impM_len (N : Net) (C : Chp) : ∀ (n : Nat) (cores : List Int), (impM N C n cores).length = cores.length
  | 0, cores => rfl
  | n + 1, cores => by
    have h : ∀ (l : List Nat) (cores : List Int), (l.foldl (impStep N C) cores).length = cores.length := fun l => by
      induction l with
      | nil => intro cores; rfl
      | cons i l ih => intro cores; rw [List.foldl_cons, ih, impStep_len]
    rw [impM, impM_len N C n, impRound, h]

theorem imp_len (N : Net) (C : Chp) (cores : List Int) (rounds : Int) (hl : cores.length ≤ 1000000) : (impR N C cores rounds).1.length ≤ 1000000 := by
  unfold impR
  split
  · simp
  · split
    · simp
    · dsimp only
      rw [impM_len]; exact hl

end Go.Gm

namespace Go.Proofs

open Go Go.Vx Go.Gm

structure PlnRi (X : PlnX) (w : World) : Prop where
  net : X.N.wf
  chip : X.C.int
  cap : X.C.dead.length ≤ X.cd
  dead : ∃ b o, Sl w intV 1 X.C.dead X.pd X.C.dead.length b o
  ps : ∃ b o, Sl w parV 8 X.N.ps X.pn X.N.ps.length b o
  syns : ∃ b o, Sl w synV 4 X.N.syns X.qs X.N.syns.length b o

theorem PlnRi.rd {X : PlnX} {w w' : World} {H : HP} (h : PlnRi X w) (hw' : St w [] H w') (hf : X.C.dead.length ≤ 1000000) : PlnRd X w' :=
  PlnRd.keep ⟨h.net, h.chip.wf hf, h.cap, h.dead, h.ps, h.syns⟩ hw'

end Go.Proofs
end

section
set_option linter.unusedVariables false

set_option linter.unusedSimpArgs false

namespace Go.Proofs

open Go Go.Vx Go.Gm

theorem chip_area {C : Chp} (h : chipE C = 0) : 1 ≤ C.mesh.wide * C.mesh.high ∧ C.mesh.wide * C.mesh.high ≤ 64 := by
  have := area_ok (chipE_zero h).mesh
  omega

theorem PlaceImproves_any (X : PlnX) (cores : List Int) (hcw : ∀ k ∈ cores, I64 k) (p : Option Addr) (c b o : Nat) (rounds : Int) (hrw : I64 rounds) (w : World) (hX : PlnRi X w) (h1 : Sl w intV 1 cores p cores.length b o) :
    Calls Tryz.prog 10 #[.agg X.net.toArray, .agg (chpC X.C X.pd X.cd).toArray, .slice p cores.length c, .int .i64 rounds] w fun e w' => e = .returned (.bool true) ∧ St w [] [] w' := by
  have hf := fun (w' : World) => few7_any X w'
  have hz := fun (w' : World) => ref7_any X.C X.pd X.cd w'
  have g1 := fun hl (w' : World) h => placeImprove_any X w' h cores hcw hl rounds hrw p c b o
  have g2 := fun hl (w' : World) h => refImprove_any X w' h cores hcw hl rounds hrw p c b o
  obtain ⟨bd, od, hd⟩ := hX.dead
  have g3 := fun hl (w' : World) h => refCheckChip_any X.C (hX.chip.wf hl) X.pd X.cd bd od hX.cap w' h
  have har : chipE X.C = 0 → 1 ≤ X.C.mesh.wide * X.C.mesh.high ∧ X.C.mesh.wide * X.C.mesh.high ≤ 64 := chip_area
  have hil := imp_len X.N X.C cores rounds
  obtain ⟨⟨I, E⟩, hI⟩ : ∃ I, impR X.N X.C cores rounds = I := ⟨_, rfl⟩
  obtain ⟨CE, hCE⟩ : ∃ CE, chipE X.C = CE := ⟨_, rfl⟩
  obtain ⟨pr, hpr⟩ : ∃ pr, X.C.mesh.wide * X.C.mesh.high = pr := ⟨_, rfl⟩
  rw [hI] at g1 g2 hil
  rw [hCE] at g3 har
  rw [hpr] at har
  dsimp only at g1 g2 hil
  unfold PlnX.net chpC at hf g1 g2
  unfold chpC at hz g3
  unfold PlnX.net chpC
  unfold I64 at hrw
  refine enter (C := Tryz.cx) (F := Tryz.fx10) (args := [_, _, _, _]) Tryz.func10 rfl rfl rfl Tryz.ok10 (St.start w []) ?_
  repeat' (conv => whnf); first | (refine VCall.isF 15 ?_; (refine VCall.valR (fun w' _ => works7_any w') ?_)) | (refine VCall.isF 19 ?_; (refine VCall.genR (fun w' hw' => hf w') ?_; rintro r hrr)) | (refine VCall.isF 18 ?_; (refine VCall.valR (fun w' _ => hz w') ?_)) | (refine VCall.isF 17 ?_; (refine VCall.valR (fun w' hw' => g3 (by have := hrr.1 rfl; omega) w' (hd.keep hw' (by simp))) ?_)) | (refine VAr.is ?_; refine VAr.is ?_; refine VAr.mul hpr (by omega) (by omega) ?_) | (refine VCall.isF 39 ?_; (refine VCall.genR (fun w' hw' => g1 (by omega) w' (hX.rd hw' (by have := hrr.1 rfl; omega)) (h1.keep hw' (by simp))) ?_; rintro ⟨p1, c1⟩ _; dsimp only)) | (refine VCall.isF 40 ?_; (refine VCall.genR (fun w' hw' => g2 (by omega) w' (hX.rd hw' (by have := hrr.1 rfl; omega)) (h1.keep hw' (by simp))) ?_; rintro ⟨p2, c2⟩ _; dsimp only)) | (refine VCall.isF 25 ?_; (refine VCall.valR (fun w' hw' => Exists.elim (Sl.own (f := intV) (l := I) (p := p1) (cap := c1) (k := 1) hw' aT (fun _ => rfl) rfl) fun b1 hb1 => Exists.elim (Sl.own (f := intV) (l := I) (p := p2) (cap := c2) (k := 1) hw' aT (fun _ => rfl) rfl) fun b2 hb2 => equal7_self I (hil (by omega)) _ _ b1 0 _ _ b2 0 w' hb1 hb2) ?_)) | (refine VSeq.go ?_) | (refine VB.is ?_; refine VB.yes (by omega) fun _ => ?_) | (refine VB.is ?_; refine VB.no (by omega) fun _ => ?_) | (refine VB.split (fun _ => ?_) (fun _ => ?_)) | (refine boolE_split (fun h => ?_) (fun h => ?_) <;> subst h) | (refine VLd.is ?_; refine VLd.mk (.row aT (by rfl)) ?_) | (refine VSt.is ?_; refine VSt.row aT (by rfl) (by first | rfl | assumption) ?_) | (refine VNew.mk fun _ => ?_) | (refine VAr.is ?_; refine oA ?_) | (refine VIx.is ?_; refine VIx.mk rfl (by omega) (by omega) ?_) | (refine VKeep.is ?_; refine VKeep.mk aH ?_) | (refine VHs.mk _ (.refl _) ?_) | (refine VQ.is ?_; refine oQ ?_) | (refine VM.is ?_; refine oM ?_) | (refine And.intro ?_ ?_)
  all_goals (conv => whnf)
  all_goals exact ⟨fun w' hw' => ⟨rfl, hw'.le .nil⟩⟩

end Go.Proofs
end
