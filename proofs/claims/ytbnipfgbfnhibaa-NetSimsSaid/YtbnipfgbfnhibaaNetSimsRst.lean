/- Rst: Step of the reference, walked. -/

import Derived.Test.YtbnipfgbfnhibaaNetSimsRb
import Derived.Test.YtbnipfgbfnhibaaNetSimsStp

set_option linter.unusedVariables false

set_option linter.unusedSimpArgs false

namespace Go.Proofs

open Go Go.Vx Go.Gm

/-- A simulation of the reference, ready for a tick. -/
structure RRun (x : RSim) : Prop where
  ok : RSimOk x
  sta : StaAll x.N x.sts
  tick : x.tick ≤ 10000

def rstepErr (x : RSim) (ins : List Int) : Int := if 10000 ≤ x.tick then 8 else ascErr x.N.inputs none ins

def rstepSpk (x : RSim) (ins : List Int) : List Int := if rstepErr x ins = 0 then spk (goFire x) else []

/-- What Step of the reference leaves. -/
def RStepTo (x : RSim) (ins : List Int) (z : RSim) : Prop :=
  if rstepErr x ins = 0 then RSimOk z ∧ z.N = x.N ∧ (z.pn = x.pn ∧ z.qs = x.qs ∧ z.b = x.b) ∧ z.tick = x.tick + 1 ∧ smR z = refStep x.N (smR x) ins else z = x

set_option maxHeartbeats 400000 in
theorem RStep_any (x : RSim) (hx : RRun x) (ins : List Int) (hil : ins.length < 9223372036854775807) (pi : Option Addr) (ci bi oi : Nat) (bn on bs os : Nat) (w : World)
    (hs : St w (ids (rsimH x)) (rsimH x) w) (hpar : Sl w parV 8 x.N.ps x.pn x.N.ps.length bn on) (hparM : bn ∉ ids (rsimH x)) (hsyn : Sl w synV 4 x.N.syns x.qs x.N.syns.length bs os) (hsynM : bs ∉ ids (rsimH x)) (hin : Sl w intV 1 ins pi ins.length bi oi) (hbi : bi ∉ ids (rsimH x)) :
    Calls Try.prog 41 #[.pointer (some ⟨x.b, 0, none⟩), .slice pi ins.length ci] w fun e w' => ∃ z : (Option Addr × Nat) × RSim, e = .returned (.tuple #[.slice z.1.1 (rstepSpk x ins).length z.1.2, .int .i64 (rstepErr x ins)]) ∧
      ((0 < (rstepSpk x ins).length → ∃ g, z.1.1 = some ⟨g, 0, none⟩) ∧ RStepTo x ins z.2) ∧ St w (ids (rsimH x)) (rsimH z.2 ++ [.vec z.1.1 (rstepSpk x ins).length z.1.2 3 1 (flat intV (rstepSpk x ins))]) w' := by
  obtain ⟨hxo, hxs, hxt⟩ := hx
  have hNk := hxo.net
  have hin' := hNk.inputs
  have hpos := hNk.some
  have c1 : sub (rsimC x) 1 1 = some [.int .i64 x.N.inputs] := rfl
  have c3 : sub (rsimC x) 3 1 = some [.int .i64 (x.tick : Int)] := rfl
  obtain ⟨Mx, hMx⟩ : ∃ Mx, ids (rsimH x) = Mx := ⟨_, rfl⟩
  have hfin : ∀ (er : Int) w', St w Mx (rsimH x) w' → er ≠ 0 → rstepErr x ins = er → ∃ z : (Option Addr × Nat) × RSim, Ending.returned (.tuple #[.slice none 0 0, .int .i64 er]) = .returned (.tuple #[.slice z.1.1 (rstepSpk x ins).length z.1.2, .int .i64 (rstepErr x ins)]) ∧
      ((0 < (rstepSpk x ins).length → ∃ g, z.1.1 = some ⟨g, 0, none⟩) ∧ RStepTo x ins z.2) ∧ St w Mx (rsimH z.2 ++ [.vec z.1.1 (rstepSpk x ins).length z.1.2 3 1 (flat intV (rstepSpk x ins))]) w' := by
    intro er w' hw' hne he
    have hne' : ¬ rstepErr x ins = 0 := by omega
    have e1 : rstepSpk x ins = [] := by unfold rstepSpk; rw [if_neg hne']
    rw [e1, he]
    exact ⟨((none, 0), x), rfl, ⟨by simp, by unfold RStepTo; rw [if_neg hne']⟩, hw'.le aH⟩
  rw [hMx] at hs hbi hparM hsynM ⊢
  refine enter (C := Try.cx) (F := Try.fx41) (args := [_, _]) Try.func41 rfl rfl rfl Try.ok41 hs ?_
  repeat' (conv => whnf); first | (refine VLd.is ?_; refine VLd.mk (Rd.cast (.row aT (c1)) (by first | omega | (dsimp only; omega) | rfl)) ?_) | (refine VLd.is ?_; refine VLd.mk (Rd.cast (.row aT (c3)) (by first | omega | (dsimp only; omega) | rfl)) ?_) | (refine VSeq.is ?_; refine VSeq.go ?_) | (refine VB.is ?_; refine VB.yes (by omega) fun _ => ?_) | (refine VB.is ?_; refine VB.no (by omega) fun _ => ?_) | (refine VB.is ?_; refine VB.split (fun _ => ?_) (fun _ => ?_)) | (refine boolE_split (fun h => ?_) (fun h => ?_) <;> subst h) | (refine VLd.is ?_; refine VLd.mk (.row aT (by rfl)) ?_) | (refine VSt.is ?_; refine VSt.row aT (by rfl) (by first | rfl | assumption) ?_) | (refine VNew.is ?_; refine VNew.mk fun _ => ?_) | (refine VAr.is ?_; refine VAr.i64 (by omega) (by omega) ?_) | (refine VIx.is ?_; refine VIx.mk rfl (by omega) (by omega) ?_) | (refine VKeep.is ?_; refine VKeep.mk aH ?_) | (refine VHs.is ?_; refine VHs.mk _ (HLe.refl _) ?_) | (refine VQ.is ?_; refine VQ.pos (by omega) (by omega) (by omega) ?_) | (refine VM.is ?_; refine VM.pos (by omega) (by omega) ?_) | (refine And.intro ?_ ?_)
  all_goals (conv => whnf)
  · exact ⟨fun w' hw' => hfin 8 w' hw' (by omega) (by unfold rstepErr; rw [if_pos (by omega)])⟩
  have he : rstepErr x ins = ascErr x.N.inputs none ins := by unfold rstepErr; rw [if_neg (by omega)]
  refine VLoop.kr (α := Nat) [1000000, 0, 1, 4, 5] rfl (fun i => i ≤ ins.length ∧ ascErr x.N.inputs none ins = ascErr x.N.inputs (prevOf ins i) (ins.drop i)) (fun i K => (6, .int .i64 (i : Int)) :: K)
    (fun _ => rsimH x) (fun i => ins.length - i) 0 ⟨by omega, rfl⟩ aE aH ?_
  rintro i ⟨hi, hf⟩
  rcases Nat.lt_or_ge i ins.length with hlt | hge
  · obtain ⟨v, hv⟩ := hin.get hlt
    cases i with
    | zero =>
      have hn : ¬ inBehind v (prevOf ins 0) := fun h => h
      repeat' (conv => whnf); first | (refine VIx.is ?_; refine VIx.mk (hin.ptr (by omega)) (by omega) (by omega) ?_) | (refine VLd.is ?_; refine VLd.mk (Rd.cast (hin.rd0 hbi (fun _ => rfl) hv rfl) (by first | omega | (dsimp only; omega) | rfl)) ?_) | (refine VLd.is ?_; refine VLd.mk (Rd.cast (.row aT (c1)) (by first | omega | (dsimp only; omega) | rfl)) ?_) | (refine VSeq.is ?_; refine VSeq.go ?_) | (refine VB.is ?_; refine VB.yes (by omega) fun _ => ?_) | (refine VB.is ?_; refine VB.no (by omega) fun _ => ?_) | (refine VB.is ?_; refine VB.split (fun _ => ?_) (fun _ => ?_)) | (refine boolE_split (fun h => ?_) (fun h => ?_) <;> subst h) | (refine VLd.is ?_; refine VLd.mk (.row aT (by rfl)) ?_) | (refine VSt.is ?_; refine VSt.row aT (by rfl) (by first | rfl | assumption) ?_) | (refine VNew.is ?_; refine VNew.mk fun _ => ?_) | (refine VAr.is ?_; refine VAr.i64 (by omega) (by omega) ?_) | (refine VIx.is ?_; refine VIx.mk rfl (by omega) (by omega) ?_) | (refine VKeep.is ?_; refine VKeep.mk aH ?_) | (refine VHs.is ?_; refine VHs.mk _ (HLe.refl _) ?_) | (refine VQ.is ?_; refine VQ.pos (by omega) (by omega) (by omega) ?_) | (refine VM.is ?_; refine VM.pos (by omega) (by omega) ?_) | (refine And.intro ?_ ?_)
      all_goals (conv => whnf)
      all_goals first
        | exact ⟨fun w' hw' => hfin _ w' hw' (by omega) (by rw [he, hf, ascErr_bad hv (by unfold inBad; omega)])⟩
        | (refine VNext.mk (0 + 1) ⟨by omega, ?_⟩ (by omega) aE aH
           rw [hf, ascErr_next hv (by unfold inBad; omega) hn])
    | succ k =>
      obtain ⟨u, hu⟩ := hin.get (i := k) (by omega)
      have hp : prevOf ins (k + 1) = some u := hu
      have hbh : inBehind v (prevOf ins (k + 1)) ↔ v ≤ u := by rw [hp]; rfl
      repeat' (conv => whnf); first | (refine VIx.is ?_; refine VIx.mk (hin.ptr (by omega)) (by omega) (by omega) ?_) | (refine VLd.is ?_; refine VLd.mk (Rd.cast (hin.rd0 hbi (fun _ => rfl) hv rfl) (by first | omega | (dsimp only; omega) | rfl)) ?_) | (refine VLd.is ?_; refine VLd.mk (Rd.cast (hin.rd0 hbi (fun _ => rfl) hu rfl) (by first | omega | (dsimp only; omega) | rfl)) ?_) | (refine VLd.is ?_; refine VLd.mk (Rd.cast (.row aT (c1)) (by first | omega | (dsimp only; omega) | rfl)) ?_) | (refine VSeq.is ?_; refine VSeq.go ?_) | (refine VB.is ?_; refine VB.yes (by omega) fun _ => ?_) | (refine VB.is ?_; refine VB.no (by omega) fun _ => ?_) | (refine VB.is ?_; refine VB.split (fun _ => ?_) (fun _ => ?_)) | (refine boolE_split (fun h => ?_) (fun h => ?_) <;> subst h) | (refine VLd.is ?_; refine VLd.mk (.row aT (by rfl)) ?_) | (refine VSt.is ?_; refine VSt.row aT (by rfl) (by first | rfl | assumption) ?_) | (refine VNew.is ?_; refine VNew.mk fun _ => ?_) | (refine VAr.is ?_; refine VAr.i64 (by omega) (by omega) ?_) | (refine VIx.is ?_; refine VIx.mk rfl (by omega) (by omega) ?_) | (refine VKeep.is ?_; refine VKeep.mk aH ?_) | (refine VHs.is ?_; refine VHs.mk _ (HLe.refl _) ?_) | (refine VQ.is ?_; refine VQ.pos (by omega) (by omega) (by omega) ?_) | (refine VM.is ?_; refine VM.pos (by omega) (by omega) ?_) | (refine And.intro ?_ ?_)
      all_goals (conv => whnf)
      all_goals first
        | exact ⟨fun w' hw' => hfin _ w' hw' (by omega) (by rw [he, hf, ascErr_bad hv (by unfold inBad; omega)])⟩
        | exact ⟨fun w' hw' => hfin _ w' hw' (by omega) (by rw [he, hf, ascErr_late hv (by unfold inBad; omega) (hbh.2 (by omega))])⟩
        | (refine VNext.mk (k + 1 + 1) ⟨by omega, ?_⟩ (by omega) aE aH
           rw [hf, ascErr_next hv (by unfold inBad; omega) (fun h => by have := hbh.1 h; omega)])
  · have h0 : rstepErr x ins = 0 := by rw [he, hf, List.drop_eq_nil_of_le hge]; rfl
    obtain ⟨ha1, ha2⟩ := asc_zero (by omega) (he.symm.trans h0)
    have hsp : rstepSpk x ins = spk (goFire x) := by unfold rstepSpk; rw [if_pos h0]
    repeat' (conv => whnf); first | (refine VCall.isF 64 ?_; (refine VCall.turnV (α := RGoY) (S := rsimH x) (fun y => .slice y.p (spk (goFire x)).length y.cap) (fun y => (0 < (spk (goFire x)).length → ∃ g, y.p = some ⟨g, 0, none⟩) ∧ RSimOk (x.next y) ∧ y.D.map (·.l) = (sent (goSrcs x ins) x.N.syns).foldl refAdd ((x.D.map (·.l)).tail ++ [List.replicate x.N.ps.length 0])) (fun y => rsimH (x.next y)) (fun y => [.vec y.p (spk (goFire x)).length y.cap 3 1 (flat intV (spk (goFire x)))]) AtS.last (fun w1 hw1 hs1 => by subst hMx; exact rsimGo_any x hxo hxs ins (fun k hk => by have := ha1 k hk; omega) (by omega) pi ci bi oi w1 bn on bs os hs1 (hpar.keep hw1 hparM) hparM (hsyn.keep hw1 hsynM) hsynM (hin.keep hw1 hbi) hbi (by omega)) ?_; rintro y ⟨hy1, hy2, hy3⟩)) | (refine VSeq.is ?_; refine VSeq.go ?_) | (refine VB.is ?_; refine VB.yes (by omega) fun _ => ?_) | (refine VB.is ?_; refine VB.no (by omega) fun _ => ?_) | (refine VB.is ?_; refine VB.split (fun _ => ?_) (fun _ => ?_)) | (refine boolE_split (fun h => ?_) (fun h => ?_) <;> subst h) | (refine VLd.is ?_; refine VLd.mk (.row aT (by rfl)) ?_) | (refine VSt.is ?_; refine VSt.row aT (by rfl) (by first | rfl | assumption) ?_) | (refine VNew.is ?_; refine VNew.mk fun _ => ?_) | (refine VAr.is ?_; refine VAr.i64 (by omega) (by omega) ?_) | (refine VIx.is ?_; refine VIx.mk rfl (by omega) (by omega) ?_) | (refine VKeep.is ?_; refine VKeep.mk aH ?_) | (refine VHs.is ?_; refine VHs.mk _ (HLe.refl _) ?_) | (refine VQ.is ?_; refine VQ.pos (by omega) (by omega) (by omega) ?_) | (refine VM.is ?_; refine VM.pos (by omega) (by omega) ?_) | (refine And.intro ?_ ?_)
    all_goals (conv => whnf)
    have hst : smR (x.next y) = refStep x.N (smR x) ins := by
      have e0 : (goFire x) = fire x.N.ps (smR x).sts (((smR x).D[0]?).getD []) := by
        unfold goFire smR
        rw [List.getElem?_map]
      unfold refStep refSrcs
      rw [← e0]
      unfold smR RSim.next RSim.put
      simp only [Sm.mk.injEq, true_and]
      exact hy3
    refine ⟨fun w' hw' => ⟨((y.p, y.cap), x.next y), ?_, ⟨?_, ?_⟩, ?_⟩⟩
    · rw [hsp, h0]; rfl
    · rw [hsp]; exact hy1
    · unfold RStepTo; rw [if_pos h0]; exact ⟨hy2, rfl, ⟨rfl, rfl, rfl⟩, rfl, hst⟩
    · rw [hsp]
      exact hw'.le aH

end Go.Proofs
