/- Da: package net walked: Driven, first part. -/

import Derived.Test.YtbnipfgbfnhibaaNetKnownNa
import Derived.Test.YtbnipfgbfnhibaaNetKnownGa
import Derived.Test.YtbnipfgbfnhibaaNetKnownVb

/-! Neu2: Next and Silent, walked. -/

section

set_option linter.unusedVariables false

set_option linter.unusedSimpArgs false

namespace Go.Proofs

open Go Go.Vx Go.Gm

theorem Next_any (p : Par) (s : Sta) (hp : ParOk p) (hs : staOk p s) (w : World) :
    Calls Try.prog 102 #[.agg (parV p).toArray, .agg (staV s).toArray] w fun e w' => ∃ r : Int, e = .returned (.tuple #[.int .i64 r, .int .i64 0]) ∧ NextIs p s r ∧ St w [] [] w' := by
  have h0 : chkS p s = 0 := chkS_zero.2 ⟨hp, hs⟩
  have hmu := mu_le hp hs
  refine enter (C := Try.cx) (args := [_, _]) (F := Try.fx102) Try.func102 rfl rfl rfl Try.ok102 (St.start w []) ?_
  repeat' (conv => whnf); first | (refine VCall.isF 115 ?_; refine VCall.gen (newCell_ok _ hp.wf _ h0) fun b _ => ?_) | (refine VSeq.is ?_; refine VSeq.go ?_) | (refine VB.is ?_; refine VB.yes (by omega) fun _ => ?_) | (refine VB.is ?_; refine VB.no (by omega) fun _ => ?_) | (refine VB.is ?_; refine VB.split (fun _ => ?_) (fun _ => ?_)) | (refine boolE_split (fun h => ?_) (fun h => ?_) <;> subst h) | (refine VLd.is ?_; refine VLd.mk (.row aT (by rfl)) ?_) | (refine VSt.is ?_; refine VSt.row aT (by rfl) (by first | rfl | assumption) ?_) | (refine VNew.is ?_; refine VNew.mk fun _ => ?_) | (refine VAr.is ?_; refine VAr.i64 (by omega) (by omega) ?_) | (refine VIx.is ?_; refine VIx.mk rfl (by omega) (by omega) ?_) | (refine VKeep.is ?_; refine VKeep.mk aH ?_) | (refine VHs.is ?_; refine VHs.mk _ (HLe.refl _) ?_) | (refine VQ.is ?_; refine VQ.pos (by omega) (by omega) (by omega) ?_) | (refine VM.is ?_; refine VM.pos (by omega) (by omega) ?_) | (refine And.intro ?_ ?_)
  all_goals (conv => whnf)
  refine VLoop.kr (α := Nat × Sta) [1000000, 4, 5, 6] rfl (fun x => x.2 = silN p s x.1 ∧ quiet p s x.1 ∧ x.1 + mu p x.2 ≤ mu p s) (fun x K => (8, .int .i64 (x.1 : Int)) :: K)
    (fun x => [.row b 189 (cellV p x.2)]) (fun x => mu p x.2) (0, s) ⟨rfl, fun t ht => absurd ht (by omega), by simp⟩ aE aH ?_
  rintro ⟨t, q⟩ ⟨hq, hqt, hm⟩
  dsimp only at *
  have hqo : staOk p q := by rw [hq]; exact silN_ok hp hs t
  have hT := tick_any p q 0 hp hqo b
  obtain ⟨⟨q', fb⟩, htk⟩ : ∃ y, tick p q 0 = y := ⟨_, rfl⟩
  have hmu' := tick_mu hp hqo
  have hq1 : silN p s (t + 1) = q' := by simp only [silN, ← hq, htk]
  rw [htk] at hT hmu'
  dsimp only at hT hmu'
  repeat' (conv => whnf); first | (refine VCall.isF 116 ?_; refine VCall.turn aT hT fun _ _ => ?_) | (refine VSeq.is ?_; refine VSeq.go ?_) | (refine VB.is ?_; refine VB.yes (by omega) fun _ => ?_) | (refine VB.is ?_; refine VB.no (by omega) fun _ => ?_) | (refine VB.is ?_; refine VB.split (fun _ => ?_) (fun _ => ?_)) | (refine boolE_split (fun h => ?_) (fun h => ?_) <;> subst h) | (refine VLd.is ?_; refine VLd.mk (.row aT (by rfl)) ?_) | (refine VSt.is ?_; refine VSt.row aT (by rfl) (by first | rfl | assumption) ?_) | (refine VNew.is ?_; refine VNew.mk fun _ => ?_) | (refine VAr.is ?_; refine VAr.i64 (by omega) (by omega) ?_) | (refine VIx.is ?_; refine VIx.mk rfl (by omega) (by omega) ?_) | (refine VKeep.is ?_; refine VKeep.mk aH ?_) | (refine VHs.is ?_; refine VHs.mk _ (HLe.refl _) ?_) | (refine VQ.is ?_; refine VQ.pos (by omega) (by omega) (by omega) ?_) | (refine VM.is ?_; refine VM.pos (by omega) (by omega) ?_) | (refine And.intro ?_ ?_)
  all_goals (conv => whnf)
  · exact ⟨fun w' hw' => ⟨t, rfl, .inr ⟨t, rfl, by omega, hqt, by rw [← hq, htk]⟩, hw'.le .nil⟩⟩
  · refine ⟨fun w' hw' => ⟨-1, rfl, .inl ⟨rfl, fun n => ?_⟩, hw'.le .nil⟩⟩
    have he : q' = q := by cases q; cases q'; simp_all
    have hf : ∀ m, quiet p q m := quiet_fix (by rw [htk, he]) (by rw [htk])
    refine quiet_mono (quiet_join hqt (b := n) ?_) (by omega)
    rw [← hq]; exact hf n
  · have hne : q' ≠ q := by intro h; subst h; simp_all
    have hlt : mu p q' < mu p q := by
      rcases hmu' rfl with h | h
      · exact absurd h hne
      · exact h
    refine VNext.mk (t + 1, q') ⟨hq1.symm, ?_, by dsimp only; omega⟩ (by dsimp only; omega) aE aH
    intro m hm2
    by_cases h : m < t
    · exact hqt m h
    · obtain rfl : m = t := by dsimp only at hm2; omega
      rw [← hq, htk]

theorem Silent_any (p : Par) (s : Sta) (hp : ParOk p) (hs : staOk p s) (n : Nat) (hn : n ≤ 10000) (w : World) :
    Calls Try.prog 120 #[.agg (parV p).toArray, .agg (staV s).toArray, .int .i64 (n : Int)] w fun e w' => ∃ y : Option Addr × Nat × Nat,
      e = .returned (.tuple #[.slice y.1 y.2.1 y.2.2, .agg (staV (silN p s n)).toArray, .int .i64 0]) ∧ True ∧ St w [] [] w' := by
  have h0 : chkS p s = 0 := chkS_zero.2 ⟨hp, hs⟩
  refine enter (C := Try.cx) (args := [_, _, _]) (F := Try.fx120) Try.func120 rfl rfl rfl Try.ok120 (St.start w []) ?_
  repeat' (conv => whnf); first | (refine VCall.isF 115 ?_; refine VCall.gen (newCell_ok _ hp.wf _ h0) fun b _ => ?_) | (refine VCall.isF 95 ?_; refine VCall.bool (within_any _ _ _) ?_) | (refine VCall.isF 134 ?_; refine VCall.inl (F := Try.fx134) Try.func134 rfl rfl rfl Try.ok134 ?_) | (refine VRange.is ?_; refine VRange.go (ms := []) rfl fun hokx hoky l d L hL => ?_) | (refine VCall.isF 133 ?_; refine VCall.inl (F := Try.fx133) Try.func133 rfl rfl rfl Try.ok133 ?_) | (refine VSeq.is ?_; refine VSeq.go ?_) | (refine VB.is ?_; refine VB.yes (by omega) fun _ => ?_) | (refine VB.is ?_; refine VB.no (by omega) fun _ => ?_) | (refine VB.is ?_; refine VB.split (fun _ => ?_) (fun _ => ?_)) | (refine boolE_split (fun h => ?_) (fun h => ?_) <;> subst h) | (refine VLd.is ?_; refine VLd.mk (.row aT (by rfl)) ?_) | (refine VSt.is ?_; refine VSt.row aT (by rfl) (by first | rfl | assumption) ?_) | (refine VNew.is ?_; refine VNew.mk fun _ => ?_) | (refine VAr.is ?_; refine VAr.i64 (by omega) (by omega) ?_) | (refine VIx.is ?_; refine VIx.mk rfl (by omega) (by omega) ?_) | (refine VKeep.is ?_; refine VKeep.mk aH ?_) | (refine VHs.is ?_; refine VHs.mk _ (HLe.refl _) ?_) | (refine VQ.is ?_; refine VQ.pos (by omega) (by omega) (by omega) ?_) | (refine VM.is ?_; refine VM.pos (by omega) (by omega) ?_) | (refine And.intro ?_ ?_)
  all_goals (conv => whnf)
  rename_i b2 b5
  refine VLoop.kp (α := Nat × List Int × Option Addr × Nat) [1000000, 0, 4] [0, 1, 3, 5] rfl rfl (fun x => x.1 ≤ n ∧ x.2.1.length ≤ x.1) (fun x K => (5, .int .i64 (x.1 : Int)) :: K)
    (fun x R => .row b5 46 [.slice x.2.2.1 x.2.1.length x.2.2.2] :: .vec x.2.2.1 x.2.1.length x.2.2.2 3 1 (flat intV x.2.1) :: .row b 189 (cellV p (silN p s x.1)) :: R)
    (fun x => n - x.1) (0, [], none, 0) (by simp) aE aH ?_
  rintro ⟨t, xs, pp, cap⟩ ⟨ht, hxs⟩
  dsimp only at *
  rcases Nat.lt_or_ge t n with hlt | hge
  · obtain ⟨q, hq⟩ : ∃ q, silN p s t = q := ⟨_, rfl⟩
    have hqo : staOk p q := by rw [← hq]; exact silN_ok hp hs t
    have hT := tick_any p q 0 hp hqo b
    obtain ⟨⟨q', fb⟩, htk⟩ : ∃ y, tick p q 0 = y := ⟨_, rfl⟩
    have hq1 : silN p s (t + 1) = q' := by simp only [silN, hq, htk]
    rw [htk] at hT
    dsimp only at hT
    rw [hq]
    repeat' (conv => whnf); first | (refine VYield.is ?_; refine VYield.go hL hokx hoky aT rfl ?_) | (refine VBegin.is ?_; refine VBegin.mk aT ?_) | (refine VRound.is ?_; refine VRound.mk aT ?_) | (refine VCall.isF 116 ?_; refine VCall.turn aT hT fun _ _ => ?_) | (refine VAp.is ?_; refine VAp.own aT (.at_ (.vec aT rfl)) (by simp [Value.oneCell']) (by (try dsimp only); omega) (by simp only [maxLen]; omega) fun p' cap' hp' => ?_) | (refine VSeq.is ?_; refine VSeq.go ?_) | (refine VB.is ?_; refine VB.yes (by omega) fun _ => ?_) | (refine VB.is ?_; refine VB.no (by omega) fun _ => ?_) | (refine VB.is ?_; refine VB.split (fun _ => ?_) (fun _ => ?_)) | (refine boolE_split (fun h => ?_) (fun h => ?_) <;> subst h) | (refine VLd.is ?_; refine VLd.mk (.row aT (by rfl)) ?_) | (refine VSt.is ?_; refine VSt.row aT (by rfl) (by first | rfl | assumption) ?_) | (refine VNew.is ?_; refine VNew.mk fun _ => ?_) | (refine VAr.is ?_; refine VAr.i64 (by omega) (by omega) ?_) | (refine VIx.is ?_; refine VIx.mk rfl (by omega) (by omega) ?_) | (refine VKeep.is ?_; refine VKeep.mk aH ?_) | (refine VHs.is ?_; refine VHs.mk _ (HLe.refl _) ?_) | (refine VQ.is ?_; refine VQ.pos (by omega) (by omega) (by omega) ?_) | (refine VM.is ?_; refine VM.pos (by omega) (by omega) ?_) | (refine And.intro ?_ ?_)
    all_goals (conv => whnf)
    · refine VNext.mk (t + 1, xs ++ [(t : Int)], p', cap') ⟨by dsimp only; omega, by simp; omega⟩ (by dsimp only; omega) aE ?_
      dsimp only
      rw [hq1, List.length_append, flat_append]
      exact aH
    · refine VNext.mk (t + 1, xs, pp, cap) ⟨by dsimp only; omega, by dsimp only; omega⟩ (by dsimp only; omega) aE ?_
      dsimp only
      rw [hq1]
      exact aH
  · have hte : t = n := by omega
    subst hte
    repeat' (conv => whnf); first | (refine VEnd.is ?_; refine VEnd.mk aT (by simp) ?_) | (refine VUn.is ?_; refine VUn.mk aT ?_) | (refine VSeq.is ?_; refine VSeq.go ?_) | (refine VB.is ?_; refine VB.yes (by omega) fun _ => ?_) | (refine VB.is ?_; refine VB.no (by omega) fun _ => ?_) | (refine VB.is ?_; refine VB.split (fun _ => ?_) (fun _ => ?_)) | (refine boolE_split (fun h => ?_) (fun h => ?_) <;> subst h) | (refine VLd.is ?_; refine VLd.mk (.row aT (by rfl)) ?_) | (refine VSt.is ?_; refine VSt.row aT (by rfl) (by first | rfl | assumption) ?_) | (refine VNew.is ?_; refine VNew.mk fun _ => ?_) | (refine VAr.is ?_; refine VAr.i64 (by omega) (by omega) ?_) | (refine VIx.is ?_; refine VIx.mk rfl (by omega) (by omega) ?_) | (refine VKeep.is ?_; refine VKeep.mk aH ?_) | (refine VHs.is ?_; refine VHs.mk _ (HLe.refl _) ?_) | (refine VQ.is ?_; refine VQ.pos (by omega) (by omega) (by omega) ?_) | (refine VM.is ?_; refine VM.pos (by omega) (by omega) ?_) | (refine And.intro ?_ ?_)
    all_goals (conv => whnf)
    all_goals exact ⟨fun w' hw' => ⟨(pp, xs.length, cap), rfl, trivial, hw'.le .nil⟩⟩

end Go.Proofs

end

/-! Drv1: the heap of alarms, walked. -/

section

set_option linter.unusedVariables false

set_option linter.unusedSimpArgs false

namespace Go.Proofs

open Go Go.Vx Go.Gm

theorem before_any (a b : Evt) (w : World) :
    Calls Try.prog 67 #[.agg (evtV a).toArray, .agg (evtV b).toArray] w fun e w' => ∃ r : Bool, e = .returned (.bool r) ∧ (r = true ↔ evLt a b) ∧ St w [] [] w' := by
  refine enter (C := Try.cx) (args := [_, _]) (F := Try.fx67) Try.func67 rfl rfl rfl Try.ok67 (St.start w []) ?_
  repeat' (conv => whnf); first | (refine VSeq.is ?_; refine VSeq.go ?_) | (refine VB.is ?_; refine VB.yes (by omega) fun _ => ?_) | (refine VB.is ?_; refine VB.no (by omega) fun _ => ?_) | (refine VB.is ?_; refine VB.split (fun _ => ?_) (fun _ => ?_)) | (refine boolE_split (fun h => ?_) (fun h => ?_) <;> subst h) | (refine VLd.is ?_; refine VLd.mk (.row aT (by rfl)) ?_) | (refine VSt.is ?_; refine VSt.row aT (by rfl) (by first | rfl | assumption) ?_) | (refine VNew.is ?_; refine VNew.mk fun _ => ?_) | (refine VAr.is ?_; refine VAr.i64 (by omega) (by omega) ?_) | (refine VIx.is ?_; refine VIx.mk rfl (by omega) (by omega) ?_) | (refine VKeep.is ?_; refine VKeep.mk aH ?_) | (refine VHs.is ?_; refine VHs.mk _ (HLe.refl _) ?_) | (refine VQ.is ?_; refine VQ.pos (by omega) (by omega) (by omega) ?_) | (refine VM.is ?_; refine VM.pos (by omega) (by omega) ?_) | (refine And.intro ?_ ?_)
  all_goals (conv => whnf)
  all_goals exact ⟨fun w' hw' => ⟨_, rfl, by unfold evLt; simp only [true_iff, false_iff, reduceCtorEq]; omega, hw'.le .nil⟩⟩

def beforeV : Value := .func (.func 67) #[] #[]

/-- A course, as it lies. -/
def courseV (c w d : Value) (p : Option Addr) (n cap : Nat) : List Value := [c, w, d, .slice p n cap, beforeV]

def heapS (bc : Nat) (c w d : Value) (p : Option Addr) (cap : Nat) (A : List Evt) : HP :=
  [.row bc 127 (courseV c w d p A.length cap), .vec p A.length cap 129 2 (flat evtV A)]

theorem push_any (bc : Nat) (vc vw vd : Value) (p : Option Addr) (cap : Nat) (A : List Evt) (x : Evt) (hA : HeapOk A) (hl : A.length ≤ 4398046511104) (w : World) (hs : St w (ids (heapS bc vc vw vd p cap A)) (heapS bc vc vw vd p cap A) w) :
    Calls Try.prog 69 #[.pointer (some ⟨bc, 3, none⟩), .agg (evtV x).toArray] w fun e w' => ∃ y : Option Addr × Nat × List Evt, e = .returned (.tuple #[]) ∧ (HeapOk y.2.2 ∧ y.2.2.Perm (A ++ [x]) ∧ ∃ g, y.1 = some ⟨g, 0, none⟩) ∧
      St w (ids (heapS bc vc vw vd p cap A)) (heapS bc vc vw vd y.1 y.2.1 y.2.2) w' := by
  obtain ⟨Mx, hMx⟩ : ∃ Mx, ids (heapS bc vc vw vd p cap A) = Mx := ⟨_, rfl⟩
  rw [hMx] at hs ⊢
  unfold heapS courseV at hs
  refine enter (C := Try.cx) (args := [_, _]) (F := Try.fx69) Try.func69 rfl rfl rfl Try.ok69 hs ?_
  repeat' (conv => whnf); first | (refine VAp.is ?_; refine VAp.own aT (.at_ (.vec aT rfl)) (by simp [Value.oneCell']) (by (try dsimp only); omega) (by simp only [maxLen]; omega) fun p' cap' hp' => ?_) | (refine VSeq.is ?_; refine VSeq.go ?_) | (refine VB.is ?_; refine VB.yes (by omega) fun _ => ?_) | (refine VB.is ?_; refine VB.no (by omega) fun _ => ?_) | (refine VB.is ?_; refine VB.split (fun _ => ?_) (fun _ => ?_)) | (refine boolE_split (fun h => ?_) (fun h => ?_) <;> subst h) | (refine VLd.is ?_; refine VLd.mk (.row aT (by rfl)) ?_) | (refine VSt.is ?_; refine VSt.row aT (by rfl) (by first | rfl | assumption) ?_) | (refine VNew.is ?_; refine VNew.mk fun _ => ?_) | (refine VAr.is ?_; refine VAr.i64 (by omega) (by omega) ?_) | (refine VIx.is ?_; refine VIx.mk rfl (by omega) (by omega) ?_) | (refine VKeep.is ?_; refine VKeep.mk aH ?_) | (refine VHs.is ?_; refine VHs.mk _ (HLe.refl _) ?_) | (refine VQ.is ?_; refine VQ.pos (by omega) (by omega) (by omega) ?_) | (refine VM.is ?_; refine VM.pos (by omega) (by omega) ?_) | (refine And.intro ?_ ?_)
  all_goals (conv => whnf)
  obtain ⟨gp, hgp⟩ := hp' (by omega)
  subst hgp
  have e1 : ((A.length + 1 : Nat) : Int) - 1 = (A.length : Int) := by omega
  simp only [e1]
  refine VLoop.kr (α := List Evt × Nat) [1000000, 0] rfl (fun y => y.1.length = A.length + 1 ∧ y.2 < y.1.length ∧ y.1.Perm (A ++ [x]) ∧ HeapUp y.1 y.2) (fun y K => (4, .int .i64 (y.2 : Int)) :: K)
    (fun y => [.row bc 127 [vc, vw, vd, .slice (some ⟨gp, 0, none⟩) (A.length + 1) cap', beforeV], .vec (some ⟨gp, 0, none⟩) (A.length + 1) cap' 129 2 (flat evtV y.1)])
    (fun y => y.2) (A ++ [x], A.length) ⟨by simp, by simp, .refl _, HeapUp.start x hA⟩ aE (by dsimp only; rw [flat_append]; exact aH) ?_
  rintro ⟨B, j⟩ ⟨hBl, hj, hBp, hB⟩
  dsimp only at *
  obtain ⟨b, hb⟩ : ∃ b, B[j]? = some b := ⟨B[j], List.getElem?_eq_getElem _⟩
  rcases Nat.eq_zero_or_pos j with h0 | h0
  · have hok : HeapOk B := hB.done (fun a b h => by omega)
    repeat' (conv => whnf); first | (refine VSeq.is ?_; refine VSeq.go ?_) | (refine VB.is ?_; refine VB.yes (by omega) fun _ => ?_) | (refine VB.is ?_; refine VB.no (by omega) fun _ => ?_) | (refine VB.is ?_; refine VB.split (fun _ => ?_) (fun _ => ?_)) | (refine boolE_split (fun h => ?_) (fun h => ?_) <;> subst h) | (refine VLd.is ?_; refine VLd.mk (.row aT (by rfl)) ?_) | (refine VSt.is ?_; refine VSt.row aT (by rfl) (by first | rfl | assumption) ?_) | (refine VNew.is ?_; refine VNew.mk fun _ => ?_) | (refine VAr.is ?_; refine VAr.i64 (by omega) (by omega) ?_) | (refine VIx.is ?_; refine VIx.mk rfl (by omega) (by omega) ?_) | (refine VKeep.is ?_; refine VKeep.mk aH ?_) | (refine VHs.is ?_; refine VHs.mk _ (HLe.refl _) ?_) | (refine VQ.is ?_; refine VQ.pos (by omega) (by omega) (by omega) ?_) | (refine VM.is ?_; refine VM.pos (by omega) (by omega) ?_) | (refine And.intro ?_ ?_)
    all_goals (conv => whnf)
    exact ⟨fun w' hw' => ⟨(some ⟨gp, 0, none⟩, cap', B), rfl, ⟨hok, hBp, gp, rfl⟩, by unfold heapS courseV; dsimp only; rw [hBl]; exact hw'.le aH⟩⟩
  · obtain ⟨a, ha⟩ : ∃ a, B[(j - 1) / 2]? = some a := ⟨B[(j - 1) / 2]'(by omega), List.getElem?_eq_getElem _⟩
    have ha2 : (B.set j a)[(j - 1) / 2]? = some a := by rw [List.getElem?_set, if_neg (by omega)]; exact ha
    have hpm := swap_perm hb ha
    repeat' (conv => whnf); first | (refine VIx.is ?_; refine VIx.mk rfl (by omega) (by omega) ?_) | (refine VLd.is ?_; refine VLd.mk (Rd.cast (.vec aT (sub_flat0 (f := evtV) (k := 2) (fun _ => rfl) hb rfl)) (by first | omega | (dsimp only; omega) | rfl)) ?_) | (refine VLd.is ?_; refine VLd.mk (Rd.cast (.vec aT (sub_flat0 (f := evtV) (k := 2) (fun _ => rfl) ha rfl)) (by first | omega | (dsimp only; omega) | rfl)) ?_) | (refine VCall.isF 67 ?_; refine VCall.bool (before_any b a) ?_) | (refine VSt.is ?_; refine VSt.cast (off' := j * 2) (by first | omega | (dsimp only; omega)) (VSt.vec aT (upd_flat0 (f := evtV) (k := 2) (y := a) (fun _ => rfl) hb rfl) rfl ?_)) | (refine VSt.is ?_; refine VSt.cast (off' := (j - 1) / 2 * 2) (by first | omega | (dsimp only; omega)) (VSt.vec aT (upd_flat0 (f := evtV) (k := 2) (y := b) (fun _ => rfl) ha2 rfl) rfl ?_)) | (refine VSeq.is ?_; refine VSeq.go ?_) | (refine VB.is ?_; refine VB.yes (by omega) fun _ => ?_) | (refine VB.is ?_; refine VB.no (by omega) fun _ => ?_) | (refine VB.is ?_; refine VB.split (fun _ => ?_) (fun _ => ?_)) | (refine boolE_split (fun h => ?_) (fun h => ?_) <;> subst h) | (refine VLd.is ?_; refine VLd.mk (.row aT (by rfl)) ?_) | (refine VSt.is ?_; refine VSt.row aT (by rfl) (by first | rfl | assumption) ?_) | (refine VNew.is ?_; refine VNew.mk fun _ => ?_) | (refine VAr.is ?_; refine VAr.i64 (by omega) (by omega) ?_) | (refine VIx.is ?_; refine VIx.mk rfl (by omega) (by omega) ?_) | (refine VKeep.is ?_; refine VKeep.mk aH ?_) | (refine VHs.is ?_; refine VHs.mk _ (HLe.refl _) ?_) | (refine VQ.is ?_; refine VQ.pos (by omega) (by omega) (by omega) ?_) | (refine VM.is ?_; refine VM.pos (by omega) (by omega) ?_) | (refine And.intro ?_ ?_)
    all_goals (conv => whnf)
    · have e2 : ((j : Int) - 1) / 2 = (((j - 1) / 2 : Nat) : Int) := by omega
      rw [e2]
      exact VNext.mk ((B.set j a).set ((j - 1) / 2) b, (j - 1) / 2) ⟨by simpa using hBl, by simp; omega, hpm.trans hBp, hB.step h0 ha hb ‹_›⟩ (by dsimp only; omega) aE aH
    · have hok : HeapOk B := hB.done (fun a' b' _ h1 h2 => by rw [ha] at h1; rw [hb] at h2; cases h1; cases h2; exact ‹¬ evLt b a›)
      exact ⟨fun w' hw' => ⟨(some ⟨gp, 0, none⟩, cap', B), rfl, ⟨hok, hBp, gp, rfl⟩, by unfold heapS courseV; dsimp only; rw [hBl]; exact hw'.le aH⟩⟩

theorem pop_any (bc : Nat) (vc vw vd : Value) (gp : Nat) (cap : Nat) (A : List Evt) (x : Evt) (hA : HeapOk A) (hx : A[0]? = some x) (hl : A.length ≤ 4398046511104) (w : World) (hs : St w (ids (heapS bc vc vw vd (some ⟨gp, 0, none⟩) cap A)) (heapS bc vc vw vd (some ⟨gp, 0, none⟩) cap A) w) (hcap : A.length ≤ cap) :
    Calls Try.prog 70 #[.pointer (some ⟨bc, 3, none⟩)] w fun e w' => ∃ y : List Evt, e = .returned (.agg (evtV x).toArray) ∧ (HeapOk y ∧ A.Perm (x :: y)) ∧
      St w (ids (heapS bc vc vw vd (some ⟨gp, 0, none⟩) cap A)) (heapS bc vc vw vd (some ⟨gp, 0, none⟩) cap y) w' := by
  obtain ⟨Mx, hMx⟩ : ∃ Mx, ids (heapS bc vc vw vd (some ⟨gp, 0, none⟩) cap A) = Mx := ⟨_, rfl⟩
  rw [hMx] at hs ⊢
  unfold heapS courseV at hs
  have hpos : 0 < A.length := (List.getElem?_eq_some_iff.1 hx).1
  obtain ⟨n, hn⟩ : ∃ n, A.length = n + 1 := ⟨A.length - 1, by omega⟩
  obtain ⟨z, hz⟩ : ∃ z, A[n]? = some z := ⟨A[n], List.getElem?_eq_getElem _⟩
  have hpp := pop_perm hn hx hz
  have e1 : ((A.length : Nat) : Int) - 1 = (n : Int) := by omega
  refine enter (C := Try.cx) (args := [_]) (F := Try.fx70) Try.func70 rfl rfl rfl Try.ok70 hs ?_
  repeat' (conv => whnf); first | (refine VIx.is ?_; refine VIx.mk rfl (by omega) (by omega) ?_) | (refine VLd.is ?_; refine VLd.mk (Rd.cast (.vec aT (sub_flat0 (f := evtV) (k := 2) (fun _ => rfl) hx rfl)) (by first | omega | (dsimp only; omega) | rfl)) ?_) | (refine VLd.is ?_; refine VLd.mk (Rd.cast (.vec aT (sub_flat0 (f := evtV) (k := 2) (fun _ => rfl) hz rfl)) (by first | omega | (dsimp only; omega) | rfl)) ?_) | (refine VAr.is ?_; refine VAr.is ?_; refine VAr.i64 (by omega) (by omega) ?_; rw [e1]) | (refine VSt.is ?_; refine VSt.cast (off' := 0 * 2) (by first | omega | (dsimp only; omega)) (VSt.vec aT (upd_flat0 (f := evtV) (k := 2) (y := z) (fun _ => rfl) hx rfl) rfl ?_)) | (refine VSl.is ?_; refine VSl.cut0 (by omega) ?_) | (refine VSeq.is ?_; refine VSeq.go ?_) | (refine VB.is ?_; refine VB.yes (by omega) fun _ => ?_) | (refine VB.is ?_; refine VB.no (by omega) fun _ => ?_) | (refine VB.is ?_; refine VB.split (fun _ => ?_) (fun _ => ?_)) | (refine boolE_split (fun h => ?_) (fun h => ?_) <;> subst h) | (refine VLd.is ?_; refine VLd.mk (.row aT (by rfl)) ?_) | (refine VSt.is ?_; refine VSt.row aT (by rfl) (by first | rfl | assumption) ?_) | (refine VNew.is ?_; refine VNew.mk fun _ => ?_) | (refine VAr.is ?_; refine VAr.i64 (by omega) (by omega) ?_) | (refine VIx.is ?_; refine VIx.mk rfl (by omega) (by omega) ?_) | (refine VKeep.is ?_; refine VKeep.mk aH ?_) | (refine VHs.is ?_; refine VHs.mk _ (HLe.refl _) ?_) | (refine VQ.is ?_; refine VQ.pos (by omega) (by omega) (by omega) ?_) | (refine VM.is ?_; refine VM.pos (by omega) (by omega) ?_) | (refine And.intro ?_ ?_)
  all_goals (conv => whnf)
  rename_i b2 b3
  refine VLoop.kr (α := List Evt × Nat) [1000000, 0, 2, 3, 4] rfl (fun y => y.1.length = n ∧ A.Perm (x :: y.1) ∧ HeapDn y.1 y.2 ∧ (y.2 < n ∨ (n = 0 ∧ y.2 = 0))) (fun y K => (5, .int .i64 (y.2 : Int)) :: K)
    (fun y => [.vec (some ⟨gp, 0, none⟩) n cap 129 2 (flat evtV y.1), .row bc 127 [vc, vw, vd, .slice (some ⟨gp, 0, none⟩) n cap, beforeV], .row b2 129 [.int .i64 0, .int .i64 0], .row b3 129 (evtV x)])
    (fun y => n - y.2) ((A.set 0 z).take n, 0) ⟨by simp; omega, hpp, HeapDn.start hA n, by omega⟩ aE (by refine HLe.shr (l := A.set 0 z) aT (fun _ => rfl) (by simp) (by omega) ?_; exact aH) ?_
  rintro ⟨B, i⟩ ⟨hBl, hBp, hB, hi⟩
  dsimp only at *
  repeat' (conv => whnf); first | (refine VSeq.is ?_; refine VSeq.go ?_) | (refine VB.is ?_; refine VB.yes (by omega) fun _ => ?_) | (refine VB.is ?_; refine VB.no (by omega) fun _ => ?_) | (refine VB.is ?_; refine VB.split (fun _ => ?_) (fun _ => ?_)) | (refine boolE_split (fun h => ?_) (fun h => ?_) <;> subst h) | (refine VLd.is ?_; refine VLd.mk (.row aT (by rfl)) ?_) | (refine VSt.is ?_; refine VSt.row aT (by rfl) (by first | rfl | assumption) ?_) | (refine VNew.is ?_; refine VNew.mk fun _ => ?_) | (refine VAr.is ?_; refine VAr.i64 (by omega) (by omega) ?_) | (refine VIx.is ?_; refine VIx.mk rfl (by omega) (by omega) ?_) | (refine VKeep.is ?_; refine VKeep.mk aH ?_) | (refine VHs.is ?_; refine VHs.mk _ (HLe.refl _) ?_) | (refine VQ.is ?_; refine VQ.pos (by omega) (by omega) (by omega) ?_) | (refine VM.is ?_; refine VM.pos (by omega) (by omega) ?_) | (refine And.intro ?_ ?_)
  all_goals (conv => whnf)
  refine VLoop.kr (α := Nat × Nat) [1000000, 0, 2, 3, 4, 5] rfl
    (fun y => 2 * i + 1 ≤ y.2 ∧ y.2 ≤ 2 * i + 3 ∧ (y.1 = i ∨ (0 < y.1 ∧ (y.1 - 1) / 2 = i ∧ y.1 < n)) ∧ (∀ c a b, 2 * i + 1 ≤ c → c < y.2 → B[y.1]? = some a → B[c]? = some b → evLe a b) ∧ (∀ a b, B[y.1]? = some a → B[i]? = some b → evLe a b) )
    (fun y K => (6, .int .i64 (y.1 : Int)) :: (7, .int .i64 (y.2 : Int)) :: K)
    (fun y => [.vec (some ⟨gp, 0, none⟩) n cap 129 2 (flat evtV B), .row bc 127 [vc, vw, vd, .slice (some ⟨gp, 0, none⟩) n cap, beforeV], .row b2 129 [.int .i64 0, .int .i64 0], .row b3 129 (evtV x)])
    (fun y => 2 * i + 3 - y.2) (i, 2 * i + 1) ⟨by omega, by omega, .inl rfl, by intro c a b h1 h2; omega, fun a b h1 h2 => by rw [h1] at h2; cases h2; exact evLe_refl _⟩ (by simp only [Int.natCast_add, Int.natCast_mul]; exact aE) aH ?_
  rintro ⟨l, k⟩ ⟨hk1, hk2, hl1, hmin, hli⟩
  dsimp only at *
  rcases Nat.lt_or_ge k (min (2 * i + 3) n) with hlt | hge
  · obtain ⟨bk, hbk⟩ : ∃ bk, B[k]? = some bk := ⟨B[k]'(by omega), List.getElem?_eq_getElem _⟩
    obtain ⟨bl, hbl⟩ : ∃ bl, B[l]? = some bl := ⟨B[l]'(by omega), List.getElem?_eq_getElem _⟩
    repeat' (conv => whnf); first | (refine VIx.is ?_; refine VIx.mk rfl (by omega) (by omega) ?_) | (refine VLd.is ?_; refine VLd.mk (Rd.cast (.vec aT (sub_flat0 (f := evtV) (k := 2) (fun _ => rfl) hbk rfl)) (by first | omega | (dsimp only; omega) | rfl)) ?_) | (refine VLd.is ?_; refine VLd.mk (Rd.cast (.vec aT (sub_flat0 (f := evtV) (k := 2) (fun _ => rfl) hbl rfl)) (by first | omega | (dsimp only; omega) | rfl)) ?_) | (refine VCall.isF 67 ?_; refine VCall.bool (before_any bk bl) ?_) | (refine VSeq.is ?_; refine VSeq.go ?_) | (refine VB.is ?_; refine VB.yes (by omega) fun _ => ?_) | (refine VB.is ?_; refine VB.no (by omega) fun _ => ?_) | (refine VB.is ?_; refine VB.split (fun _ => ?_) (fun _ => ?_)) | (refine boolE_split (fun h => ?_) (fun h => ?_) <;> subst h) | (refine VLd.is ?_; refine VLd.mk (.row aT (by rfl)) ?_) | (refine VSt.is ?_; refine VSt.row aT (by rfl) (by first | rfl | assumption) ?_) | (refine VNew.is ?_; refine VNew.mk fun _ => ?_) | (refine VAr.is ?_; refine VAr.i64 (by omega) (by omega) ?_) | (refine VIx.is ?_; refine VIx.mk rfl (by omega) (by omega) ?_) | (refine VKeep.is ?_; refine VKeep.mk aH ?_) | (refine VHs.is ?_; refine VHs.mk _ (HLe.refl _) ?_) | (refine VQ.is ?_; refine VQ.pos (by omega) (by omega) (by omega) ?_) | (refine VM.is ?_; refine VM.pos (by omega) (by omega) ?_) | (refine And.intro ?_ ?_)
    all_goals (conv => whnf)
    · have hle := evLe_of_lt ‹evLt bk bl›
      refine VNext.mk (k, k + 1) ⟨by dsimp only; omega, by dsimp only; omega, by dsimp only; omega, fun c a b h1 h2 h3 h4 => ?_, fun a b h1 h2 => ?_⟩ (by dsimp only; omega) aE aH
      · dsimp only at h3; rw [hbk] at h3; cases h3
        by_cases e : c = k
        · subst e; rw [hbk] at h4; cases h4; exact evLe_refl _
        · exact evLe_trans hle (hmin c bl b h1 (by dsimp only at h2; omega) hbl h4)
      · dsimp only at h1; rw [hbk] at h1; cases h1; exact evLe_trans hle (hli bl b hbl h2)
    · refine VNext.mk (l, k + 1) ⟨by dsimp only; omega, by dsimp only; omega, hl1, fun c a b h1 h2 h3 h4 => ?_, hli⟩ (by dsimp only; omega) aE aH
      by_cases e : c = k
      · subst e; dsimp only at h3; rw [hbk] at h4; rw [hbl] at h3; cases h4; cases h3; exact ‹¬ evLt bk bl›
      · exact hmin c a b h1 (by dsimp only at h2; omega) h3 h4
  · have hdone : ∀ c a b, 0 < c → (c - 1) / 2 = i → B[l]? = some a → B[c]? = some b → evLe a b := by
      intro c a b h1 h2 h3 h4
      have hc : c < B.length := (List.getElem?_eq_some_iff.1 h4).1
      exact hmin c a b (by omega) (by omega) h3 h4
    by_cases hli' : l = i
    · subst hli'
      have hok : HeapOk B := hB.done fun c a b h1 h2 h3 h4 => hdone c a b h1 h2 h3 h4
      repeat' (conv => whnf); first | (refine VSeq.is ?_; refine VSeq.go ?_) | (refine VB.is ?_; refine VB.yes (by omega) fun _ => ?_) | (refine VB.is ?_; refine VB.no (by omega) fun _ => ?_) | (refine VB.is ?_; refine VB.split (fun _ => ?_) (fun _ => ?_)) | (refine boolE_split (fun h => ?_) (fun h => ?_) <;> subst h) | (refine VLd.is ?_; refine VLd.mk (.row aT (by rfl)) ?_) | (refine VSt.is ?_; refine VSt.row aT (by rfl) (by first | rfl | assumption) ?_) | (refine VNew.is ?_; refine VNew.mk fun _ => ?_) | (refine VAr.is ?_; refine VAr.i64 (by omega) (by omega) ?_) | (refine VIx.is ?_; refine VIx.mk rfl (by omega) (by omega) ?_) | (refine VKeep.is ?_; refine VKeep.mk aH ?_) | (refine VHs.is ?_; refine VHs.mk _ (HLe.refl _) ?_) | (refine VQ.is ?_; refine VQ.pos (by omega) (by omega) (by omega) ?_) | (refine VM.is ?_; refine VM.pos (by omega) (by omega) ?_) | (refine And.intro ?_ ?_)
      all_goals (conv => whnf)
      all_goals exact ⟨fun w' hw' => ⟨B, rfl, ⟨hok, hBp⟩, by unfold heapS courseV; rw [hBl]; exact hw'.le aH⟩⟩
    · obtain ⟨bi, hbi⟩ : ∃ bi, B[i]? = some bi := ⟨B[i]'(by omega), List.getElem?_eq_getElem _⟩
      obtain ⟨bl, hbl⟩ : ∃ bl, B[l]? = some bl := ⟨B[l]'(by omega), List.getElem?_eq_getElem _⟩
      have hbl2 : (B.set i bl)[l]? = some bl := by rw [List.getElem?_set, if_neg (by omega)]; exact hbl
      have hst := hB.step (l := l) (by omega) (by omega) hbi hbl (hli bl bi hbl hbi) (fun c y h1 h2 h3 => hdone c bl y h1 h2 hbl h3)
      repeat' (conv => whnf); first | (refine VIx.is ?_; refine VIx.mk rfl (by omega) (by omega) ?_) | (refine VLd.is ?_; refine VLd.mk (Rd.cast (.vec aT (sub_flat0 (f := evtV) (k := 2) (fun _ => rfl) hbi rfl)) (by first | omega | (dsimp only; omega) | rfl)) ?_) | (refine VLd.is ?_; refine VLd.mk (Rd.cast (.vec aT (sub_flat0 (f := evtV) (k := 2) (fun _ => rfl) hbl rfl)) (by first | omega | (dsimp only; omega) | rfl)) ?_) | (refine VSt.is ?_; refine VSt.cast (off' := i * 2) (by first | omega | (dsimp only; omega)) (VSt.vec aT (upd_flat0 (f := evtV) (k := 2) (y := bl) (fun _ => rfl) hbi rfl) rfl ?_)) | (refine VSt.is ?_; refine VSt.cast (off' := l * 2) (by first | omega | (dsimp only; omega)) (VSt.vec aT (upd_flat0 (f := evtV) (k := 2) (y := bi) (fun _ => rfl) hbl2 rfl) rfl ?_)) | (refine VSeq.is ?_; refine VSeq.go ?_) | (refine VB.is ?_; refine VB.yes (by omega) fun _ => ?_) | (refine VB.is ?_; refine VB.no (by omega) fun _ => ?_) | (refine VB.is ?_; refine VB.split (fun _ => ?_) (fun _ => ?_)) | (refine boolE_split (fun h => ?_) (fun h => ?_) <;> subst h) | (refine VLd.is ?_; refine VLd.mk (.row aT (by rfl)) ?_) | (refine VSt.is ?_; refine VSt.row aT (by rfl) (by first | rfl | assumption) ?_) | (refine VNew.is ?_; refine VNew.mk fun _ => ?_) | (refine VAr.is ?_; refine VAr.i64 (by omega) (by omega) ?_) | (refine VIx.is ?_; refine VIx.mk rfl (by omega) (by omega) ?_) | (refine VKeep.is ?_; refine VKeep.mk aH ?_) | (refine VHs.is ?_; refine VHs.mk _ (HLe.refl _) ?_) | (refine VQ.is ?_; refine VQ.pos (by omega) (by omega) (by omega) ?_) | (refine VM.is ?_; refine VM.pos (by omega) (by omega) ?_) | (refine And.intro ?_ ?_)
      all_goals (conv => whnf)
      all_goals exact VNext.mk ((B.set i bl).set l bi, l) ⟨by simpa using hBl, hBp.trans ((swap_perm hbi hbl).symm.cons _), hst, by dsimp only; omega⟩ (by dsimp only; omega) aE aH

theorem push_call {w0 : World} {M : List Nat} {H R : HP} {K : Value → HP → Prop} (bc : Nat) (vc vw vd : Value) (p : Option Addr) (cap : Nat) (A : List Evt) (x : Evt) (hA : HeapOk A) (hl : A.length ≤ 4398046511104) (htk : Take H (heapS bc vc vw vd p cap A) R)
    (hk : ∀ g cap' A', HeapOk A' → A'.Perm (A ++ [x]) → K (.tuple #[]) (heapS bc vc vw vd (some ⟨g, 0, none⟩) cap' A' ++ R)) :
    VCall Try.cx.P w0 M H 69 [.pointer (some ⟨bc, 3, none⟩), .agg (evtV x).toArray] K :=
  VCall.turnT (α := Option Addr × Nat × List Evt) (fun _ => .tuple #[]) (fun y => HeapOk y.2.2 ∧ y.2.2.Perm (A ++ [x]) ∧ ∃ g, y.1 = some ⟨g, 0, none⟩) (fun y => heapS bc vc vw vd y.1 y.2.1 y.2.2) htk
    (fun w _ hs => push_any bc vc vw vd p cap A x hA hl w hs) (fun y hy => by
      obtain ⟨h1, h2, g, h3⟩ := hy
      obtain ⟨p', cap', A'⟩ := y
      dsimp only at h3
      subst h3
      exact hk g cap' A' h1 h2)

theorem pop_call {w0 : World} {M : List Nat} {H R : HP} {K : Value → HP → Prop} (bc : Nat) (vc vw vd : Value) (p : Option Addr) (cap : Nat) (A : List Evt) (x : Evt) (hA : HeapOk A) (hx : A[0]? = some x) (hl : A.length ≤ 4398046511104) (htk : Take H (heapS bc vc vw vd p cap A) R)
    (hk : ∀ A', HeapOk A' → A.Perm (x :: A') → K (.agg (evtV x).toArray) (heapS bc vc vw vd p cap A' ++ R)) :
    VCall Try.cx.P w0 M H 70 [.pointer (some ⟨bc, 3, none⟩)] K := by
  refine VCall.turnT (α := List Evt) (fun _ => .agg (evtV x).toArray) (fun y => HeapOk y ∧ A.Perm (x :: y)) (fun y => heapS bc vc vw vd p cap y) htk (fun w _ hs => ?_) (fun y hy => hk y hy.1 hy.2)
  have hpos : 0 < A.length := (List.getElem?_eq_some_iff.1 hx).1
  have hv := hs.own (.vec p A.length cap 129 2 (flat evtV A)) (by simp [heapS])
  cases p with
  | none =>
    obtain ⟨h1, h2⟩ := hv
    rcases h2 with ⟨h3, _⟩ | ⟨g, c, cur, hv, _⟩
    · simp only [Value.slice.injEq] at h3; omega
    · cases hv
  | some a =>
    obtain ⟨g, cur, hg, _, hcap, _⟩ := vec_some hv
    subst hg
    exact pop_any bc vc vw vd g cap A x hA hx hl w hs hcap

end Go.Proofs

end

/-! Drv2: cells of a simulation by events, walked. -/

section

set_option linter.unusedVariables false

set_option linter.unusedSimpArgs false

namespace Go.Proofs

open Go Go.Vx Go.Gm

/-- A cell: a neuron, its state before a tick, that tick, the tick of its next spike in silence. -/
structure CellM where
  p : Par
  s : Sta
  tick : Nat
  next : Int

def ccV (c : CellM) : List Value :=
  [.int .i64 c.p.lk, .int .i64 c.p.lv, .int .i64 c.p.bias, .int .i64 c.p.th, .int .i64 c.p.rk, .int .i64 c.p.rs, .int .i64 c.p.fl, .int .i64 c.p.rest, .int .i64 c.s.v, .int .i64 c.s.rest, .int .i64 (c.tick : Int), .int .i64 c.next]

def cellsE (g n cap : Nat) (cs : List CellM) : Ent := .vec (some ⟨g, 0, none⟩) n cap 131 12 (flat ccV cs)

theorem set_get {α : Type} {l : List α} {i : Nat} {y : α} (h : i < l.length) : (l.set i y)[i]? = some y := by simp [h]

theorem set_self {α : Type} {l : List α} {k : Nat} {a : α} (h : l[k]? = some a) : l.set k a = l := by
  obtain ⟨hlt, rfl⟩ := List.getElem?_eq_some_iff.1 h
  simp

theorem rest_any (g n cap : Nat) (cs : List CellM) (i : Nat) (c : CellM) (hi : cs[i]? = some c) (hl : cs.length ≤ 1024) (hp : ParOk c.p) (hso : staOk c.p c.s) (T : Nat) (hT : T ≤ 1073741824) (hct : c.tick ≤ T) (hq : quiet c.p c.s (T - c.tick)) (w : World)
    (hs : St w (ids [cellsE g n cap cs]) [cellsE g n cap cs] w) :
    Calls Try.prog 103 #[.pointer (some ⟨g, i * 12, none⟩), .int .i64 (T : Int)] w fun e w' => ∃ _ : Unit, e = .returned (.tuple #[]) ∧ True ∧
      St w (ids [cellsE g n cap cs]) [cellsE g n cap (cs.set i ⟨c.p, silN c.p c.s (T - c.tick), T, c.next⟩)] w' := by
  obtain ⟨Mx, hMx⟩ : ∃ Mx, ids [cellsE g n cap cs] = Mx := ⟨_, rfl⟩
  rw [hMx] at hs ⊢
  unfold cellsE at hs
  have hlt : i < cs.length := (List.getElem?_eq_some_iff.1 hi).1
  refine enter (C := Try.cx) (args := [_, _]) (F := Try.fx103) Try.func103 rfl rfl rfl Try.ok103 hs ?_
  repeat' (conv => whnf); first | (refine VSeq.is ?_; refine VSeq.go ?_) | (refine VB.is ?_; refine VB.yes (by omega) fun _ => ?_) | (refine VB.is ?_; refine VB.no (by omega) fun _ => ?_) | (refine VB.is ?_; refine VB.split (fun _ => ?_) (fun _ => ?_)) | (refine boolE_split (fun h => ?_) (fun h => ?_) <;> subst h) | (refine VLd.is ?_; refine VLd.mk (.row aT (by rfl)) ?_) | (refine VSt.is ?_; refine VSt.row aT (by rfl) (by first | rfl | assumption) ?_) | (refine VNew.is ?_; refine VNew.mk fun _ => ?_) | (refine VAr.is ?_; refine VAr.i64 (by omega) (by omega) ?_) | (refine VIx.is ?_; refine VIx.mk rfl (by omega) (by omega) ?_) | (refine VKeep.is ?_; refine VKeep.mk aH ?_) | (refine VHs.is ?_; refine VHs.mk _ (HLe.refl _) ?_) | (refine VQ.is ?_; refine VQ.pos (by omega) (by omega) (by omega) ?_) | (refine VM.is ?_; refine VM.pos (by omega) (by omega) ?_) | (refine And.intro ?_ ?_)
  all_goals (conv => whnf)
  refine VLoop.kr (α := Nat) [1000000, 0, 1] rfl (fun t => c.tick ≤ t ∧ t ≤ T) (fun t K => K) (fun t => [.vec (some ⟨g, 0, none⟩) n cap 131 12 (flat ccV (cs.set i ⟨c.p, silN c.p c.s (t - c.tick), t, c.next⟩))])
    (fun t => T - t) c.tick ⟨by omega, hct⟩ aE ?_ ?_
  · have : cs.set i ⟨c.p, silN c.p c.s (c.tick - c.tick), c.tick, c.next⟩ = cs := by
      rw [Nat.sub_self]
      exact set_self hi
    rw [this]
    exact aH
  intro t ⟨ht1, ht2⟩
  rcases Nat.lt_or_ge t T with hlt' | hge
  · obtain ⟨m, hm⟩ : ∃ m, min (T - t) 64 = m := ⟨_, rfl⟩
    have em : min ((T : Int) - (t : Int)) 64 = (m : Int) := by omega
    obtain ⟨q, hqq⟩ : ∃ q, silN c.p c.s (t - c.tick) = q := ⟨_, rfl⟩
    have hqo : staOk c.p q := by rw [← hqq]; exact silN_ok hp hso _
    have hS := Silent_any c.p q hp hqo m (by omega)
    obtain ⟨q', hq'⟩ : ∃ q', silN c.p q m = q' := ⟨_, rfl⟩
    have hq1 : silN c.p c.s (t + m - c.tick) = q' := by rw [← hq', ← hqq, ← silN_add]; congr 1; omega
    have hqm : quiet c.p q (T - t) := by
      rw [← hqq]; exact quiet_add (by rw [show t - c.tick + (T - t) = T - c.tick by omega]; exact hq)
    rw [hq'] at hS
    rw [hqq]
    repeat' (conv => whnf); first | (refine VLd.is ?_; refine VLd.is ?_; refine VLd.atS (i * 12 + 0) 8 ?_; refine VLd.mk (.vec aT (sub_flat (f := ccV) (k := 12) (o := 0) (s := 8) (vs := parV c.p) (fun _ => rfl) (set_get (y := (⟨c.p, q, t, c.next⟩ : CellM)) hlt) rfl)) ?_) | (refine VLd.is ?_; refine VLd.is ?_; refine VLd.atS (i * 12 + 8) 2 ?_; refine VLd.mk (.vec aT (sub_flat (f := ccV) (k := 12) (o := 8) (s := 2) (vs := staV q) (fun _ => rfl) (set_get (y := (⟨c.p, q, t, c.next⟩ : CellM)) hlt) rfl)) ?_) | (refine VLd.is ?_; refine VLd.is ?_; refine VLd.atS (i * 12 + 10) 1 ?_; refine VLd.mk (.vec aT (sub_flat (f := ccV) (k := 12) (o := 10) (s := 1) (vs := [.int .i64 (t : Int)]) (fun _ => rfl) (set_get (y := (⟨c.p, q, t, c.next⟩ : CellM)) hlt) rfl)) ?_) | (refine VLd.is ?_; refine VLd.is ?_; refine VLd.atS (i * 12 + 11) 1 ?_; refine VLd.mk (.vec aT (sub_flat (f := ccV) (k := 12) (o := 11) (s := 1) (vs := [.int .i64 c.next]) (fun _ => rfl) (set_get (y := (⟨c.p, q, t, c.next⟩ : CellM)) hlt) rfl)) ?_) | (refine VLd.is ?_; refine VLd.is ?_; refine VLd.atS (i * 12 + 2) 1 ?_; refine VLd.mk (.vec aT (sub_flat (f := ccV) (k := 12) (o := 2) (s := 1) (vs := [.int .i64 (Par.bias c.p)]) (fun _ => rfl) (set_get (y := (⟨c.p, q, t, c.next⟩ : CellM)) hlt) rfl)) ?_) | (refine VLd.is ?_; refine VLd.is ?_; refine VLd.atS (i * 12 + 3) 1 ?_; refine VLd.mk (.vec aT (sub_flat (f := ccV) (k := 12) (o := 3) (s := 1) (vs := [.int .i64 (Par.th c.p)]) (fun _ => rfl) (set_get (y := (⟨c.p, q, t, c.next⟩ : CellM)) hlt) rfl)) ?_) | (refine VLd.is ?_; refine VLd.is ?_; refine VLd.atS (i * 12 + 8) 1 ?_; refine VLd.mk (.vec aT (sub_flat (f := ccV) (k := 12) (o := 8) (s := 1) (vs := [.int .i64 (Sta.v q)]) (fun _ => rfl) (set_get (y := (⟨c.p, q, t, c.next⟩ : CellM)) hlt) rfl)) ?_) | (refine VLd.is ?_; refine VLd.mk (Rd.cast (.vec aT (sub_flat (f := ccV) (k := 12) (o := 10) (s := 1) (vs := [.int .i64 (t : Int)]) (fun _ => rfl) (set_get (y := (⟨c.p, q', t, c.next⟩ : CellM)) hlt) rfl)) (by first | omega | (dsimp only; omega) | rfl)) ?_) | (refine VCall.is ?_; refine VCall.isF 120 ?_; rw [em]; refine VCall.ex hS fun y _ => ?_) | (refine VSt.is ?_; refine VSt.is ?_; refine VSt.atS (i * 12 + 8) ?_; apply VSt.vec; (focus (exact aT)); exact upd_flat (f := ccV) (k := 12) (o := 8) (y := ⟨c.p, q', t, c.next⟩) (fun _ => rfl) (set_get hlt) rfl; rfl; rw [List.set_set]) | (refine VSt.is ?_; refine VSt.is ?_; refine VSt.atS (i * 12 + 10) ?_; apply VSt.vec; (focus (exact aT)); exact upd_flat (f := ccV) (k := 12) (o := 10) (y := ⟨c.p, q', t + m, c.next⟩) (fun _ => rfl) (set_get hlt) rfl; rfl; rw [List.set_set]) | (refine VSt.is ?_; refine VSt.is ?_; refine VSt.atS (i * 12 + 10) ?_; apply VSt.vec; (focus (exact aT)); exact upd_flat (f := ccV) (k := 12) (o := 10) (y := ⟨c.p, q, T, c.next⟩) (fun _ => rfl) (set_get hlt) rfl; rfl; rw [List.set_set]) | (refine VSeq.is ?_; refine VSeq.go ?_) | (refine VB.is ?_; refine VB.yes (by omega) fun _ => ?_) | (refine VB.is ?_; refine VB.no (by omega) fun _ => ?_) | (refine VB.is ?_; refine VB.split (fun _ => ?_) (fun _ => ?_)) | (refine boolE_split (fun h => ?_) (fun h => ?_) <;> subst h) | (refine VLd.is ?_; refine VLd.mk (.row aT (by rfl)) ?_) | (refine VSt.is ?_; refine VSt.row aT (by rfl) (by first | rfl | assumption) ?_) | (refine VNew.is ?_; refine VNew.mk fun _ => ?_) | (refine VAr.is ?_; refine VAr.i64 (by omega) (by omega) ?_) | (refine VIx.is ?_; refine VIx.mk rfl (by omega) (by omega) ?_) | (refine VKeep.is ?_; refine VKeep.mk aH ?_) | (refine VHs.is ?_; refine VHs.mk _ (HLe.refl _) ?_) | (refine VQ.is ?_; refine VQ.pos (by omega) (by omega) (by omega) ?_) | (refine VM.is ?_; refine VM.pos (by omega) (by omega) ?_) | (refine And.intro ?_ ?_)
    all_goals (conv => whnf)
    all_goals first
      | (have he : q' = q := by cases q; cases q'; simp_all
         have hfx := silN_same hp hqo (n := m) (by omega) (quiet_mono hqm (by omega)) (by rw [hq', he])
         have hfin : silN c.p c.s (T - c.tick) = q := by
           rw [show T - c.tick = (t - c.tick) + (T - t) by omega, silN_add, hqq, silN_fix hfx.1]
         refine ⟨fun w' hw' => ⟨(), rfl, trivial, ?_⟩⟩
         rw [hfin]
         exact hw'.le (by unfold cellsE; exact aH))
      | (refine VNext.mk (t + m) (by omega) (by omega) aE ?_
         rw [hq1]
         exact aH)
  · obtain rfl : t = T := by omega
    repeat' (conv => whnf); first | (refine VLd.is ?_; refine VLd.is ?_; refine VLd.atS (i * 12 + 0) 8 ?_; refine VLd.mk (.vec aT (sub_flat (f := ccV) (k := 12) (o := 0) (s := 8) (vs := parV c.p) (fun _ => rfl) (set_get (y := (⟨c.p, silN c.p c.s (t - c.tick), t, c.next⟩ : CellM)) hlt) rfl)) ?_) | (refine VLd.is ?_; refine VLd.is ?_; refine VLd.atS (i * 12 + 8) 2 ?_; refine VLd.mk (.vec aT (sub_flat (f := ccV) (k := 12) (o := 8) (s := 2) (vs := staV silN c.p c.s (t - c.tick)) (fun _ => rfl) (set_get (y := (⟨c.p, silN c.p c.s (t - c.tick), t, c.next⟩ : CellM)) hlt) rfl)) ?_) | (refine VLd.is ?_; refine VLd.is ?_; refine VLd.atS (i * 12 + 10) 1 ?_; refine VLd.mk (.vec aT (sub_flat (f := ccV) (k := 12) (o := 10) (s := 1) (vs := [.int .i64 (t : Int)]) (fun _ => rfl) (set_get (y := (⟨c.p, silN c.p c.s (t - c.tick), t, c.next⟩ : CellM)) hlt) rfl)) ?_) | (refine VLd.is ?_; refine VLd.is ?_; refine VLd.atS (i * 12 + 11) 1 ?_; refine VLd.mk (.vec aT (sub_flat (f := ccV) (k := 12) (o := 11) (s := 1) (vs := [.int .i64 c.next]) (fun _ => rfl) (set_get (y := (⟨c.p, silN c.p c.s (t - c.tick), t, c.next⟩ : CellM)) hlt) rfl)) ?_) | (refine VLd.is ?_; refine VLd.is ?_; refine VLd.atS (i * 12 + 2) 1 ?_; refine VLd.mk (.vec aT (sub_flat (f := ccV) (k := 12) (o := 2) (s := 1) (vs := [.int .i64 (Par.bias c.p)]) (fun _ => rfl) (set_get (y := (⟨c.p, silN c.p c.s (t - c.tick), t, c.next⟩ : CellM)) hlt) rfl)) ?_) | (refine VLd.is ?_; refine VLd.is ?_; refine VLd.atS (i * 12 + 3) 1 ?_; refine VLd.mk (.vec aT (sub_flat (f := ccV) (k := 12) (o := 3) (s := 1) (vs := [.int .i64 (Par.th c.p)]) (fun _ => rfl) (set_get (y := (⟨c.p, silN c.p c.s (t - c.tick), t, c.next⟩ : CellM)) hlt) rfl)) ?_) | (refine VLd.is ?_; refine VLd.is ?_; refine VLd.atS (i * 12 + 8) 1 ?_; refine VLd.mk (.vec aT (sub_flat (f := ccV) (k := 12) (o := 8) (s := 1) (vs := [.int .i64 (Sta.v silN c.p c.s (t - c.tick))]) (fun _ => rfl) (set_get (y := (⟨c.p, silN c.p c.s (t - c.tick), t, c.next⟩ : CellM)) hlt) rfl)) ?_) | (refine VSeq.is ?_; refine VSeq.go ?_) | (refine VB.is ?_; refine VB.yes (by omega) fun _ => ?_) | (refine VB.is ?_; refine VB.no (by omega) fun _ => ?_) | (refine VB.is ?_; refine VB.split (fun _ => ?_) (fun _ => ?_)) | (refine boolE_split (fun h => ?_) (fun h => ?_) <;> subst h) | (refine VLd.is ?_; refine VLd.mk (.row aT (by rfl)) ?_) | (refine VSt.is ?_; refine VSt.row aT (by rfl) (by first | rfl | assumption) ?_) | (refine VNew.is ?_; refine VNew.mk fun _ => ?_) | (refine VAr.is ?_; refine VAr.i64 (by omega) (by omega) ?_) | (refine VIx.is ?_; refine VIx.mk rfl (by omega) (by omega) ?_) | (refine VKeep.is ?_; refine VKeep.mk aH ?_) | (refine VHs.is ?_; refine VHs.mk _ (HLe.refl _) ?_) | (refine VQ.is ?_; refine VQ.pos (by omega) (by omega) (by omega) ?_) | (refine VM.is ?_; refine VM.pos (by omega) (by omega) ?_) | (refine And.intro ?_ ?_)
    all_goals (conv => whnf)
    exact ⟨fun w' hw' => ⟨(), rfl, trivial, hw'⟩⟩

theorem rest_call {w0 : World} {M : List Nat} {H R : HP} {K : Value → HP → Prop} (g n cap : Nat) (cs : List CellM) (i : Nat) (c : CellM) (hi : cs[i]? = some c) (hl : cs.length ≤ 1024) (hp : ParOk c.p) (hso : staOk c.p c.s) (T : Nat) (hT : T ≤ 1073741824) (hct : c.tick ≤ T) (hq : quiet c.p c.s (T - c.tick))
    (htk : Take H [cellsE g n cap cs] R) (hk : K (.tuple #[]) (cellsE g n cap (cs.set i ⟨c.p, silN c.p c.s (T - c.tick), T, c.next⟩) :: R)) :
    VCall Try.cx.P w0 M H 103 [.pointer (some ⟨g, i * 12, none⟩), .int .i64 (T : Int)] K :=
  VCall.turnT (α := Unit) (fun _ => .tuple #[]) (fun _ => True) (fun _ => [cellsE g n cap (cs.set i ⟨c.p, silN c.p c.s (T - c.tick), T, c.next⟩)]) htk
    (fun w _ hs => rest_any g n cap cs i c hi hl hp hso T hT hct hq w hs) (fun _ _ => hk)

end Go.Proofs

end

/-! Drv3: looking at a cell, walked. -/

section

set_option linter.unusedVariables false

set_option linter.unusedSimpArgs false

namespace Go.Proofs

open Go Go.Vx Go.Gm

/-- What is due in a tick, as it lies. -/
structure DueRow where
  key : Int
  blk : Nat
  l : List (Int × Int)

def dueM (r : DueRow) : Int × Value := (r.key, .map (some r.blk))

def duePV (x : Int × Int) : Int × Value := (x.1, .int .i64 x.2)

def dueE (r : DueRow) : Ent := .map r.blk (r.l.map duePV)

def dueFind : List DueRow → Int → Option DueRow
  | [], _ => none
  | r :: q, t => if r.key = t then some r else dueFind q t

def aFind : List (Int × Int) → Int → Option Int
  | [], _ => none
  | x :: q, i => if x.1 = i then some x.2 else aFind q i

def dueAt (Q : List DueRow) (t i : Int) : Option Int := (dueFind Q t).bind fun r => aFind r.l i

theorem mfind_due (Q : List DueRow) (t : Int) : mfind (Q.map dueM) t = (dueFind Q t).map fun r => .map (some r.blk) := by
  induction Q with
  | nil => rfl
  | cons r q ih => simp only [List.map_cons, mfind, dueM, dueFind]; split <;> simp_all

theorem mfind_a (l : List (Int × Int)) (i : Int) : mfind (l.map duePV) i = (aFind l i).map fun v => .int .i64 v := by
  induction l with
  | nil => rfl
  | cons r q ih => simp only [List.map_cons, mfind, duePV, aFind]; split <;> simp_all

theorem dueFind_mem {Q : List DueRow} {t : Int} {r : DueRow} (h : dueFind Q t = some r) : r ∈ Q ∧ r.key = t := by
  induction Q with
  | nil => simp [dueFind] at h
  | cons z q ih =>
    simp only [dueFind] at h
    split at h
    · cases h; exact ⟨by simp, ‹_›⟩
    · have := ih h; exact ⟨by simp [this.1], this.2⟩

/-- How a cell expects its next spike. -/
def NextC (c : CellM) : Prop := ∃ r : Int, NextIs c.p c.s r ∧ c.next = if 0 ≤ r then (c.tick : Int) + r else -1

structure LookY where
  spk : Bool
  cells : List CellM
  A : List Evt
  p : Option Addr
  cap : Nat

def lookSkip (c : CellM) (due : Option Int) (T : Nat) : Prop := T < c.tick ∨ (due = none ∧ c.next ≠ T)

/-- What look does. -/
def LookRel (cs : List CellM) (i : Nat) (c : CellM) (due : Option Int) (T : Nat) (A : List Evt) (y : LookY) : Prop :=
  (lookSkip c due T ∧ y.spk = false ∧ y.cells = cs ∧ y.A = A) ∨
  (¬ lookSkip c due T ∧ ∃ c', c'.p = c.p ∧ c'.tick = T + 1 ∧ (c'.s, y.spk) = tick c.p (silN c.p c.s (T - c.tick)) (due.getD 0) ∧ NextC c' ∧ y.cells = cs.set i c' ∧
    ((c'.next < 0 ∧ y.A = A) ∨ (0 ≤ c'.next ∧ HeapOk y.A ∧ y.A.Perm (A ++ [⟨c'.next, i⟩]))))

def courseS (bc : Nat) (gc n ccap : Nat) (vw vd : Value) (cs : List CellM) (p : Option Addr) (cap : Nat) (A : List Evt) : HP :=
  [.row bc 127 (courseV (.slice (some ⟨gc, 0, none⟩) n ccap) vw vd p A.length cap), cellsE gc n ccap cs, .vec p A.length cap 129 2 (flat evtV A)]

theorem look_any (bc gc n ccap : Nat) (vw : Value) (bd : Nat) (cs : List CellM) (p : Option Addr) (cap : Nat) (A : List Evt) (Q : List DueRow) (T i : Nat) (c : CellM) (hi : cs[i]? = some c) (hn : cs.length = n) (hl : n ≤ 1024) (hA : HeapOk A) (hAl : A.length ≤ 4398046511104)
    (hpp : 0 < A.length → ∃ g, p = some ⟨g, 0, none⟩) (hp : ParOk c.p) (hso : staOk c.p c.s) (hT : T < 1073741824) (hct : c.tick ≤ 1073741824) (hact : ¬ lookSkip c (dueAt Q T i) T → quiet c.p c.s (T - c.tick)) (w : World)
    (hs : St w (ids (courseS bc gc n ccap vw (.map (some bd)) cs p cap A)) (courseS bc gc n ccap vw (.map (some bd)) cs p cap A) w)
    (hd : mapIs w bd (Q.map dueM)) (hdM : bd ∉ ids (courseS bc gc n ccap vw (.map (some bd)) cs p cap A)) (hr : ∀ r ∈ Q, mapIs w r.blk (r.l.map duePV) ∧ r.blk ∉ ids (courseS bc gc n ccap vw (.map (some bd)) cs p cap A)) :
    Calls Try.prog 71 #[.pointer (some ⟨bc, 0, none⟩), .agg #[.int .i64 (T : Int), .int .i64 (i : Int)]] w fun e w' => ∃ y : LookY, e = .returned (.bool y.spk) ∧ (LookRel cs i c (dueAt Q T i) T A y ∧ (0 < y.A.length → ∃ g, y.p = some ⟨g, 0, none⟩)) ∧
      St w (ids (courseS bc gc n ccap vw (.map (some bd)) cs p cap A)) (courseS bc gc n ccap vw (.map (some bd)) y.cells y.p y.cap y.A) w' := by
  obtain ⟨Mx, hMx⟩ : ∃ Mx, ids (courseS bc gc n ccap vw (.map (some bd)) cs p cap A) = Mx := ⟨_, rfl⟩
  rw [hMx] at hs hdM hr ⊢
  unfold courseS cellsE courseV at hs
  have hlt : i < cs.length := (List.getElem?_eq_some_iff.1 hi).1
  obtain ⟨due, hdue⟩ : ∃ due, dueAt Q T i = due := ⟨_, rfl⟩
  have hd1 := mfind_due Q T
  rw [hdue] at hact ⊢
  refine enter (C := Try.cx) (args := [_, _]) (F := Try.fx71) Try.func71 rfl rfl rfl Try.ok71 hs ?_
  repeat' (conv => whnf); first | (refine VIx.is ?_; refine VIx.mk rfl (by omega) (by omega) ?_) | (refine VSeq.is ?_; refine VSeq.cut (at_ := 3) (α := Nat) (fun _ => True) (fun b3 => [(1000000, .tuple #[]), (0, .pointer (some ⟨bc, 0, none⟩)), (3, .pointer (some ⟨b3, 0, none⟩)), (5, .pointer (some ⟨gc, 0 + ((i : Int)).toNat * 12, none⟩)), (6, .int .i64 (due.getD 0)), (7, .bool due.isSome)]) (fun b3 => .row b3 129 [.int .i64 (T : Int), .int .i64 (i : Int)] :: courseS bc gc n ccap vw (.map (some bd)) cs p cap A) ?_ ?_) | (refine VMp.is ?_; refine VMp.old hd hdM ?_) | (refine VSeq.is ?_; refine VSeq.go ?_) | (refine VB.is ?_; refine VB.yes (by omega) fun _ => ?_) | (refine VB.is ?_; refine VB.no (by omega) fun _ => ?_) | (refine VB.is ?_; refine VB.split (fun _ => ?_) (fun _ => ?_)) | (refine boolE_split (fun h => ?_) (fun h => ?_) <;> subst h) | (refine VLd.is ?_; refine VLd.mk (.row aT (by rfl)) ?_) | (refine VSt.is ?_; refine VSt.row aT (by rfl) (by first | rfl | assumption) ?_) | (refine VNew.is ?_; refine VNew.mk fun _ => ?_) | (refine VAr.is ?_; refine VAr.i64 (by omega) (by omega) ?_) | (refine VIx.is ?_; refine VIx.mk rfl (by omega) (by omega) ?_) | (refine VKeep.is ?_; refine VKeep.mk aH ?_) | (refine VHs.is ?_; refine VHs.mk _ (HLe.refl _) ?_) | (refine VQ.is ?_; refine VQ.pos (by omega) (by omega) (by omega) ?_) | (refine VM.is ?_; refine VM.pos (by omega) (by omega) ?_) | (refine And.intro ?_ ?_)
  all_goals (conv => whnf)
  · cases hf : dueFind Q T with
    | none =>
      have e : due = none := by rw [← hdue, dueAt, hf]; rfl
      subst e
      refine VLk.lacks (by rw [hd1, hf]; rfl) ?_
      repeat' (conv => whnf); first | (refine VSeq.is ?_; refine VSeq.go ?_) | (refine VB.is ?_; refine VB.yes (by omega) fun _ => ?_) | (refine VB.is ?_; refine VB.no (by omega) fun _ => ?_) | (refine VB.is ?_; refine VB.split (fun _ => ?_) (fun _ => ?_)) | (refine boolE_split (fun h => ?_) (fun h => ?_) <;> subst h) | (refine VLd.is ?_; refine VLd.mk (.row aT (by rfl)) ?_) | (refine VSt.is ?_; refine VSt.row aT (by rfl) (by first | rfl | assumption) ?_) | (refine VNew.is ?_; refine VNew.mk fun _ => ?_) | (refine VAr.is ?_; refine VAr.i64 (by omega) (by omega) ?_) | (refine VIx.is ?_; refine VIx.mk rfl (by omega) (by omega) ?_) | (refine VKeep.is ?_; refine VKeep.mk aH ?_) | (refine VHs.is ?_; refine VHs.mk _ (HLe.refl _) ?_) | (refine VQ.is ?_; refine VQ.pos (by omega) (by omega) (by omega) ?_) | (refine VM.is ?_; refine VM.pos (by omega) (by omega) ?_) | (refine And.intro ?_ ?_)
      all_goals (conv => whnf)
      exact VMid.mk _ trivial aE (by unfold courseS cellsE courseV; exact aH)
    | some r =>
      have hrr := hr r (dueFind_mem hf).1
      have e : due = aFind r.l i := by rw [← hdue, dueAt, hf]; rfl
      refine VLk.has (v := .map (some r.blk)) (by rw [hd1, hf]; rfl) ?_
      have hm := mfind_a r.l i
      rw [← e] at hm
      cases due with
      | none =>
        repeat' (conv => whnf); first | (refine VMp.is ?_; refine VMp.old hrr.1 hrr.2 ?_) | (refine VLk.is ?_; refine VLk.lacks hm ?_) | (refine VSeq.is ?_; refine VSeq.go ?_) | (refine VB.is ?_; refine VB.yes (by omega) fun _ => ?_) | (refine VB.is ?_; refine VB.no (by omega) fun _ => ?_) | (refine VB.is ?_; refine VB.split (fun _ => ?_) (fun _ => ?_)) | (refine boolE_split (fun h => ?_) (fun h => ?_) <;> subst h) | (refine VLd.is ?_; refine VLd.mk (.row aT (by rfl)) ?_) | (refine VSt.is ?_; refine VSt.row aT (by rfl) (by first | rfl | assumption) ?_) | (refine VNew.is ?_; refine VNew.mk fun _ => ?_) | (refine VAr.is ?_; refine VAr.i64 (by omega) (by omega) ?_) | (refine VIx.is ?_; refine VIx.mk rfl (by omega) (by omega) ?_) | (refine VKeep.is ?_; refine VKeep.mk aH ?_) | (refine VHs.is ?_; refine VHs.mk _ (HLe.refl _) ?_) | (refine VQ.is ?_; refine VQ.pos (by omega) (by omega) (by omega) ?_) | (refine VM.is ?_; refine VM.pos (by omega) (by omega) ?_) | (refine And.intro ?_ ?_)
        all_goals (conv => whnf)
        exact VMid.mk _ trivial aE (by unfold courseS cellsE courseV; exact aH)
      | some v =>
        repeat' (conv => whnf); first | (refine VMp.is ?_; refine VMp.old hrr.1 hrr.2 ?_) | (refine VLk.is ?_; refine VLk.has hm ?_) | (refine VSeq.is ?_; refine VSeq.go ?_) | (refine VB.is ?_; refine VB.yes (by omega) fun _ => ?_) | (refine VB.is ?_; refine VB.no (by omega) fun _ => ?_) | (refine VB.is ?_; refine VB.split (fun _ => ?_) (fun _ => ?_)) | (refine boolE_split (fun h => ?_) (fun h => ?_) <;> subst h) | (refine VLd.is ?_; refine VLd.mk (.row aT (by rfl)) ?_) | (refine VSt.is ?_; refine VSt.row aT (by rfl) (by first | rfl | assumption) ?_) | (refine VNew.is ?_; refine VNew.mk fun _ => ?_) | (refine VAr.is ?_; refine VAr.i64 (by omega) (by omega) ?_) | (refine VIx.is ?_; refine VIx.mk rfl (by omega) (by omega) ?_) | (refine VKeep.is ?_; refine VKeep.mk aH ?_) | (refine VHs.is ?_; refine VHs.mk _ (HLe.refl _) ?_) | (refine VQ.is ?_; refine VQ.pos (by omega) (by omega) (by omega) ?_) | (refine VM.is ?_; refine VM.pos (by omega) (by omega) ?_) | (refine And.intro ?_ ?_)
        all_goals (conv => whnf)
        exact VMid.mk _ trivial aE (by unfold courseS cellsE courseV; exact aH)
  · intro b3 _
    have e5 : 0 + ((i : Int)).toNat * 12 = i * 12 := by omega
    rw [e5]
    obtain ⟨wv, hwv⟩ : ∃ wv, due.getD 0 = wv := ⟨_, rfl⟩
    rw [hwv]
    unfold courseS cellsE courseV
    repeat' (conv => whnf); first | (refine VLd.is ?_; refine VLd.is ?_; refine VLd.atS (i * 12 + 0) 8 ?_; refine VLd.mk (.vec aT (sub_flat (f := ccV) (k := 12) (o := 0) (s := 8) (vs := parV c.p) (fun _ => rfl) (hi) rfl)) ?_) | (refine VLd.is ?_; refine VLd.is ?_; refine VLd.atS (i * 12 + 8) 2 ?_; refine VLd.mk (.vec aT (sub_flat (f := ccV) (k := 12) (o := 8) (s := 2) (vs := staV c.s) (fun _ => rfl) (hi) rfl)) ?_) | (refine VLd.is ?_; refine VLd.is ?_; refine VLd.atS (i * 12 + 10) 1 ?_; refine VLd.mk (.vec aT (sub_flat (f := ccV) (k := 12) (o := 10) (s := 1) (vs := [.int .i64 (c.tick : Int)]) (fun _ => rfl) (hi) rfl)) ?_) | (refine VLd.is ?_; refine VLd.is ?_; refine VLd.atS (i * 12 + 11) 1 ?_; refine VLd.mk (.vec aT (sub_flat (f := ccV) (k := 12) (o := 11) (s := 1) (vs := [.int .i64 c.next]) (fun _ => rfl) (hi) rfl)) ?_) | (refine VLd.is ?_; refine VLd.is ?_; refine VLd.atS (i * 12 + 2) 1 ?_; refine VLd.mk (.vec aT (sub_flat (f := ccV) (k := 12) (o := 2) (s := 1) (vs := [.int .i64 (Par.bias c.p)]) (fun _ => rfl) (hi) rfl)) ?_) | (refine VLd.is ?_; refine VLd.is ?_; refine VLd.atS (i * 12 + 3) 1 ?_; refine VLd.mk (.vec aT (sub_flat (f := ccV) (k := 12) (o := 3) (s := 1) (vs := [.int .i64 (Par.th c.p)]) (fun _ => rfl) (hi) rfl)) ?_) | (refine VLd.is ?_; refine VLd.is ?_; refine VLd.atS (i * 12 + 8) 1 ?_; refine VLd.mk (.vec aT (sub_flat (f := ccV) (k := 12) (o := 8) (s := 1) (vs := [.int .i64 (Sta.v c.s)]) (fun _ => rfl) (hi) rfl)) ?_) | (refine VSeq.is ?_; refine VSeq.cut (at_ := 5) (α := Unit) (fun _ => ¬ lookSkip c due T) (fun _ => [(1000000, .tuple #[]), (0, .pointer (some ⟨bc, 0, none⟩)), (3, .pointer (some ⟨b3, 0, none⟩)), (5, .pointer (some ⟨gc, i * 12, none⟩)), (6, .int .i64 wv)]) (fun _ => .row b3 129 [.int .i64 (T : Int), .int .i64 (i : Int)] :: courseS bc gc n ccap vw (.map (some bd)) cs p cap A) ?_ ?_) | (refine VSeq.is ?_; refine VSeq.go ?_) | (refine VB.is ?_; refine VB.yes (by omega) fun _ => ?_) | (refine VB.is ?_; refine VB.no (by omega) fun _ => ?_) | (refine VB.is ?_; refine VB.split (fun _ => ?_) (fun _ => ?_)) | (refine boolE_split (fun h => ?_) (fun h => ?_) <;> subst h) | (refine VLd.is ?_; refine VLd.mk (.row aT (by rfl)) ?_) | (refine VSt.is ?_; refine VSt.row aT (by rfl) (by first | rfl | assumption) ?_) | (refine VNew.is ?_; refine VNew.mk fun _ => ?_) | (refine VAr.is ?_; refine VAr.i64 (by omega) (by omega) ?_) | (refine VIx.is ?_; refine VIx.mk rfl (by omega) (by omega) ?_) | (refine VKeep.is ?_; refine VKeep.mk aH ?_) | (refine VHs.is ?_; refine VHs.mk _ (HLe.refl _) ?_) | (refine VQ.is ?_; refine VQ.pos (by omega) (by omega) (by omega) ?_) | (refine VM.is ?_; refine VM.pos (by omega) (by omega) ?_) | (refine And.intro ?_ ?_)
    all_goals (conv => whnf)
    · exact ⟨fun w' hw' => ⟨⟨false, cs, A, p, cap⟩, rfl, ⟨.inl ⟨by unfold lookSkip; left; omega, rfl, rfl, rfl⟩, hpp⟩, hw'.le aH⟩⟩
    · cases due
      repeat' (conv => whnf); first | (refine VLd.is ?_; refine VLd.is ?_; refine VLd.atS (i * 12 + 0) 8 ?_; refine VLd.mk (.vec aT (sub_flat (f := ccV) (k := 12) (o := 0) (s := 8) (vs := parV c.p) (fun _ => rfl) (hi) rfl)) ?_) | (refine VLd.is ?_; refine VLd.is ?_; refine VLd.atS (i * 12 + 8) 2 ?_; refine VLd.mk (.vec aT (sub_flat (f := ccV) (k := 12) (o := 8) (s := 2) (vs := staV c.s) (fun _ => rfl) (hi) rfl)) ?_) | (refine VLd.is ?_; refine VLd.is ?_; refine VLd.atS (i * 12 + 10) 1 ?_; refine VLd.mk (.vec aT (sub_flat (f := ccV) (k := 12) (o := 10) (s := 1) (vs := [.int .i64 (c.tick : Int)]) (fun _ => rfl) (hi) rfl)) ?_) | (refine VLd.is ?_; refine VLd.is ?_; refine VLd.atS (i * 12 + 11) 1 ?_; refine VLd.mk (.vec aT (sub_flat (f := ccV) (k := 12) (o := 11) (s := 1) (vs := [.int .i64 c.next]) (fun _ => rfl) (hi) rfl)) ?_) | (refine VLd.is ?_; refine VLd.is ?_; refine VLd.atS (i * 12 + 2) 1 ?_; refine VLd.mk (.vec aT (sub_flat (f := ccV) (k := 12) (o := 2) (s := 1) (vs := [.int .i64 (Par.bias c.p)]) (fun _ => rfl) (hi) rfl)) ?_) | (refine VLd.is ?_; refine VLd.is ?_; refine VLd.atS (i * 12 + 3) 1 ?_; refine VLd.mk (.vec aT (sub_flat (f := ccV) (k := 12) (o := 3) (s := 1) (vs := [.int .i64 (Par.th c.p)]) (fun _ => rfl) (hi) rfl)) ?_) | (refine VLd.is ?_; refine VLd.is ?_; refine VLd.atS (i * 12 + 8) 1 ?_; refine VLd.mk (.vec aT (sub_flat (f := ccV) (k := 12) (o := 8) (s := 1) (vs := [.int .i64 (Sta.v c.s)]) (fun _ => rfl) (hi) rfl)) ?_) | (refine VSeq.is ?_; refine VSeq.go ?_) | (refine VB.is ?_; refine VB.yes (by omega) fun _ => ?_) | (refine VB.is ?_; refine VB.no (by omega) fun _ => ?_) | (refine VB.is ?_; refine VB.split (fun _ => ?_) (fun _ => ?_)) | (refine boolE_split (fun h => ?_) (fun h => ?_) <;> subst h) | (refine VLd.is ?_; refine VLd.mk (.row aT (by rfl)) ?_) | (refine VSt.is ?_; refine VSt.row aT (by rfl) (by first | rfl | assumption) ?_) | (refine VNew.is ?_; refine VNew.mk fun _ => ?_) | (refine VAr.is ?_; refine VAr.i64 (by omega) (by omega) ?_) | (refine VIx.is ?_; refine VIx.mk rfl (by omega) (by omega) ?_) | (refine VKeep.is ?_; refine VKeep.mk aH ?_) | (refine VHs.is ?_; refine VHs.mk _ (HLe.refl _) ?_) | (refine VQ.is ?_; refine VQ.pos (by omega) (by omega) (by omega) ?_) | (refine VM.is ?_; refine VM.pos (by omega) (by omega) ?_) | (refine And.intro ?_ ?_)
      all_goals (conv => whnf)
      · exact ⟨fun w' hw' => ⟨⟨false, cs, A, p, cap⟩, rfl, ⟨.inl ⟨by unfold lookSkip; right; exact ⟨rfl, by omega⟩, rfl, rfl, rfl⟩, hpp⟩, hw'.le aH⟩⟩
      all_goals refine VMid.mk () ?_ aE (by unfold courseS cellsE courseV; exact aH)
      all_goals simp only [lookSkip, reduceCtorEq, true_and, false_and, or_false]; omega
    intro _ hns0
    have hns := hact hns0
    have hcT : c.tick ≤ T := by unfold lookSkip at hns0; omega
    obtain ⟨q, hqq⟩ : ∃ q, silN c.p c.s (T - c.tick) = q := ⟨_, rfl⟩
    have hqo : staOk c.p q := by rw [← hqq]; exact silN_ok hp hso _
    have hT64 := Tick_ok c.p q wv hp hqo
    have hso' := tick_ok hp hqo wv
    obtain ⟨⟨s', fb⟩, htk⟩ : ∃ y, tick c.p q wv = y := ⟨_, rfl⟩
    rw [htk] at hT64 hso'
    dsimp only at hT64 hso'
    unfold courseS courseV
    repeat' (conv => whnf); first | (refine VCall.is ?_; refine VCall.isF 103 ?_; refine rest_call gc n ccap cs i c hi (by omega) hp hso T (by omega) hcT hns (by repeat (first | exact Take.nil | (with_reducible apply Take.seg; (focus (exact aS))) | (apply Take.cons; (focus (exact aT))) | (apply Take.last; (focus (exact aS))))) ?_; unfold cellsE; rw [hqq]) | (refine VLd.is ?_; refine VLd.is ?_; refine VLd.atS (i * 12 + 0) 8 ?_; refine VLd.mk (.vec aT (sub_flat (f := ccV) (k := 12) (o := 0) (s := 8) (vs := parV c.p) (fun _ => rfl) (set_get (y := (⟨c.p, q, T, c.next⟩ : CellM)) hlt) rfl)) ?_) | (refine VLd.is ?_; refine VLd.is ?_; refine VLd.atS (i * 12 + 8) 2 ?_; refine VLd.mk (.vec aT (sub_flat (f := ccV) (k := 12) (o := 8) (s := 2) (vs := staV q) (fun _ => rfl) (set_get (y := (⟨c.p, q, T, c.next⟩ : CellM)) hlt) rfl)) ?_) | (refine VLd.is ?_; refine VLd.is ?_; refine VLd.atS (i * 12 + 10) 1 ?_; refine VLd.mk (.vec aT (sub_flat (f := ccV) (k := 12) (o := 10) (s := 1) (vs := [.int .i64 (T : Int)]) (fun _ => rfl) (set_get (y := (⟨c.p, q, T, c.next⟩ : CellM)) hlt) rfl)) ?_) | (refine VLd.is ?_; refine VLd.is ?_; refine VLd.atS (i * 12 + 11) 1 ?_; refine VLd.mk (.vec aT (sub_flat (f := ccV) (k := 12) (o := 11) (s := 1) (vs := [.int .i64 c.next]) (fun _ => rfl) (set_get (y := (⟨c.p, q, T, c.next⟩ : CellM)) hlt) rfl)) ?_) | (refine VLd.is ?_; refine VLd.is ?_; refine VLd.atS (i * 12 + 2) 1 ?_; refine VLd.mk (.vec aT (sub_flat (f := ccV) (k := 12) (o := 2) (s := 1) (vs := [.int .i64 (Par.bias c.p)]) (fun _ => rfl) (set_get (y := (⟨c.p, q, T, c.next⟩ : CellM)) hlt) rfl)) ?_) | (refine VLd.is ?_; refine VLd.is ?_; refine VLd.atS (i * 12 + 3) 1 ?_; refine VLd.mk (.vec aT (sub_flat (f := ccV) (k := 12) (o := 3) (s := 1) (vs := [.int .i64 (Par.th c.p)]) (fun _ => rfl) (set_get (y := (⟨c.p, q, T, c.next⟩ : CellM)) hlt) rfl)) ?_) | (refine VLd.is ?_; refine VLd.is ?_; refine VLd.atS (i * 12 + 8) 1 ?_; refine VLd.mk (.vec aT (sub_flat (f := ccV) (k := 12) (o := 8) (s := 1) (vs := [.int .i64 (Sta.v q)]) (fun _ => rfl) (set_get (y := (⟨c.p, q, T, c.next⟩ : CellM)) hlt) rfl)) ?_) | (refine VCall.isF 99 ?_; refine VCall.val hT64 ?_) | (refine VSt.is ?_; refine VSt.is ?_; refine VSt.atS (i * 12 + 8) ?_; apply VSt.vec; (focus (exact aT)); exact upd_flat (f := ccV) (k := 12) (o := 8) (y := ⟨c.p, s', T, c.next⟩) (fun _ => rfl) (set_get hlt) rfl; rfl; rw [List.set_set]) | (refine VSeq.is ?_; refine VSeq.cut (at_ := 8) (α := Unit) (fun _ => True) (fun _ => [(1000000, .tuple #[]), (0, .pointer (some ⟨bc, 0, none⟩)), (3, .pointer (some ⟨b3, 0, none⟩)), (5, .pointer (some ⟨gc, i * 12, none⟩)), (8, .bool fb)]) (fun _ => .row b3 129 [.int .i64 (T : Int), .int .i64 (i : Int)] :: courseS bc gc n ccap vw (.map (some bd)) (cs.set i ⟨c.p, s', T, c.next⟩) p cap A) ?_ ?_) | (refine VSeq.is ?_; refine VSeq.go ?_) | (refine VB.is ?_; refine VB.yes (by omega) fun _ => ?_) | (refine VB.is ?_; refine VB.no (by omega) fun _ => ?_) | (refine VB.is ?_; refine VB.split (fun _ => ?_) (fun _ => ?_)) | (refine boolE_split (fun h => ?_) (fun h => ?_) <;> subst h) | (refine VLd.is ?_; refine VLd.mk (.row aT (by rfl)) ?_) | (refine VSt.is ?_; refine VSt.row aT (by rfl) (by first | rfl | assumption) ?_) | (refine VNew.is ?_; refine VNew.mk fun _ => ?_) | (refine VAr.is ?_; refine VAr.i64 (by omega) (by omega) ?_) | (refine VIx.is ?_; refine VIx.mk rfl (by omega) (by omega) ?_) | (refine VKeep.is ?_; refine VKeep.mk aH ?_) | (refine VHs.is ?_; refine VHs.mk _ (HLe.refl _) ?_) | (refine VQ.is ?_; refine VQ.pos (by omega) (by omega) (by omega) ?_) | (refine VM.is ?_; refine VM.pos (by omega) (by omega) ?_) | (refine And.intro ?_ ?_)
    all_goals (conv => whnf)
    all_goals first
      | exact VMid.mk () trivial aE (by unfold courseS cellsE courseV; exact aH)
      | skip
    intro _ _
    unfold courseS courseV cellsE
    repeat' (conv => whnf); first | (refine VLd.is ?_; refine VLd.is ?_; refine VLd.atS (i * 12 + 0) 8 ?_; refine VLd.mk (.vec aT (sub_flat (f := ccV) (k := 12) (o := 0) (s := 8) (vs := parV c.p) (fun _ => rfl) (set_get (y := (⟨c.p, s', T, c.next⟩ : CellM)) hlt) rfl)) ?_) | (refine VLd.is ?_; refine VLd.is ?_; refine VLd.atS (i * 12 + 8) 2 ?_; refine VLd.mk (.vec aT (sub_flat (f := ccV) (k := 12) (o := 8) (s := 2) (vs := staV s') (fun _ => rfl) (set_get (y := (⟨c.p, s', T, c.next⟩ : CellM)) hlt) rfl)) ?_) | (refine VLd.is ?_; refine VLd.is ?_; refine VLd.atS (i * 12 + 10) 1 ?_; refine VLd.mk (.vec aT (sub_flat (f := ccV) (k := 12) (o := 10) (s := 1) (vs := [.int .i64 (T : Int)]) (fun _ => rfl) (set_get (y := (⟨c.p, s', T, c.next⟩ : CellM)) hlt) rfl)) ?_) | (refine VLd.is ?_; refine VLd.is ?_; refine VLd.atS (i * 12 + 11) 1 ?_; refine VLd.mk (.vec aT (sub_flat (f := ccV) (k := 12) (o := 11) (s := 1) (vs := [.int .i64 c.next]) (fun _ => rfl) (set_get (y := (⟨c.p, s', T, c.next⟩ : CellM)) hlt) rfl)) ?_) | (refine VLd.is ?_; refine VLd.is ?_; refine VLd.atS (i * 12 + 2) 1 ?_; refine VLd.mk (.vec aT (sub_flat (f := ccV) (k := 12) (o := 2) (s := 1) (vs := [.int .i64 (Par.bias c.p)]) (fun _ => rfl) (set_get (y := (⟨c.p, s', T, c.next⟩ : CellM)) hlt) rfl)) ?_) | (refine VLd.is ?_; refine VLd.is ?_; refine VLd.atS (i * 12 + 3) 1 ?_; refine VLd.mk (.vec aT (sub_flat (f := ccV) (k := 12) (o := 3) (s := 1) (vs := [.int .i64 (Par.th c.p)]) (fun _ => rfl) (set_get (y := (⟨c.p, s', T, c.next⟩ : CellM)) hlt) rfl)) ?_) | (refine VLd.is ?_; refine VLd.is ?_; refine VLd.atS (i * 12 + 8) 1 ?_; refine VLd.mk (.vec aT (sub_flat (f := ccV) (k := 12) (o := 8) (s := 1) (vs := [.int .i64 (Sta.v s')]) (fun _ => rfl) (set_get (y := (⟨c.p, s', T, c.next⟩ : CellM)) hlt) rfl)) ?_) | (refine VSt.is ?_; refine VSt.is ?_; refine VSt.atS (i * 12 + 10) ?_; apply VSt.vec; (focus (exact aT)); exact upd_flat (f := ccV) (k := 12) (o := 10) (y := ⟨c.p, s', T + 1, c.next⟩) (fun _ => rfl) (set_get hlt) rfl; rfl; rw [List.set_set]) | (refine VCall.isF 68 ?_; refine VCall.inl (F := Try.fx68) Try.func68 rfl rfl rfl Try.ok68 ?_) | (refine VSt.is ?_; refine VSt.is ?_; refine VSt.atS (i * 12 + 11) ?_; apply VSt.vec; (focus (exact aT)); exact upd_flat (f := ccV) (k := 12) (o := 11) (y := ⟨c.p, s', T + 1, -1⟩) (fun _ => rfl) (set_get hlt) rfl; rfl; rw [List.set_set]) | (refine VLd.is ?_; refine VLd.is ?_; refine VLd.atS (i * 12 + 0) 8 ?_; refine VLd.mk (.vec aT (sub_flat (f := ccV) (k := 12) (o := 0) (s := 8) (vs := parV c.p) (fun _ => rfl) (set_get (y := (⟨c.p, s', T + 1, -1⟩ : CellM)) hlt) rfl)) ?_) | (refine VLd.is ?_; refine VLd.is ?_; refine VLd.atS (i * 12 + 8) 2 ?_; refine VLd.mk (.vec aT (sub_flat (f := ccV) (k := 12) (o := 8) (s := 2) (vs := staV s') (fun _ => rfl) (set_get (y := (⟨c.p, s', T + 1, -1⟩ : CellM)) hlt) rfl)) ?_) | (refine VLd.is ?_; refine VLd.is ?_; refine VLd.atS (i * 12 + 10) 1 ?_; refine VLd.mk (.vec aT (sub_flat (f := ccV) (k := 12) (o := 10) (s := 1) (vs := [.int .i64 ((T + 1 : Nat) : Int)]) (fun _ => rfl) (set_get (y := (⟨c.p, s', T + 1, -1⟩ : CellM)) hlt) rfl)) ?_) | (refine VLd.is ?_; refine VLd.is ?_; refine VLd.atS (i * 12 + 11) 1 ?_; refine VLd.mk (.vec aT (sub_flat (f := ccV) (k := 12) (o := 11) (s := 1) (vs := [.int .i64 (-1)]) (fun _ => rfl) (set_get (y := (⟨c.p, s', T + 1, -1⟩ : CellM)) hlt) rfl)) ?_) | (refine VLd.is ?_; refine VLd.is ?_; refine VLd.atS (i * 12 + 2) 1 ?_; refine VLd.mk (.vec aT (sub_flat (f := ccV) (k := 12) (o := 2) (s := 1) (vs := [.int .i64 (Par.bias c.p)]) (fun _ => rfl) (set_get (y := (⟨c.p, s', T + 1, -1⟩ : CellM)) hlt) rfl)) ?_) | (refine VLd.is ?_; refine VLd.is ?_; refine VLd.atS (i * 12 + 3) 1 ?_; refine VLd.mk (.vec aT (sub_flat (f := ccV) (k := 12) (o := 3) (s := 1) (vs := [.int .i64 (Par.th c.p)]) (fun _ => rfl) (set_get (y := (⟨c.p, s', T + 1, -1⟩ : CellM)) hlt) rfl)) ?_) | (refine VLd.is ?_; refine VLd.is ?_; refine VLd.atS (i * 12 + 8) 1 ?_; refine VLd.mk (.vec aT (sub_flat (f := ccV) (k := 12) (o := 8) (s := 1) (vs := [.int .i64 (Sta.v s')]) (fun _ => rfl) (set_get (y := (⟨c.p, s', T + 1, -1⟩ : CellM)) hlt) rfl)) ?_) | (refine VCall.is ?_; refine VCall.isF 102 ?_; refine VCall.ex (Next_any c.p s' hp hso') fun r hr => ?_; have hrb := hr.bounds) | (refine VSt.is ?_; refine VSt.is ?_; refine VSt.atS (i * 12 + 11) ?_; apply VSt.vec; (focus (exact aT)); exact upd_flat (f := ccV) (k := 12) (o := 11) (y := ⟨c.p, s', T + 1, ((T + 1 : Nat) : Int) + r⟩) (fun _ => rfl) (set_get hlt) rfl; rfl; rw [List.set_set]) | (refine VSeq.is ?_; refine VSeq.cut (at_ := 10) (α := Int) (fun x => NextC ⟨c.p, s', T + 1, x⟩ ∧ -1 ≤ x ∧ x ≤ 2000000000) (fun x => [(1000000, .tuple #[]), (0, .pointer (some ⟨bc, 0, none⟩)), (3, .pointer (some ⟨b3, 0, none⟩)), (5, .pointer (some ⟨gc, i * 12, none⟩)), (8, .bool fb)]) (fun x => .row b3 129 [.int .i64 (T : Int), .int .i64 (i : Int)] :: courseS bc gc n ccap vw (.map (some bd)) (cs.set i ⟨c.p, s', T + 1, x⟩) p cap A) ?_ ?_) | (refine VSeq.is ?_; refine VSeq.go ?_) | (refine VB.is ?_; refine VB.yes (by omega) fun _ => ?_) | (refine VB.is ?_; refine VB.no (by omega) fun _ => ?_) | (refine VB.is ?_; refine VB.split (fun _ => ?_) (fun _ => ?_)) | (refine boolE_split (fun h => ?_) (fun h => ?_) <;> subst h) | (refine VLd.is ?_; refine VLd.mk (.row aT (by rfl)) ?_) | (refine VSt.is ?_; refine VSt.row aT (by rfl) (by first | rfl | assumption) ?_) | (refine VNew.is ?_; refine VNew.mk fun _ => ?_) | (refine VAr.is ?_; refine VAr.i64 (by omega) (by omega) ?_) | (refine VIx.is ?_; refine VIx.mk rfl (by omega) (by omega) ?_) | (refine VKeep.is ?_; refine VKeep.mk aH ?_) | (refine VHs.is ?_; refine VHs.mk _ (HLe.refl _) ?_) | (refine VQ.is ?_; refine VQ.pos (by omega) (by omega) (by omega) ?_) | (refine VM.is ?_; refine VM.pos (by omega) (by omega) ?_) | (refine And.intro ?_ ?_)
    all_goals (conv => whnf)
    all_goals first
      | exact VMid.mk (-1) ⟨⟨-1, .inl ⟨rfl, quiet_low hp hso' (by omega) (by omega)⟩, rfl⟩, by omega, by omega⟩ aE (by unfold courseS cellsE courseV; exact aH)
      | exact VMid.mk (-1) ⟨⟨r, hr, by rw [if_neg (by omega)]⟩, by omega, by omega⟩ aE (by unfold courseS cellsE courseV; exact aH)
      | exact VMid.mk (((T + 1 : Nat) : Int) + r) ⟨⟨r, hr, by rw [if_pos (by omega)]⟩, by omega, by omega⟩ aE (by unfold courseS cellsE courseV; exact aH)
      | skip
    rintro x ⟨hx, hx1, hx2⟩
    unfold courseS courseV cellsE
    repeat' (conv => whnf); first | (refine VLd.is ?_; refine VLd.is ?_; refine VLd.atS (i * 12 + 0) 8 ?_; refine VLd.mk (.vec aT (sub_flat (f := ccV) (k := 12) (o := 0) (s := 8) (vs := parV c.p) (fun _ => rfl) (set_get (y := (⟨c.p, s', T + 1, x⟩ : CellM)) hlt) rfl)) ?_) | (refine VLd.is ?_; refine VLd.is ?_; refine VLd.atS (i * 12 + 8) 2 ?_; refine VLd.mk (.vec aT (sub_flat (f := ccV) (k := 12) (o := 8) (s := 2) (vs := staV s') (fun _ => rfl) (set_get (y := (⟨c.p, s', T + 1, x⟩ : CellM)) hlt) rfl)) ?_) | (refine VLd.is ?_; refine VLd.is ?_; refine VLd.atS (i * 12 + 10) 1 ?_; refine VLd.mk (.vec aT (sub_flat (f := ccV) (k := 12) (o := 10) (s := 1) (vs := [.int .i64 ((T + 1 : Nat) : Int)]) (fun _ => rfl) (set_get (y := (⟨c.p, s', T + 1, x⟩ : CellM)) hlt) rfl)) ?_) | (refine VLd.is ?_; refine VLd.is ?_; refine VLd.atS (i * 12 + 11) 1 ?_; refine VLd.mk (.vec aT (sub_flat (f := ccV) (k := 12) (o := 11) (s := 1) (vs := [.int .i64 x]) (fun _ => rfl) (set_get (y := (⟨c.p, s', T + 1, x⟩ : CellM)) hlt) rfl)) ?_) | (refine VLd.is ?_; refine VLd.is ?_; refine VLd.atS (i * 12 + 2) 1 ?_; refine VLd.mk (.vec aT (sub_flat (f := ccV) (k := 12) (o := 2) (s := 1) (vs := [.int .i64 (Par.bias c.p)]) (fun _ => rfl) (set_get (y := (⟨c.p, s', T + 1, x⟩ : CellM)) hlt) rfl)) ?_) | (refine VLd.is ?_; refine VLd.is ?_; refine VLd.atS (i * 12 + 3) 1 ?_; refine VLd.mk (.vec aT (sub_flat (f := ccV) (k := 12) (o := 3) (s := 1) (vs := [.int .i64 (Par.th c.p)]) (fun _ => rfl) (set_get (y := (⟨c.p, s', T + 1, x⟩ : CellM)) hlt) rfl)) ?_) | (refine VLd.is ?_; refine VLd.is ?_; refine VLd.atS (i * 12 + 8) 1 ?_; refine VLd.mk (.vec aT (sub_flat (f := ccV) (k := 12) (o := 8) (s := 1) (vs := [.int .i64 (Sta.v s')]) (fun _ => rfl) (set_get (y := (⟨c.p, s', T + 1, x⟩ : CellM)) hlt) rfl)) ?_) | (refine VCall.isF 69 ?_; refine push_call bc _ vw (.map (some bd)) p cap A ⟨x, i⟩ hA hAl (by repeat (first | exact Take.nil | (with_reducible apply Take.seg; (focus (exact aS))) | (apply Take.cons; (focus (exact aT))) | (apply Take.last; (focus (exact aS))))) fun g cap' A' hA' hAp => ?_) | (refine VSeq.is ?_; refine VSeq.go ?_) | (refine VB.is ?_; refine VB.yes (by omega) fun _ => ?_) | (refine VB.is ?_; refine VB.no (by omega) fun _ => ?_) | (refine VB.is ?_; refine VB.split (fun _ => ?_) (fun _ => ?_)) | (refine boolE_split (fun h => ?_) (fun h => ?_) <;> subst h) | (refine VLd.is ?_; refine VLd.mk (.row aT (by rfl)) ?_) | (refine VSt.is ?_; refine VSt.row aT (by rfl) (by first | rfl | assumption) ?_) | (refine VNew.is ?_; refine VNew.mk fun _ => ?_) | (refine VAr.is ?_; refine VAr.i64 (by omega) (by omega) ?_) | (refine VIx.is ?_; refine VIx.mk rfl (by omega) (by omega) ?_) | (refine VKeep.is ?_; refine VKeep.mk aH ?_) | (refine VHs.is ?_; refine VHs.mk _ (HLe.refl _) ?_) | (refine VQ.is ?_; refine VQ.pos (by omega) (by omega) (by omega) ?_) | (refine VM.is ?_; refine VM.pos (by omega) (by omega) ?_) | (refine And.intro ?_ ?_)
    all_goals (conv => whnf)
    · exact ⟨fun w' hw' => ⟨⟨fb, cs.set i ⟨c.p, s', T + 1, x⟩, A', some ⟨g, 0, none⟩, cap'⟩, rfl, ⟨.inr ⟨hns0, ⟨c.p, s', T + 1, x⟩, rfl, rfl, by rw [hqq, hwv, htk], hx, rfl, .inr ⟨by dsimp only; omega, hA', hAp⟩⟩, fun _ => ⟨g, rfl⟩⟩, hw'.le (by unfold heapS courseV; exact aH)⟩⟩
    · exact ⟨fun w' hw' => ⟨⟨fb, cs.set i ⟨c.p, s', T + 1, x⟩, A, p, cap⟩, rfl, ⟨.inr ⟨hns0, ⟨c.p, s', T + 1, x⟩, rfl, rfl, by rw [hqq, hwv, htk], hx, rfl, .inl ⟨by dsimp only; omega, rfl⟩⟩, hpp⟩, hw'.le aH⟩⟩

end Go.Proofs

end
