/- Db: package net walked: Driven, second part; sorting. -/

import Derived.Test.YtbnipfgbfnhibaaNetKnownDa
import Derived.Test.YtbnipfgbfnhibaaNetKnownNb
import Derived.Shelf.Sort.Plain
import Derived.Ground.Names2Prog
import Derived.Shelf.Slices.SearchI
import Derived.Shelf.Slices.In.SortNone
import Derived.Test.YtbnipfgbfnhibaaProg
import Derived.Test.YtbnipfgbfnhibaaNetKnownNa
import Derived.Test.YtbnipfgbfnhibaaNetKnownVb

/-! Drv4: what is due, by ticks; adding to it, walked. -/

section

set_option linter.unusedVariables false

set_option linter.unusedSimpArgs false

namespace Go.Proofs

open Go Go.Vx Go.Gm

def aSet : List (Int × Int) → Int → Int → List (Int × Int)
  | [], i, v => [(i, v)]
  | x :: q, i, v => if x.1 = i then (i, v) :: q else x :: aSet q i v

theorem mset_a (l : List (Int × Int)) (i v : Int) : mset (l.map duePV) i (.int .i64 v) = (aSet l i v).map duePV := by
  induction l with
  | nil => rfl
  | cons x q ih => simp only [List.map_cons, mset, duePV, aSet]; split <;> simp_all [duePV]

theorem mset_due {Q : List DueRow} {t : Int} (h : dueFind Q t = none) (b : Nat) : mset (Q.map dueM) t (.map (some b)) = (Q ++ [(⟨t, b, []⟩ : DueRow)]).map dueM := by
  induction Q with
  | nil => rfl
  | cons r q ih =>
    simp only [dueFind] at h
    split at h
    · cases h
    · simp only [List.map_cons, mset, dueM, List.cons_append]
      rw [if_neg ‹_›, ← ih h]

theorem dueFind_new {Q : List DueRow} {t : Int} (h : dueFind Q t = none) (b : Nat) : dueFind (Q ++ [(⟨t, b, []⟩ : DueRow)]) t = some ⟨t, b, []⟩ := by
  induction Q with
  | nil => simp [dueFind]
  | cons r q ih =>
    simp only [dueFind] at h
    split at h
    · cases h
    · simp only [List.cons_append, dueFind]
      rw [if_neg ‹_›]
      exact ih h

theorem dueFind_idx {Q : List DueRow} {t : Int} {r : DueRow} (h : dueFind Q t = some r) : ∃ j : Nat, Q[j]? = some r ∧ r.key = t := by
  obtain ⟨h1, h2⟩ := dueFind_mem h
  obtain ⟨j, hj⟩ := List.getElem?_of_mem h1
  exact ⟨j, hj, h2⟩

/-- The rows with one that may be new. -/
def RowMade (Q : List DueRow) (t : Int) (Q1 : List DueRow) : Prop := (Q1 = Q ∧ ∃ r, dueFind Q t = some r) ∨ (dueFind Q t = none ∧ ∃ b, Q1 = Q ++ [(⟨t, b, []⟩ : DueRow)])

/-- What add does. -/
def AddRel (Q : List DueRow) (A : List Evt) (t i wt : Int) (Q' : List DueRow) (A' : List Evt) : Prop :=
  ∃ (Q1 : List DueRow) (j : Nat) (r : DueRow), RowMade Q t Q1 ∧ dueFind Q1 t = some r ∧ Q1[j]? = some r ∧ r.key = t ∧ Q' = Q1.set j ⟨t, r.blk, aSet r.l i (wadd ((aFind r.l i).getD 0) wt)⟩ ∧
    (((∃ v, aFind r.l i = some v) ∧ A' = A) ∨ (aFind r.l i = none ∧ HeapOk A' ∧ A'.Perm (A ++ [⟨t, i⟩])))

/-- A course with what is due. -/
def dueS (bc : Nat) (vc vw : Value) (bd : Nat) (p : Option Addr) (cap : Nat) (A : List Evt) (Q : List DueRow) : HP :=
  .row bc 127 (courseV vc vw (.map (some bd)) p A.length cap) :: .vec p A.length cap 129 2 (flat evtV A) :: .map bd (Q.map dueM) :: Q.map dueE

theorem add_any (bc : Nat) (vc vw : Value) (bd : Nat) (p : Option Addr) (cap : Nat) (A : List Evt) (Q : List DueRow) (t i wt : Int) (hA : HeapOk A) (hAl : A.length ≤ 4398046511104) (hpp : 0 < A.length → ∃ g, p = some ⟨g, 0, none⟩) (w : World)
    (hs : St w (ids (dueS bc vc vw bd p cap A Q)) (dueS bc vc vw bd p cap A Q) w) :
    Calls Try.prog 106 #[.pointer (some ⟨bc, 0, none⟩), .int .i64 t, .int .i64 i, .int .i64 wt] w fun e w' => ∃ y : Option Addr × Nat × List Evt × List DueRow, e = .returned (.tuple #[]) ∧
      (AddRel Q A t i wt y.2.2.2 y.2.2.1 ∧ (0 < y.2.2.1.length → ∃ g, y.1 = some ⟨g, 0, none⟩)) ∧ St w (ids (dueS bc vc vw bd p cap A Q)) (dueS bc vc vw bd y.1 y.2.1 y.2.2.1 y.2.2.2) w' := by
  obtain ⟨Mx, hMx⟩ : ∃ Mx, ids (dueS bc vc vw bd p cap A Q) = Mx := ⟨_, rfl⟩
  rw [hMx] at hs ⊢
  unfold dueS courseV at hs
  have hd1 := mfind_due Q t
  refine enter (C := Try.cx) (args := [_, _, _, _]) (F := Try.fx106) Try.func106 rfl rfl rfl Try.ok106 hs ?_
  refine VSeq.cut (at_ := 2) (α := List DueRow) (fun Q1 => RowMade Q t Q1) (fun _ => [(1000000, .tuple #[]), (0, .pointer (some ⟨bc, 0, none⟩)), (1, .int .i64 t), (2, .int .i64 i), (3, .int .i64 wt)]) (fun Q1 => dueS bc vc vw bd p cap A Q1) ?_ ?_
  · cases hf : dueFind Q t with
    | none =>
      repeat' (conv => whnf); first | (refine VMp.is ?_; refine VMp.mk aT ?_) | (refine VLk.is ?_; refine VLk.lacks (by rw [hd1, hf]; rfl) ?_) | (refine VNew.is ?_; refine VNew.mk fun b9 => ?_) | (refine VMpU.is ?_; refine VMpU.mk aT ?_) | (refine VSeq.is ?_; refine VSeq.go ?_) | (refine VB.is ?_; refine VB.yes (by omega) fun _ => ?_) | (refine VB.is ?_; refine VB.no (by omega) fun _ => ?_) | (refine VB.is ?_; refine VB.split (fun _ => ?_) (fun _ => ?_)) | (refine boolE_split (fun h => ?_) (fun h => ?_) <;> subst h) | (refine VLd.is ?_; refine VLd.mk (.row aT (by rfl)) ?_) | (refine VSt.is ?_; refine VSt.row aT (by rfl) (by first | rfl | assumption) ?_) | (refine VNew.is ?_; refine VNew.mk fun _ => ?_) | (refine VAr.is ?_; refine VAr.i64 (by omega) (by omega) ?_) | (refine VIx.is ?_; refine VIx.mk rfl (by omega) (by omega) ?_) | (refine VKeep.is ?_; refine VKeep.mk aH ?_) | (refine VHs.is ?_; refine VHs.mk _ (HLe.refl _) ?_) | (refine VQ.is ?_; refine VQ.pos (by omega) (by omega) (by omega) ?_) | (refine VM.is ?_; refine VM.pos (by omega) (by omega) ?_) | (refine And.intro ?_ ?_)
      all_goals (conv => whnf)
      refine VMid.mk (Q ++ [⟨t, b9, []⟩]) (.inr ⟨hf, b9, rfl⟩) aE ?_
      unfold dueS courseV
      rw [← mset_due hf, List.map_append]
      exact aH
    | some r =>
      repeat' (conv => whnf); first | (refine VMp.is ?_; refine VMp.mk aT ?_) | (refine VLk.is ?_; refine VLk.has (v := .map (some r.blk)) (by rw [hd1, hf]; rfl) ?_) | (refine VSeq.is ?_; refine VSeq.go ?_) | (refine VB.is ?_; refine VB.yes (by omega) fun _ => ?_) | (refine VB.is ?_; refine VB.no (by omega) fun _ => ?_) | (refine VB.is ?_; refine VB.split (fun _ => ?_) (fun _ => ?_)) | (refine boolE_split (fun h => ?_) (fun h => ?_) <;> subst h) | (refine VLd.is ?_; refine VLd.mk (.row aT (by rfl)) ?_) | (refine VSt.is ?_; refine VSt.row aT (by rfl) (by first | rfl | assumption) ?_) | (refine VNew.is ?_; refine VNew.mk fun _ => ?_) | (refine VAr.is ?_; refine VAr.i64 (by omega) (by omega) ?_) | (refine VIx.is ?_; refine VIx.mk rfl (by omega) (by omega) ?_) | (refine VKeep.is ?_; refine VKeep.mk aH ?_) | (refine VHs.is ?_; refine VHs.mk _ (HLe.refl _) ?_) | (refine VQ.is ?_; refine VQ.pos (by omega) (by omega) (by omega) ?_) | (refine VM.is ?_; refine VM.pos (by omega) (by omega) ?_) | (refine And.intro ?_ ?_)
      all_goals (conv => whnf)
      exact VMid.mk Q (.inl ⟨rfl, r, hf⟩) aE (by unfold dueS courseV; exact aH)
  intro Q1 hQ1
  obtain ⟨r, hr⟩ : ∃ r, dueFind Q1 t = some r := by
    rcases hQ1 with ⟨rfl, r, h⟩ | ⟨h, b, rfl⟩
    · exact ⟨r, h⟩
    · exact ⟨_, dueFind_new h b⟩
  have hd2 : mfind (Q1.map dueM) t = some (.map (some r.blk)) := by rw [mfind_due, hr]; rfl
  obtain ⟨j, hj, hrk⟩ := dueFind_idx hr
  have hm := mfind_a r.l i
  unfold dueS courseV
  refine VSeq.cut (at_ := 5) (α := Option Addr × Nat × List Evt) (fun y => (0 < y.2.2.length → ∃ g, y.1 = some ⟨g, 0, none⟩) ∧ (((∃ v, aFind r.l i = some v) ∧ y.2.2 = A) ∨ (aFind r.l i = none ∧ HeapOk y.2.2 ∧ y.2.2.Perm (A ++ [⟨t, i⟩])))) (fun _ => [(1000000, .tuple #[]), (0, .pointer (some ⟨bc, 0, none⟩)), (1, .int .i64 t), (2, .int .i64 i), (3, .int .i64 wt)]) (fun y => dueS bc vc vw bd y.1 y.2.1 y.2.2 Q1) ?_ ?_
  · cases ha : aFind r.l i with
    | none =>
      rw [ha] at hm
      repeat' (conv => whnf); first | (refine VMp.is ?_; refine VMp.mk aT ?_) | (refine VLk.is ?_; refine VLk.has hd2 ?_) | (refine VMp.is ?_; refine VMp.seg (f := dueE) (l := Q1) aS hj rfl ?_) | (refine VLk.is ?_; refine VLk.lacks hm ?_) | (refine VCall.isF 69 ?_; refine push_call bc vc vw (.map (some bd)) p cap A ⟨t, i⟩ hA hAl (by repeat (first | exact Take.nil | (with_reducible apply Take.seg; (focus (exact aS))) | (apply Take.cons; (focus (exact aT))) | (apply Take.last; (focus (exact aS))))) fun g cap' A' hA' hAp => ?_) | (refine VSeq.is ?_; refine VSeq.go ?_) | (refine VB.is ?_; refine VB.yes (by omega) fun _ => ?_) | (refine VB.is ?_; refine VB.no (by omega) fun _ => ?_) | (refine VB.is ?_; refine VB.split (fun _ => ?_) (fun _ => ?_)) | (refine boolE_split (fun h => ?_) (fun h => ?_) <;> subst h) | (refine VLd.is ?_; refine VLd.mk (.row aT (by rfl)) ?_) | (refine VSt.is ?_; refine VSt.row aT (by rfl) (by first | rfl | assumption) ?_) | (refine VNew.is ?_; refine VNew.mk fun _ => ?_) | (refine VAr.is ?_; refine VAr.i64 (by omega) (by omega) ?_) | (refine VIx.is ?_; refine VIx.mk rfl (by omega) (by omega) ?_) | (refine VKeep.is ?_; refine VKeep.mk aH ?_) | (refine VHs.is ?_; refine VHs.mk _ (HLe.refl _) ?_) | (refine VQ.is ?_; refine VQ.pos (by omega) (by omega) (by omega) ?_) | (refine VM.is ?_; refine VM.pos (by omega) (by omega) ?_) | (refine And.intro ?_ ?_)
      all_goals (conv => whnf)
      exact VMid.mk (some ⟨g, 0, none⟩, cap', A') ⟨fun _ => ⟨g, rfl⟩, .inr ⟨rfl, hA', hAp⟩⟩ aE (by unfold dueS heapS courseV; exact aH)
    | some v =>
      rw [ha] at hm
      repeat' (conv => whnf); first | (refine VMp.is ?_; refine VMp.mk aT ?_) | (refine VLk.is ?_; refine VLk.has hd2 ?_) | (refine VMp.is ?_; refine VMp.seg (f := dueE) (l := Q1) aS hj rfl ?_) | (refine VLk.is ?_; refine VLk.has hm ?_) | (refine VSeq.is ?_; refine VSeq.go ?_) | (refine VB.is ?_; refine VB.yes (by omega) fun _ => ?_) | (refine VB.is ?_; refine VB.no (by omega) fun _ => ?_) | (refine VB.is ?_; refine VB.split (fun _ => ?_) (fun _ => ?_)) | (refine boolE_split (fun h => ?_) (fun h => ?_) <;> subst h) | (refine VLd.is ?_; refine VLd.mk (.row aT (by rfl)) ?_) | (refine VSt.is ?_; refine VSt.row aT (by rfl) (by first | rfl | assumption) ?_) | (refine VNew.is ?_; refine VNew.mk fun _ => ?_) | (refine VAr.is ?_; refine VAr.i64 (by omega) (by omega) ?_) | (refine VIx.is ?_; refine VIx.mk rfl (by omega) (by omega) ?_) | (refine VKeep.is ?_; refine VKeep.mk aH ?_) | (refine VHs.is ?_; refine VHs.mk _ (HLe.refl _) ?_) | (refine VQ.is ?_; refine VQ.pos (by omega) (by omega) (by omega) ?_) | (refine VM.is ?_; refine VM.pos (by omega) (by omega) ?_) | (refine And.intro ?_ ?_)
      all_goals (conv => whnf)
      exact VMid.mk (p, cap, A) ⟨hpp, .inl ⟨⟨v, rfl⟩, rfl⟩⟩ aE (by unfold dueS courseV; exact aH)
  · rintro ⟨p', cap', A'⟩ ⟨hp', hA'⟩
    dsimp only at *
    unfold dueS courseV
    have hv : mfind (r.l.map duePV) i = some (.int .i64 ((aFind r.l i).getD 0)) ∨ (mfind (r.l.map duePV) i = none ∧ Value.int .i64 ((aFind r.l i).getD 0) = .int .i64 0) := by
      rw [hm]
      cases aFind r.l i with
      | none => exact .inr ⟨rfl, rfl⟩
      | some v => exact .inl rfl
    have hset := mset_a r.l i (wadd ((aFind r.l i).getD 0) wt)
    repeat' (conv => whnf); first | (refine VMp.is ?_; refine VMp.mk aT ?_) | (refine VLk.is ?_; refine VLk.has hd2 ?_) | (refine VMp.is ?_; refine VMp.seg (f := dueE) (l := Q1) aS hj rfl ?_) | (refine VLk.is ?_; refine VLk.val hv ?_) | (refine VAr.is ?_; refine VAr.wadd ?_) | (refine VMpU.is ?_; refine VMpU.is ?_; refine VMpU.seg (f := dueE) (l := Q1) aS hj rfl fun u hu => ?_) | (refine VSeq.is ?_; refine VSeq.go ?_) | (refine VB.is ?_; refine VB.yes (by omega) fun _ => ?_) | (refine VB.is ?_; refine VB.no (by omega) fun _ => ?_) | (refine VB.is ?_; refine VB.split (fun _ => ?_) (fun _ => ?_)) | (refine boolE_split (fun h => ?_) (fun h => ?_) <;> subst h) | (refine VLd.is ?_; refine VLd.mk (.row aT (by rfl)) ?_) | (refine VSt.is ?_; refine VSt.row aT (by rfl) (by first | rfl | assumption) ?_) | (refine VNew.is ?_; refine VNew.mk fun _ => ?_) | (refine VAr.is ?_; refine VAr.i64 (by omega) (by omega) ?_) | (refine VIx.is ?_; refine VIx.mk rfl (by omega) (by omega) ?_) | (refine VKeep.is ?_; refine VKeep.mk aH ?_) | (refine VHs.is ?_; refine VHs.mk _ (HLe.refl _) ?_) | (refine VQ.is ?_; refine VQ.pos (by omega) (by omega) (by omega) ?_) | (refine VM.is ?_; refine VM.pos (by omega) (by omega) ?_) | (refine And.intro ?_ ?_)
    all_goals (conv => whnf)
    have hu' := hu ⟨t, r.blk, aSet r.l i (wadd ((aFind r.l i).getD 0) wt)⟩
    have e : dueE ⟨t, r.blk, aSet r.l i (wadd ((aFind r.l i).getD 0) wt)⟩ = .map r.blk (mset (r.l.map duePV) i (.int .i64 (wadd ((aFind r.l i).getD 0) wt))) := by unfold dueE; rw [hset]
    rw [e] at hu'
    rw [hu']
    have e2 : (Q1.set j ⟨t, r.blk, aSet r.l i (wadd ((aFind r.l i).getD 0) wt)⟩).map dueM = Q1.map dueM := by
      rw [List.map_set]
      exact set_self (by rw [List.getElem?_map, hj]; simp [dueM, hrk])
    refine ⟨fun w' hw' => ⟨(p', cap', A', Q1.set j ⟨t, r.blk, aSet r.l i (wadd ((aFind r.l i).getD 0) wt)⟩), rfl, ⟨⟨Q1, j, r, hQ1, hr, hj, hrk, rfl, hA'⟩, hp'⟩, ?_⟩⟩
    dsimp only
    rw [e2]
    exact hw'.le aH

theorem add_call {w0 : World} {M : List Nat} {H R : HP} {K : Value → HP → Prop} (bc : Nat) (vc vw : Value) (bd : Nat) (p : Option Addr) (cap : Nat) (A : List Evt) (Q : List DueRow) (t i wt : Int) (hA : HeapOk A) (hAl : A.length ≤ 4398046511104) (hpp : 0 < A.length → ∃ g, p = some ⟨g, 0, none⟩)
    (htk : Take H (dueS bc vc vw bd p cap A Q) R)
    (hk : ∀ p' cap' A' Q', AddRel Q A t i wt Q' A' → (0 < A'.length → ∃ g, p' = some ⟨g, 0, none⟩) → K (.tuple #[]) (dueS bc vc vw bd p' cap' A' Q' ++ R)) :
    VCall Try.cx.P w0 M H 106 [.pointer (some ⟨bc, 0, none⟩), .int .i64 t, .int .i64 i, .int .i64 wt] K :=
  VCall.turnT (α := Option Addr × Nat × List Evt × List DueRow) (fun _ => .tuple #[]) (fun y => AddRel Q A t i wt y.2.2.2 y.2.2.1 ∧ (0 < y.2.2.1.length → ∃ g, y.1 = some ⟨g, 0, none⟩)) (fun y => dueS bc vc vw bd y.1 y.2.1 y.2.2.1 y.2.2.2) htk
    (fun w _ hs => add_any bc vc vw bd p cap A Q t i wt hA hAl hpp w hs) (fun y hy => hk _ _ _ _ hy.1 hy.2)

end Go.Proofs

end

/-! Drv5: sending, walked. -/

section

set_option linter.unusedVariables false

set_option linter.unusedSimpArgs false

namespace Go.Proofs

open Go Go.Vx Go.Gm

/-- The synapses by their sources, as they are known in a world. -/
structure WiOk (w : World) (M : List Nat) (bw : Nat) (R : List WRow) : Prop where
  map : mapIs w bw (R.map wrowM)
  mapM : bw ∉ M
  rows : ∀ r ∈ R, ∃ g, r.p = some ⟨g, 0, none⟩ ∧ Sl w synV 4 r.l r.p r.l.length g 0 ∧ g ∉ M

theorem WiOk.look {w : World} {M : List Nat} {bw : Nat} {R : List WRow} (h : WiOk w M bw R) (k : Int) : ∃ (p : Option Addr) (c g : Nat), (mfind (R.map wrowM) k = some (.slice p (wfind (R.map wrowK) k).length c) ∨ (mfind (R.map wrowM) k = none ∧ Value.slice p (wfind (R.map wrowK) k).length c = nilS)) ∧
    Sl w synV 4 (wfind (R.map wrowK) k) p (wfind (R.map wrowK) k).length g 0 ∧ g ∉ M := by
  rcases look_cases R k with ⟨r, h1, h2, h3⟩ | ⟨h2, h3⟩
  · obtain ⟨g, hg, hsl, hM⟩ := h.rows r h1
    rw [h3]
    exact ⟨r.p, r.cap, g, .inl h2, hsl, hM⟩
  · rw [h3]
    exact ⟨none, 0, bw, .inr ⟨h2, rfl⟩, .nil (.inl rfl), h.mapM⟩

/-- What many synapses add, in their order. -/
inductive Adds (T : Int) (Q : List DueRow) (A : List Evt) : List Syn → List DueRow → List Evt → Prop
  | nil : Adds T Q A [] Q A
  | snoc {l : List Syn} {s : Syn} {Q1 Q2 : List DueRow} {A1 A2 : List Evt} (h : Adds T Q A l Q1 A1) (h2 : AddRel Q1 A1 (T + s.dl) s.to s.wt Q2 A2) : Adds T Q A (l ++ [s]) Q2 A2

theorem AddRel.heap {Q Q' : List DueRow} {A A' : List Evt} {t i wt : Int} (h : AddRel Q A t i wt Q' A') (hA : HeapOk A) : HeapOk A' ∧ A'.length ≤ A.length + 1 := by
  obtain ⟨Q1, j, r, _, _, _, _, _, h | h⟩ := h
  · rw [h.2]; exact ⟨hA, by omega⟩
  · refine ⟨h.2.1, ?_⟩
    have := h.2.2.length_eq
    simp at this
    omega

theorem Adds.heap {T : Int} {Q Q' : List DueRow} {A A' : List Evt} {l : List Syn} (h : Adds T Q A l Q' A') (hA : HeapOk A) : HeapOk A' ∧ A'.length ≤ A.length + l.length := by
  induction h with
  | nil => exact ⟨hA, by simp⟩
  | snoc _ h2 ih =>
    have := h2.heap ih.1
    exact ⟨this.1, by simp; omega⟩

/-- A state of a course on its way. -/
structure DueY where
  p : Option Addr
  cap : Nat
  A : List Evt
  Q : List DueRow

set_option maxHeartbeats 400000 in
theorem send_any (N : Net) (hN : NetOk N) (bc : Nat) (vc : Value) (bw bd : Nat) (R : List WRow) (hW : R.map wrowK = wire N.syns) (p : Option Addr) (cap : Nat) (A : List Evt) (Q : List DueRow) (T : Nat) (hT : T ≤ 1073741824) (sp ins : List Int) (pn : Option Addr) (cn bn : Nat) (pi : Option Addr) (ci bi : Nat)
    (hsl : sp.length ≤ 65536) (hil : ins.length ≤ 65536) (hinr : ∀ k ∈ ins, 0 ≤ k ∧ k ≤ 256) (hA : HeapOk A) (hAl : A.length + (yields (wire N.syns) (sp ++ ins.map fun k => -1 - k)).length ≤ 4398046511104) (hpp : 0 < A.length → ∃ g, p = some ⟨g, 0, none⟩) (w : World)
    (hs : St w (ids (dueS bc vc (.map (some bw)) bd p cap A Q)) (dueS bc vc (.map (some bw)) bd p cap A Q) w) (hwi : WiOk w (ids (dueS bc vc (.map (some bw)) bd p cap A Q)) bw R)
    (h1 : Sl w intV 1 sp pn sp.length bn 0) (hbn : bn ∉ ids (dueS bc vc (.map (some bw)) bd p cap A Q)) (h2 : Sl w intV 1 ins pi ins.length bi 0) (hbi : bi ∉ ids (dueS bc vc (.map (some bw)) bd p cap A Q)) :
    Calls Try.prog 73 #[.pointer (some ⟨bc, 0, none⟩), .int .i64 (T : Int), .slice pn sp.length cn, .slice pi ins.length ci] w fun e w' => ∃ y : DueY, e = .returned (.tuple #[]) ∧
      (Adds T Q A (yields (wire N.syns) (sp ++ ins.map fun k => -1 - k)) y.Q y.A ∧ (0 < y.A.length → ∃ g, y.p = some ⟨g, 0, none⟩)) ∧ St w (ids (dueS bc vc (.map (some bw)) bd p cap A Q)) (dueS bc vc (.map (some bw)) bd y.p y.cap y.A y.Q) w' := by
  obtain ⟨Mx, hMx⟩ : ∃ Mx, ids (dueS bc vc (.map (some bw)) bd p cap A Q) = Mx := ⟨_, rfl⟩
  rw [hMx] at hs hwi hbn hbi ⊢
  have hwl : (wire N.syns).length ≤ 8192 ∨ True := .inr trivial
  obtain ⟨ys0, hys0⟩ : ∃ ys0, yields (wire N.syns) (sp ++ ins.map fun k => -1 - k) = ys0 := ⟨_, rfl⟩
  rw [hys0] at hAl ⊢
  refine enter (C := Try.cx) (args := [_, _, _, _]) (F := Try.fx73) Try.func73 rfl rfl rfl Try.ok73 hs ?_
  repeat' (conv => whnf); first | (refine VCall.isF 100 ?_; refine VCall.inl (F := Try.fx100) Try.func100 rfl rfl rfl Try.ok100 ?_) | (refine VLd.is ?_; refine VLd.mk (.row (b := bc) (cs := courseV vc (.map (some bw)) (.map (some bd)) p A.length cap) (by unfold dueS; exact aT) (by rfl)) ?_) | (refine VRange.is ?_; refine VRange.go (ms := []) rfl fun hokx hoky l d L hL => ?_) | (refine VCall.isF 117 ?_; refine VCall.inl (F := Try.fx117) Try.func117 rfl rfl rfl Try.ok117 ?_) | (refine VSeq.is ?_; refine VSeq.go ?_) | (refine VB.is ?_; refine VB.yes (by omega) fun _ => ?_) | (refine VB.is ?_; refine VB.no (by omega) fun _ => ?_) | (refine VB.is ?_; refine VB.split (fun _ => ?_) (fun _ => ?_)) | (refine boolE_split (fun h => ?_) (fun h => ?_) <;> subst h) | (refine VLd.is ?_; refine VLd.mk (.row aT (by rfl)) ?_) | (refine VSt.is ?_; refine VSt.row aT (by rfl) (by first | rfl | assumption) ?_) | (refine VNew.is ?_; refine VNew.mk fun _ => ?_) | (refine VAr.is ?_; refine VAr.i64 (by omega) (by omega) ?_) | (refine VIx.is ?_; refine VIx.mk rfl (by omega) (by omega) ?_) | (refine VKeep.is ?_; refine VKeep.mk aH ?_) | (refine VHs.is ?_; refine VHs.mk _ (HLe.refl _) ?_) | (refine VQ.is ?_; refine VQ.pos (by omega) (by omega) (by omega) ?_) | (refine VM.is ?_; refine VM.pos (by omega) (by omega) ?_) | (refine And.intro ?_ ?_)
  all_goals (conv => whnf)
  rename_i b2 b3 b5 b6 b7 b8
  have hheap : ∀ {l : List Syn} {y : DueY}, Adds T Q A l y.Q y.A → l.length ≤ ys0.length → HeapOk y.A ∧ y.A.length ≤ 4398046511104 := fun h hl => ⟨(h.heap hA).1, by have := (h.heap hA).2; omega⟩
  have each : ∀ (l0 : List Syn) (y : DueY) (k : Int) (K : Value → HP → Prop), (l0 ++ wfind (wire N.syns) k).length ≤ ys0.length → Adds T Q A l0 y.Q y.A → (0 < y.A.length → ∃ g, y.p = some ⟨g, 0, none⟩) →
      (∀ y', Adds T Q A (l0 ++ wfind (wire N.syns) k) (DueY.Q y') (DueY.A y') → (0 < (DueY.A y').length → ∃ g, DueY.p y' = some ⟨g, 0, none⟩) → K (.bool true) (.row b8 190 [.func (.yield l) #[] #[]] :: L .ready none :: .obj d (.deferred (some [])) :: .row b7 46 [.slice pi ins.length ci] :: .row b6 46 [.slice pn sp.length cn] :: .row b5 100 [.map (some bw)] :: (dueS bc vc (.map (some bw)) bd (DueY.p y') (DueY.cap y') (DueY.A y') (DueY.Q y') ++ [.row b3 3 [.int .i64 (T : Int)], .row b2 118 [.pointer (some ⟨bc, 0, none⟩)]]))) →
      VCall Try.cx.P w Mx (.row b8 190 [.func (.yield l) #[] #[]] :: L .ready none :: .obj d (.deferred (some [])) :: .row b7 46 [.slice pi ins.length ci] :: .row b6 46 [.slice pn sp.length cn] :: .row b5 100 [.map (some bw)] :: (dueS bc vc (.map (some bw)) bd (DueY.p y) (DueY.cap y) (DueY.A y) (DueY.Q y) ++ [.row b3 3 [.int .i64 (T : Int)], .row b2 118 [.pointer (some ⟨bc, 0, none⟩)]])) 118 [.int .i64 k, .pointer (some ⟨b5, 0, none⟩), .pointer (some ⟨b8, 0, none⟩)] K := by
    intro l0 y k K hlen hadd hyp hK
    obtain ⟨ps, cps, g, hlk, hsl', hgM⟩ := hwi.look k
    rw [hW] at hlk hsl'
    obtain ⟨ys, hys⟩ : ∃ ys, wfind (wire N.syns) k = ys := ⟨_, rfl⟩
    have hyok : ∀ s ∈ ys, synOk N s := by
      intro s h
      rw [← hys, wfind_wire] at h
      exact hN.syns s (List.mem_filter.1 h).1
    have hylen : ys.length ≤ 8192 := by
      rw [← hys, wfind_wire]
      have := List.length_filter_le (fun s : Syn => decide (s.frm = k)) N.syns
      have := hN.fewS
      omega
    rw [hys] at hlk hsl' hK hlen
    rw [List.length_append] at hlen
    refine VCall.inl (F := Try.fx118) Try.func118 rfl rfl rfl Try.ok118 ?_
    repeat' (conv => whnf); first | (refine VMp.is ?_; refine VMp.old hwi.map hwi.mapM ?_) | (refine VLk.is ?_; refine VLk.val hlk ?_) | (refine VSeq.is ?_; refine VSeq.go ?_) | (refine VB.is ?_; refine VB.yes (by omega) fun _ => ?_) | (refine VB.is ?_; refine VB.no (by omega) fun _ => ?_) | (refine VB.is ?_; refine VB.split (fun _ => ?_) (fun _ => ?_)) | (refine boolE_split (fun h => ?_) (fun h => ?_) <;> subst h) | (refine VLd.is ?_; refine VLd.mk (.row aT (by rfl)) ?_) | (refine VSt.is ?_; refine VSt.row aT (by rfl) (by first | rfl | assumption) ?_) | (refine VNew.is ?_; refine VNew.mk fun _ => ?_) | (refine VAr.is ?_; refine VAr.i64 (by omega) (by omega) ?_) | (refine VIx.is ?_; refine VIx.mk rfl (by omega) (by omega) ?_) | (refine VKeep.is ?_; refine VKeep.mk aH ?_) | (refine VHs.is ?_; refine VHs.mk _ (HLe.refl _) ?_) | (refine VQ.is ?_; refine VQ.pos (by omega) (by omega) (by omega) ?_) | (refine VM.is ?_; refine VM.pos (by omega) (by omega) ?_) | (refine And.intro ?_ ?_)
    all_goals (conv => whnf)
    refine VLoop.kr (α := Nat × DueY) [1000000, 2, 4, 9, 10] rfl (fun j => j.1 ≤ ys.length ∧ Adds T Q A (l0 ++ ys.take j.1) j.2.Q j.2.A ∧ (0 < j.2.A.length → ∃ g, j.2.p = some ⟨g, 0, none⟩)) (fun j K => (11, .int .i64 (j.1 : Int)) :: K)
      (fun j => (.row b8 190 [.func (.yield l) #[] #[]] :: L .ready none :: .obj d (.deferred (some [])) :: .row b7 46 [.slice pi ins.length ci] :: .row b6 46 [.slice pn sp.length cn] :: .row b5 100 [.map (some bw)] :: (dueS bc vc (.map (some bw)) bd (DueY.p j.2) (DueY.cap j.2) (DueY.A j.2) (DueY.Q j.2) ++ [.row b3 3 [.int .i64 (T : Int)], .row b2 118 [.pointer (some ⟨bc, 0, none⟩)]]))) (fun j => ys.length - j.1) (0, y) ⟨by simp, by simpa using hadd, hyp⟩ aE aH ?_
    rintro ⟨j, z⟩ ⟨hj, hadd', hyp'⟩
    dsimp only at hj hadd' hyp' ⊢
    rcases Nat.lt_or_ge j ys.length with hlt | hge
    · obtain ⟨s, hs'⟩ : ∃ s, ys[j]? = some s := ⟨ys[j], List.getElem?_eq_getElem _⟩
      have hso := hyok s (List.mem_of_getElem? hs')
      unfold synOk srcOk at hso
      have hh := hheap hadd' (by rw [List.length_append, List.length_take]; omega)
      repeat' (conv => whnf); first | (refine VIx.is ?_; refine VIx.mk (hsl'.ptr (by omega)) (by omega) (by omega) ?_) | (refine VLd.is ?_; refine VLd.mk (Rd.cast (hsl'.rd0 hgM (fun _ => rfl) hs' rfl) (by first | omega | (dsimp only; omega) | rfl)) ?_) | (refine VYield.is ?_; refine VYield.go hL hokx hoky aT rfl ?_) | (refine VBegin.is ?_; refine VBegin.mk aT ?_) | (refine VRound.is ?_; refine VRound.mk aT ?_) | (refine VCall.isF 106 ?_; refine add_call bc vc (.map (some bw)) bd (DueY.p z) (DueY.cap z) (DueY.A z) (DueY.Q z) ((T : Int) + s.dl) s.to s.wt hh.1 hh.2 hyp' (by repeat (first | exact Take.nil | (with_reducible apply Take.seg; (focus (exact aS))) | (apply Take.cons; (focus (exact aT))) | (apply Take.last; (focus (exact aS))))) fun p' cap' A' Q' hA' hp' => ?_) | (refine VSeq.is ?_; refine VSeq.go ?_) | (refine VB.is ?_; refine VB.yes (by omega) fun _ => ?_) | (refine VB.is ?_; refine VB.no (by omega) fun _ => ?_) | (refine VB.is ?_; refine VB.split (fun _ => ?_) (fun _ => ?_)) | (refine boolE_split (fun h => ?_) (fun h => ?_) <;> subst h) | (refine VLd.is ?_; refine VLd.mk (.row aT (by rfl)) ?_) | (refine VSt.is ?_; refine VSt.row aT (by rfl) (by first | rfl | assumption) ?_) | (refine VNew.is ?_; refine VNew.mk fun _ => ?_) | (refine VAr.is ?_; refine VAr.i64 (by omega) (by omega) ?_) | (refine VIx.is ?_; refine VIx.mk rfl (by omega) (by omega) ?_) | (refine VKeep.is ?_; refine VKeep.mk aH ?_) | (refine VHs.is ?_; refine VHs.mk _ (HLe.refl _) ?_) | (refine VQ.is ?_; refine VQ.pos (by omega) (by omega) (by omega) ?_) | (refine VM.is ?_; refine VM.pos (by omega) (by omega) ?_) | (refine And.intro ?_ ?_)
      all_goals (conv => whnf)
      refine VNext.mk (j + 1, ⟨p', cap', A', Q'⟩) ⟨by dsimp only; omega, ?_, hp'⟩ (by dsimp only; omega) aE (by unfold dueS; exact aH)
      dsimp only
      rw [List.take_add_one, hs', Option.toList_some, ← List.append_assoc]
      exact .snoc hadd' hA'
    · have hfull : ys.take j = ys := List.take_of_length_le hge
      rw [hfull] at hadd'
      repeat' (conv => whnf); first | (refine VSeq.is ?_; refine VSeq.go ?_) | (refine VB.is ?_; refine VB.yes (by omega) fun _ => ?_) | (refine VB.is ?_; refine VB.no (by omega) fun _ => ?_) | (refine VB.is ?_; refine VB.split (fun _ => ?_) (fun _ => ?_)) | (refine boolE_split (fun h => ?_) (fun h => ?_) <;> subst h) | (refine VLd.is ?_; refine VLd.mk (.row aT (by rfl)) ?_) | (refine VSt.is ?_; refine VSt.row aT (by rfl) (by first | rfl | assumption) ?_) | (refine VNew.is ?_; refine VNew.mk fun _ => ?_) | (refine VAr.is ?_; refine VAr.i64 (by omega) (by omega) ?_) | (refine VIx.is ?_; refine VIx.mk rfl (by omega) (by omega) ?_) | (refine VKeep.is ?_; refine VKeep.mk aH ?_) | (refine VHs.is ?_; refine VHs.mk _ (HLe.refl _) ?_) | (refine VQ.is ?_; refine VQ.pos (by omega) (by omega) (by omega) ?_) | (refine VM.is ?_; refine VM.pos (by omega) (by omega) ?_) | (refine And.intro ?_ ?_)
      all_goals (conv => whnf)
      exact hK z hadd' hyp'
  have hpre : ∀ a b : List Int, a ++ b = sp ++ ins.map (fun k => -1 - k) → (yields (wire N.syns) a).length ≤ ys0.length := by
    intro a b h
    rw [← hys0, ← h, yields_app, List.length_append]
    omega
  refine VLoop.kr (α := Nat × DueY) [1000000, 3, 5, 11, 12] rfl (fun j => j.1 ≤ sp.length ∧ Adds T Q A (yields (wire N.syns) (sp.take j.1)) j.2.Q j.2.A ∧ (0 < j.2.A.length → ∃ g, j.2.p = some ⟨g, 0, none⟩)) (fun j K => (13, .int .i64 (j.1 : Int)) :: K)
    (fun j => (.row b8 190 [.func (.yield l) #[] #[]] :: L .ready none :: .obj d (.deferred (some [])) :: .row b7 46 [.slice pi ins.length ci] :: .row b6 46 [.slice pn sp.length cn] :: .row b5 100 [.map (some bw)] :: (dueS bc vc (.map (some bw)) bd (DueY.p j.2) (DueY.cap j.2) (DueY.A j.2) (DueY.Q j.2) ++ [.row b3 3 [.int .i64 (T : Int)], .row b2 118 [.pointer (some ⟨bc, 0, none⟩)]]))) (fun j => sp.length - j.1) (0, ⟨p, cap, A, Q⟩) ⟨by simp, .nil, hpp⟩ aE (by unfold dueS; exact aH) ?_
  rintro ⟨j, z⟩ ⟨hj, hadd, hyp⟩
  dsimp only at hj hadd hyp ⊢
  rcases Nat.lt_or_ge j sp.length with hlt | hge
  · obtain ⟨k, hk⟩ := h1.get hlt
    have hsn : yields (wire N.syns) (sp.take j) ++ wfind (wire N.syns) k = yields (wire N.syns) (sp.take (j + 1)) := by
      rw [List.take_add_one, hk, Option.toList_some, yields_snoc]
    have hlen := hpre (sp.take (j + 1)) (sp.drop (j + 1) ++ ins.map (fun k => -1 - k)) (by rw [← List.append_assoc, List.take_append_drop])
    have he := each (yields (wire N.syns) (sp.take j)) z k
    rw [hsn] at he
    repeat' (conv => whnf); first | (refine VIx.is ?_; refine VIx.mk (h1.ptr (by omega)) (by omega) (by omega) ?_) | (refine VLd.is ?_; refine VLd.mk (Rd.cast (h1.rd0 hbn (fun _ => rfl) hk rfl) (by first | omega | (dsimp only; omega) | rfl)) ?_) | (refine VCall.isF 118 ?_; refine he _ hlen hadd hyp fun z' hz1 hz2 => ?_) | (refine VSeq.is ?_; refine VSeq.go ?_) | (refine VB.is ?_; refine VB.yes (by omega) fun _ => ?_) | (refine VB.is ?_; refine VB.no (by omega) fun _ => ?_) | (refine VB.is ?_; refine VB.split (fun _ => ?_) (fun _ => ?_)) | (refine boolE_split (fun h => ?_) (fun h => ?_) <;> subst h) | (refine VLd.is ?_; refine VLd.mk (.row aT (by rfl)) ?_) | (refine VSt.is ?_; refine VSt.row aT (by rfl) (by first | rfl | assumption) ?_) | (refine VNew.is ?_; refine VNew.mk fun _ => ?_) | (refine VAr.is ?_; refine VAr.i64 (by omega) (by omega) ?_) | (refine VIx.is ?_; refine VIx.mk rfl (by omega) (by omega) ?_) | (refine VKeep.is ?_; refine VKeep.mk aH ?_) | (refine VHs.is ?_; refine VHs.mk _ (HLe.refl _) ?_) | (refine VQ.is ?_; refine VQ.pos (by omega) (by omega) (by omega) ?_) | (refine VM.is ?_; refine VM.pos (by omega) (by omega) ?_) | (refine And.intro ?_ ?_)
    all_goals (conv => whnf)
    exact VNext.mk (j + 1, z') ⟨by dsimp only; omega, hz1, hz2⟩ (by dsimp only; omega) aE aH
  · have hfull : sp.take j = sp := List.take_of_length_le hge
    rw [hfull] at hadd
    repeat' (conv => whnf); first | (refine VSeq.is ?_; refine VSeq.go ?_) | (refine VB.is ?_; refine VB.yes (by omega) fun _ => ?_) | (refine VB.is ?_; refine VB.no (by omega) fun _ => ?_) | (refine VB.is ?_; refine VB.split (fun _ => ?_) (fun _ => ?_)) | (refine boolE_split (fun h => ?_) (fun h => ?_) <;> subst h) | (refine VLd.is ?_; refine VLd.mk (.row aT (by rfl)) ?_) | (refine VSt.is ?_; refine VSt.row aT (by rfl) (by first | rfl | assumption) ?_) | (refine VNew.is ?_; refine VNew.mk fun _ => ?_) | (refine VAr.is ?_; refine VAr.i64 (by omega) (by omega) ?_) | (refine VIx.is ?_; refine VIx.mk rfl (by omega) (by omega) ?_) | (refine VKeep.is ?_; refine VKeep.mk aH ?_) | (refine VHs.is ?_; refine VHs.mk _ (HLe.refl _) ?_) | (refine VQ.is ?_; refine VQ.pos (by omega) (by omega) (by omega) ?_) | (refine VM.is ?_; refine VM.pos (by omega) (by omega) ?_) | (refine And.intro ?_ ?_)
    all_goals (conv => whnf)
    refine VLoop.kr (α := Nat × DueY) [1000000, 5, 22, 23] rfl (fun j => j.1 ≤ ins.length ∧ Adds T Q A (yields (wire N.syns) (sp ++ (ins.map (fun k => -1 - k)).take j.1)) j.2.Q j.2.A ∧ (0 < j.2.A.length → ∃ g, j.2.p = some ⟨g, 0, none⟩)) (fun j K => (24, .int .i64 (j.1 : Int)) :: K)
      (fun j => (.row b8 190 [.func (.yield l) #[] #[]] :: L .ready none :: .obj d (.deferred (some [])) :: .row b7 46 [.slice pi ins.length ci] :: .row b6 46 [.slice pn sp.length cn] :: .row b5 100 [.map (some bw)] :: (dueS bc vc (.map (some bw)) bd (DueY.p j.2) (DueY.cap j.2) (DueY.A j.2) (DueY.Q j.2) ++ [.row b3 3 [.int .i64 (T : Int)], .row b2 118 [.pointer (some ⟨bc, 0, none⟩)]]))) (fun j => ins.length - j.1) (0, z) ⟨by simp, by simpa using hadd, hyp⟩ aE aH ?_
    rintro ⟨j, z⟩ ⟨hj, hadd, hyp⟩
    dsimp only at hj hadd hyp ⊢
    rcases Nat.lt_or_ge j ins.length with hlt | hge
    · obtain ⟨k, hk⟩ := h2.get hlt
      have hkb := hinr k (List.mem_of_getElem? hk)
      have hsn : yields (wire N.syns) (sp ++ (ins.map (fun k => -1 - k)).take j) ++ wfind (wire N.syns) (-1 - k) = yields (wire N.syns) (sp ++ (ins.map (fun k => -1 - k)).take (j + 1)) := by
        rw [List.take_add_one, List.getElem?_map, hk, Option.map_some, Option.toList_some, ← List.append_assoc, yields_snoc]
      have hlen := hpre (sp ++ (ins.map (fun k => -1 - k)).take (j + 1)) ((ins.map (fun k => -1 - k)).drop (j + 1)) (by rw [List.append_assoc, List.take_append_drop])
      have he := each (yields (wire N.syns) (sp ++ (ins.map (fun k => -1 - k)).take j)) z (-1 - k)
      rw [hsn] at he
      repeat' (conv => whnf); first | (refine VIx.is ?_; refine VIx.mk (h2.ptr (by omega)) (by omega) (by omega) ?_) | (refine VLd.is ?_; refine VLd.mk (Rd.cast (h2.rd0 hbi (fun _ => rfl) hk rfl) (by first | omega | (dsimp only; omega) | rfl)) ?_) | (refine VCall.isF 118 ?_; refine he _ hlen hadd hyp fun z' hz1 hz2 => ?_) | (refine VSeq.is ?_; refine VSeq.go ?_) | (refine VB.is ?_; refine VB.yes (by omega) fun _ => ?_) | (refine VB.is ?_; refine VB.no (by omega) fun _ => ?_) | (refine VB.is ?_; refine VB.split (fun _ => ?_) (fun _ => ?_)) | (refine boolE_split (fun h => ?_) (fun h => ?_) <;> subst h) | (refine VLd.is ?_; refine VLd.mk (.row aT (by rfl)) ?_) | (refine VSt.is ?_; refine VSt.row aT (by rfl) (by first | rfl | assumption) ?_) | (refine VNew.is ?_; refine VNew.mk fun _ => ?_) | (refine VAr.is ?_; refine VAr.i64 (by omega) (by omega) ?_) | (refine VIx.is ?_; refine VIx.mk rfl (by omega) (by omega) ?_) | (refine VKeep.is ?_; refine VKeep.mk aH ?_) | (refine VHs.is ?_; refine VHs.mk _ (HLe.refl _) ?_) | (refine VQ.is ?_; refine VQ.pos (by omega) (by omega) (by omega) ?_) | (refine VM.is ?_; refine VM.pos (by omega) (by omega) ?_) | (refine And.intro ?_ ?_)
      all_goals (conv => whnf)
      exact VNext.mk (j + 1, z') ⟨by dsimp only; omega, hz1, hz2⟩ (by dsimp only; omega) aE aH
    · have hfull : (ins.map fun k => -1 - k).take j = ins.map fun k => -1 - k := List.take_of_length_le (by simpa using hge)
      rw [hfull, hys0] at hadd
      repeat' (conv => whnf); first | (refine VEnd.is ?_; refine VEnd.mk aT (by simp) ?_) | (refine VUn.is ?_; refine VUn.mk aT ?_) | (refine VSeq.is ?_; refine VSeq.go ?_) | (refine VB.is ?_; refine VB.yes (by omega) fun _ => ?_) | (refine VB.is ?_; refine VB.no (by omega) fun _ => ?_) | (refine VB.is ?_; refine VB.split (fun _ => ?_) (fun _ => ?_)) | (refine boolE_split (fun h => ?_) (fun h => ?_) <;> subst h) | (refine VLd.is ?_; refine VLd.mk (.row aT (by rfl)) ?_) | (refine VSt.is ?_; refine VSt.row aT (by rfl) (by first | rfl | assumption) ?_) | (refine VNew.is ?_; refine VNew.mk fun _ => ?_) | (refine VAr.is ?_; refine VAr.i64 (by omega) (by omega) ?_) | (refine VIx.is ?_; refine VIx.mk rfl (by omega) (by omega) ?_) | (refine VKeep.is ?_; refine VKeep.mk aH ?_) | (refine VHs.is ?_; refine VHs.mk _ (HLe.refl _) ?_) | (refine VQ.is ?_; refine VQ.pos (by omega) (by omega) (by omega) ?_) | (refine VM.is ?_; refine VM.pos (by omega) (by omega) ?_) | (refine And.intro ?_ ?_)
      all_goals (conv => whnf)
      exact ⟨fun w' hw' => ⟨z, rfl, ⟨hadd, hyp⟩, hw'.le (by unfold dueS; exact aH)⟩⟩

end Go.Proofs

end

/-! DERIVED: THE SHELF's CONTRACTS AT THIS DUMP, IN PLAIN WORDS (tools/lay-plain.mjs out of 'YtbnipfgbfnhibaaShelf.lean', which tools/lay-shelf.mjs wrote): THE SAME DECLARATIONS UNDER THE SAME NAMES: 'import', 'namespace', 'open', 'def', 'theorem' AND NOTHING ELSE: no command of the shelf's: FOR A HAND-IN. Each laying: the table of numbers ('.._ren') and one theorem, a field a fact of the dump's own or the kernel's comparison; each contract: ONE APPLICATION. -/

section

namespace Go.Proofs

open Go.Shelf

def Try.lays189_ren : Go.Shelf.Ren := ⟨fun | 189 => 72 | 125 => 105 | 257 => 104 | 128 => 130 | 129 => 131 | 294 => 121 | 295 => 122 | 296 => 123 | 297 => 124 | 298 => 125 | 299 => 126 | 216 => 127 | 300 => 128 | 301 => 129 | 328 => 135 | 329 => 136 | 330 => 137 | 331 => 138 | 332 => 139 | 215 => 140 | 343 => 141 | n => n, fun | 28 => 46 | 3 => 3 | 46 => 176 | 0 => 0 | 51 => 38 | 53 => 203 | 4 => 4 | 183 => 195 | 182 => 194 | 131 => 172 | 5 => 5 | 9 => 9 | 218 => 207 | 222 => 211 | 228 => 214 | 229 => 215 | n => n, fun | n => n⟩

theorem Try.lays189 : Go.Proofs.Lays.n189 Try.prog Try.lays189_ren := {
  mixed := by kernel_rfl
  f125 := Try.func105.trans (congrArg some (by kernel_rfl))
  f128 := Try.func130.trans (congrArg some (by kernel_rfl))
  f129 := Try.func131.trans (congrArg some (by kernel_rfl))
  f189 := Try.func72.trans (congrArg some (by kernel_rfl))
  f215 := Try.func140.trans (congrArg some (by kernel_rfl))
  f216 := Try.func127.trans (congrArg some (by kernel_rfl))
  f257 := Try.func104.trans (congrArg some (by kernel_rfl))
  f294 := Try.func121.trans (congrArg some (by kernel_rfl))
  f295 := Try.func122.trans (congrArg some (by kernel_rfl))
  f296 := Try.func123.trans (congrArg some (by kernel_rfl))
  f297 := Try.func124.trans (congrArg some (by kernel_rfl))
  f298 := Try.func125.trans (congrArg some (by kernel_rfl))
  f299 := Try.func126.trans (congrArg some (by kernel_rfl))
  f300 := Try.func128.trans (congrArg some (by kernel_rfl))
  f301 := Try.func129.trans (congrArg some (by kernel_rfl))
  f328 := Try.func135.trans (congrArg some (by kernel_rfl))
  f329 := Try.func136.trans (congrArg some (by kernel_rfl))
  f330 := Try.func137.trans (congrArg some (by kernel_rfl))
  f331 := Try.func138.trans (congrArg some (by kernel_rfl))
  f332 := Try.func139.trans (congrArg some (by kernel_rfl))
  f343 := Try.func141.trans (congrArg some (by kernel_rfl))
  t0 := Try.underlying0
  a0 := Try.isAgg0
  z0 := Try.sizeOf0
  v0 := Try.zeroValue0
  t3 := Try.underlying3
  a3 := Try.isAgg3
  z3 := Try.sizeOf3
  v3 := Try.zeroValue3
  t4 := Try.underlying4
  a4 := Try.isAgg4
  z4 := Try.sizeOf4
  v4 := Try.zeroValue4
  t5 := Try.underlying5
  a5 := Try.isAgg5
  z5 := Try.sizeOf5
  v5 := Try.zeroValue5
  t9 := Try.underlying9
  a9 := Try.isAgg9
  z9 := Try.sizeOf9
  v9 := Try.zeroValue9
  t28 := Try.underlying46
  a28 := Try.isAgg46
  z28 := Try.sizeOf46
  v28 := Try.zeroValue46
  t46 := Try.underlying176
  a46 := Try.isAgg176
  z46 := Try.sizeOf176
  v46 := Try.zeroValue176
  t51 := Try.underlying38
  a51 := Try.isAgg38
  z51 := Try.sizeOf38
  v51 := Try.zeroValue38
  t53 := Try.underlying203
  a53 := Try.isAgg203
  z53 := Try.sizeOf203
  v53 := Try.zeroValue203
  t131 := Try.underlying172
  a131 := Try.isAgg172
  z131 := Try.sizeOf172
  v131 := Try.zeroValue172
  t182 := Try.underlying194
  a182 := Try.isAgg194
  z182 := Try.sizeOf194
  v182 := Try.zeroValue194
  t183 := Try.underlying195
  a183 := Try.isAgg195
  z183 := Try.sizeOf195
  v183 := Try.zeroValue195
  t218 := Try.underlying207
  a218 := Try.isAgg207
  z218 := Try.sizeOf207
  v218 := Try.zeroValue207
  t222 := Try.underlying211
  a222 := Try.isAgg211
  z222 := Try.sizeOf211
  v222 := Try.zeroValue211
  t228 := Try.underlying214
  a228 := Try.isAgg214
  z228 := Try.sizeOf214
  v228 := Try.zeroValue214
  t229 := Try.underlying215
  a229 := Try.isAgg215
  z229 := Try.sizeOf215
  v229 := Try.zeroValue215 }

open Go.Sort Go.RowKit in

theorem Try.slices_Sort_int (blk off cap : Nat) (zs : List Int) (w : World) (hH : Holds (Value.int .i64) w blk off zs.toArray) (hblk : blk < w.heap.size) (hsz : zs.length < 4611686018427387904) :
    Calls Try.prog 72 #[.slice (some ⟨blk, off, none⟩) zs.length cap] w fun e w' =>
      e = .returned (.tuple #[]) ∧ ∃ n os, w' = grow (putRow (Value.int .i64) (Sort.ahead w n) blk off (zs.mergeSort fun x y => decide (x ≤ y)).toArray) os := Any.slices_Sort_int Try.lays189 blk off cap zs w hH hblk hsz

open Go.RowKit Go.Sort in

/-- .. and plain. (LAID: no walk: one application.) -/
theorem Try.slices_Sort_int_none (p : Option Addr) (cap : Nat) (w : World) :
    Calls Try.prog 72 #[.slice p 0 cap] w fun e w' => e = .returned (.tuple #[]) ∧ w' = w := Any.slices_Sort_int_none Try.lays189 p cap w

end Go.Proofs

end

/-! SortC: sorting a slice of integers of our own. -/

section

set_option linter.unusedVariables false

set_option linter.unusedSimpArgs false

namespace Go.Proofs

open Go Go.Vx Go.Gm

def sorted (xs : List Int) : List Int := xs.mergeSort fun x y => decide (x ≤ y)

theorem flat_intV (xs : List Int) : flat intV xs = xs.map (Value.int .i64) := by
  induction xs with
  | nil => rfl
  | cons x r ih => simp only [flat, List.flatMap_cons, intV, List.map_cons] at ih ⊢; rw [ih]; rfl

theorem sort_call {w0 : World} {M : List Nat} {H r : HP} {u : Ent → HP} {K : Value → HP → Prop} (p : Option Addr) (n cap : Nat) (xs : List Int) (hn : xs.length = n) (hat : At H (.vec p n cap 3 1 (flat intV xs)) u r) (hsz : n < 4611686018427387904)
    (hk : K (.tuple #[]) (u (.vec p n cap 3 1 (flat intV (sorted xs))))) : VCall Try.cx.P w0 M H 72 [.slice p n cap] K := by
  refine .mk fun w hw => ?_
  have hsat := hw.own _ hat.mem
  have hsl : (sorted xs).length = n := by unfold sorted; rw [List.length_mergeSort, hn]
  cases p with
  | none =>
    obtain ⟨h1, h2⟩ := hsat
    rcases h2 with ⟨h3, h4⟩ | ⟨g, c, cur, hv, _⟩
    · simp only [Value.slice.injEq] at h3
      have hn0 : n = 0 := h3.2.1
      subst hn0
      have hx : xs = [] := List.eq_nil_of_length_eq_zero hn
      subst hx
      refine (Try.slices_Sort_int_none none cap w).mono fun e w' ⟨he, hw'⟩ => ?_
      subst hw'
      refine ⟨.tuple #[], _, he, ?_, hk⟩
      have : sorted [] = [] := by simp [sorted]
      rw [this]
      exact hw.turn hat (fun h => h)
    · cases hv
  | some a =>
    obtain ⟨g, cur, hg, hh, hnc, hcm, hcs, ht, hlen⟩ := vec_some hsat
    subst hg
    have hcell : ∀ j, j < xs.length → cur[j]? = some (.int .i64 (xs[j]!)) := by
      intro j hj
      have h1 : (cur.toList.take (n * 1))[j]? = (flat intV xs)[j]? := by rw [ht]
      rw [List.getElem?_take, if_pos (by omega), flat_intV, List.getElem?_map, List.getElem?_eq_getElem hj] at h1
      simp only [Option.map_some] at h1
      rw [getElem!_pos _ j hj]
      simpa using h1
    have hH : Go.Sort.Holds (Value.int .i64) w g 0 xs.toArray := by
      intro j hj
      have hj' : j < xs.length := by simpa using hj
      have := hcell j hj'
      refine ⟨?_, ?_⟩
      · simp only [Nat.zero_add, World.cell?, hh]
        simpa using this
      · simp [World.frozen?, hh]
    have hglt : g < w.heap.size := (Array.getElem?_eq_some_iff.1 hh).1
    have hc := Try.slices_Sort_int g 0 cap xs w hH hglt (by omega)
    rw [hn] at hc
    refine hc.mono fun e w' ⟨he, q, os, hw'⟩ => ⟨.tuple #[], _, he, ?_, hk⟩
    subst hw'
    refine hw.turn hat fun hx => ?_
    have hheap : ∀ b, b < w.heap.size → (Go.Sort.grow (Go.Sort.putRow (Value.int .i64) (Go.Sort.ahead w q) g 0 (xs.mergeSort fun x y => decide (x ≤ y)).toArray) os).heap[b]? =
        if g = b then (w.heap[b]?).map (Go.Sort.onCells (Go.Sort.putCells (Value.int .i64) 0 (xs.mergeSort fun x y => decide (x ≤ y)).toArray)) else w.heap[b]? := by
      intro b hb
      simp only [Go.Sort.grow, Go.Sort.putRow, Go.Sort.mapBlock, Go.Sort.ahead]
      rw [Array.getElem?_append_left (by simpa using hb), Array.getElem?_modify]
    refine hx.step rfl rfl rfl (by simp [Go.Sort.grow, Go.Sort.putRow, Go.Sort.mapBlock, Go.Sort.ahead]) (fun b hb hne => ?_) ?_ (fun b hb => .inl hb)
    · rw [hheap b hb, if_neg (fun e => hne (by rw [← e]; rfl))]
    · have h2 := hheap g hglt
      rw [if_pos rfl, hh] at h2
      simp only [Option.map_some, Go.Sort.onCells] at h2
      refine ownsRow_mk h2 hnc hcm (by simp [Go.Sort.putCells, hcs]) ?_
      apply List.ext_getElem?
      intro j
      rw [List.getElem?_take, flat_intV, List.getElem?_map]
      have hsl' : (xs.mergeSort fun x y => decide (x ≤ y)).length = n := hsl
      by_cases hj : j < n
      · rw [if_pos (by omega)]
        have hjc : j < cur.size := by omega
        simp only [Array.getElem?_toList, Go.Sort.putCells, Array.getElem?_mapIdx, List.size_toArray, hsl', Nat.zero_add, Nat.zero_le, true_and, hj, if_true, Nat.sub_zero, Array.getElem?_eq_getElem hjc, Option.map_some]
        have : j < (sorted xs).length := by omega
        rw [List.getElem?_eq_getElem this]
        simp only [Option.map_some, Option.some.injEq, Value.int.injEq, true_and]
        rw [getElem!_pos _ j (by simpa [hsl'] using hj)]
        rfl
      · rw [if_neg (by omega), List.getElem?_eq_none (by omega)]
        rfl

end Go.Proofs

end
