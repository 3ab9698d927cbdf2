/- Drv4: what is due, by ticks; adding to it, walked. -/
import Derived.Test.YtbnipfgbfnhibaaDrv3
import Derived.Test.YtbnipfgbfnhibaaNet6
set_option linter.unusedVariables false
set_option linter.unusedSimpArgs false
namespace Go.Proofs
open Go Go.Vx Go.Gm

def aSet : List (Int × Int) → Int → Int → List (Int × Int)
  | [], i, v => [(i, v)]
  | x :: q, i, v => if x.1 = i then (i, v) :: q else x :: aSet q i v

theorem mset_a (l : List (Int × Int)) (i v : Int) : mset (l.map duePV) i (.int .i64 v) = (aSet l i v).map duePV := by
  induction l with
  | nil => rfl
  | cons x q ih => simp only [List.map_cons, mset, duePV, aSet]; split <;> simp_all [duePV]

theorem mset_due {Q : List DueRow} {t : Int} (h : dueFind Q t = none) (b : Nat) : mset (Q.map dueM) t (.map (some b)) = (Q ++ [(⟨t, b, []⟩ : DueRow)]).map dueM := by
  induction Q with
  | nil => rfl
  | cons r q ih =>
    simp only [dueFind] at h
    split at h
    · cases h
    · simp only [List.map_cons, mset, dueM, List.cons_append]
      rw [if_neg ‹_›, ← ih h]

theorem dueFind_new {Q : List DueRow} {t : Int} (h : dueFind Q t = none) (b : Nat) : dueFind (Q ++ [(⟨t, b, []⟩ : DueRow)]) t = some ⟨t, b, []⟩ := by
  induction Q with
  | nil => simp [dueFind]
  | cons r q ih =>
    simp only [dueFind] at h
    split at h
    · cases h
    · simp only [List.cons_append, dueFind]
      rw [if_neg ‹_›]
      exact ih h

theorem dueFind_idx {Q : List DueRow} {t : Int} {r : DueRow} (h : dueFind Q t = some r) : ∃ j : Nat, Q[j]? = some r ∧ r.key = t := by
  obtain ⟨h1, h2⟩ := dueFind_mem h
  obtain ⟨j, hj⟩ := List.getElem?_of_mem h1
  exact ⟨j, hj, h2⟩

/-- The rows with one that may be new. -/
def RowMade (Q : List DueRow) (t : Int) (Q1 : List DueRow) : Prop := (Q1 = Q ∧ ∃ r, dueFind Q t = some r) ∨ (dueFind Q t = none ∧ ∃ b, Q1 = Q ++ [(⟨t, b, []⟩ : DueRow)])

/-- What add does. -/
def AddRel (Q : List DueRow) (A : List Evt) (t i wt : Int) (Q' : List DueRow) (A' : List Evt) : Prop :=
  ∃ (Q1 : List DueRow) (j : Nat) (r : DueRow), RowMade Q t Q1 ∧ dueFind Q1 t = some r ∧ Q1[j]? = some r ∧ r.key = t ∧ Q' = Q1.set j ⟨t, r.blk, aSet r.l i (wadd ((aFind r.l i).getD 0) wt)⟩ ∧
    (((∃ v, aFind r.l i = some v) ∧ A' = A) ∨ (aFind r.l i = none ∧ HeapOk A' ∧ A'.Perm (A ++ [⟨t, i⟩])))

/-- A course with what is due. -/
def dueS (bc : Nat) (vc vw : Value) (bd : Nat) (p : Option Addr) (cap : Nat) (A : List Evt) (Q : List DueRow) : HP :=
  .row bc 127 (courseV vc vw (.map (some bd)) p A.length cap) :: .vec p A.length cap 129 2 (flat evtV A) :: .map bd (Q.map dueM) :: Q.map dueE

theorem add_any (bc : Nat) (vc vw : Value) (bd : Nat) (p : Option Addr) (cap : Nat) (A : List Evt) (Q : List DueRow) (t i wt : Int) (hA : HeapOk A) (hAl : A.length ≤ 4398046511104) (hpp : 0 < A.length → ∃ g, p = some ⟨g, 0, none⟩) (w : World)
    (hs : St w (ids (dueS bc vc vw bd p cap A Q)) (dueS bc vc vw bd p cap A Q) w) :
    Calls Try.prog 106 #[.pointer (some ⟨bc, 0, none⟩), .int .i64 t, .int .i64 i, .int .i64 wt] w fun e w' => ∃ y : Option Addr × Nat × List Evt × List DueRow, e = .returned (.tuple #[]) ∧
      (AddRel Q A t i wt y.2.2.2 y.2.2.1 ∧ (0 < y.2.2.1.length → ∃ g, y.1 = some ⟨g, 0, none⟩)) ∧ St w (ids (dueS bc vc vw bd p cap A Q)) (dueS bc vc vw bd y.1 y.2.1 y.2.2.1 y.2.2.2) w' := by
  obtain ⟨Mx, hMx⟩ : ∃ Mx, ids (dueS bc vc vw bd p cap A Q) = Mx := ⟨_, rfl⟩
  rw [hMx] at hs ⊢
  unfold dueS courseV at hs
  have hd1 := mfind_due Q t
  refine enter (C := Try.cx) (args := [_, _, _, _]) (F := Try.fx106) Try.func106 rfl rfl rfl Try.ok106 hs ?_
  refine VSeq.cut (at_ := 2) (α := List DueRow) (fun Q1 => RowMade Q t Q1) (fun _ => [(1000000, .tuple #[]), (0, .pointer (some ⟨bc, 0, none⟩)), (1, .int .i64 t), (2, .int .i64 i), (3, .int .i64 wt)]) (fun Q1 => dueS bc vc vw bd p cap A Q1) ?_ ?_
  · cases hf : dueFind Q t with
    | none =>
      repeat' (conv => whnf); first
        | (refine VMp.is ?_; refine VMp.mk (by repeat (first | exact At.here | apply At.there | with_reducible apply At.app | with_reducible apply At.app2)) ?_)
        | (refine VLk.is ?_; refine VLk.lacks (by rw [hd1, hf]; rfl) ?_)
        | (refine VNew.is ?_; refine VNew.mk fun b9 => ?_)
        | (refine VMpU.is ?_; refine VMpU.mk (by repeat (first | exact At.here | apply At.there | with_reducible apply At.app | with_reducible apply At.app2)) ?_)
        | (refine VSeq.is ?_; refine VSeq.go ?_)
        | (refine VB.is ?_; refine VB.split (fun _ => ?_) (fun h => absurd (by omega) h))
        | (refine VB.is ?_; refine VB.split (fun h => absurd h (by omega)) (fun _ => ?_))
        | (refine VB.is ?_; refine VB.split (fun _ => ?_) (fun _ => ?_))
        | (refine boolE_split (fun h => ?_) (fun h => ?_) <;> subst h)
        | (refine VLd.is ?_; refine VLd.mk (.row (by repeat (first | exact At.here | apply At.there | with_reducible apply At.app | with_reducible apply At.app2)) (by rfl)) ?_)
        | (refine VSt.is ?_; refine VSt.row (by repeat (first | exact At.here | apply At.there | with_reducible apply At.app | with_reducible apply At.app2)) (by rfl) (by first | rfl | assumption) ?_)
        | (refine VNew.is ?_; refine VNew.mk fun _ => ?_)
        | (refine VAr.is ?_; refine VAr.i64 (by omega) (by omega) ?_)
        | (refine VIx.is ?_; refine VIx.mk rfl (by omega) (by omega) ?_)
        | (refine VKeep.is ?_; refine VKeep.mk (by repeat (first | exact HLe.nil | exact HLe.refl _ | refine HLe.nilv ?_ | (with_reducible refine HLe.seg ?_ ?_; (focus (repeat (first | with_reducible exact AtS.here | with_reducible exact AtS.here2 | exact AtS.last | apply AtS.there | with_reducible apply AtS.app | with_reducible apply AtS.app2)))) | refine HLe.cons (by repeat (first | exact At.here | apply At.there | with_reducible apply At.app | with_reducible apply At.app2)) ?_ | refine HLe.seg (by repeat (first | with_reducible exact AtS.here | with_reducible exact AtS.here2 | exact AtS.last | apply AtS.there | with_reducible apply AtS.app | with_reducible apply AtS.app2)) ?_ | exact HLe.last (by repeat (first | with_reducible exact AtS.here | with_reducible exact AtS.here2 | exact AtS.last | apply AtS.there | with_reducible apply AtS.app | with_reducible apply AtS.app2)))) ?_)
        | (refine VHs.is ?_; refine VHs.mk _ (HLe.refl _) ?_)
        | (refine VQ.is ?_; refine VQ.pos (by omega) (by omega) (by omega) ?_)
        | (refine VM.is ?_; refine VM.pos (by omega) (by omega) ?_)
        | (refine And.intro ?_ ?_)
      all_goals (conv => whnf)
      refine VMid.mk (Q ++ [⟨t, b9, []⟩]) (.inr ⟨hf, b9, rfl⟩) (by repeat (first | exact trivial | refine ⟨rfl, ?_⟩)) ?_
      unfold dueS courseV
      rw [← mset_due hf, List.map_append]
      repeat (first | exact HLe.nil | exact HLe.refl _ | refine HLe.nilv ?_ | (with_reducible refine HLe.seg ?_ ?_; (focus (repeat (first | with_reducible exact AtS.here | with_reducible exact AtS.here2 | exact AtS.last | apply AtS.there | with_reducible apply AtS.app | with_reducible apply AtS.app2)))) | refine HLe.cons (by repeat (first | exact At.here | apply At.there | with_reducible apply At.app | with_reducible apply At.app2)) ?_ | refine HLe.seg (by repeat (first | with_reducible exact AtS.here | with_reducible exact AtS.here2 | exact AtS.last | apply AtS.there | with_reducible apply AtS.app | with_reducible apply AtS.app2)) ?_ | exact HLe.last (by repeat (first | with_reducible exact AtS.here | with_reducible exact AtS.here2 | exact AtS.last | apply AtS.there | with_reducible apply AtS.app | with_reducible apply AtS.app2)))
    | some r =>
      repeat' (conv => whnf); first
        | (refine VMp.is ?_; refine VMp.mk (by repeat (first | exact At.here | apply At.there | with_reducible apply At.app | with_reducible apply At.app2)) ?_)
        | (refine VLk.is ?_; refine VLk.has (v := .map (some r.blk)) (by rw [hd1, hf]; rfl) ?_)
        | (refine VSeq.is ?_; refine VSeq.go ?_)
        | (refine VB.is ?_; refine VB.split (fun _ => ?_) (fun h => absurd (by omega) h))
        | (refine VB.is ?_; refine VB.split (fun h => absurd h (by omega)) (fun _ => ?_))
        | (refine VB.is ?_; refine VB.split (fun _ => ?_) (fun _ => ?_))
        | (refine boolE_split (fun h => ?_) (fun h => ?_) <;> subst h)
        | (refine VLd.is ?_; refine VLd.mk (.row (by repeat (first | exact At.here | apply At.there | with_reducible apply At.app | with_reducible apply At.app2)) (by rfl)) ?_)
        | (refine VSt.is ?_; refine VSt.row (by repeat (first | exact At.here | apply At.there | with_reducible apply At.app | with_reducible apply At.app2)) (by rfl) (by first | rfl | assumption) ?_)
        | (refine VNew.is ?_; refine VNew.mk fun _ => ?_)
        | (refine VAr.is ?_; refine VAr.i64 (by omega) (by omega) ?_)
        | (refine VIx.is ?_; refine VIx.mk rfl (by omega) (by omega) ?_)
        | (refine VKeep.is ?_; refine VKeep.mk (by repeat (first | exact HLe.nil | exact HLe.refl _ | refine HLe.nilv ?_ | (with_reducible refine HLe.seg ?_ ?_; (focus (repeat (first | with_reducible exact AtS.here | with_reducible exact AtS.here2 | exact AtS.last | apply AtS.there | with_reducible apply AtS.app | with_reducible apply AtS.app2)))) | refine HLe.cons (by repeat (first | exact At.here | apply At.there | with_reducible apply At.app | with_reducible apply At.app2)) ?_ | refine HLe.seg (by repeat (first | with_reducible exact AtS.here | with_reducible exact AtS.here2 | exact AtS.last | apply AtS.there | with_reducible apply AtS.app | with_reducible apply AtS.app2)) ?_ | exact HLe.last (by repeat (first | with_reducible exact AtS.here | with_reducible exact AtS.here2 | exact AtS.last | apply AtS.there | with_reducible apply AtS.app | with_reducible apply AtS.app2)))) ?_)
        | (refine VHs.is ?_; refine VHs.mk _ (HLe.refl _) ?_)
        | (refine VQ.is ?_; refine VQ.pos (by omega) (by omega) (by omega) ?_)
        | (refine VM.is ?_; refine VM.pos (by omega) (by omega) ?_)
        | (refine And.intro ?_ ?_)
      all_goals (conv => whnf)
      exact VMid.mk Q (.inl ⟨rfl, r, hf⟩) (by repeat (first | exact trivial | refine ⟨rfl, ?_⟩)) (by unfold dueS courseV; repeat (first | exact HLe.nil | exact HLe.refl _ | refine HLe.nilv ?_ | (with_reducible refine HLe.seg ?_ ?_; (focus (repeat (first | with_reducible exact AtS.here | with_reducible exact AtS.here2 | exact AtS.last | apply AtS.there | with_reducible apply AtS.app | with_reducible apply AtS.app2)))) | refine HLe.cons (by repeat (first | exact At.here | apply At.there | with_reducible apply At.app | with_reducible apply At.app2)) ?_ | refine HLe.seg (by repeat (first | with_reducible exact AtS.here | with_reducible exact AtS.here2 | exact AtS.last | apply AtS.there | with_reducible apply AtS.app | with_reducible apply AtS.app2)) ?_ | exact HLe.last (by repeat (first | with_reducible exact AtS.here | with_reducible exact AtS.here2 | exact AtS.last | apply AtS.there | with_reducible apply AtS.app | with_reducible apply AtS.app2))))
  intro Q1 hQ1
  obtain ⟨r, hr⟩ : ∃ r, dueFind Q1 t = some r := by
    rcases hQ1 with ⟨rfl, r, h⟩ | ⟨h, b, rfl⟩
    · exact ⟨r, h⟩
    · exact ⟨_, dueFind_new h b⟩
  have hd2 : mfind (Q1.map dueM) t = some (.map (some r.blk)) := by rw [mfind_due, hr]; rfl
  obtain ⟨j, hj, hrk⟩ := dueFind_idx hr
  have hm := mfind_a r.l i
  unfold dueS courseV
  refine VSeq.cut (at_ := 5) (α := Option Addr × Nat × List Evt) (fun y => (0 < y.2.2.length → ∃ g, y.1 = some ⟨g, 0, none⟩) ∧ (((∃ v, aFind r.l i = some v) ∧ y.2.2 = A) ∨ (aFind r.l i = none ∧ HeapOk y.2.2 ∧ y.2.2.Perm (A ++ [⟨t, i⟩])))) (fun _ => [(1000000, .tuple #[]), (0, .pointer (some ⟨bc, 0, none⟩)), (1, .int .i64 t), (2, .int .i64 i), (3, .int .i64 wt)]) (fun y => dueS bc vc vw bd y.1 y.2.1 y.2.2 Q1) ?_ ?_
  · cases ha : aFind r.l i with
    | none =>
      rw [ha] at hm
      repeat' (conv => whnf); first
        | (refine VMp.is ?_; refine VMp.mk (by repeat (first | exact At.here | apply At.there | with_reducible apply At.app | with_reducible apply At.app2)) ?_)
        | (refine VLk.is ?_; refine VLk.has hd2 ?_)
        | (refine VMp.is ?_; refine VMp.seg (f := dueE) (l := Q1) (by repeat (first | with_reducible exact AtS.here | with_reducible exact AtS.here2 | exact AtS.last | apply AtS.there | with_reducible apply AtS.app | with_reducible apply AtS.app2)) hj rfl ?_)
        | (refine VLk.is ?_; refine VLk.lacks hm ?_)
        | (refine VCall.isF 69 ?_; refine push_call bc vc vw (.map (some bd)) p cap A ⟨t, i⟩ hA hAl (by repeat (first | exact Take.nil | (with_reducible apply Take.seg; (focus (repeat (first | with_reducible exact AtS.here | with_reducible exact AtS.here2 | exact AtS.last | apply AtS.there | with_reducible apply AtS.app | with_reducible apply AtS.app2)))) | (apply Take.cons; (focus (repeat (first | exact At.here | apply At.there | with_reducible apply At.app | with_reducible apply At.app2)))) | (apply Take.last; (focus (repeat (first | with_reducible exact AtS.here | with_reducible exact AtS.here2 | exact AtS.last | apply AtS.there | with_reducible apply AtS.app | with_reducible apply AtS.app2)))))) fun g cap' A' hA' hAp => ?_)
        | (refine VSeq.is ?_; refine VSeq.go ?_)
        | (refine VB.is ?_; refine VB.split (fun _ => ?_) (fun h => absurd (by omega) h))
        | (refine VB.is ?_; refine VB.split (fun h => absurd h (by omega)) (fun _ => ?_))
        | (refine VB.is ?_; refine VB.split (fun _ => ?_) (fun _ => ?_))
        | (refine boolE_split (fun h => ?_) (fun h => ?_) <;> subst h)
        | (refine VLd.is ?_; refine VLd.mk (.row (by repeat (first | exact At.here | apply At.there | with_reducible apply At.app | with_reducible apply At.app2)) (by rfl)) ?_)
        | (refine VSt.is ?_; refine VSt.row (by repeat (first | exact At.here | apply At.there | with_reducible apply At.app | with_reducible apply At.app2)) (by rfl) (by first | rfl | assumption) ?_)
        | (refine VNew.is ?_; refine VNew.mk fun _ => ?_)
        | (refine VAr.is ?_; refine VAr.i64 (by omega) (by omega) ?_)
        | (refine VIx.is ?_; refine VIx.mk rfl (by omega) (by omega) ?_)
        | (refine VKeep.is ?_; refine VKeep.mk (by repeat (first | exact HLe.nil | exact HLe.refl _ | refine HLe.nilv ?_ | (with_reducible refine HLe.seg ?_ ?_; (focus (repeat (first | with_reducible exact AtS.here | with_reducible exact AtS.here2 | exact AtS.last | apply AtS.there | with_reducible apply AtS.app | with_reducible apply AtS.app2)))) | refine HLe.cons (by repeat (first | exact At.here | apply At.there | with_reducible apply At.app | with_reducible apply At.app2)) ?_ | refine HLe.seg (by repeat (first | with_reducible exact AtS.here | with_reducible exact AtS.here2 | exact AtS.last | apply AtS.there | with_reducible apply AtS.app | with_reducible apply AtS.app2)) ?_ | exact HLe.last (by repeat (first | with_reducible exact AtS.here | with_reducible exact AtS.here2 | exact AtS.last | apply AtS.there | with_reducible apply AtS.app | with_reducible apply AtS.app2)))) ?_)
        | (refine VHs.is ?_; refine VHs.mk _ (HLe.refl _) ?_)
        | (refine VQ.is ?_; refine VQ.pos (by omega) (by omega) (by omega) ?_)
        | (refine VM.is ?_; refine VM.pos (by omega) (by omega) ?_)
        | (refine And.intro ?_ ?_)
      all_goals (conv => whnf)
      exact VMid.mk (some ⟨g, 0, none⟩, cap', A') ⟨fun _ => ⟨g, rfl⟩, .inr ⟨rfl, hA', hAp⟩⟩ (by repeat (first | exact trivial | refine ⟨rfl, ?_⟩)) (by unfold dueS heapS courseV; repeat (first | exact HLe.nil | exact HLe.refl _ | refine HLe.nilv ?_ | (with_reducible refine HLe.seg ?_ ?_; (focus (repeat (first | with_reducible exact AtS.here | with_reducible exact AtS.here2 | exact AtS.last | apply AtS.there | with_reducible apply AtS.app | with_reducible apply AtS.app2)))) | refine HLe.cons (by repeat (first | exact At.here | apply At.there | with_reducible apply At.app | with_reducible apply At.app2)) ?_ | refine HLe.seg (by repeat (first | with_reducible exact AtS.here | with_reducible exact AtS.here2 | exact AtS.last | apply AtS.there | with_reducible apply AtS.app | with_reducible apply AtS.app2)) ?_ | exact HLe.last (by repeat (first | with_reducible exact AtS.here | with_reducible exact AtS.here2 | exact AtS.last | apply AtS.there | with_reducible apply AtS.app | with_reducible apply AtS.app2))))
    | some v =>
      rw [ha] at hm
      repeat' (conv => whnf); first
        | (refine VMp.is ?_; refine VMp.mk (by repeat (first | exact At.here | apply At.there | with_reducible apply At.app | with_reducible apply At.app2)) ?_)
        | (refine VLk.is ?_; refine VLk.has hd2 ?_)
        | (refine VMp.is ?_; refine VMp.seg (f := dueE) (l := Q1) (by repeat (first | with_reducible exact AtS.here | with_reducible exact AtS.here2 | exact AtS.last | apply AtS.there | with_reducible apply AtS.app | with_reducible apply AtS.app2)) hj rfl ?_)
        | (refine VLk.is ?_; refine VLk.has hm ?_)
        | (refine VSeq.is ?_; refine VSeq.go ?_)
        | (refine VB.is ?_; refine VB.split (fun _ => ?_) (fun h => absurd (by omega) h))
        | (refine VB.is ?_; refine VB.split (fun h => absurd h (by omega)) (fun _ => ?_))
        | (refine VB.is ?_; refine VB.split (fun _ => ?_) (fun _ => ?_))
        | (refine boolE_split (fun h => ?_) (fun h => ?_) <;> subst h)
        | (refine VLd.is ?_; refine VLd.mk (.row (by repeat (first | exact At.here | apply At.there | with_reducible apply At.app | with_reducible apply At.app2)) (by rfl)) ?_)
        | (refine VSt.is ?_; refine VSt.row (by repeat (first | exact At.here | apply At.there | with_reducible apply At.app | with_reducible apply At.app2)) (by rfl) (by first | rfl | assumption) ?_)
        | (refine VNew.is ?_; refine VNew.mk fun _ => ?_)
        | (refine VAr.is ?_; refine VAr.i64 (by omega) (by omega) ?_)
        | (refine VIx.is ?_; refine VIx.mk rfl (by omega) (by omega) ?_)
        | (refine VKeep.is ?_; refine VKeep.mk (by repeat (first | exact HLe.nil | exact HLe.refl _ | refine HLe.nilv ?_ | (with_reducible refine HLe.seg ?_ ?_; (focus (repeat (first | with_reducible exact AtS.here | with_reducible exact AtS.here2 | exact AtS.last | apply AtS.there | with_reducible apply AtS.app | with_reducible apply AtS.app2)))) | refine HLe.cons (by repeat (first | exact At.here | apply At.there | with_reducible apply At.app | with_reducible apply At.app2)) ?_ | refine HLe.seg (by repeat (first | with_reducible exact AtS.here | with_reducible exact AtS.here2 | exact AtS.last | apply AtS.there | with_reducible apply AtS.app | with_reducible apply AtS.app2)) ?_ | exact HLe.last (by repeat (first | with_reducible exact AtS.here | with_reducible exact AtS.here2 | exact AtS.last | apply AtS.there | with_reducible apply AtS.app | with_reducible apply AtS.app2)))) ?_)
        | (refine VHs.is ?_; refine VHs.mk _ (HLe.refl _) ?_)
        | (refine VQ.is ?_; refine VQ.pos (by omega) (by omega) (by omega) ?_)
        | (refine VM.is ?_; refine VM.pos (by omega) (by omega) ?_)
        | (refine And.intro ?_ ?_)
      all_goals (conv => whnf)
      exact VMid.mk (p, cap, A) ⟨hpp, .inl ⟨⟨v, rfl⟩, rfl⟩⟩ (by repeat (first | exact trivial | refine ⟨rfl, ?_⟩)) (by unfold dueS courseV; repeat (first | exact HLe.nil | exact HLe.refl _ | refine HLe.nilv ?_ | (with_reducible refine HLe.seg ?_ ?_; (focus (repeat (first | with_reducible exact AtS.here | with_reducible exact AtS.here2 | exact AtS.last | apply AtS.there | with_reducible apply AtS.app | with_reducible apply AtS.app2)))) | refine HLe.cons (by repeat (first | exact At.here | apply At.there | with_reducible apply At.app | with_reducible apply At.app2)) ?_ | refine HLe.seg (by repeat (first | with_reducible exact AtS.here | with_reducible exact AtS.here2 | exact AtS.last | apply AtS.there | with_reducible apply AtS.app | with_reducible apply AtS.app2)) ?_ | exact HLe.last (by repeat (first | with_reducible exact AtS.here | with_reducible exact AtS.here2 | exact AtS.last | apply AtS.there | with_reducible apply AtS.app | with_reducible apply AtS.app2))))
  · rintro ⟨p', cap', A'⟩ ⟨hp', hA'⟩
    dsimp only at *
    unfold dueS courseV
    have hv : mfind (r.l.map duePV) i = some (.int .i64 ((aFind r.l i).getD 0)) ∨ (mfind (r.l.map duePV) i = none ∧ Value.int .i64 ((aFind r.l i).getD 0) = .int .i64 0) := by
      rw [hm]
      cases aFind r.l i with
      | none => exact .inr ⟨rfl, rfl⟩
      | some v => exact .inl rfl
    have hset := mset_a r.l i (wadd ((aFind r.l i).getD 0) wt)
    repeat' (conv => whnf); first
      | (refine VMp.is ?_; refine VMp.mk (by repeat (first | exact At.here | apply At.there | with_reducible apply At.app | with_reducible apply At.app2)) ?_)
      | (refine VLk.is ?_; refine VLk.has hd2 ?_)
      | (refine VMp.is ?_; refine VMp.seg (f := dueE) (l := Q1) (by repeat (first | with_reducible exact AtS.here | with_reducible exact AtS.here2 | exact AtS.last | apply AtS.there | with_reducible apply AtS.app | with_reducible apply AtS.app2)) hj rfl ?_)
      | (refine VLk.is ?_; refine VLk.val hv ?_)
      | (refine VAr.is ?_; refine VAr.wadd ?_)
      | (refine VMpU.is ?_; refine VMpU.is ?_; refine VMpU.seg (f := dueE) (l := Q1) (by repeat (first | with_reducible exact AtS.here | with_reducible exact AtS.here2 | exact AtS.last | apply AtS.there | with_reducible apply AtS.app | with_reducible apply AtS.app2)) hj rfl fun u hu => ?_)
      | (refine VSeq.is ?_; refine VSeq.go ?_)
      | (refine VB.is ?_; refine VB.split (fun _ => ?_) (fun h => absurd (by omega) h))
      | (refine VB.is ?_; refine VB.split (fun h => absurd h (by omega)) (fun _ => ?_))
      | (refine VB.is ?_; refine VB.split (fun _ => ?_) (fun _ => ?_))
      | (refine boolE_split (fun h => ?_) (fun h => ?_) <;> subst h)
      | (refine VLd.is ?_; refine VLd.mk (.row (by repeat (first | exact At.here | apply At.there | with_reducible apply At.app | with_reducible apply At.app2)) (by rfl)) ?_)
      | (refine VSt.is ?_; refine VSt.row (by repeat (first | exact At.here | apply At.there | with_reducible apply At.app | with_reducible apply At.app2)) (by rfl) (by first | rfl | assumption) ?_)
      | (refine VNew.is ?_; refine VNew.mk fun _ => ?_)
      | (refine VAr.is ?_; refine VAr.i64 (by omega) (by omega) ?_)
      | (refine VIx.is ?_; refine VIx.mk rfl (by omega) (by omega) ?_)
      | (refine VKeep.is ?_; refine VKeep.mk (by repeat (first | exact HLe.nil | exact HLe.refl _ | refine HLe.nilv ?_ | (with_reducible refine HLe.seg ?_ ?_; (focus (repeat (first | with_reducible exact AtS.here | with_reducible exact AtS.here2 | exact AtS.last | apply AtS.there | with_reducible apply AtS.app | with_reducible apply AtS.app2)))) | refine HLe.cons (by repeat (first | exact At.here | apply At.there | with_reducible apply At.app | with_reducible apply At.app2)) ?_ | refine HLe.seg (by repeat (first | with_reducible exact AtS.here | with_reducible exact AtS.here2 | exact AtS.last | apply AtS.there | with_reducible apply AtS.app | with_reducible apply AtS.app2)) ?_ | exact HLe.last (by repeat (first | with_reducible exact AtS.here | with_reducible exact AtS.here2 | exact AtS.last | apply AtS.there | with_reducible apply AtS.app | with_reducible apply AtS.app2)))) ?_)
      | (refine VHs.is ?_; refine VHs.mk _ (HLe.refl _) ?_)
      | (refine VQ.is ?_; refine VQ.pos (by omega) (by omega) (by omega) ?_)
      | (refine VM.is ?_; refine VM.pos (by omega) (by omega) ?_)
      | (refine And.intro ?_ ?_)
    all_goals (conv => whnf)
    have hu' := hu ⟨t, r.blk, aSet r.l i (wadd ((aFind r.l i).getD 0) wt)⟩
    have e : dueE ⟨t, r.blk, aSet r.l i (wadd ((aFind r.l i).getD 0) wt)⟩ = .map r.blk (mset (r.l.map duePV) i (.int .i64 (wadd ((aFind r.l i).getD 0) wt))) := by unfold dueE; rw [hset]
    rw [e] at hu'
    rw [hu']
    have e2 : (Q1.set j ⟨t, r.blk, aSet r.l i (wadd ((aFind r.l i).getD 0) wt)⟩).map dueM = Q1.map dueM := by
      rw [List.map_set]
      exact set_self (by rw [List.getElem?_map, hj]; simp [dueM, hrk])
    refine ⟨fun w' hw' => ⟨(p', cap', A', Q1.set j ⟨t, r.blk, aSet r.l i (wadd ((aFind r.l i).getD 0) wt)⟩), rfl, ⟨⟨Q1, j, r, hQ1, hr, hj, hrk, rfl, hA'⟩, hp'⟩, ?_⟩⟩
    dsimp only
    rw [e2]
    exact hw'.le (by repeat (first | exact HLe.nil | exact HLe.refl _ | refine HLe.nilv ?_ | (with_reducible refine HLe.seg ?_ ?_; (focus (repeat (first | with_reducible exact AtS.here | with_reducible exact AtS.here2 | exact AtS.last | apply AtS.there | with_reducible apply AtS.app | with_reducible apply AtS.app2)))) | refine HLe.cons (by repeat (first | exact At.here | apply At.there | with_reducible apply At.app | with_reducible apply At.app2)) ?_ | refine HLe.seg (by repeat (first | with_reducible exact AtS.here | with_reducible exact AtS.here2 | exact AtS.last | apply AtS.there | with_reducible apply AtS.app | with_reducible apply AtS.app2)) ?_ | exact HLe.last (by repeat (first | with_reducible exact AtS.here | with_reducible exact AtS.here2 | exact AtS.last | apply AtS.there | with_reducible apply AtS.app | with_reducible apply AtS.app2))))

theorem add_call {w0 : World} {M : List Nat} {H R : HP} {K : Value → HP → Prop} (bc : Nat) (vc vw : Value) (bd : Nat) (p : Option Addr) (cap : Nat) (A : List Evt) (Q : List DueRow) (t i wt : Int) (hA : HeapOk A) (hAl : A.length ≤ 4398046511104) (hpp : 0 < A.length → ∃ g, p = some ⟨g, 0, none⟩)
    (htk : Take H (dueS bc vc vw bd p cap A Q) R)
    (hk : ∀ p' cap' A' Q', AddRel Q A t i wt Q' A' → (0 < A'.length → ∃ g, p' = some ⟨g, 0, none⟩) → K (.tuple #[]) (dueS bc vc vw bd p' cap' A' Q' ++ R)) :
    VCall Try.cx.P w0 M H 106 [.pointer (some ⟨bc, 0, none⟩), .int .i64 t, .int .i64 i, .int .i64 wt] K :=
  VCall.turnT (α := Option Addr × Nat × List Evt × List DueRow) (fun _ => .tuple #[]) (fun y => AddRel Q A t i wt y.2.2.2 y.2.2.1 ∧ (0 < y.2.2.1.length → ∃ g, y.1 = some ⟨g, 0, none⟩)) (fun y => dueS bc vc vw bd y.1 y.2.1 y.2.2.1 y.2.2.2) htk
    (fun w _ hs => add_any bc vc vw bd p cap A Q t i wt hA hAl hpp w hs) (fun y hy => hk _ _ _ _ hy.1 hy.2)

end Go.Proofs
