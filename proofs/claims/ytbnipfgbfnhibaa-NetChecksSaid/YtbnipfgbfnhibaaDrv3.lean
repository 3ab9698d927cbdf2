/- Drv3: looking at a cell, walked. -/
import Derived.Test.YtbnipfgbfnhibaaDrv2
set_option linter.unusedVariables false
set_option linter.unusedSimpArgs false
namespace Go.Proofs
open Go Go.Vx Go.Gm

/-- What is due in a tick, as it lies. -/
structure DueRow where
  key : Int
  blk : Nat
  l : List (Int × Int)

def dueM (r : DueRow) : Int × Value := (r.key, .map (some r.blk))
def duePV (x : Int × Int) : Int × Value := (x.1, .int .i64 x.2)
def dueE (r : DueRow) : Ent := .map r.blk (r.l.map duePV)

def dueFind : List DueRow → Int → Option DueRow
  | [], _ => none
  | r :: q, t => if r.key = t then some r else dueFind q t

def aFind : List (Int × Int) → Int → Option Int
  | [], _ => none
  | x :: q, i => if x.1 = i then some x.2 else aFind q i

def dueAt (Q : List DueRow) (t i : Int) : Option Int := (dueFind Q t).bind fun r => aFind r.l i

theorem mfind_due (Q : List DueRow) (t : Int) : mfind (Q.map dueM) t = (dueFind Q t).map fun r => .map (some r.blk) := by
  induction Q with
  | nil => rfl
  | cons r q ih => simp only [List.map_cons, mfind, dueM, dueFind]; split <;> simp_all

theorem mfind_a (l : List (Int × Int)) (i : Int) : mfind (l.map duePV) i = (aFind l i).map fun v => .int .i64 v := by
  induction l with
  | nil => rfl
  | cons r q ih => simp only [List.map_cons, mfind, duePV, aFind]; split <;> simp_all

theorem dueFind_mem {Q : List DueRow} {t : Int} {r : DueRow} (h : dueFind Q t = some r) : r ∈ Q ∧ r.key = t := by
  induction Q with
  | nil => simp [dueFind] at h
  | cons z q ih =>
    simp only [dueFind] at h
    split at h
    · cases h; exact ⟨by simp, ‹_›⟩
    · have := ih h; exact ⟨by simp [this.1], this.2⟩


/-- How a cell expects its next spike. -/
def NextC (c : CellM) : Prop := ∃ r : Int, NextIs c.p c.s r ∧ c.next = if 0 ≤ r then (c.tick : Int) + r else -1

structure LookY where
  spk : Bool
  cells : List CellM
  A : List Evt
  p : Option Addr
  cap : Nat

def lookSkip (c : CellM) (due : Option Int) (T : Nat) : Prop := T < c.tick ∨ (due = none ∧ c.next ≠ T)

/-- What look does. -/
def LookRel (cs : List CellM) (i : Nat) (c : CellM) (due : Option Int) (T : Nat) (A : List Evt) (y : LookY) : Prop :=
  (lookSkip c due T ∧ y.spk = false ∧ y.cells = cs ∧ y.A = A) ∨
  (¬ lookSkip c due T ∧ ∃ c', c'.p = c.p ∧ c'.tick = T + 1 ∧ (c'.s, y.spk) = tick c.p (silN c.p c.s (T - c.tick)) (due.getD 0) ∧ NextC c' ∧ y.cells = cs.set i c' ∧
    ((c'.next < 0 ∧ y.A = A) ∨ (0 ≤ c'.next ∧ HeapOk y.A ∧ y.A.Perm (A ++ [⟨c'.next, i⟩]))))

def courseS (bc : Nat) (gc n ccap : Nat) (vw vd : Value) (cs : List CellM) (p : Option Addr) (cap : Nat) (A : List Evt) : HP :=
  [.row bc 127 (courseV (.slice (some ⟨gc, 0, none⟩) n ccap) vw vd p A.length cap), cellsE gc n ccap cs, .vec p A.length cap 129 2 (flat evtV A)]

theorem look_any (bc gc n ccap : Nat) (vw : Value) (bd : Nat) (cs : List CellM) (p : Option Addr) (cap : Nat) (A : List Evt) (Q : List DueRow) (T i : Nat) (c : CellM) (hi : cs[i]? = some c) (hn : cs.length = n) (hl : n ≤ 1024) (hA : HeapOk A) (hAl : A.length ≤ 4398046511104)
    (hpp : 0 < A.length → ∃ g, p = some ⟨g, 0, none⟩) (hp : ParOk c.p) (hso : staOk c.p c.s) (hT : T < 1073741824) (hct : c.tick ≤ 1073741824) (hact : ¬ lookSkip c (dueAt Q T i) T → quiet c.p c.s (T - c.tick)) (w : World)
    (hs : St w (ids (courseS bc gc n ccap vw (.map (some bd)) cs p cap A)) (courseS bc gc n ccap vw (.map (some bd)) cs p cap A) w)
    (hd : mapIs w bd (Q.map dueM)) (hdM : bd ∉ ids (courseS bc gc n ccap vw (.map (some bd)) cs p cap A)) (hr : ∀ r ∈ Q, mapIs w r.blk (r.l.map duePV) ∧ r.blk ∉ ids (courseS bc gc n ccap vw (.map (some bd)) cs p cap A)) :
    Calls Try.prog 71 #[.pointer (some ⟨bc, 0, none⟩), .agg #[.int .i64 (T : Int), .int .i64 (i : Int)]] w fun e w' => ∃ y : LookY, e = .returned (.bool y.spk) ∧ (LookRel cs i c (dueAt Q T i) T A y ∧ (0 < y.A.length → ∃ g, y.p = some ⟨g, 0, none⟩)) ∧
      St w (ids (courseS bc gc n ccap vw (.map (some bd)) cs p cap A)) (courseS bc gc n ccap vw (.map (some bd)) y.cells y.p y.cap y.A) w' := by
  obtain ⟨Mx, hMx⟩ : ∃ Mx, ids (courseS bc gc n ccap vw (.map (some bd)) cs p cap A) = Mx := ⟨_, rfl⟩
  rw [hMx] at hs hdM hr ⊢
  unfold courseS cellsE courseV at hs
  have hlt : i < cs.length := (List.getElem?_eq_some_iff.1 hi).1
  obtain ⟨due, hdue⟩ : ∃ due, dueAt Q T i = due := ⟨_, rfl⟩
  have hd1 := mfind_due Q T
  rw [hdue] at hact ⊢
  refine enter (C := Try.cx) (args := [_, _]) (F := Try.fx71) Try.func71 rfl rfl rfl Try.ok71 hs ?_
  repeat' (conv => whnf); first
    | (refine VIx.is ?_; refine VIx.mk rfl (by omega) (by omega) ?_)
    | (refine VSeq.is ?_; refine VSeq.cut (at_ := 3) (α := Nat) (fun _ => True) (fun b3 => [(1000000, .tuple #[]), (0, .pointer (some ⟨bc, 0, none⟩)), (3, .pointer (some ⟨b3, 0, none⟩)), (5, .pointer (some ⟨gc, 0 + ((i : Int)).toNat * 12, none⟩)), (6, .int .i64 (due.getD 0)), (7, .bool due.isSome)]) (fun b3 => .row b3 129 [.int .i64 (T : Int), .int .i64 (i : Int)] :: courseS bc gc n ccap vw (.map (some bd)) cs p cap A) ?_ ?_)
    | (refine VMp.is ?_; refine VMp.old hd hdM ?_)
    | (refine VSeq.is ?_; refine VSeq.go ?_)
    | (refine VB.is ?_; refine VB.split (fun _ => ?_) (fun h => absurd (by omega) h))
    | (refine VB.is ?_; refine VB.split (fun h => absurd h (by omega)) (fun _ => ?_))
    | (refine VB.is ?_; refine VB.split (fun _ => ?_) (fun _ => ?_))
    | (refine boolE_split (fun h => ?_) (fun h => ?_) <;> subst h)
    | (refine VLd.is ?_; refine VLd.mk (.row (by repeat (first | exact At.here | apply At.there | with_reducible apply At.app | with_reducible apply At.app2)) (by rfl)) ?_)
    | (refine VSt.is ?_; refine VSt.row (by repeat (first | exact At.here | apply At.there | with_reducible apply At.app | with_reducible apply At.app2)) (by rfl) (by first | rfl | assumption) ?_)
    | (refine VNew.is ?_; refine VNew.mk fun _ => ?_)
    | (refine VAr.is ?_; refine VAr.i64 (by omega) (by omega) ?_)
    | (refine VIx.is ?_; refine VIx.mk rfl (by omega) (by omega) ?_)
    | (refine VKeep.is ?_; refine VKeep.mk (by repeat (first | exact HLe.nil | exact HLe.refl _ | refine HLe.nilv ?_ | (with_reducible refine HLe.seg ?_ ?_; (focus (repeat (first | with_reducible exact AtS.here | with_reducible exact AtS.here2 | exact AtS.last | apply AtS.there | with_reducible apply AtS.app | with_reducible apply AtS.app2)))) | refine HLe.cons (by repeat (first | exact At.here | apply At.there | with_reducible apply At.app | with_reducible apply At.app2)) ?_ | refine HLe.seg (by repeat (first | with_reducible exact AtS.here | with_reducible exact AtS.here2 | exact AtS.last | apply AtS.there | with_reducible apply AtS.app | with_reducible apply AtS.app2)) ?_ | exact HLe.last (by repeat (first | with_reducible exact AtS.here | with_reducible exact AtS.here2 | exact AtS.last | apply AtS.there | with_reducible apply AtS.app | with_reducible apply AtS.app2)))) ?_)
    | (refine VHs.is ?_; refine VHs.mk _ (HLe.refl _) ?_)
    | (refine VQ.is ?_; refine VQ.pos (by omega) (by omega) (by omega) ?_)
    | (refine VM.is ?_; refine VM.pos (by omega) (by omega) ?_)
    | (refine And.intro ?_ ?_)
  all_goals (conv => whnf)
  · cases hf : dueFind Q T with
    | none =>
      have e : due = none := by rw [← hdue, dueAt, hf]; rfl
      subst e
      refine VLk.lacks (by rw [hd1, hf]; rfl) ?_
      repeat' (conv => whnf); first
        | (refine VSeq.is ?_; refine VSeq.go ?_)
        | (refine VB.is ?_; refine VB.split (fun _ => ?_) (fun h => absurd (by omega) h))
        | (refine VB.is ?_; refine VB.split (fun h => absurd h (by omega)) (fun _ => ?_))
        | (refine VB.is ?_; refine VB.split (fun _ => ?_) (fun _ => ?_))
        | (refine boolE_split (fun h => ?_) (fun h => ?_) <;> subst h)
        | (refine VLd.is ?_; refine VLd.mk (.row (by repeat (first | exact At.here | apply At.there | with_reducible apply At.app | with_reducible apply At.app2)) (by rfl)) ?_)
        | (refine VSt.is ?_; refine VSt.row (by repeat (first | exact At.here | apply At.there | with_reducible apply At.app | with_reducible apply At.app2)) (by rfl) (by first | rfl | assumption) ?_)
        | (refine VNew.is ?_; refine VNew.mk fun _ => ?_)
        | (refine VAr.is ?_; refine VAr.i64 (by omega) (by omega) ?_)
        | (refine VIx.is ?_; refine VIx.mk rfl (by omega) (by omega) ?_)
        | (refine VKeep.is ?_; refine VKeep.mk (by repeat (first | exact HLe.nil | exact HLe.refl _ | refine HLe.nilv ?_ | (with_reducible refine HLe.seg ?_ ?_; (focus (repeat (first | with_reducible exact AtS.here | with_reducible exact AtS.here2 | exact AtS.last | apply AtS.there | with_reducible apply AtS.app | with_reducible apply AtS.app2)))) | refine HLe.cons (by repeat (first | exact At.here | apply At.there | with_reducible apply At.app | with_reducible apply At.app2)) ?_ | refine HLe.seg (by repeat (first | with_reducible exact AtS.here | with_reducible exact AtS.here2 | exact AtS.last | apply AtS.there | with_reducible apply AtS.app | with_reducible apply AtS.app2)) ?_ | exact HLe.last (by repeat (first | with_reducible exact AtS.here | with_reducible exact AtS.here2 | exact AtS.last | apply AtS.there | with_reducible apply AtS.app | with_reducible apply AtS.app2)))) ?_)
        | (refine VHs.is ?_; refine VHs.mk _ (HLe.refl _) ?_)
        | (refine VQ.is ?_; refine VQ.pos (by omega) (by omega) (by omega) ?_)
        | (refine VM.is ?_; refine VM.pos (by omega) (by omega) ?_)
        | (refine And.intro ?_ ?_)
      all_goals (conv => whnf)
      exact VMid.mk _ trivial (by repeat (first | exact trivial | refine ⟨rfl, ?_⟩)) (by unfold courseS cellsE courseV; repeat (first | exact HLe.nil | exact HLe.refl _ | refine HLe.nilv ?_ | (with_reducible refine HLe.seg ?_ ?_; (focus (repeat (first | with_reducible exact AtS.here | with_reducible exact AtS.here2 | exact AtS.last | apply AtS.there | with_reducible apply AtS.app | with_reducible apply AtS.app2)))) | refine HLe.cons (by repeat (first | exact At.here | apply At.there | with_reducible apply At.app | with_reducible apply At.app2)) ?_ | refine HLe.seg (by repeat (first | with_reducible exact AtS.here | with_reducible exact AtS.here2 | exact AtS.last | apply AtS.there | with_reducible apply AtS.app | with_reducible apply AtS.app2)) ?_ | exact HLe.last (by repeat (first | with_reducible exact AtS.here | with_reducible exact AtS.here2 | exact AtS.last | apply AtS.there | with_reducible apply AtS.app | with_reducible apply AtS.app2))))
    | some r =>
      have hrr := hr r (dueFind_mem hf).1
      have e : due = aFind r.l i := by rw [← hdue, dueAt, hf]; rfl
      refine VLk.has (v := .map (some r.blk)) (by rw [hd1, hf]; rfl) ?_
      have hm := mfind_a r.l i
      rw [← e] at hm
      cases due with
      | none =>
        repeat' (conv => whnf); first
          | (refine VMp.is ?_; refine VMp.old hrr.1 hrr.2 ?_)
          | (refine VLk.is ?_; refine VLk.lacks hm ?_)
          | (refine VSeq.is ?_; refine VSeq.go ?_)
          | (refine VB.is ?_; refine VB.split (fun _ => ?_) (fun h => absurd (by omega) h))
          | (refine VB.is ?_; refine VB.split (fun h => absurd h (by omega)) (fun _ => ?_))
          | (refine VB.is ?_; refine VB.split (fun _ => ?_) (fun _ => ?_))
          | (refine boolE_split (fun h => ?_) (fun h => ?_) <;> subst h)
          | (refine VLd.is ?_; refine VLd.mk (.row (by repeat (first | exact At.here | apply At.there | with_reducible apply At.app | with_reducible apply At.app2)) (by rfl)) ?_)
          | (refine VSt.is ?_; refine VSt.row (by repeat (first | exact At.here | apply At.there | with_reducible apply At.app | with_reducible apply At.app2)) (by rfl) (by first | rfl | assumption) ?_)
          | (refine VNew.is ?_; refine VNew.mk fun _ => ?_)
          | (refine VAr.is ?_; refine VAr.i64 (by omega) (by omega) ?_)
          | (refine VIx.is ?_; refine VIx.mk rfl (by omega) (by omega) ?_)
          | (refine VKeep.is ?_; refine VKeep.mk (by repeat (first | exact HLe.nil | exact HLe.refl _ | refine HLe.nilv ?_ | (with_reducible refine HLe.seg ?_ ?_; (focus (repeat (first | with_reducible exact AtS.here | with_reducible exact AtS.here2 | exact AtS.last | apply AtS.there | with_reducible apply AtS.app | with_reducible apply AtS.app2)))) | refine HLe.cons (by repeat (first | exact At.here | apply At.there | with_reducible apply At.app | with_reducible apply At.app2)) ?_ | refine HLe.seg (by repeat (first | with_reducible exact AtS.here | with_reducible exact AtS.here2 | exact AtS.last | apply AtS.there | with_reducible apply AtS.app | with_reducible apply AtS.app2)) ?_ | exact HLe.last (by repeat (first | with_reducible exact AtS.here | with_reducible exact AtS.here2 | exact AtS.last | apply AtS.there | with_reducible apply AtS.app | with_reducible apply AtS.app2)))) ?_)
          | (refine VHs.is ?_; refine VHs.mk _ (HLe.refl _) ?_)
          | (refine VQ.is ?_; refine VQ.pos (by omega) (by omega) (by omega) ?_)
          | (refine VM.is ?_; refine VM.pos (by omega) (by omega) ?_)
          | (refine And.intro ?_ ?_)
        all_goals (conv => whnf)
        exact VMid.mk _ trivial (by repeat (first | exact trivial | refine ⟨rfl, ?_⟩)) (by unfold courseS cellsE courseV; repeat (first | exact HLe.nil | exact HLe.refl _ | refine HLe.nilv ?_ | (with_reducible refine HLe.seg ?_ ?_; (focus (repeat (first | with_reducible exact AtS.here | with_reducible exact AtS.here2 | exact AtS.last | apply AtS.there | with_reducible apply AtS.app | with_reducible apply AtS.app2)))) | refine HLe.cons (by repeat (first | exact At.here | apply At.there | with_reducible apply At.app | with_reducible apply At.app2)) ?_ | refine HLe.seg (by repeat (first | with_reducible exact AtS.here | with_reducible exact AtS.here2 | exact AtS.last | apply AtS.there | with_reducible apply AtS.app | with_reducible apply AtS.app2)) ?_ | exact HLe.last (by repeat (first | with_reducible exact AtS.here | with_reducible exact AtS.here2 | exact AtS.last | apply AtS.there | with_reducible apply AtS.app | with_reducible apply AtS.app2))))
      | some v =>
        repeat' (conv => whnf); first
          | (refine VMp.is ?_; refine VMp.old hrr.1 hrr.2 ?_)
          | (refine VLk.is ?_; refine VLk.has hm ?_)
          | (refine VSeq.is ?_; refine VSeq.go ?_)
          | (refine VB.is ?_; refine VB.split (fun _ => ?_) (fun h => absurd (by omega) h))
          | (refine VB.is ?_; refine VB.split (fun h => absurd h (by omega)) (fun _ => ?_))
          | (refine VB.is ?_; refine VB.split (fun _ => ?_) (fun _ => ?_))
          | (refine boolE_split (fun h => ?_) (fun h => ?_) <;> subst h)
          | (refine VLd.is ?_; refine VLd.mk (.row (by repeat (first | exact At.here | apply At.there | with_reducible apply At.app | with_reducible apply At.app2)) (by rfl)) ?_)
          | (refine VSt.is ?_; refine VSt.row (by repeat (first | exact At.here | apply At.there | with_reducible apply At.app | with_reducible apply At.app2)) (by rfl) (by first | rfl | assumption) ?_)
          | (refine VNew.is ?_; refine VNew.mk fun _ => ?_)
          | (refine VAr.is ?_; refine VAr.i64 (by omega) (by omega) ?_)
          | (refine VIx.is ?_; refine VIx.mk rfl (by omega) (by omega) ?_)
          | (refine VKeep.is ?_; refine VKeep.mk (by repeat (first | exact HLe.nil | exact HLe.refl _ | refine HLe.nilv ?_ | (with_reducible refine HLe.seg ?_ ?_; (focus (repeat (first | with_reducible exact AtS.here | with_reducible exact AtS.here2 | exact AtS.last | apply AtS.there | with_reducible apply AtS.app | with_reducible apply AtS.app2)))) | refine HLe.cons (by repeat (first | exact At.here | apply At.there | with_reducible apply At.app | with_reducible apply At.app2)) ?_ | refine HLe.seg (by repeat (first | with_reducible exact AtS.here | with_reducible exact AtS.here2 | exact AtS.last | apply AtS.there | with_reducible apply AtS.app | with_reducible apply AtS.app2)) ?_ | exact HLe.last (by repeat (first | with_reducible exact AtS.here | with_reducible exact AtS.here2 | exact AtS.last | apply AtS.there | with_reducible apply AtS.app | with_reducible apply AtS.app2)))) ?_)
          | (refine VHs.is ?_; refine VHs.mk _ (HLe.refl _) ?_)
          | (refine VQ.is ?_; refine VQ.pos (by omega) (by omega) (by omega) ?_)
          | (refine VM.is ?_; refine VM.pos (by omega) (by omega) ?_)
          | (refine And.intro ?_ ?_)
        all_goals (conv => whnf)
        exact VMid.mk _ trivial (by repeat (first | exact trivial | refine ⟨rfl, ?_⟩)) (by unfold courseS cellsE courseV; repeat (first | exact HLe.nil | exact HLe.refl _ | refine HLe.nilv ?_ | (with_reducible refine HLe.seg ?_ ?_; (focus (repeat (first | with_reducible exact AtS.here | with_reducible exact AtS.here2 | exact AtS.last | apply AtS.there | with_reducible apply AtS.app | with_reducible apply AtS.app2)))) | refine HLe.cons (by repeat (first | exact At.here | apply At.there | with_reducible apply At.app | with_reducible apply At.app2)) ?_ | refine HLe.seg (by repeat (first | with_reducible exact AtS.here | with_reducible exact AtS.here2 | exact AtS.last | apply AtS.there | with_reducible apply AtS.app | with_reducible apply AtS.app2)) ?_ | exact HLe.last (by repeat (first | with_reducible exact AtS.here | with_reducible exact AtS.here2 | exact AtS.last | apply AtS.there | with_reducible apply AtS.app | with_reducible apply AtS.app2))))
  · intro b3 _
    have e5 : 0 + ((i : Int)).toNat * 12 = i * 12 := by omega
    rw [e5]
    obtain ⟨wv, hwv⟩ : ∃ wv, due.getD 0 = wv := ⟨_, rfl⟩
    rw [hwv]
    unfold courseS cellsE courseV
    repeat' (conv => whnf); first
      | (refine VLd.is ?_; refine VLd.is ?_; refine VLd.atS (i * 12 + 0) 8 ?_; refine VLd.mk (.vec (by repeat (first | exact At.here | apply At.there | with_reducible apply At.app | with_reducible apply At.app2)) (sub_flat (f := ccV) (k := 12) (o := 0) (s := 8) (vs := parV c.p) (fun _ => rfl) (hi) rfl)) ?_)
      | (refine VLd.is ?_; refine VLd.is ?_; refine VLd.atS (i * 12 + 8) 2 ?_; refine VLd.mk (.vec (by repeat (first | exact At.here | apply At.there | with_reducible apply At.app | with_reducible apply At.app2)) (sub_flat (f := ccV) (k := 12) (o := 8) (s := 2) (vs := staV c.s) (fun _ => rfl) (hi) rfl)) ?_)
      | (refine VLd.is ?_; refine VLd.is ?_; refine VLd.atS (i * 12 + 10) 1 ?_; refine VLd.mk (.vec (by repeat (first | exact At.here | apply At.there | with_reducible apply At.app | with_reducible apply At.app2)) (sub_flat (f := ccV) (k := 12) (o := 10) (s := 1) (vs := [.int .i64 (c.tick : Int)]) (fun _ => rfl) (hi) rfl)) ?_)
      | (refine VLd.is ?_; refine VLd.is ?_; refine VLd.atS (i * 12 + 11) 1 ?_; refine VLd.mk (.vec (by repeat (first | exact At.here | apply At.there | with_reducible apply At.app | with_reducible apply At.app2)) (sub_flat (f := ccV) (k := 12) (o := 11) (s := 1) (vs := [.int .i64 c.next]) (fun _ => rfl) (hi) rfl)) ?_)
      | (refine VLd.is ?_; refine VLd.is ?_; refine VLd.atS (i * 12 + 2) 1 ?_; refine VLd.mk (.vec (by repeat (first | exact At.here | apply At.there | with_reducible apply At.app | with_reducible apply At.app2)) (sub_flat (f := ccV) (k := 12) (o := 2) (s := 1) (vs := [.int .i64 (Par.bias c.p)]) (fun _ => rfl) (hi) rfl)) ?_)
      | (refine VLd.is ?_; refine VLd.is ?_; refine VLd.atS (i * 12 + 3) 1 ?_; refine VLd.mk (.vec (by repeat (first | exact At.here | apply At.there | with_reducible apply At.app | with_reducible apply At.app2)) (sub_flat (f := ccV) (k := 12) (o := 3) (s := 1) (vs := [.int .i64 (Par.th c.p)]) (fun _ => rfl) (hi) rfl)) ?_)
      | (refine VLd.is ?_; refine VLd.is ?_; refine VLd.atS (i * 12 + 8) 1 ?_; refine VLd.mk (.vec (by repeat (first | exact At.here | apply At.there | with_reducible apply At.app | with_reducible apply At.app2)) (sub_flat (f := ccV) (k := 12) (o := 8) (s := 1) (vs := [.int .i64 (Sta.v c.s)]) (fun _ => rfl) (hi) rfl)) ?_)
      | (refine VSeq.is ?_; refine VSeq.cut (at_ := 5) (α := Unit) (fun _ => ¬ lookSkip c due T) (fun _ => [(1000000, .tuple #[]), (0, .pointer (some ⟨bc, 0, none⟩)), (3, .pointer (some ⟨b3, 0, none⟩)), (5, .pointer (some ⟨gc, i * 12, none⟩)), (6, .int .i64 wv)]) (fun _ => .row b3 129 [.int .i64 (T : Int), .int .i64 (i : Int)] :: courseS bc gc n ccap vw (.map (some bd)) cs p cap A) ?_ ?_)
      | (refine VSeq.is ?_; refine VSeq.go ?_)
      | (refine VB.is ?_; refine VB.split (fun _ => ?_) (fun h => absurd (by omega) h))
      | (refine VB.is ?_; refine VB.split (fun h => absurd h (by omega)) (fun _ => ?_))
      | (refine VB.is ?_; refine VB.split (fun _ => ?_) (fun _ => ?_))
      | (refine boolE_split (fun h => ?_) (fun h => ?_) <;> subst h)
      | (refine VLd.is ?_; refine VLd.mk (.row (by repeat (first | exact At.here | apply At.there | with_reducible apply At.app | with_reducible apply At.app2)) (by rfl)) ?_)
      | (refine VSt.is ?_; refine VSt.row (by repeat (first | exact At.here | apply At.there | with_reducible apply At.app | with_reducible apply At.app2)) (by rfl) (by first | rfl | assumption) ?_)
      | (refine VNew.is ?_; refine VNew.mk fun _ => ?_)
      | (refine VAr.is ?_; refine VAr.i64 (by omega) (by omega) ?_)
      | (refine VIx.is ?_; refine VIx.mk rfl (by omega) (by omega) ?_)
      | (refine VKeep.is ?_; refine VKeep.mk (by repeat (first | exact HLe.nil | exact HLe.refl _ | refine HLe.nilv ?_ | (with_reducible refine HLe.seg ?_ ?_; (focus (repeat (first | with_reducible exact AtS.here | with_reducible exact AtS.here2 | exact AtS.last | apply AtS.there | with_reducible apply AtS.app | with_reducible apply AtS.app2)))) | refine HLe.cons (by repeat (first | exact At.here | apply At.there | with_reducible apply At.app | with_reducible apply At.app2)) ?_ | refine HLe.seg (by repeat (first | with_reducible exact AtS.here | with_reducible exact AtS.here2 | exact AtS.last | apply AtS.there | with_reducible apply AtS.app | with_reducible apply AtS.app2)) ?_ | exact HLe.last (by repeat (first | with_reducible exact AtS.here | with_reducible exact AtS.here2 | exact AtS.last | apply AtS.there | with_reducible apply AtS.app | with_reducible apply AtS.app2)))) ?_)
      | (refine VHs.is ?_; refine VHs.mk _ (HLe.refl _) ?_)
      | (refine VQ.is ?_; refine VQ.pos (by omega) (by omega) (by omega) ?_)
      | (refine VM.is ?_; refine VM.pos (by omega) (by omega) ?_)
      | (refine And.intro ?_ ?_)
    all_goals (conv => whnf)
    · exact ⟨fun w' hw' => ⟨⟨false, cs, A, p, cap⟩, rfl, ⟨.inl ⟨by unfold lookSkip; left; omega, rfl, rfl, rfl⟩, hpp⟩, hw'.le (by repeat (first | exact HLe.nil | exact HLe.refl _ | refine HLe.nilv ?_ | (with_reducible refine HLe.seg ?_ ?_; (focus (repeat (first | with_reducible exact AtS.here | with_reducible exact AtS.here2 | exact AtS.last | apply AtS.there | with_reducible apply AtS.app | with_reducible apply AtS.app2)))) | refine HLe.cons (by repeat (first | exact At.here | apply At.there | with_reducible apply At.app | with_reducible apply At.app2)) ?_ | refine HLe.seg (by repeat (first | with_reducible exact AtS.here | with_reducible exact AtS.here2 | exact AtS.last | apply AtS.there | with_reducible apply AtS.app | with_reducible apply AtS.app2)) ?_ | exact HLe.last (by repeat (first | with_reducible exact AtS.here | with_reducible exact AtS.here2 | exact AtS.last | apply AtS.there | with_reducible apply AtS.app | with_reducible apply AtS.app2))))⟩⟩
    · cases due
      repeat' (conv => whnf); first
        | (refine VLd.is ?_; refine VLd.is ?_; refine VLd.atS (i * 12 + 0) 8 ?_; refine VLd.mk (.vec (by repeat (first | exact At.here | apply At.there | with_reducible apply At.app | with_reducible apply At.app2)) (sub_flat (f := ccV) (k := 12) (o := 0) (s := 8) (vs := parV c.p) (fun _ => rfl) (hi) rfl)) ?_)
        | (refine VLd.is ?_; refine VLd.is ?_; refine VLd.atS (i * 12 + 8) 2 ?_; refine VLd.mk (.vec (by repeat (first | exact At.here | apply At.there | with_reducible apply At.app | with_reducible apply At.app2)) (sub_flat (f := ccV) (k := 12) (o := 8) (s := 2) (vs := staV c.s) (fun _ => rfl) (hi) rfl)) ?_)
        | (refine VLd.is ?_; refine VLd.is ?_; refine VLd.atS (i * 12 + 10) 1 ?_; refine VLd.mk (.vec (by repeat (first | exact At.here | apply At.there | with_reducible apply At.app | with_reducible apply At.app2)) (sub_flat (f := ccV) (k := 12) (o := 10) (s := 1) (vs := [.int .i64 (c.tick : Int)]) (fun _ => rfl) (hi) rfl)) ?_)
        | (refine VLd.is ?_; refine VLd.is ?_; refine VLd.atS (i * 12 + 11) 1 ?_; refine VLd.mk (.vec (by repeat (first | exact At.here | apply At.there | with_reducible apply At.app | with_reducible apply At.app2)) (sub_flat (f := ccV) (k := 12) (o := 11) (s := 1) (vs := [.int .i64 c.next]) (fun _ => rfl) (hi) rfl)) ?_)
        | (refine VLd.is ?_; refine VLd.is ?_; refine VLd.atS (i * 12 + 2) 1 ?_; refine VLd.mk (.vec (by repeat (first | exact At.here | apply At.there | with_reducible apply At.app | with_reducible apply At.app2)) (sub_flat (f := ccV) (k := 12) (o := 2) (s := 1) (vs := [.int .i64 (Par.bias c.p)]) (fun _ => rfl) (hi) rfl)) ?_)
        | (refine VLd.is ?_; refine VLd.is ?_; refine VLd.atS (i * 12 + 3) 1 ?_; refine VLd.mk (.vec (by repeat (first | exact At.here | apply At.there | with_reducible apply At.app | with_reducible apply At.app2)) (sub_flat (f := ccV) (k := 12) (o := 3) (s := 1) (vs := [.int .i64 (Par.th c.p)]) (fun _ => rfl) (hi) rfl)) ?_)
        | (refine VLd.is ?_; refine VLd.is ?_; refine VLd.atS (i * 12 + 8) 1 ?_; refine VLd.mk (.vec (by repeat (first | exact At.here | apply At.there | with_reducible apply At.app | with_reducible apply At.app2)) (sub_flat (f := ccV) (k := 12) (o := 8) (s := 1) (vs := [.int .i64 (Sta.v c.s)]) (fun _ => rfl) (hi) rfl)) ?_)
        | (refine VSeq.is ?_; refine VSeq.go ?_)
        | (refine VB.is ?_; refine VB.split (fun _ => ?_) (fun h => absurd (by omega) h))
        | (refine VB.is ?_; refine VB.split (fun h => absurd h (by omega)) (fun _ => ?_))
        | (refine VB.is ?_; refine VB.split (fun _ => ?_) (fun _ => ?_))
        | (refine boolE_split (fun h => ?_) (fun h => ?_) <;> subst h)
        | (refine VLd.is ?_; refine VLd.mk (.row (by repeat (first | exact At.here | apply At.there | with_reducible apply At.app | with_reducible apply At.app2)) (by rfl)) ?_)
        | (refine VSt.is ?_; refine VSt.row (by repeat (first | exact At.here | apply At.there | with_reducible apply At.app | with_reducible apply At.app2)) (by rfl) (by first | rfl | assumption) ?_)
        | (refine VNew.is ?_; refine VNew.mk fun _ => ?_)
        | (refine VAr.is ?_; refine VAr.i64 (by omega) (by omega) ?_)
        | (refine VIx.is ?_; refine VIx.mk rfl (by omega) (by omega) ?_)
        | (refine VKeep.is ?_; refine VKeep.mk (by repeat (first | exact HLe.nil | exact HLe.refl _ | refine HLe.nilv ?_ | (with_reducible refine HLe.seg ?_ ?_; (focus (repeat (first | with_reducible exact AtS.here | with_reducible exact AtS.here2 | exact AtS.last | apply AtS.there | with_reducible apply AtS.app | with_reducible apply AtS.app2)))) | refine HLe.cons (by repeat (first | exact At.here | apply At.there | with_reducible apply At.app | with_reducible apply At.app2)) ?_ | refine HLe.seg (by repeat (first | with_reducible exact AtS.here | with_reducible exact AtS.here2 | exact AtS.last | apply AtS.there | with_reducible apply AtS.app | with_reducible apply AtS.app2)) ?_ | exact HLe.last (by repeat (first | with_reducible exact AtS.here | with_reducible exact AtS.here2 | exact AtS.last | apply AtS.there | with_reducible apply AtS.app | with_reducible apply AtS.app2)))) ?_)
        | (refine VHs.is ?_; refine VHs.mk _ (HLe.refl _) ?_)
        | (refine VQ.is ?_; refine VQ.pos (by omega) (by omega) (by omega) ?_)
        | (refine VM.is ?_; refine VM.pos (by omega) (by omega) ?_)
        | (refine And.intro ?_ ?_)
      all_goals (conv => whnf)
      · exact ⟨fun w' hw' => ⟨⟨false, cs, A, p, cap⟩, rfl, ⟨.inl ⟨by unfold lookSkip; right; exact ⟨rfl, by omega⟩, rfl, rfl, rfl⟩, hpp⟩, hw'.le (by repeat (first | exact HLe.nil | exact HLe.refl _ | refine HLe.nilv ?_ | (with_reducible refine HLe.seg ?_ ?_; (focus (repeat (first | with_reducible exact AtS.here | with_reducible exact AtS.here2 | exact AtS.last | apply AtS.there | with_reducible apply AtS.app | with_reducible apply AtS.app2)))) | refine HLe.cons (by repeat (first | exact At.here | apply At.there | with_reducible apply At.app | with_reducible apply At.app2)) ?_ | refine HLe.seg (by repeat (first | with_reducible exact AtS.here | with_reducible exact AtS.here2 | exact AtS.last | apply AtS.there | with_reducible apply AtS.app | with_reducible apply AtS.app2)) ?_ | exact HLe.last (by repeat (first | with_reducible exact AtS.here | with_reducible exact AtS.here2 | exact AtS.last | apply AtS.there | with_reducible apply AtS.app | with_reducible apply AtS.app2))))⟩⟩
      all_goals refine VMid.mk () ?_ (by repeat (first | exact trivial | refine ⟨rfl, ?_⟩)) (by unfold courseS cellsE courseV; repeat (first | exact HLe.nil | exact HLe.refl _ | refine HLe.nilv ?_ | (with_reducible refine HLe.seg ?_ ?_; (focus (repeat (first | with_reducible exact AtS.here | with_reducible exact AtS.here2 | exact AtS.last | apply AtS.there | with_reducible apply AtS.app | with_reducible apply AtS.app2)))) | refine HLe.cons (by repeat (first | exact At.here | apply At.there | with_reducible apply At.app | with_reducible apply At.app2)) ?_ | refine HLe.seg (by repeat (first | with_reducible exact AtS.here | with_reducible exact AtS.here2 | exact AtS.last | apply AtS.there | with_reducible apply AtS.app | with_reducible apply AtS.app2)) ?_ | exact HLe.last (by repeat (first | with_reducible exact AtS.here | with_reducible exact AtS.here2 | exact AtS.last | apply AtS.there | with_reducible apply AtS.app | with_reducible apply AtS.app2))))
      all_goals simp only [lookSkip, reduceCtorEq, true_and, false_and, or_false]; omega
    intro _ hns0
    have hns := hact hns0
    have hcT : c.tick ≤ T := by unfold lookSkip at hns0; omega
    obtain ⟨q, hqq⟩ : ∃ q, silN c.p c.s (T - c.tick) = q := ⟨_, rfl⟩
    have hqo : staOk c.p q := by rw [← hqq]; exact silN_ok hp hso _
    have hT64 := Tick_ok c.p q wv hp hqo
    have hso' := tick_ok hp hqo wv
    obtain ⟨⟨s', fb⟩, htk⟩ : ∃ y, tick c.p q wv = y := ⟨_, rfl⟩
    rw [htk] at hT64 hso'
    dsimp only at hT64 hso'
    unfold courseS courseV
    repeat' (conv => whnf); first
      | (refine VCall.is ?_; refine VCall.isF 103 ?_; refine rest_call gc n ccap cs i c hi (by omega) hp hso T (by omega) hcT hns (by repeat (first | exact Take.nil | (with_reducible apply Take.seg; (focus (repeat (first | with_reducible exact AtS.here | with_reducible exact AtS.here2 | exact AtS.last | apply AtS.there | with_reducible apply AtS.app | with_reducible apply AtS.app2)))) | (apply Take.cons; (focus (repeat (first | exact At.here | apply At.there | with_reducible apply At.app | with_reducible apply At.app2)))) | (apply Take.last; (focus (repeat (first | with_reducible exact AtS.here | with_reducible exact AtS.here2 | exact AtS.last | apply AtS.there | with_reducible apply AtS.app | with_reducible apply AtS.app2)))))) ?_; unfold cellsE; rw [hqq])
      | (refine VLd.is ?_; refine VLd.is ?_; refine VLd.atS (i * 12 + 0) 8 ?_; refine VLd.mk (.vec (by repeat (first | exact At.here | apply At.there | with_reducible apply At.app | with_reducible apply At.app2)) (sub_flat (f := ccV) (k := 12) (o := 0) (s := 8) (vs := parV c.p) (fun _ => rfl) (set_get (y := (⟨c.p, q, T, c.next⟩ : CellM)) hlt) rfl)) ?_)
      | (refine VLd.is ?_; refine VLd.is ?_; refine VLd.atS (i * 12 + 8) 2 ?_; refine VLd.mk (.vec (by repeat (first | exact At.here | apply At.there | with_reducible apply At.app | with_reducible apply At.app2)) (sub_flat (f := ccV) (k := 12) (o := 8) (s := 2) (vs := staV q) (fun _ => rfl) (set_get (y := (⟨c.p, q, T, c.next⟩ : CellM)) hlt) rfl)) ?_)
      | (refine VLd.is ?_; refine VLd.is ?_; refine VLd.atS (i * 12 + 10) 1 ?_; refine VLd.mk (.vec (by repeat (first | exact At.here | apply At.there | with_reducible apply At.app | with_reducible apply At.app2)) (sub_flat (f := ccV) (k := 12) (o := 10) (s := 1) (vs := [.int .i64 (T : Int)]) (fun _ => rfl) (set_get (y := (⟨c.p, q, T, c.next⟩ : CellM)) hlt) rfl)) ?_)
      | (refine VLd.is ?_; refine VLd.is ?_; refine VLd.atS (i * 12 + 11) 1 ?_; refine VLd.mk (.vec (by repeat (first | exact At.here | apply At.there | with_reducible apply At.app | with_reducible apply At.app2)) (sub_flat (f := ccV) (k := 12) (o := 11) (s := 1) (vs := [.int .i64 c.next]) (fun _ => rfl) (set_get (y := (⟨c.p, q, T, c.next⟩ : CellM)) hlt) rfl)) ?_)
      | (refine VLd.is ?_; refine VLd.is ?_; refine VLd.atS (i * 12 + 2) 1 ?_; refine VLd.mk (.vec (by repeat (first | exact At.here | apply At.there | with_reducible apply At.app | with_reducible apply At.app2)) (sub_flat (f := ccV) (k := 12) (o := 2) (s := 1) (vs := [.int .i64 (Par.bias c.p)]) (fun _ => rfl) (set_get (y := (⟨c.p, q, T, c.next⟩ : CellM)) hlt) rfl)) ?_)
      | (refine VLd.is ?_; refine VLd.is ?_; refine VLd.atS (i * 12 + 3) 1 ?_; refine VLd.mk (.vec (by repeat (first | exact At.here | apply At.there | with_reducible apply At.app | with_reducible apply At.app2)) (sub_flat (f := ccV) (k := 12) (o := 3) (s := 1) (vs := [.int .i64 (Par.th c.p)]) (fun _ => rfl) (set_get (y := (⟨c.p, q, T, c.next⟩ : CellM)) hlt) rfl)) ?_)
      | (refine VLd.is ?_; refine VLd.is ?_; refine VLd.atS (i * 12 + 8) 1 ?_; refine VLd.mk (.vec (by repeat (first | exact At.here | apply At.there | with_reducible apply At.app | with_reducible apply At.app2)) (sub_flat (f := ccV) (k := 12) (o := 8) (s := 1) (vs := [.int .i64 (Sta.v q)]) (fun _ => rfl) (set_get (y := (⟨c.p, q, T, c.next⟩ : CellM)) hlt) rfl)) ?_)
      | (refine VCall.isF 99 ?_; refine VCall.val hT64 ?_)
      | (refine VSt.is ?_; refine VSt.is ?_; refine VSt.atS (i * 12 + 8) ?_; apply VSt.vec; (focus (repeat (first | exact At.here | apply At.there | with_reducible apply At.app | with_reducible apply At.app2))); exact upd_flat (f := ccV) (k := 12) (o := 8) (y := ⟨c.p, s', T, c.next⟩) (fun _ => rfl) (set_get hlt) rfl; rfl; rw [List.set_set])
      | (refine VSeq.is ?_; refine VSeq.cut (at_ := 8) (α := Unit) (fun _ => True) (fun _ => [(1000000, .tuple #[]), (0, .pointer (some ⟨bc, 0, none⟩)), (3, .pointer (some ⟨b3, 0, none⟩)), (5, .pointer (some ⟨gc, i * 12, none⟩)), (8, .bool fb)]) (fun _ => .row b3 129 [.int .i64 (T : Int), .int .i64 (i : Int)] :: courseS bc gc n ccap vw (.map (some bd)) (cs.set i ⟨c.p, s', T, c.next⟩) p cap A) ?_ ?_)
      | (refine VSeq.is ?_; refine VSeq.go ?_)
      | (refine VB.is ?_; refine VB.split (fun _ => ?_) (fun h => absurd (by omega) h))
      | (refine VB.is ?_; refine VB.split (fun h => absurd h (by omega)) (fun _ => ?_))
      | (refine VB.is ?_; refine VB.split (fun _ => ?_) (fun _ => ?_))
      | (refine boolE_split (fun h => ?_) (fun h => ?_) <;> subst h)
      | (refine VLd.is ?_; refine VLd.mk (.row (by repeat (first | exact At.here | apply At.there | with_reducible apply At.app | with_reducible apply At.app2)) (by rfl)) ?_)
      | (refine VSt.is ?_; refine VSt.row (by repeat (first | exact At.here | apply At.there | with_reducible apply At.app | with_reducible apply At.app2)) (by rfl) (by first | rfl | assumption) ?_)
      | (refine VNew.is ?_; refine VNew.mk fun _ => ?_)
      | (refine VAr.is ?_; refine VAr.i64 (by omega) (by omega) ?_)
      | (refine VIx.is ?_; refine VIx.mk rfl (by omega) (by omega) ?_)
      | (refine VKeep.is ?_; refine VKeep.mk (by repeat (first | exact HLe.nil | exact HLe.refl _ | refine HLe.nilv ?_ | (with_reducible refine HLe.seg ?_ ?_; (focus (repeat (first | with_reducible exact AtS.here | with_reducible exact AtS.here2 | exact AtS.last | apply AtS.there | with_reducible apply AtS.app | with_reducible apply AtS.app2)))) | refine HLe.cons (by repeat (first | exact At.here | apply At.there | with_reducible apply At.app | with_reducible apply At.app2)) ?_ | refine HLe.seg (by repeat (first | with_reducible exact AtS.here | with_reducible exact AtS.here2 | exact AtS.last | apply AtS.there | with_reducible apply AtS.app | with_reducible apply AtS.app2)) ?_ | exact HLe.last (by repeat (first | with_reducible exact AtS.here | with_reducible exact AtS.here2 | exact AtS.last | apply AtS.there | with_reducible apply AtS.app | with_reducible apply AtS.app2)))) ?_)
      | (refine VHs.is ?_; refine VHs.mk _ (HLe.refl _) ?_)
      | (refine VQ.is ?_; refine VQ.pos (by omega) (by omega) (by omega) ?_)
      | (refine VM.is ?_; refine VM.pos (by omega) (by omega) ?_)
      | (refine And.intro ?_ ?_)
    all_goals (conv => whnf)
    all_goals first
      | exact VMid.mk () trivial (by repeat (first | exact trivial | refine ⟨rfl, ?_⟩)) (by unfold courseS cellsE courseV; repeat (first | exact HLe.nil | exact HLe.refl _ | refine HLe.nilv ?_ | (with_reducible refine HLe.seg ?_ ?_; (focus (repeat (first | with_reducible exact AtS.here | with_reducible exact AtS.here2 | exact AtS.last | apply AtS.there | with_reducible apply AtS.app | with_reducible apply AtS.app2)))) | refine HLe.cons (by repeat (first | exact At.here | apply At.there | with_reducible apply At.app | with_reducible apply At.app2)) ?_ | refine HLe.seg (by repeat (first | with_reducible exact AtS.here | with_reducible exact AtS.here2 | exact AtS.last | apply AtS.there | with_reducible apply AtS.app | with_reducible apply AtS.app2)) ?_ | exact HLe.last (by repeat (first | with_reducible exact AtS.here | with_reducible exact AtS.here2 | exact AtS.last | apply AtS.there | with_reducible apply AtS.app | with_reducible apply AtS.app2))))
      | skip
    intro _ _
    unfold courseS courseV cellsE
    repeat' (conv => whnf); first
      | (refine VLd.is ?_; refine VLd.is ?_; refine VLd.atS (i * 12 + 0) 8 ?_; refine VLd.mk (.vec (by repeat (first | exact At.here | apply At.there | with_reducible apply At.app | with_reducible apply At.app2)) (sub_flat (f := ccV) (k := 12) (o := 0) (s := 8) (vs := parV c.p) (fun _ => rfl) (set_get (y := (⟨c.p, s', T, c.next⟩ : CellM)) hlt) rfl)) ?_)
      | (refine VLd.is ?_; refine VLd.is ?_; refine VLd.atS (i * 12 + 8) 2 ?_; refine VLd.mk (.vec (by repeat (first | exact At.here | apply At.there | with_reducible apply At.app | with_reducible apply At.app2)) (sub_flat (f := ccV) (k := 12) (o := 8) (s := 2) (vs := staV s') (fun _ => rfl) (set_get (y := (⟨c.p, s', T, c.next⟩ : CellM)) hlt) rfl)) ?_)
      | (refine VLd.is ?_; refine VLd.is ?_; refine VLd.atS (i * 12 + 10) 1 ?_; refine VLd.mk (.vec (by repeat (first | exact At.here | apply At.there | with_reducible apply At.app | with_reducible apply At.app2)) (sub_flat (f := ccV) (k := 12) (o := 10) (s := 1) (vs := [.int .i64 (T : Int)]) (fun _ => rfl) (set_get (y := (⟨c.p, s', T, c.next⟩ : CellM)) hlt) rfl)) ?_)
      | (refine VLd.is ?_; refine VLd.is ?_; refine VLd.atS (i * 12 + 11) 1 ?_; refine VLd.mk (.vec (by repeat (first | exact At.here | apply At.there | with_reducible apply At.app | with_reducible apply At.app2)) (sub_flat (f := ccV) (k := 12) (o := 11) (s := 1) (vs := [.int .i64 c.next]) (fun _ => rfl) (set_get (y := (⟨c.p, s', T, c.next⟩ : CellM)) hlt) rfl)) ?_)
      | (refine VLd.is ?_; refine VLd.is ?_; refine VLd.atS (i * 12 + 2) 1 ?_; refine VLd.mk (.vec (by repeat (first | exact At.here | apply At.there | with_reducible apply At.app | with_reducible apply At.app2)) (sub_flat (f := ccV) (k := 12) (o := 2) (s := 1) (vs := [.int .i64 (Par.bias c.p)]) (fun _ => rfl) (set_get (y := (⟨c.p, s', T, c.next⟩ : CellM)) hlt) rfl)) ?_)
      | (refine VLd.is ?_; refine VLd.is ?_; refine VLd.atS (i * 12 + 3) 1 ?_; refine VLd.mk (.vec (by repeat (first | exact At.here | apply At.there | with_reducible apply At.app | with_reducible apply At.app2)) (sub_flat (f := ccV) (k := 12) (o := 3) (s := 1) (vs := [.int .i64 (Par.th c.p)]) (fun _ => rfl) (set_get (y := (⟨c.p, s', T, c.next⟩ : CellM)) hlt) rfl)) ?_)
      | (refine VLd.is ?_; refine VLd.is ?_; refine VLd.atS (i * 12 + 8) 1 ?_; refine VLd.mk (.vec (by repeat (first | exact At.here | apply At.there | with_reducible apply At.app | with_reducible apply At.app2)) (sub_flat (f := ccV) (k := 12) (o := 8) (s := 1) (vs := [.int .i64 (Sta.v s')]) (fun _ => rfl) (set_get (y := (⟨c.p, s', T, c.next⟩ : CellM)) hlt) rfl)) ?_)
      | (refine VSt.is ?_; refine VSt.is ?_; refine VSt.atS (i * 12 + 10) ?_; apply VSt.vec; (focus (repeat (first | exact At.here | apply At.there | with_reducible apply At.app | with_reducible apply At.app2))); exact upd_flat (f := ccV) (k := 12) (o := 10) (y := ⟨c.p, s', T + 1, c.next⟩) (fun _ => rfl) (set_get hlt) rfl; rfl; rw [List.set_set])
      | (refine VCall.isF 68 ?_; refine VCall.inl (F := Try.fx68) Try.func68 rfl rfl rfl Try.ok68 ?_)
      | (refine VSt.is ?_; refine VSt.is ?_; refine VSt.atS (i * 12 + 11) ?_; apply VSt.vec; (focus (repeat (first | exact At.here | apply At.there | with_reducible apply At.app | with_reducible apply At.app2))); exact upd_flat (f := ccV) (k := 12) (o := 11) (y := ⟨c.p, s', T + 1, -1⟩) (fun _ => rfl) (set_get hlt) rfl; rfl; rw [List.set_set])
      | (refine VLd.is ?_; refine VLd.is ?_; refine VLd.atS (i * 12 + 0) 8 ?_; refine VLd.mk (.vec (by repeat (first | exact At.here | apply At.there | with_reducible apply At.app | with_reducible apply At.app2)) (sub_flat (f := ccV) (k := 12) (o := 0) (s := 8) (vs := parV c.p) (fun _ => rfl) (set_get (y := (⟨c.p, s', T + 1, -1⟩ : CellM)) hlt) rfl)) ?_)
      | (refine VLd.is ?_; refine VLd.is ?_; refine VLd.atS (i * 12 + 8) 2 ?_; refine VLd.mk (.vec (by repeat (first | exact At.here | apply At.there | with_reducible apply At.app | with_reducible apply At.app2)) (sub_flat (f := ccV) (k := 12) (o := 8) (s := 2) (vs := staV s') (fun _ => rfl) (set_get (y := (⟨c.p, s', T + 1, -1⟩ : CellM)) hlt) rfl)) ?_)
      | (refine VLd.is ?_; refine VLd.is ?_; refine VLd.atS (i * 12 + 10) 1 ?_; refine VLd.mk (.vec (by repeat (first | exact At.here | apply At.there | with_reducible apply At.app | with_reducible apply At.app2)) (sub_flat (f := ccV) (k := 12) (o := 10) (s := 1) (vs := [.int .i64 ((T + 1 : Nat) : Int)]) (fun _ => rfl) (set_get (y := (⟨c.p, s', T + 1, -1⟩ : CellM)) hlt) rfl)) ?_)
      | (refine VLd.is ?_; refine VLd.is ?_; refine VLd.atS (i * 12 + 11) 1 ?_; refine VLd.mk (.vec (by repeat (first | exact At.here | apply At.there | with_reducible apply At.app | with_reducible apply At.app2)) (sub_flat (f := ccV) (k := 12) (o := 11) (s := 1) (vs := [.int .i64 (-1)]) (fun _ => rfl) (set_get (y := (⟨c.p, s', T + 1, -1⟩ : CellM)) hlt) rfl)) ?_)
      | (refine VLd.is ?_; refine VLd.is ?_; refine VLd.atS (i * 12 + 2) 1 ?_; refine VLd.mk (.vec (by repeat (first | exact At.here | apply At.there | with_reducible apply At.app | with_reducible apply At.app2)) (sub_flat (f := ccV) (k := 12) (o := 2) (s := 1) (vs := [.int .i64 (Par.bias c.p)]) (fun _ => rfl) (set_get (y := (⟨c.p, s', T + 1, -1⟩ : CellM)) hlt) rfl)) ?_)
      | (refine VLd.is ?_; refine VLd.is ?_; refine VLd.atS (i * 12 + 3) 1 ?_; refine VLd.mk (.vec (by repeat (first | exact At.here | apply At.there | with_reducible apply At.app | with_reducible apply At.app2)) (sub_flat (f := ccV) (k := 12) (o := 3) (s := 1) (vs := [.int .i64 (Par.th c.p)]) (fun _ => rfl) (set_get (y := (⟨c.p, s', T + 1, -1⟩ : CellM)) hlt) rfl)) ?_)
      | (refine VLd.is ?_; refine VLd.is ?_; refine VLd.atS (i * 12 + 8) 1 ?_; refine VLd.mk (.vec (by repeat (first | exact At.here | apply At.there | with_reducible apply At.app | with_reducible apply At.app2)) (sub_flat (f := ccV) (k := 12) (o := 8) (s := 1) (vs := [.int .i64 (Sta.v s')]) (fun _ => rfl) (set_get (y := (⟨c.p, s', T + 1, -1⟩ : CellM)) hlt) rfl)) ?_)
      | (refine VCall.is ?_; refine VCall.isF 102 ?_; refine VCall.ex (Next_any c.p s' hp hso') fun r hr => ?_; have hrb := hr.bounds)
      | (refine VSt.is ?_; refine VSt.is ?_; refine VSt.atS (i * 12 + 11) ?_; apply VSt.vec; (focus (repeat (first | exact At.here | apply At.there | with_reducible apply At.app | with_reducible apply At.app2))); exact upd_flat (f := ccV) (k := 12) (o := 11) (y := ⟨c.p, s', T + 1, ((T + 1 : Nat) : Int) + r⟩) (fun _ => rfl) (set_get hlt) rfl; rfl; rw [List.set_set])
      | (refine VSeq.is ?_; refine VSeq.cut (at_ := 10) (α := Int) (fun x => NextC ⟨c.p, s', T + 1, x⟩ ∧ -1 ≤ x ∧ x ≤ 2000000000) (fun x => [(1000000, .tuple #[]), (0, .pointer (some ⟨bc, 0, none⟩)), (3, .pointer (some ⟨b3, 0, none⟩)), (5, .pointer (some ⟨gc, i * 12, none⟩)), (8, .bool fb)]) (fun x => .row b3 129 [.int .i64 (T : Int), .int .i64 (i : Int)] :: courseS bc gc n ccap vw (.map (some bd)) (cs.set i ⟨c.p, s', T + 1, x⟩) p cap A) ?_ ?_)
      | (refine VSeq.is ?_; refine VSeq.go ?_)
      | (refine VB.is ?_; refine VB.split (fun _ => ?_) (fun h => absurd (by omega) h))
      | (refine VB.is ?_; refine VB.split (fun h => absurd h (by omega)) (fun _ => ?_))
      | (refine VB.is ?_; refine VB.split (fun _ => ?_) (fun _ => ?_))
      | (refine boolE_split (fun h => ?_) (fun h => ?_) <;> subst h)
      | (refine VLd.is ?_; refine VLd.mk (.row (by repeat (first | exact At.here | apply At.there | with_reducible apply At.app | with_reducible apply At.app2)) (by rfl)) ?_)
      | (refine VSt.is ?_; refine VSt.row (by repeat (first | exact At.here | apply At.there | with_reducible apply At.app | with_reducible apply At.app2)) (by rfl) (by first | rfl | assumption) ?_)
      | (refine VNew.is ?_; refine VNew.mk fun _ => ?_)
      | (refine VAr.is ?_; refine VAr.i64 (by omega) (by omega) ?_)
      | (refine VIx.is ?_; refine VIx.mk rfl (by omega) (by omega) ?_)
      | (refine VKeep.is ?_; refine VKeep.mk (by repeat (first | exact HLe.nil | exact HLe.refl _ | refine HLe.nilv ?_ | (with_reducible refine HLe.seg ?_ ?_; (focus (repeat (first | with_reducible exact AtS.here | with_reducible exact AtS.here2 | exact AtS.last | apply AtS.there | with_reducible apply AtS.app | with_reducible apply AtS.app2)))) | refine HLe.cons (by repeat (first | exact At.here | apply At.there | with_reducible apply At.app | with_reducible apply At.app2)) ?_ | refine HLe.seg (by repeat (first | with_reducible exact AtS.here | with_reducible exact AtS.here2 | exact AtS.last | apply AtS.there | with_reducible apply AtS.app | with_reducible apply AtS.app2)) ?_ | exact HLe.last (by repeat (first | with_reducible exact AtS.here | with_reducible exact AtS.here2 | exact AtS.last | apply AtS.there | with_reducible apply AtS.app | with_reducible apply AtS.app2)))) ?_)
      | (refine VHs.is ?_; refine VHs.mk _ (HLe.refl _) ?_)
      | (refine VQ.is ?_; refine VQ.pos (by omega) (by omega) (by omega) ?_)
      | (refine VM.is ?_; refine VM.pos (by omega) (by omega) ?_)
      | (refine And.intro ?_ ?_)
    all_goals (conv => whnf)
    all_goals first
      | exact VMid.mk (-1) ⟨⟨-1, .inl ⟨rfl, quiet_low hp hso' (by omega) (by omega)⟩, rfl⟩, by omega, by omega⟩ (by repeat (first | exact trivial | refine ⟨rfl, ?_⟩)) (by unfold courseS cellsE courseV; repeat (first | exact HLe.nil | exact HLe.refl _ | refine HLe.nilv ?_ | (with_reducible refine HLe.seg ?_ ?_; (focus (repeat (first | with_reducible exact AtS.here | with_reducible exact AtS.here2 | exact AtS.last | apply AtS.there | with_reducible apply AtS.app | with_reducible apply AtS.app2)))) | refine HLe.cons (by repeat (first | exact At.here | apply At.there | with_reducible apply At.app | with_reducible apply At.app2)) ?_ | refine HLe.seg (by repeat (first | with_reducible exact AtS.here | with_reducible exact AtS.here2 | exact AtS.last | apply AtS.there | with_reducible apply AtS.app | with_reducible apply AtS.app2)) ?_ | exact HLe.last (by repeat (first | with_reducible exact AtS.here | with_reducible exact AtS.here2 | exact AtS.last | apply AtS.there | with_reducible apply AtS.app | with_reducible apply AtS.app2))))
      | exact VMid.mk (-1) ⟨⟨r, hr, by rw [if_neg (by omega)]⟩, by omega, by omega⟩ (by repeat (first | exact trivial | refine ⟨rfl, ?_⟩)) (by unfold courseS cellsE courseV; repeat (first | exact HLe.nil | exact HLe.refl _ | refine HLe.nilv ?_ | (with_reducible refine HLe.seg ?_ ?_; (focus (repeat (first | with_reducible exact AtS.here | with_reducible exact AtS.here2 | exact AtS.last | apply AtS.there | with_reducible apply AtS.app | with_reducible apply AtS.app2)))) | refine HLe.cons (by repeat (first | exact At.here | apply At.there | with_reducible apply At.app | with_reducible apply At.app2)) ?_ | refine HLe.seg (by repeat (first | with_reducible exact AtS.here | with_reducible exact AtS.here2 | exact AtS.last | apply AtS.there | with_reducible apply AtS.app | with_reducible apply AtS.app2)) ?_ | exact HLe.last (by repeat (first | with_reducible exact AtS.here | with_reducible exact AtS.here2 | exact AtS.last | apply AtS.there | with_reducible apply AtS.app | with_reducible apply AtS.app2))))
      | exact VMid.mk (((T + 1 : Nat) : Int) + r) ⟨⟨r, hr, by rw [if_pos (by omega)]⟩, by omega, by omega⟩ (by repeat (first | exact trivial | refine ⟨rfl, ?_⟩)) (by unfold courseS cellsE courseV; repeat (first | exact HLe.nil | exact HLe.refl _ | refine HLe.nilv ?_ | (with_reducible refine HLe.seg ?_ ?_; (focus (repeat (first | with_reducible exact AtS.here | with_reducible exact AtS.here2 | exact AtS.last | apply AtS.there | with_reducible apply AtS.app | with_reducible apply AtS.app2)))) | refine HLe.cons (by repeat (first | exact At.here | apply At.there | with_reducible apply At.app | with_reducible apply At.app2)) ?_ | refine HLe.seg (by repeat (first | with_reducible exact AtS.here | with_reducible exact AtS.here2 | exact AtS.last | apply AtS.there | with_reducible apply AtS.app | with_reducible apply AtS.app2)) ?_ | exact HLe.last (by repeat (first | with_reducible exact AtS.here | with_reducible exact AtS.here2 | exact AtS.last | apply AtS.there | with_reducible apply AtS.app | with_reducible apply AtS.app2))))
      | skip
    rintro x ⟨hx, hx1, hx2⟩
    unfold courseS courseV cellsE
    repeat' (conv => whnf); first
      | (refine VLd.is ?_; refine VLd.is ?_; refine VLd.atS (i * 12 + 0) 8 ?_; refine VLd.mk (.vec (by repeat (first | exact At.here | apply At.there | with_reducible apply At.app | with_reducible apply At.app2)) (sub_flat (f := ccV) (k := 12) (o := 0) (s := 8) (vs := parV c.p) (fun _ => rfl) (set_get (y := (⟨c.p, s', T + 1, x⟩ : CellM)) hlt) rfl)) ?_)
      | (refine VLd.is ?_; refine VLd.is ?_; refine VLd.atS (i * 12 + 8) 2 ?_; refine VLd.mk (.vec (by repeat (first | exact At.here | apply At.there | with_reducible apply At.app | with_reducible apply At.app2)) (sub_flat (f := ccV) (k := 12) (o := 8) (s := 2) (vs := staV s') (fun _ => rfl) (set_get (y := (⟨c.p, s', T + 1, x⟩ : CellM)) hlt) rfl)) ?_)
      | (refine VLd.is ?_; refine VLd.is ?_; refine VLd.atS (i * 12 + 10) 1 ?_; refine VLd.mk (.vec (by repeat (first | exact At.here | apply At.there | with_reducible apply At.app | with_reducible apply At.app2)) (sub_flat (f := ccV) (k := 12) (o := 10) (s := 1) (vs := [.int .i64 ((T + 1 : Nat) : Int)]) (fun _ => rfl) (set_get (y := (⟨c.p, s', T + 1, x⟩ : CellM)) hlt) rfl)) ?_)
      | (refine VLd.is ?_; refine VLd.is ?_; refine VLd.atS (i * 12 + 11) 1 ?_; refine VLd.mk (.vec (by repeat (first | exact At.here | apply At.there | with_reducible apply At.app | with_reducible apply At.app2)) (sub_flat (f := ccV) (k := 12) (o := 11) (s := 1) (vs := [.int .i64 x]) (fun _ => rfl) (set_get (y := (⟨c.p, s', T + 1, x⟩ : CellM)) hlt) rfl)) ?_)
      | (refine VLd.is ?_; refine VLd.is ?_; refine VLd.atS (i * 12 + 2) 1 ?_; refine VLd.mk (.vec (by repeat (first | exact At.here | apply At.there | with_reducible apply At.app | with_reducible apply At.app2)) (sub_flat (f := ccV) (k := 12) (o := 2) (s := 1) (vs := [.int .i64 (Par.bias c.p)]) (fun _ => rfl) (set_get (y := (⟨c.p, s', T + 1, x⟩ : CellM)) hlt) rfl)) ?_)
      | (refine VLd.is ?_; refine VLd.is ?_; refine VLd.atS (i * 12 + 3) 1 ?_; refine VLd.mk (.vec (by repeat (first | exact At.here | apply At.there | with_reducible apply At.app | with_reducible apply At.app2)) (sub_flat (f := ccV) (k := 12) (o := 3) (s := 1) (vs := [.int .i64 (Par.th c.p)]) (fun _ => rfl) (set_get (y := (⟨c.p, s', T + 1, x⟩ : CellM)) hlt) rfl)) ?_)
      | (refine VLd.is ?_; refine VLd.is ?_; refine VLd.atS (i * 12 + 8) 1 ?_; refine VLd.mk (.vec (by repeat (first | exact At.here | apply At.there | with_reducible apply At.app | with_reducible apply At.app2)) (sub_flat (f := ccV) (k := 12) (o := 8) (s := 1) (vs := [.int .i64 (Sta.v s')]) (fun _ => rfl) (set_get (y := (⟨c.p, s', T + 1, x⟩ : CellM)) hlt) rfl)) ?_)
      | (refine VCall.isF 69 ?_; refine push_call bc _ vw (.map (some bd)) p cap A ⟨x, i⟩ hA hAl (by repeat (first | exact Take.nil | (with_reducible apply Take.seg; (focus (repeat (first | with_reducible exact AtS.here | with_reducible exact AtS.here2 | exact AtS.last | apply AtS.there | with_reducible apply AtS.app | with_reducible apply AtS.app2)))) | (apply Take.cons; (focus (repeat (first | exact At.here | apply At.there | with_reducible apply At.app | with_reducible apply At.app2)))) | (apply Take.last; (focus (repeat (first | with_reducible exact AtS.here | with_reducible exact AtS.here2 | exact AtS.last | apply AtS.there | with_reducible apply AtS.app | with_reducible apply AtS.app2)))))) fun g cap' A' hA' hAp => ?_)
      | (refine VSeq.is ?_; refine VSeq.go ?_)
      | (refine VB.is ?_; refine VB.split (fun _ => ?_) (fun h => absurd (by omega) h))
      | (refine VB.is ?_; refine VB.split (fun h => absurd h (by omega)) (fun _ => ?_))
      | (refine VB.is ?_; refine VB.split (fun _ => ?_) (fun _ => ?_))
      | (refine boolE_split (fun h => ?_) (fun h => ?_) <;> subst h)
      | (refine VLd.is ?_; refine VLd.mk (.row (by repeat (first | exact At.here | apply At.there | with_reducible apply At.app | with_reducible apply At.app2)) (by rfl)) ?_)
      | (refine VSt.is ?_; refine VSt.row (by repeat (first | exact At.here | apply At.there | with_reducible apply At.app | with_reducible apply At.app2)) (by rfl) (by first | rfl | assumption) ?_)
      | (refine VNew.is ?_; refine VNew.mk fun _ => ?_)
      | (refine VAr.is ?_; refine VAr.i64 (by omega) (by omega) ?_)
      | (refine VIx.is ?_; refine VIx.mk rfl (by omega) (by omega) ?_)
      | (refine VKeep.is ?_; refine VKeep.mk (by repeat (first | exact HLe.nil | exact HLe.refl _ | refine HLe.nilv ?_ | (with_reducible refine HLe.seg ?_ ?_; (focus (repeat (first | with_reducible exact AtS.here | with_reducible exact AtS.here2 | exact AtS.last | apply AtS.there | with_reducible apply AtS.app | with_reducible apply AtS.app2)))) | refine HLe.cons (by repeat (first | exact At.here | apply At.there | with_reducible apply At.app | with_reducible apply At.app2)) ?_ | refine HLe.seg (by repeat (first | with_reducible exact AtS.here | with_reducible exact AtS.here2 | exact AtS.last | apply AtS.there | with_reducible apply AtS.app | with_reducible apply AtS.app2)) ?_ | exact HLe.last (by repeat (first | with_reducible exact AtS.here | with_reducible exact AtS.here2 | exact AtS.last | apply AtS.there | with_reducible apply AtS.app | with_reducible apply AtS.app2)))) ?_)
      | (refine VHs.is ?_; refine VHs.mk _ (HLe.refl _) ?_)
      | (refine VQ.is ?_; refine VQ.pos (by omega) (by omega) (by omega) ?_)
      | (refine VM.is ?_; refine VM.pos (by omega) (by omega) ?_)
      | (refine And.intro ?_ ?_)
    all_goals (conv => whnf)
    · exact ⟨fun w' hw' => ⟨⟨fb, cs.set i ⟨c.p, s', T + 1, x⟩, A', some ⟨g, 0, none⟩, cap'⟩, rfl, ⟨.inr ⟨hns0, ⟨c.p, s', T + 1, x⟩, rfl, rfl, by rw [hqq, hwv, htk], hx, rfl, .inr ⟨by dsimp only; omega, hA', hAp⟩⟩, fun _ => ⟨g, rfl⟩⟩, hw'.le (by unfold heapS courseV; repeat (first | exact HLe.nil | exact HLe.refl _ | refine HLe.nilv ?_ | (with_reducible refine HLe.seg ?_ ?_; (focus (repeat (first | with_reducible exact AtS.here | with_reducible exact AtS.here2 | exact AtS.last | apply AtS.there | with_reducible apply AtS.app | with_reducible apply AtS.app2)))) | refine HLe.cons (by repeat (first | exact At.here | apply At.there | with_reducible apply At.app | with_reducible apply At.app2)) ?_ | refine HLe.seg (by repeat (first | with_reducible exact AtS.here | with_reducible exact AtS.here2 | exact AtS.last | apply AtS.there | with_reducible apply AtS.app | with_reducible apply AtS.app2)) ?_ | exact HLe.last (by repeat (first | with_reducible exact AtS.here | with_reducible exact AtS.here2 | exact AtS.last | apply AtS.there | with_reducible apply AtS.app | with_reducible apply AtS.app2))))⟩⟩
    · exact ⟨fun w' hw' => ⟨⟨fb, cs.set i ⟨c.p, s', T + 1, x⟩, A, p, cap⟩, rfl, ⟨.inr ⟨hns0, ⟨c.p, s', T + 1, x⟩, rfl, rfl, by rw [hqq, hwv, htk], hx, rfl, .inl ⟨by dsimp only; omega, rfl⟩⟩, hpp⟩, hw'.le (by repeat (first | exact HLe.nil | exact HLe.refl _ | refine HLe.nilv ?_ | (with_reducible refine HLe.seg ?_ ?_; (focus (repeat (first | with_reducible exact AtS.here | with_reducible exact AtS.here2 | exact AtS.last | apply AtS.there | with_reducible apply AtS.app | with_reducible apply AtS.app2)))) | refine HLe.cons (by repeat (first | exact At.here | apply At.there | with_reducible apply At.app | with_reducible apply At.app2)) ?_ | refine HLe.seg (by repeat (first | with_reducible exact AtS.here | with_reducible exact AtS.here2 | exact AtS.last | apply AtS.there | with_reducible apply AtS.app | with_reducible apply AtS.app2)) ?_ | exact HLe.last (by repeat (first | with_reducible exact AtS.here | with_reducible exact AtS.here2 | exact AtS.last | apply AtS.there | with_reducible apply AtS.app | with_reducible apply AtS.app2))))⟩⟩

end Go.Proofs
