/- Drv1: the heap of alarms, walked. -/
import Derived.Test.YtbnipfgbfnhibaaNet2
import Derived.Test.YtbnipfgbfnhibaaGh
import Derived.Test.YtbnipfgbfnhibaaKit
set_option linter.unusedVariables false
set_option linter.unusedSimpArgs false
namespace Go.Proofs
open Go Go.Vx Go.Gm

theorem before_any (a b : Evt) (w : World) :
    Calls Try.prog 67 #[.agg (evtV a).toArray, .agg (evtV b).toArray] w fun e w' => ∃ r : Bool, e = .returned (.bool r) ∧ (r = true ↔ evLt a b) ∧ St w [] [] w' := by
  refine enter (C := Try.cx) (args := [_, _]) (F := Try.fx67) Try.func67 rfl rfl rfl Try.ok67 (St.start w []) ?_
  repeat' (conv => whnf); first
    | (refine VSeq.is ?_; refine VSeq.go ?_)
    | (refine VB.is ?_; refine VB.split (fun _ => ?_) (fun h => absurd (by omega) h))
    | (refine VB.is ?_; refine VB.split (fun h => absurd h (by omega)) (fun _ => ?_))
    | (refine VB.is ?_; refine VB.split (fun _ => ?_) (fun _ => ?_))
    | (refine boolE_split (fun h => ?_) (fun h => ?_) <;> subst h)
    | (refine VLd.is ?_; refine VLd.mk (.row (by repeat (first | exact At.here | apply At.there | with_reducible apply At.app | with_reducible apply At.app2)) (by rfl)) ?_)
    | (refine VSt.is ?_; refine VSt.row (by repeat (first | exact At.here | apply At.there | with_reducible apply At.app | with_reducible apply At.app2)) (by rfl) (by first | rfl | assumption) ?_)
    | (refine VNew.is ?_; refine VNew.mk fun _ => ?_)
    | (refine VAr.is ?_; refine VAr.i64 (by omega) (by omega) ?_)
    | (refine VIx.is ?_; refine VIx.mk rfl (by omega) (by omega) ?_)
    | (refine VKeep.is ?_; refine VKeep.mk (by repeat (first | exact HLe.nil | exact HLe.refl _ | refine HLe.nilv ?_ | (with_reducible refine HLe.seg ?_ ?_; (focus (repeat (first | with_reducible exact AtS.here | with_reducible exact AtS.here2 | exact AtS.last | apply AtS.there | with_reducible apply AtS.app | with_reducible apply AtS.app2)))) | refine HLe.cons (by repeat (first | exact At.here | apply At.there | with_reducible apply At.app | with_reducible apply At.app2)) ?_ | refine HLe.seg (by repeat (first | with_reducible exact AtS.here | with_reducible exact AtS.here2 | exact AtS.last | apply AtS.there | with_reducible apply AtS.app | with_reducible apply AtS.app2)) ?_ | exact HLe.last (by repeat (first | with_reducible exact AtS.here | with_reducible exact AtS.here2 | exact AtS.last | apply AtS.there | with_reducible apply AtS.app | with_reducible apply AtS.app2)))) ?_)
    | (refine VHs.is ?_; refine VHs.mk _ (HLe.refl _) ?_)
    | (refine VQ.is ?_; refine VQ.pos (by omega) (by omega) (by omega) ?_)
    | (refine VM.is ?_; refine VM.pos (by omega) (by omega) ?_)
    | (refine And.intro ?_ ?_)
  all_goals (conv => whnf)
  all_goals exact ⟨fun w' hw' => ⟨_, rfl, by unfold evLt; simp only [true_iff, false_iff, reduceCtorEq]; omega, hw'.le .nil⟩⟩

def beforeV : Value := .func (.func 67) #[] #[]

/-- A course, as it lies. -/
def courseV (c w d : Value) (p : Option Addr) (n cap : Nat) : List Value := [c, w, d, .slice p n cap, beforeV]

def heapS (bc : Nat) (c w d : Value) (p : Option Addr) (cap : Nat) (A : List Evt) : HP :=
  [.row bc 127 (courseV c w d p A.length cap), .vec p A.length cap 129 2 (flat evtV A)]

theorem push_any (bc : Nat) (vc vw vd : Value) (p : Option Addr) (cap : Nat) (A : List Evt) (x : Evt) (hA : HeapOk A) (hl : A.length ≤ 4398046511104) (w : World) (hs : St w (ids (heapS bc vc vw vd p cap A)) (heapS bc vc vw vd p cap A) w) :
    Calls Try.prog 69 #[.pointer (some ⟨bc, 3, none⟩), .agg (evtV x).toArray] w fun e w' => ∃ y : Option Addr × Nat × List Evt, e = .returned (.tuple #[]) ∧ (HeapOk y.2.2 ∧ y.2.2.Perm (A ++ [x]) ∧ ∃ g, y.1 = some ⟨g, 0, none⟩) ∧
      St w (ids (heapS bc vc vw vd p cap A)) (heapS bc vc vw vd y.1 y.2.1 y.2.2) w' := by
  obtain ⟨Mx, hMx⟩ : ∃ Mx, ids (heapS bc vc vw vd p cap A) = Mx := ⟨_, rfl⟩
  rw [hMx] at hs ⊢
  unfold heapS courseV at hs
  refine enter (C := Try.cx) (args := [_, _]) (F := Try.fx69) Try.func69 rfl rfl rfl Try.ok69 hs ?_
  repeat' (conv => whnf); first
    | (refine VAp.is ?_; refine VAp.own (by repeat (first | exact At.here | apply At.there | with_reducible apply At.app | with_reducible apply At.app2)) (.at_ (.vec (by repeat (first | exact At.here | apply At.there | with_reducible apply At.app | with_reducible apply At.app2)) rfl)) (by simp [Value.oneCell']) (by (try dsimp only); omega) (by simp only [maxLen]; omega) fun p' cap' hp' => ?_)
    | (refine VSeq.is ?_; refine VSeq.go ?_)
    | (refine VB.is ?_; refine VB.split (fun _ => ?_) (fun h => absurd (by omega) h))
    | (refine VB.is ?_; refine VB.split (fun h => absurd h (by omega)) (fun _ => ?_))
    | (refine VB.is ?_; refine VB.split (fun _ => ?_) (fun _ => ?_))
    | (refine boolE_split (fun h => ?_) (fun h => ?_) <;> subst h)
    | (refine VLd.is ?_; refine VLd.mk (.row (by repeat (first | exact At.here | apply At.there | with_reducible apply At.app | with_reducible apply At.app2)) (by rfl)) ?_)
    | (refine VSt.is ?_; refine VSt.row (by repeat (first | exact At.here | apply At.there | with_reducible apply At.app | with_reducible apply At.app2)) (by rfl) (by first | rfl | assumption) ?_)
    | (refine VNew.is ?_; refine VNew.mk fun _ => ?_)
    | (refine VAr.is ?_; refine VAr.i64 (by omega) (by omega) ?_)
    | (refine VIx.is ?_; refine VIx.mk rfl (by omega) (by omega) ?_)
    | (refine VKeep.is ?_; refine VKeep.mk (by repeat (first | exact HLe.nil | exact HLe.refl _ | refine HLe.nilv ?_ | (with_reducible refine HLe.seg ?_ ?_; (focus (repeat (first | with_reducible exact AtS.here | with_reducible exact AtS.here2 | exact AtS.last | apply AtS.there | with_reducible apply AtS.app | with_reducible apply AtS.app2)))) | refine HLe.cons (by repeat (first | exact At.here | apply At.there | with_reducible apply At.app | with_reducible apply At.app2)) ?_ | refine HLe.seg (by repeat (first | with_reducible exact AtS.here | with_reducible exact AtS.here2 | exact AtS.last | apply AtS.there | with_reducible apply AtS.app | with_reducible apply AtS.app2)) ?_ | exact HLe.last (by repeat (first | with_reducible exact AtS.here | with_reducible exact AtS.here2 | exact AtS.last | apply AtS.there | with_reducible apply AtS.app | with_reducible apply AtS.app2)))) ?_)
    | (refine VHs.is ?_; refine VHs.mk _ (HLe.refl _) ?_)
    | (refine VQ.is ?_; refine VQ.pos (by omega) (by omega) (by omega) ?_)
    | (refine VM.is ?_; refine VM.pos (by omega) (by omega) ?_)
    | (refine And.intro ?_ ?_)
  all_goals (conv => whnf)
  obtain ⟨gp, hgp⟩ := hp' (by omega)
  subst hgp
  have e1 : ((A.length + 1 : Nat) : Int) - 1 = (A.length : Int) := by omega
  simp only [e1]
  refine VLoop.kr (α := List Evt × Nat) [1000000, 0] rfl (fun y => y.1.length = A.length + 1 ∧ y.2 < y.1.length ∧ y.1.Perm (A ++ [x]) ∧ HeapUp y.1 y.2) (fun y K => (4, .int .i64 (y.2 : Int)) :: K)
    (fun y => [.row bc 127 [vc, vw, vd, .slice (some ⟨gp, 0, none⟩) (A.length + 1) cap', beforeV], .vec (some ⟨gp, 0, none⟩) (A.length + 1) cap' 129 2 (flat evtV y.1)])
    (fun y => y.2) (A ++ [x], A.length) ⟨by simp, by simp, .refl _, HeapUp.start x hA⟩ (by repeat (first | exact trivial | refine ⟨rfl, ?_⟩)) (by dsimp only; rw [flat_append]; repeat (first | exact HLe.nil | exact HLe.refl _ | refine HLe.nilv ?_ | (with_reducible refine HLe.seg ?_ ?_; (focus (repeat (first | with_reducible exact AtS.here | with_reducible exact AtS.here2 | exact AtS.last | apply AtS.there | with_reducible apply AtS.app | with_reducible apply AtS.app2)))) | refine HLe.cons (by repeat (first | exact At.here | apply At.there | with_reducible apply At.app | with_reducible apply At.app2)) ?_ | refine HLe.seg (by repeat (first | with_reducible exact AtS.here | with_reducible exact AtS.here2 | exact AtS.last | apply AtS.there | with_reducible apply AtS.app | with_reducible apply AtS.app2)) ?_ | exact HLe.last (by repeat (first | with_reducible exact AtS.here | with_reducible exact AtS.here2 | exact AtS.last | apply AtS.there | with_reducible apply AtS.app | with_reducible apply AtS.app2)))) ?_
  rintro ⟨B, j⟩ ⟨hBl, hj, hBp, hB⟩
  dsimp only at *
  obtain ⟨b, hb⟩ : ∃ b, B[j]? = some b := ⟨B[j], List.getElem?_eq_getElem _⟩
  rcases Nat.eq_zero_or_pos j with h0 | h0
  · have hok : HeapOk B := hB.done (fun a b h => by omega)
    repeat' (conv => whnf); first
      | (refine VSeq.is ?_; refine VSeq.go ?_)
      | (refine VB.is ?_; refine VB.split (fun _ => ?_) (fun h => absurd (by omega) h))
      | (refine VB.is ?_; refine VB.split (fun h => absurd h (by omega)) (fun _ => ?_))
      | (refine VB.is ?_; refine VB.split (fun _ => ?_) (fun _ => ?_))
      | (refine boolE_split (fun h => ?_) (fun h => ?_) <;> subst h)
      | (refine VLd.is ?_; refine VLd.mk (.row (by repeat (first | exact At.here | apply At.there | with_reducible apply At.app | with_reducible apply At.app2)) (by rfl)) ?_)
      | (refine VSt.is ?_; refine VSt.row (by repeat (first | exact At.here | apply At.there | with_reducible apply At.app | with_reducible apply At.app2)) (by rfl) (by first | rfl | assumption) ?_)
      | (refine VNew.is ?_; refine VNew.mk fun _ => ?_)
      | (refine VAr.is ?_; refine VAr.i64 (by omega) (by omega) ?_)
      | (refine VIx.is ?_; refine VIx.mk rfl (by omega) (by omega) ?_)
      | (refine VKeep.is ?_; refine VKeep.mk (by repeat (first | exact HLe.nil | exact HLe.refl _ | refine HLe.nilv ?_ | (with_reducible refine HLe.seg ?_ ?_; (focus (repeat (first | with_reducible exact AtS.here | with_reducible exact AtS.here2 | exact AtS.last | apply AtS.there | with_reducible apply AtS.app | with_reducible apply AtS.app2)))) | refine HLe.cons (by repeat (first | exact At.here | apply At.there | with_reducible apply At.app | with_reducible apply At.app2)) ?_ | refine HLe.seg (by repeat (first | with_reducible exact AtS.here | with_reducible exact AtS.here2 | exact AtS.last | apply AtS.there | with_reducible apply AtS.app | with_reducible apply AtS.app2)) ?_ | exact HLe.last (by repeat (first | with_reducible exact AtS.here | with_reducible exact AtS.here2 | exact AtS.last | apply AtS.there | with_reducible apply AtS.app | with_reducible apply AtS.app2)))) ?_)
      | (refine VHs.is ?_; refine VHs.mk _ (HLe.refl _) ?_)
      | (refine VQ.is ?_; refine VQ.pos (by omega) (by omega) (by omega) ?_)
      | (refine VM.is ?_; refine VM.pos (by omega) (by omega) ?_)
      | (refine And.intro ?_ ?_)
    all_goals (conv => whnf)
    exact ⟨fun w' hw' => ⟨(some ⟨gp, 0, none⟩, cap', B), rfl, ⟨hok, hBp, gp, rfl⟩, by unfold heapS courseV; dsimp only; rw [hBl]; exact hw'.le (by repeat (first | exact HLe.nil | exact HLe.refl _ | refine HLe.nilv ?_ | (with_reducible refine HLe.seg ?_ ?_; (focus (repeat (first | with_reducible exact AtS.here | with_reducible exact AtS.here2 | exact AtS.last | apply AtS.there | with_reducible apply AtS.app | with_reducible apply AtS.app2)))) | refine HLe.cons (by repeat (first | exact At.here | apply At.there | with_reducible apply At.app | with_reducible apply At.app2)) ?_ | refine HLe.seg (by repeat (first | with_reducible exact AtS.here | with_reducible exact AtS.here2 | exact AtS.last | apply AtS.there | with_reducible apply AtS.app | with_reducible apply AtS.app2)) ?_ | exact HLe.last (by repeat (first | with_reducible exact AtS.here | with_reducible exact AtS.here2 | exact AtS.last | apply AtS.there | with_reducible apply AtS.app | with_reducible apply AtS.app2))))⟩⟩
  · obtain ⟨a, ha⟩ : ∃ a, B[(j - 1) / 2]? = some a := ⟨B[(j - 1) / 2]'(by omega), List.getElem?_eq_getElem _⟩
    have ha2 : (B.set j a)[(j - 1) / 2]? = some a := by rw [List.getElem?_set, if_neg (by omega)]; exact ha
    have hpm := swap_perm hb ha
    repeat' (conv => whnf); first
      | (refine VIx.is ?_; refine VIx.mk rfl (by omega) (by omega) ?_)
      | (refine VLd.is ?_; refine VLd.mk (Rd.cast (.vec (by repeat (first | exact At.here | apply At.there | with_reducible apply At.app | with_reducible apply At.app2)) (sub_flat0 (f := evtV) (k := 2) (fun _ => rfl) hb rfl)) (by first | omega | (dsimp only; omega) | rfl)) ?_)
      | (refine VLd.is ?_; refine VLd.mk (Rd.cast (.vec (by repeat (first | exact At.here | apply At.there | with_reducible apply At.app | with_reducible apply At.app2)) (sub_flat0 (f := evtV) (k := 2) (fun _ => rfl) ha rfl)) (by first | omega | (dsimp only; omega) | rfl)) ?_)
      | (refine VCall.isF 67 ?_; refine VCall.bool (before_any b a) ?_)
      | (refine VSt.is ?_; refine VSt.cast (off' := j * 2) (by first | omega | (dsimp only; omega)) (VSt.vec (by repeat (first | exact At.here | apply At.there | with_reducible apply At.app | with_reducible apply At.app2)) (upd_flat0 (f := evtV) (k := 2) (y := a) (fun _ => rfl) hb rfl) rfl ?_))
      | (refine VSt.is ?_; refine VSt.cast (off' := (j - 1) / 2 * 2) (by first | omega | (dsimp only; omega)) (VSt.vec (by repeat (first | exact At.here | apply At.there | with_reducible apply At.app | with_reducible apply At.app2)) (upd_flat0 (f := evtV) (k := 2) (y := b) (fun _ => rfl) ha2 rfl) rfl ?_))
      | (refine VSeq.is ?_; refine VSeq.go ?_)
      | (refine VB.is ?_; refine VB.split (fun _ => ?_) (fun h => absurd (by omega) h))
      | (refine VB.is ?_; refine VB.split (fun h => absurd h (by omega)) (fun _ => ?_))
      | (refine VB.is ?_; refine VB.split (fun _ => ?_) (fun _ => ?_))
      | (refine boolE_split (fun h => ?_) (fun h => ?_) <;> subst h)
      | (refine VLd.is ?_; refine VLd.mk (.row (by repeat (first | exact At.here | apply At.there | with_reducible apply At.app | with_reducible apply At.app2)) (by rfl)) ?_)
      | (refine VSt.is ?_; refine VSt.row (by repeat (first | exact At.here | apply At.there | with_reducible apply At.app | with_reducible apply At.app2)) (by rfl) (by first | rfl | assumption) ?_)
      | (refine VNew.is ?_; refine VNew.mk fun _ => ?_)
      | (refine VAr.is ?_; refine VAr.i64 (by omega) (by omega) ?_)
      | (refine VIx.is ?_; refine VIx.mk rfl (by omega) (by omega) ?_)
      | (refine VKeep.is ?_; refine VKeep.mk (by repeat (first | exact HLe.nil | exact HLe.refl _ | refine HLe.nilv ?_ | (with_reducible refine HLe.seg ?_ ?_; (focus (repeat (first | with_reducible exact AtS.here | with_reducible exact AtS.here2 | exact AtS.last | apply AtS.there | with_reducible apply AtS.app | with_reducible apply AtS.app2)))) | refine HLe.cons (by repeat (first | exact At.here | apply At.there | with_reducible apply At.app | with_reducible apply At.app2)) ?_ | refine HLe.seg (by repeat (first | with_reducible exact AtS.here | with_reducible exact AtS.here2 | exact AtS.last | apply AtS.there | with_reducible apply AtS.app | with_reducible apply AtS.app2)) ?_ | exact HLe.last (by repeat (first | with_reducible exact AtS.here | with_reducible exact AtS.here2 | exact AtS.last | apply AtS.there | with_reducible apply AtS.app | with_reducible apply AtS.app2)))) ?_)
      | (refine VHs.is ?_; refine VHs.mk _ (HLe.refl _) ?_)
      | (refine VQ.is ?_; refine VQ.pos (by omega) (by omega) (by omega) ?_)
      | (refine VM.is ?_; refine VM.pos (by omega) (by omega) ?_)
      | (refine And.intro ?_ ?_)
    all_goals (conv => whnf)
    · have e2 : ((j : Int) - 1) / 2 = (((j - 1) / 2 : Nat) : Int) := by omega
      rw [e2]
      exact VNext.mk ((B.set j a).set ((j - 1) / 2) b, (j - 1) / 2) ⟨by simpa using hBl, by simp; omega, hpm.trans hBp, hB.step h0 ha hb ‹_›⟩ (by dsimp only; omega) (by repeat (first | exact trivial | refine ⟨rfl, ?_⟩)) (by repeat (first | exact HLe.nil | exact HLe.refl _ | refine HLe.nilv ?_ | (with_reducible refine HLe.seg ?_ ?_; (focus (repeat (first | with_reducible exact AtS.here | with_reducible exact AtS.here2 | exact AtS.last | apply AtS.there | with_reducible apply AtS.app | with_reducible apply AtS.app2)))) | refine HLe.cons (by repeat (first | exact At.here | apply At.there | with_reducible apply At.app | with_reducible apply At.app2)) ?_ | refine HLe.seg (by repeat (first | with_reducible exact AtS.here | with_reducible exact AtS.here2 | exact AtS.last | apply AtS.there | with_reducible apply AtS.app | with_reducible apply AtS.app2)) ?_ | exact HLe.last (by repeat (first | with_reducible exact AtS.here | with_reducible exact AtS.here2 | exact AtS.last | apply AtS.there | with_reducible apply AtS.app | with_reducible apply AtS.app2))))
    · have hok : HeapOk B := hB.done (fun a' b' _ h1 h2 => by rw [ha] at h1; rw [hb] at h2; cases h1; cases h2; exact ‹¬ evLt b a›)
      exact ⟨fun w' hw' => ⟨(some ⟨gp, 0, none⟩, cap', B), rfl, ⟨hok, hBp, gp, rfl⟩, by unfold heapS courseV; dsimp only; rw [hBl]; exact hw'.le (by repeat (first | exact HLe.nil | exact HLe.refl _ | refine HLe.nilv ?_ | (with_reducible refine HLe.seg ?_ ?_; (focus (repeat (first | with_reducible exact AtS.here | with_reducible exact AtS.here2 | exact AtS.last | apply AtS.there | with_reducible apply AtS.app | with_reducible apply AtS.app2)))) | refine HLe.cons (by repeat (first | exact At.here | apply At.there | with_reducible apply At.app | with_reducible apply At.app2)) ?_ | refine HLe.seg (by repeat (first | with_reducible exact AtS.here | with_reducible exact AtS.here2 | exact AtS.last | apply AtS.there | with_reducible apply AtS.app | with_reducible apply AtS.app2)) ?_ | exact HLe.last (by repeat (first | with_reducible exact AtS.here | with_reducible exact AtS.here2 | exact AtS.last | apply AtS.there | with_reducible apply AtS.app | with_reducible apply AtS.app2))))⟩⟩

theorem pop_any (bc : Nat) (vc vw vd : Value) (gp : Nat) (cap : Nat) (A : List Evt) (x : Evt) (hA : HeapOk A) (hx : A[0]? = some x) (hl : A.length ≤ 4398046511104) (w : World) (hs : St w (ids (heapS bc vc vw vd (some ⟨gp, 0, none⟩) cap A)) (heapS bc vc vw vd (some ⟨gp, 0, none⟩) cap A) w) (hcap : A.length ≤ cap) :
    Calls Try.prog 70 #[.pointer (some ⟨bc, 3, none⟩)] w fun e w' => ∃ y : List Evt, e = .returned (.agg (evtV x).toArray) ∧ (HeapOk y ∧ A.Perm (x :: y)) ∧
      St w (ids (heapS bc vc vw vd (some ⟨gp, 0, none⟩) cap A)) (heapS bc vc vw vd (some ⟨gp, 0, none⟩) cap y) w' := by
  obtain ⟨Mx, hMx⟩ : ∃ Mx, ids (heapS bc vc vw vd (some ⟨gp, 0, none⟩) cap A) = Mx := ⟨_, rfl⟩
  rw [hMx] at hs ⊢
  unfold heapS courseV at hs
  have hpos : 0 < A.length := (List.getElem?_eq_some_iff.1 hx).1
  obtain ⟨n, hn⟩ : ∃ n, A.length = n + 1 := ⟨A.length - 1, by omega⟩
  obtain ⟨z, hz⟩ : ∃ z, A[n]? = some z := ⟨A[n], List.getElem?_eq_getElem _⟩
  have hpp := pop_perm hn hx hz
  have e1 : ((A.length : Nat) : Int) - 1 = (n : Int) := by omega
  refine enter (C := Try.cx) (args := [_]) (F := Try.fx70) Try.func70 rfl rfl rfl Try.ok70 hs ?_
  repeat' (conv => whnf); first
    | (refine VIx.is ?_; refine VIx.mk rfl (by omega) (by omega) ?_)
    | (refine VLd.is ?_; refine VLd.mk (Rd.cast (.vec (by repeat (first | exact At.here | apply At.there | with_reducible apply At.app | with_reducible apply At.app2)) (sub_flat0 (f := evtV) (k := 2) (fun _ => rfl) hx rfl)) (by first | omega | (dsimp only; omega) | rfl)) ?_)
    | (refine VLd.is ?_; refine VLd.mk (Rd.cast (.vec (by repeat (first | exact At.here | apply At.there | with_reducible apply At.app | with_reducible apply At.app2)) (sub_flat0 (f := evtV) (k := 2) (fun _ => rfl) hz rfl)) (by first | omega | (dsimp only; omega) | rfl)) ?_)
    | (refine VAr.is ?_; refine VAr.is ?_; refine VAr.i64 (by omega) (by omega) ?_; rw [e1])
    | (refine VSt.is ?_; refine VSt.cast (off' := 0 * 2) (by first | omega | (dsimp only; omega)) (VSt.vec (by repeat (first | exact At.here | apply At.there | with_reducible apply At.app | with_reducible apply At.app2)) (upd_flat0 (f := evtV) (k := 2) (y := z) (fun _ => rfl) hx rfl) rfl ?_))
    | (refine VSl.is ?_; refine VSl.cut0 (by omega) ?_)
    | (refine VSeq.is ?_; refine VSeq.go ?_)
    | (refine VB.is ?_; refine VB.split (fun _ => ?_) (fun h => absurd (by omega) h))
    | (refine VB.is ?_; refine VB.split (fun h => absurd h (by omega)) (fun _ => ?_))
    | (refine VB.is ?_; refine VB.split (fun _ => ?_) (fun _ => ?_))
    | (refine boolE_split (fun h => ?_) (fun h => ?_) <;> subst h)
    | (refine VLd.is ?_; refine VLd.mk (.row (by repeat (first | exact At.here | apply At.there | with_reducible apply At.app | with_reducible apply At.app2)) (by rfl)) ?_)
    | (refine VSt.is ?_; refine VSt.row (by repeat (first | exact At.here | apply At.there | with_reducible apply At.app | with_reducible apply At.app2)) (by rfl) (by first | rfl | assumption) ?_)
    | (refine VNew.is ?_; refine VNew.mk fun _ => ?_)
    | (refine VAr.is ?_; refine VAr.i64 (by omega) (by omega) ?_)
    | (refine VIx.is ?_; refine VIx.mk rfl (by omega) (by omega) ?_)
    | (refine VKeep.is ?_; refine VKeep.mk (by repeat (first | exact HLe.nil | exact HLe.refl _ | refine HLe.nilv ?_ | (with_reducible refine HLe.seg ?_ ?_; (focus (repeat (first | with_reducible exact AtS.here | with_reducible exact AtS.here2 | exact AtS.last | apply AtS.there | with_reducible apply AtS.app | with_reducible apply AtS.app2)))) | refine HLe.cons (by repeat (first | exact At.here | apply At.there | with_reducible apply At.app | with_reducible apply At.app2)) ?_ | refine HLe.seg (by repeat (first | with_reducible exact AtS.here | with_reducible exact AtS.here2 | exact AtS.last | apply AtS.there | with_reducible apply AtS.app | with_reducible apply AtS.app2)) ?_ | exact HLe.last (by repeat (first | with_reducible exact AtS.here | with_reducible exact AtS.here2 | exact AtS.last | apply AtS.there | with_reducible apply AtS.app | with_reducible apply AtS.app2)))) ?_)
    | (refine VHs.is ?_; refine VHs.mk _ (HLe.refl _) ?_)
    | (refine VQ.is ?_; refine VQ.pos (by omega) (by omega) (by omega) ?_)
    | (refine VM.is ?_; refine VM.pos (by omega) (by omega) ?_)
    | (refine And.intro ?_ ?_)
  all_goals (conv => whnf)
  rename_i b2 b3
  refine VLoop.kr (α := List Evt × Nat) [1000000, 0, 2, 3, 4] rfl (fun y => y.1.length = n ∧ A.Perm (x :: y.1) ∧ HeapDn y.1 y.2 ∧ (y.2 < n ∨ (n = 0 ∧ y.2 = 0))) (fun y K => (5, .int .i64 (y.2 : Int)) :: K)
    (fun y => [.vec (some ⟨gp, 0, none⟩) n cap 129 2 (flat evtV y.1), .row bc 127 [vc, vw, vd, .slice (some ⟨gp, 0, none⟩) n cap, beforeV], .row b2 129 [.int .i64 0, .int .i64 0], .row b3 129 (evtV x)])
    (fun y => n - y.2) ((A.set 0 z).take n, 0) ⟨by simp; omega, hpp, HeapDn.start hA n, by omega⟩ (by repeat (first | exact trivial | refine ⟨rfl, ?_⟩)) (by refine HLe.shr (l := A.set 0 z) (by repeat (first | exact At.here | apply At.there | with_reducible apply At.app | with_reducible apply At.app2)) (fun _ => rfl) (by simp) (by omega) ?_; repeat (first | exact HLe.nil | exact HLe.refl _ | refine HLe.nilv ?_ | (with_reducible refine HLe.seg ?_ ?_; (focus (repeat (first | with_reducible exact AtS.here | with_reducible exact AtS.here2 | exact AtS.last | apply AtS.there | with_reducible apply AtS.app | with_reducible apply AtS.app2)))) | refine HLe.cons (by repeat (first | exact At.here | apply At.there | with_reducible apply At.app | with_reducible apply At.app2)) ?_ | refine HLe.seg (by repeat (first | with_reducible exact AtS.here | with_reducible exact AtS.here2 | exact AtS.last | apply AtS.there | with_reducible apply AtS.app | with_reducible apply AtS.app2)) ?_ | exact HLe.last (by repeat (first | with_reducible exact AtS.here | with_reducible exact AtS.here2 | exact AtS.last | apply AtS.there | with_reducible apply AtS.app | with_reducible apply AtS.app2)))) ?_
  rintro ⟨B, i⟩ ⟨hBl, hBp, hB, hi⟩
  dsimp only at *
  repeat' (conv => whnf); first
    | (refine VSeq.is ?_; refine VSeq.go ?_)
    | (refine VB.is ?_; refine VB.split (fun _ => ?_) (fun h => absurd (by omega) h))
    | (refine VB.is ?_; refine VB.split (fun h => absurd h (by omega)) (fun _ => ?_))
    | (refine VB.is ?_; refine VB.split (fun _ => ?_) (fun _ => ?_))
    | (refine boolE_split (fun h => ?_) (fun h => ?_) <;> subst h)
    | (refine VLd.is ?_; refine VLd.mk (.row (by repeat (first | exact At.here | apply At.there | with_reducible apply At.app | with_reducible apply At.app2)) (by rfl)) ?_)
    | (refine VSt.is ?_; refine VSt.row (by repeat (first | exact At.here | apply At.there | with_reducible apply At.app | with_reducible apply At.app2)) (by rfl) (by first | rfl | assumption) ?_)
    | (refine VNew.is ?_; refine VNew.mk fun _ => ?_)
    | (refine VAr.is ?_; refine VAr.i64 (by omega) (by omega) ?_)
    | (refine VIx.is ?_; refine VIx.mk rfl (by omega) (by omega) ?_)
    | (refine VKeep.is ?_; refine VKeep.mk (by repeat (first | exact HLe.nil | exact HLe.refl _ | refine HLe.nilv ?_ | (with_reducible refine HLe.seg ?_ ?_; (focus (repeat (first | with_reducible exact AtS.here | with_reducible exact AtS.here2 | exact AtS.last | apply AtS.there | with_reducible apply AtS.app | with_reducible apply AtS.app2)))) | refine HLe.cons (by repeat (first | exact At.here | apply At.there | with_reducible apply At.app | with_reducible apply At.app2)) ?_ | refine HLe.seg (by repeat (first | with_reducible exact AtS.here | with_reducible exact AtS.here2 | exact AtS.last | apply AtS.there | with_reducible apply AtS.app | with_reducible apply AtS.app2)) ?_ | exact HLe.last (by repeat (first | with_reducible exact AtS.here | with_reducible exact AtS.here2 | exact AtS.last | apply AtS.there | with_reducible apply AtS.app | with_reducible apply AtS.app2)))) ?_)
    | (refine VHs.is ?_; refine VHs.mk _ (HLe.refl _) ?_)
    | (refine VQ.is ?_; refine VQ.pos (by omega) (by omega) (by omega) ?_)
    | (refine VM.is ?_; refine VM.pos (by omega) (by omega) ?_)
    | (refine And.intro ?_ ?_)
  all_goals (conv => whnf)
  refine VLoop.kr (α := Nat × Nat) [1000000, 0, 2, 3, 4, 5] rfl
    (fun y => 2 * i + 1 ≤ y.2 ∧ y.2 ≤ 2 * i + 3 ∧ (y.1 = i ∨ (0 < y.1 ∧ (y.1 - 1) / 2 = i ∧ y.1 < n)) ∧ (∀ c a b, 2 * i + 1 ≤ c → c < y.2 → B[y.1]? = some a → B[c]? = some b → evLe a b) ∧ (∀ a b, B[y.1]? = some a → B[i]? = some b → evLe a b) )
    (fun y K => (6, .int .i64 (y.1 : Int)) :: (7, .int .i64 (y.2 : Int)) :: K)
    (fun y => [.vec (some ⟨gp, 0, none⟩) n cap 129 2 (flat evtV B), .row bc 127 [vc, vw, vd, .slice (some ⟨gp, 0, none⟩) n cap, beforeV], .row b2 129 [.int .i64 0, .int .i64 0], .row b3 129 (evtV x)])
    (fun y => 2 * i + 3 - y.2) (i, 2 * i + 1) ⟨by omega, by omega, .inl rfl, by intro c a b h1 h2; omega, fun a b h1 h2 => by rw [h1] at h2; cases h2; exact evLe_refl _⟩ (by simp only [Int.natCast_add, Int.natCast_mul]; repeat (first | exact trivial | refine ⟨rfl, ?_⟩)) (by repeat (first | exact HLe.nil | exact HLe.refl _ | refine HLe.nilv ?_ | (with_reducible refine HLe.seg ?_ ?_; (focus (repeat (first | with_reducible exact AtS.here | with_reducible exact AtS.here2 | exact AtS.last | apply AtS.there | with_reducible apply AtS.app | with_reducible apply AtS.app2)))) | refine HLe.cons (by repeat (first | exact At.here | apply At.there | with_reducible apply At.app | with_reducible apply At.app2)) ?_ | refine HLe.seg (by repeat (first | with_reducible exact AtS.here | with_reducible exact AtS.here2 | exact AtS.last | apply AtS.there | with_reducible apply AtS.app | with_reducible apply AtS.app2)) ?_ | exact HLe.last (by repeat (first | with_reducible exact AtS.here | with_reducible exact AtS.here2 | exact AtS.last | apply AtS.there | with_reducible apply AtS.app | with_reducible apply AtS.app2)))) ?_
  rintro ⟨l, k⟩ ⟨hk1, hk2, hl1, hmin, hli⟩
  dsimp only at *
  rcases Nat.lt_or_ge k (min (2 * i + 3) n) with hlt | hge
  · obtain ⟨bk, hbk⟩ : ∃ bk, B[k]? = some bk := ⟨B[k]'(by omega), List.getElem?_eq_getElem _⟩
    obtain ⟨bl, hbl⟩ : ∃ bl, B[l]? = some bl := ⟨B[l]'(by omega), List.getElem?_eq_getElem _⟩
    repeat' (conv => whnf); first
      | (refine VIx.is ?_; refine VIx.mk rfl (by omega) (by omega) ?_)
      | (refine VLd.is ?_; refine VLd.mk (Rd.cast (.vec (by repeat (first | exact At.here | apply At.there | with_reducible apply At.app | with_reducible apply At.app2)) (sub_flat0 (f := evtV) (k := 2) (fun _ => rfl) hbk rfl)) (by first | omega | (dsimp only; omega) | rfl)) ?_)
      | (refine VLd.is ?_; refine VLd.mk (Rd.cast (.vec (by repeat (first | exact At.here | apply At.there | with_reducible apply At.app | with_reducible apply At.app2)) (sub_flat0 (f := evtV) (k := 2) (fun _ => rfl) hbl rfl)) (by first | omega | (dsimp only; omega) | rfl)) ?_)
      | (refine VCall.isF 67 ?_; refine VCall.bool (before_any bk bl) ?_)
      | (refine VSeq.is ?_; refine VSeq.go ?_)
      | (refine VB.is ?_; refine VB.split (fun _ => ?_) (fun h => absurd (by omega) h))
      | (refine VB.is ?_; refine VB.split (fun h => absurd h (by omega)) (fun _ => ?_))
      | (refine VB.is ?_; refine VB.split (fun _ => ?_) (fun _ => ?_))
      | (refine boolE_split (fun h => ?_) (fun h => ?_) <;> subst h)
      | (refine VLd.is ?_; refine VLd.mk (.row (by repeat (first | exact At.here | apply At.there | with_reducible apply At.app | with_reducible apply At.app2)) (by rfl)) ?_)
      | (refine VSt.is ?_; refine VSt.row (by repeat (first | exact At.here | apply At.there | with_reducible apply At.app | with_reducible apply At.app2)) (by rfl) (by first | rfl | assumption) ?_)
      | (refine VNew.is ?_; refine VNew.mk fun _ => ?_)
      | (refine VAr.is ?_; refine VAr.i64 (by omega) (by omega) ?_)
      | (refine VIx.is ?_; refine VIx.mk rfl (by omega) (by omega) ?_)
      | (refine VKeep.is ?_; refine VKeep.mk (by repeat (first | exact HLe.nil | exact HLe.refl _ | refine HLe.nilv ?_ | (with_reducible refine HLe.seg ?_ ?_; (focus (repeat (first | with_reducible exact AtS.here | with_reducible exact AtS.here2 | exact AtS.last | apply AtS.there | with_reducible apply AtS.app | with_reducible apply AtS.app2)))) | refine HLe.cons (by repeat (first | exact At.here | apply At.there | with_reducible apply At.app | with_reducible apply At.app2)) ?_ | refine HLe.seg (by repeat (first | with_reducible exact AtS.here | with_reducible exact AtS.here2 | exact AtS.last | apply AtS.there | with_reducible apply AtS.app | with_reducible apply AtS.app2)) ?_ | exact HLe.last (by repeat (first | with_reducible exact AtS.here | with_reducible exact AtS.here2 | exact AtS.last | apply AtS.there | with_reducible apply AtS.app | with_reducible apply AtS.app2)))) ?_)
      | (refine VHs.is ?_; refine VHs.mk _ (HLe.refl _) ?_)
      | (refine VQ.is ?_; refine VQ.pos (by omega) (by omega) (by omega) ?_)
      | (refine VM.is ?_; refine VM.pos (by omega) (by omega) ?_)
      | (refine And.intro ?_ ?_)
    all_goals (conv => whnf)
    · have hle := evLe_of_lt ‹evLt bk bl›
      refine VNext.mk (k, k + 1) ⟨by dsimp only; omega, by dsimp only; omega, by dsimp only; omega, fun c a b h1 h2 h3 h4 => ?_, fun a b h1 h2 => ?_⟩ (by dsimp only; omega) (by repeat (first | exact trivial | refine ⟨rfl, ?_⟩)) (by repeat (first | exact HLe.nil | exact HLe.refl _ | refine HLe.nilv ?_ | (with_reducible refine HLe.seg ?_ ?_; (focus (repeat (first | with_reducible exact AtS.here | with_reducible exact AtS.here2 | exact AtS.last | apply AtS.there | with_reducible apply AtS.app | with_reducible apply AtS.app2)))) | refine HLe.cons (by repeat (first | exact At.here | apply At.there | with_reducible apply At.app | with_reducible apply At.app2)) ?_ | refine HLe.seg (by repeat (first | with_reducible exact AtS.here | with_reducible exact AtS.here2 | exact AtS.last | apply AtS.there | with_reducible apply AtS.app | with_reducible apply AtS.app2)) ?_ | exact HLe.last (by repeat (first | with_reducible exact AtS.here | with_reducible exact AtS.here2 | exact AtS.last | apply AtS.there | with_reducible apply AtS.app | with_reducible apply AtS.app2))))
      · dsimp only at h3; rw [hbk] at h3; cases h3
        by_cases e : c = k
        · subst e; rw [hbk] at h4; cases h4; exact evLe_refl _
        · exact evLe_trans hle (hmin c bl b h1 (by dsimp only at h2; omega) hbl h4)
      · dsimp only at h1; rw [hbk] at h1; cases h1; exact evLe_trans hle (hli bl b hbl h2)
    · refine VNext.mk (l, k + 1) ⟨by dsimp only; omega, by dsimp only; omega, hl1, fun c a b h1 h2 h3 h4 => ?_, hli⟩ (by dsimp only; omega) (by repeat (first | exact trivial | refine ⟨rfl, ?_⟩)) (by repeat (first | exact HLe.nil | exact HLe.refl _ | refine HLe.nilv ?_ | (with_reducible refine HLe.seg ?_ ?_; (focus (repeat (first | with_reducible exact AtS.here | with_reducible exact AtS.here2 | exact AtS.last | apply AtS.there | with_reducible apply AtS.app | with_reducible apply AtS.app2)))) | refine HLe.cons (by repeat (first | exact At.here | apply At.there | with_reducible apply At.app | with_reducible apply At.app2)) ?_ | refine HLe.seg (by repeat (first | with_reducible exact AtS.here | with_reducible exact AtS.here2 | exact AtS.last | apply AtS.there | with_reducible apply AtS.app | with_reducible apply AtS.app2)) ?_ | exact HLe.last (by repeat (first | with_reducible exact AtS.here | with_reducible exact AtS.here2 | exact AtS.last | apply AtS.there | with_reducible apply AtS.app | with_reducible apply AtS.app2))))
      by_cases e : c = k
      · subst e; dsimp only at h3; rw [hbk] at h4; rw [hbl] at h3; cases h4; cases h3; exact ‹¬ evLt bk bl›
      · exact hmin c a b h1 (by dsimp only at h2; omega) h3 h4
  · have hdone : ∀ c a b, 0 < c → (c - 1) / 2 = i → B[l]? = some a → B[c]? = some b → evLe a b := by
      intro c a b h1 h2 h3 h4
      have hc : c < B.length := (List.getElem?_eq_some_iff.1 h4).1
      exact hmin c a b (by omega) (by omega) h3 h4
    by_cases hli' : l = i
    · subst hli'
      have hok : HeapOk B := hB.done fun c a b h1 h2 h3 h4 => hdone c a b h1 h2 h3 h4
      repeat' (conv => whnf); first
        | (refine VSeq.is ?_; refine VSeq.go ?_)
        | (refine VB.is ?_; refine VB.split (fun _ => ?_) (fun h => absurd (by omega) h))
        | (refine VB.is ?_; refine VB.split (fun h => absurd h (by omega)) (fun _ => ?_))
        | (refine VB.is ?_; refine VB.split (fun _ => ?_) (fun _ => ?_))
        | (refine boolE_split (fun h => ?_) (fun h => ?_) <;> subst h)
        | (refine VLd.is ?_; refine VLd.mk (.row (by repeat (first | exact At.here | apply At.there | with_reducible apply At.app | with_reducible apply At.app2)) (by rfl)) ?_)
        | (refine VSt.is ?_; refine VSt.row (by repeat (first | exact At.here | apply At.there | with_reducible apply At.app | with_reducible apply At.app2)) (by rfl) (by first | rfl | assumption) ?_)
        | (refine VNew.is ?_; refine VNew.mk fun _ => ?_)
        | (refine VAr.is ?_; refine VAr.i64 (by omega) (by omega) ?_)
        | (refine VIx.is ?_; refine VIx.mk rfl (by omega) (by omega) ?_)
        | (refine VKeep.is ?_; refine VKeep.mk (by repeat (first | exact HLe.nil | exact HLe.refl _ | refine HLe.nilv ?_ | (with_reducible refine HLe.seg ?_ ?_; (focus (repeat (first | with_reducible exact AtS.here | with_reducible exact AtS.here2 | exact AtS.last | apply AtS.there | with_reducible apply AtS.app | with_reducible apply AtS.app2)))) | refine HLe.cons (by repeat (first | exact At.here | apply At.there | with_reducible apply At.app | with_reducible apply At.app2)) ?_ | refine HLe.seg (by repeat (first | with_reducible exact AtS.here | with_reducible exact AtS.here2 | exact AtS.last | apply AtS.there | with_reducible apply AtS.app | with_reducible apply AtS.app2)) ?_ | exact HLe.last (by repeat (first | with_reducible exact AtS.here | with_reducible exact AtS.here2 | exact AtS.last | apply AtS.there | with_reducible apply AtS.app | with_reducible apply AtS.app2)))) ?_)
        | (refine VHs.is ?_; refine VHs.mk _ (HLe.refl _) ?_)
        | (refine VQ.is ?_; refine VQ.pos (by omega) (by omega) (by omega) ?_)
        | (refine VM.is ?_; refine VM.pos (by omega) (by omega) ?_)
        | (refine And.intro ?_ ?_)
      all_goals (conv => whnf)
      all_goals exact ⟨fun w' hw' => ⟨B, rfl, ⟨hok, hBp⟩, by unfold heapS courseV; rw [hBl]; exact hw'.le (by repeat (first | exact HLe.nil | exact HLe.refl _ | refine HLe.nilv ?_ | (with_reducible refine HLe.seg ?_ ?_; (focus (repeat (first | with_reducible exact AtS.here | with_reducible exact AtS.here2 | exact AtS.last | apply AtS.there | with_reducible apply AtS.app | with_reducible apply AtS.app2)))) | refine HLe.cons (by repeat (first | exact At.here | apply At.there | with_reducible apply At.app | with_reducible apply At.app2)) ?_ | refine HLe.seg (by repeat (first | with_reducible exact AtS.here | with_reducible exact AtS.here2 | exact AtS.last | apply AtS.there | with_reducible apply AtS.app | with_reducible apply AtS.app2)) ?_ | exact HLe.last (by repeat (first | with_reducible exact AtS.here | with_reducible exact AtS.here2 | exact AtS.last | apply AtS.there | with_reducible apply AtS.app | with_reducible apply AtS.app2))))⟩⟩
    · obtain ⟨bi, hbi⟩ : ∃ bi, B[i]? = some bi := ⟨B[i]'(by omega), List.getElem?_eq_getElem _⟩
      obtain ⟨bl, hbl⟩ : ∃ bl, B[l]? = some bl := ⟨B[l]'(by omega), List.getElem?_eq_getElem _⟩
      have hbl2 : (B.set i bl)[l]? = some bl := by rw [List.getElem?_set, if_neg (by omega)]; exact hbl
      have hst := hB.step (l := l) (by omega) (by omega) hbi hbl (hli bl bi hbl hbi) (fun c y h1 h2 h3 => hdone c bl y h1 h2 hbl h3)
      repeat' (conv => whnf); first
        | (refine VIx.is ?_; refine VIx.mk rfl (by omega) (by omega) ?_)
        | (refine VLd.is ?_; refine VLd.mk (Rd.cast (.vec (by repeat (first | exact At.here | apply At.there | with_reducible apply At.app | with_reducible apply At.app2)) (sub_flat0 (f := evtV) (k := 2) (fun _ => rfl) hbi rfl)) (by first | omega | (dsimp only; omega) | rfl)) ?_)
        | (refine VLd.is ?_; refine VLd.mk (Rd.cast (.vec (by repeat (first | exact At.here | apply At.there | with_reducible apply At.app | with_reducible apply At.app2)) (sub_flat0 (f := evtV) (k := 2) (fun _ => rfl) hbl rfl)) (by first | omega | (dsimp only; omega) | rfl)) ?_)
        | (refine VSt.is ?_; refine VSt.cast (off' := i * 2) (by first | omega | (dsimp only; omega)) (VSt.vec (by repeat (first | exact At.here | apply At.there | with_reducible apply At.app | with_reducible apply At.app2)) (upd_flat0 (f := evtV) (k := 2) (y := bl) (fun _ => rfl) hbi rfl) rfl ?_))
        | (refine VSt.is ?_; refine VSt.cast (off' := l * 2) (by first | omega | (dsimp only; omega)) (VSt.vec (by repeat (first | exact At.here | apply At.there | with_reducible apply At.app | with_reducible apply At.app2)) (upd_flat0 (f := evtV) (k := 2) (y := bi) (fun _ => rfl) hbl2 rfl) rfl ?_))
        | (refine VSeq.is ?_; refine VSeq.go ?_)
        | (refine VB.is ?_; refine VB.split (fun _ => ?_) (fun h => absurd (by omega) h))
        | (refine VB.is ?_; refine VB.split (fun h => absurd h (by omega)) (fun _ => ?_))
        | (refine VB.is ?_; refine VB.split (fun _ => ?_) (fun _ => ?_))
        | (refine boolE_split (fun h => ?_) (fun h => ?_) <;> subst h)
        | (refine VLd.is ?_; refine VLd.mk (.row (by repeat (first | exact At.here | apply At.there | with_reducible apply At.app | with_reducible apply At.app2)) (by rfl)) ?_)
        | (refine VSt.is ?_; refine VSt.row (by repeat (first | exact At.here | apply At.there | with_reducible apply At.app | with_reducible apply At.app2)) (by rfl) (by first | rfl | assumption) ?_)
        | (refine VNew.is ?_; refine VNew.mk fun _ => ?_)
        | (refine VAr.is ?_; refine VAr.i64 (by omega) (by omega) ?_)
        | (refine VIx.is ?_; refine VIx.mk rfl (by omega) (by omega) ?_)
        | (refine VKeep.is ?_; refine VKeep.mk (by repeat (first | exact HLe.nil | exact HLe.refl _ | refine HLe.nilv ?_ | (with_reducible refine HLe.seg ?_ ?_; (focus (repeat (first | with_reducible exact AtS.here | with_reducible exact AtS.here2 | exact AtS.last | apply AtS.there | with_reducible apply AtS.app | with_reducible apply AtS.app2)))) | refine HLe.cons (by repeat (first | exact At.here | apply At.there | with_reducible apply At.app | with_reducible apply At.app2)) ?_ | refine HLe.seg (by repeat (first | with_reducible exact AtS.here | with_reducible exact AtS.here2 | exact AtS.last | apply AtS.there | with_reducible apply AtS.app | with_reducible apply AtS.app2)) ?_ | exact HLe.last (by repeat (first | with_reducible exact AtS.here | with_reducible exact AtS.here2 | exact AtS.last | apply AtS.there | with_reducible apply AtS.app | with_reducible apply AtS.app2)))) ?_)
        | (refine VHs.is ?_; refine VHs.mk _ (HLe.refl _) ?_)
        | (refine VQ.is ?_; refine VQ.pos (by omega) (by omega) (by omega) ?_)
        | (refine VM.is ?_; refine VM.pos (by omega) (by omega) ?_)
        | (refine And.intro ?_ ?_)
      all_goals (conv => whnf)
      all_goals exact VNext.mk ((B.set i bl).set l bi, l) ⟨by simpa using hBl, hBp.trans ((swap_perm hbi hbl).symm.cons _), hst, by dsimp only; omega⟩ (by dsimp only; omega) (by repeat (first | exact trivial | refine ⟨rfl, ?_⟩)) (by repeat (first | exact HLe.nil | exact HLe.refl _ | refine HLe.nilv ?_ | (with_reducible refine HLe.seg ?_ ?_; (focus (repeat (first | with_reducible exact AtS.here | with_reducible exact AtS.here2 | exact AtS.last | apply AtS.there | with_reducible apply AtS.app | with_reducible apply AtS.app2)))) | refine HLe.cons (by repeat (first | exact At.here | apply At.there | with_reducible apply At.app | with_reducible apply At.app2)) ?_ | refine HLe.seg (by repeat (first | with_reducible exact AtS.here | with_reducible exact AtS.here2 | exact AtS.last | apply AtS.there | with_reducible apply AtS.app | with_reducible apply AtS.app2)) ?_ | exact HLe.last (by repeat (first | with_reducible exact AtS.here | with_reducible exact AtS.here2 | exact AtS.last | apply AtS.there | with_reducible apply AtS.app | with_reducible apply AtS.app2))))

theorem push_call {w0 : World} {M : List Nat} {H R : HP} {K : Value → HP → Prop} (bc : Nat) (vc vw vd : Value) (p : Option Addr) (cap : Nat) (A : List Evt) (x : Evt) (hA : HeapOk A) (hl : A.length ≤ 4398046511104) (htk : Take H (heapS bc vc vw vd p cap A) R)
    (hk : ∀ g cap' A', HeapOk A' → A'.Perm (A ++ [x]) → K (.tuple #[]) (heapS bc vc vw vd (some ⟨g, 0, none⟩) cap' A' ++ R)) :
    VCall Try.cx.P w0 M H 69 [.pointer (some ⟨bc, 3, none⟩), .agg (evtV x).toArray] K :=
  VCall.turnT (α := Option Addr × Nat × List Evt) (fun _ => .tuple #[]) (fun y => HeapOk y.2.2 ∧ y.2.2.Perm (A ++ [x]) ∧ ∃ g, y.1 = some ⟨g, 0, none⟩) (fun y => heapS bc vc vw vd y.1 y.2.1 y.2.2) htk
    (fun w _ hs => push_any bc vc vw vd p cap A x hA hl w hs) (fun y hy => by
      obtain ⟨h1, h2, g, h3⟩ := hy
      obtain ⟨p', cap', A'⟩ := y
      dsimp only at h3
      subst h3
      exact hk g cap' A' h1 h2)

theorem pop_call {w0 : World} {M : List Nat} {H R : HP} {K : Value → HP → Prop} (bc : Nat) (vc vw vd : Value) (p : Option Addr) (cap : Nat) (A : List Evt) (x : Evt) (hA : HeapOk A) (hx : A[0]? = some x) (hl : A.length ≤ 4398046511104) (htk : Take H (heapS bc vc vw vd p cap A) R)
    (hk : ∀ A', HeapOk A' → A.Perm (x :: A') → K (.agg (evtV x).toArray) (heapS bc vc vw vd p cap A' ++ R)) :
    VCall Try.cx.P w0 M H 70 [.pointer (some ⟨bc, 3, none⟩)] K := by
  refine VCall.turnT (α := List Evt) (fun _ => .agg (evtV x).toArray) (fun y => HeapOk y ∧ A.Perm (x :: y)) (fun y => heapS bc vc vw vd p cap y) htk (fun w _ hs => ?_) (fun y hy => hk y hy.1 hy.2)
  have hpos : 0 < A.length := (List.getElem?_eq_some_iff.1 hx).1
  have hv := hs.own (.vec p A.length cap 129 2 (flat evtV A)) (by simp [heapS])
  cases p with
  | none =>
    obtain ⟨h1, h2⟩ := hv
    rcases h2 with ⟨h3, _⟩ | ⟨g, c, cur, hv, _⟩
    · simp only [Value.slice.injEq] at h3; omega
    · cases hv
  | some a =>
    obtain ⟨g, cur, hg, _, hcap, _⟩ := vec_some hv
    subst hg
    exact pop_any bc vc vw vd g cap A x hA hx hl w hs hcap

end Go.Proofs
