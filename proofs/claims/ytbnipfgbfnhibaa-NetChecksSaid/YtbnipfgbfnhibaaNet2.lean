/- Net2: events and inputs of a network, walked. -/
import Derived.Test.YtbnipfgbfnhibaaNet1
set_option linter.unusedVariables false
namespace Go.Proofs
open Go Go.Vx Go.Gm

def intV (k : Int) : List Value := [.int .i64 k]

theorem ordered_any (N : Net) (hi : 0 ≤ N.inputs ∧ N.inputs ≤ 256) (l : List Evt) (hl : ∀ x ∈ l, x.wf) (limit : Int) (hlim : 0 ≤ limit ∧ limit ≤ 1073741824) (nv sv : Value) (p : Option Addr) (c b o : Nat) (w : World) (h1 : Sl w evtV 2 l p l.length b o) :
    Calls Try.prog 97 #[.agg #[nv, .int .i64 N.inputs, sv], .slice p l.length c, .int .i64 limit] w fun e w' => e = .returned (.int .i64 (evErr N.inputs limit l)) ∧ St w [] [] w' := by
  refine enter (C := Try.cx) (F := Try.fx97) (args := [_, _, _]) Try.func97 rfl rfl rfl Try.ok97 (St.start w []) ?_
  repeat' (conv => whnf); first
    | (refine VNew.is ?_; refine VNew.mk fun b1 => ?_)
    | (refine VSeq.is ?_; refine VSeq.go ?_)
    | (refine VB.is ?_; refine VB.split (fun _ => ?_) (fun h => absurd (by omega) h))
    | (refine VB.is ?_; refine VB.split (fun h => absurd h (by omega)) (fun _ => ?_))
    | (refine VB.is ?_; refine VB.split (fun _ => ?_) (fun _ => ?_))
    | (refine boolE_split (fun h => ?_) (fun h => ?_) <;> subst h)
    | (refine VLd.is ?_; refine VLd.mk (.row (by repeat (first | exact At.here | apply At.there | with_reducible apply At.app | with_reducible apply At.app2)) (by rfl)) ?_)
    | (refine VSt.is ?_; refine VSt.row (by repeat (first | exact At.here | apply At.there | with_reducible apply At.app | with_reducible apply At.app2)) (by rfl) (by first | rfl | assumption) ?_)
    | (refine VNew.is ?_; refine VNew.mk fun _ => ?_)
    | (refine VAr.is ?_; refine VAr.i64 (by omega) (by omega) ?_)
    | (refine VIx.is ?_; refine VIx.mk rfl (by omega) (by omega) ?_)
    | (refine VKeep.is ?_; refine VKeep.mk (by repeat (first | exact HLe.nil | exact HLe.refl _ | refine HLe.nilv ?_ | (with_reducible refine HLe.seg ?_ ?_; (focus (repeat (first | with_reducible exact AtS.here | with_reducible exact AtS.here2 | exact AtS.last | apply AtS.there | with_reducible apply AtS.app | with_reducible apply AtS.app2)))) | refine HLe.cons (by repeat (first | exact At.here | apply At.there | with_reducible apply At.app | with_reducible apply At.app2)) ?_ | refine HLe.seg (by repeat (first | with_reducible exact AtS.here | with_reducible exact AtS.here2 | exact AtS.last | apply AtS.there | with_reducible apply AtS.app | with_reducible apply AtS.app2)) ?_ | exact HLe.last (by repeat (first | with_reducible exact AtS.here | with_reducible exact AtS.here2 | exact AtS.last | apply AtS.there | with_reducible apply AtS.app | with_reducible apply AtS.app2)))) ?_)
    | (refine VHs.is ?_; refine VHs.mk _ (HLe.refl _) ?_)
    | (refine VQ.is ?_; refine VQ.pos (by omega) (by omega) (by omega) ?_)
    | (refine VM.is ?_; refine VM.pos (by omega) (by omega) ?_)
    | (refine And.intro ?_ ?_)
  all_goals (conv => whnf)
  · exact ⟨fun w' hw' => ⟨by unfold evErr; rw [if_pos (by omega)]; rfl, hw'.le .nil⟩⟩
  have he : evErr N.inputs limit l = ordErr N.inputs limit none l := by unfold evErr; rw [if_neg (by omega)]
  refine VLoop.mk (α := Nat) (fun i => i ≤ l.length ∧ ordErr N.inputs limit none l = ordErr N.inputs limit (prevOf l i) (l.drop i))
    (fun i => [(1000000, .tuple #[]), (1, .slice p l.length c), (2, .int .i64 limit), (3, .pointer (some ⟨b1, 0, none⟩)), (12, .slice p l.length c), (13, .int .i64 (l.length : Int)), (14, .int .i64 (i : Int))])
    (fun _ => [.row b1 25 [nv, .int .i64 N.inputs, sv]]) (fun i => l.length - i) 0 ⟨by omega, rfl⟩ (by repeat (first | exact trivial | refine ⟨rfl, ?_⟩)) (by repeat (first | exact HLe.nil | exact HLe.refl _ | refine HLe.nilv ?_ | (with_reducible refine HLe.seg ?_ ?_; (focus (repeat (first | with_reducible exact AtS.here | with_reducible exact AtS.here2 | exact AtS.last | apply AtS.there | with_reducible apply AtS.app | with_reducible apply AtS.app2)))) | refine HLe.cons (by repeat (first | exact At.here | apply At.there | with_reducible apply At.app | with_reducible apply At.app2)) ?_ | refine HLe.seg (by repeat (first | with_reducible exact AtS.here | with_reducible exact AtS.here2 | exact AtS.last | apply AtS.there | with_reducible apply AtS.app | with_reducible apply AtS.app2)) ?_ | exact HLe.last (by repeat (first | with_reducible exact AtS.here | with_reducible exact AtS.here2 | exact AtS.last | apply AtS.there | with_reducible apply AtS.app | with_reducible apply AtS.app2)))) ?_
  rintro i ⟨hi', hf⟩
  rcases Nat.lt_or_ge i l.length with hlt | hge
  · obtain ⟨x, hx⟩ := h1.get hlt
    cases i with
    | zero =>
      have hn : ¬ evBehind x (prevOf l 0) := fun h => h
      repeat' (conv => whnf); first
        | (refine VIx.is ?_; refine VIx.mk (h1.ptr (by omega)) (by omega) (by omega) ?_)
        | (refine VLd.is ?_; refine VLd.mk (Rd.cast (h1.rd (o := 0) (s := 2) (by simp) (fun _ => rfl) hx rfl) (by (try dsimp only); omega)) ?_)
        | (refine VCall.is ?_; refine VCall.bool (within_net _ _ _) ?_)
        | (refine VSeq.is ?_; refine VSeq.go ?_)
        | (refine VB.is ?_; refine VB.split (fun _ => ?_) (fun h => absurd (by omega) h))
        | (refine VB.is ?_; refine VB.split (fun h => absurd h (by omega)) (fun _ => ?_))
        | (refine VB.is ?_; refine VB.split (fun _ => ?_) (fun _ => ?_))
        | (refine boolE_split (fun h => ?_) (fun h => ?_) <;> subst h)
        | (refine VLd.is ?_; refine VLd.mk (.row (by repeat (first | exact At.here | apply At.there | with_reducible apply At.app | with_reducible apply At.app2)) (by rfl)) ?_)
        | (refine VSt.is ?_; refine VSt.row (by repeat (first | exact At.here | apply At.there | with_reducible apply At.app | with_reducible apply At.app2)) (by rfl) (by first | rfl | assumption) ?_)
        | (refine VNew.is ?_; refine VNew.mk fun _ => ?_)
        | (refine VAr.is ?_; refine VAr.i64 (by omega) (by omega) ?_)
        | (refine VIx.is ?_; refine VIx.mk rfl (by omega) (by omega) ?_)
        | (refine VKeep.is ?_; refine VKeep.mk (by repeat (first | exact HLe.nil | exact HLe.refl _ | refine HLe.nilv ?_ | (with_reducible refine HLe.seg ?_ ?_; (focus (repeat (first | with_reducible exact AtS.here | with_reducible exact AtS.here2 | exact AtS.last | apply AtS.there | with_reducible apply AtS.app | with_reducible apply AtS.app2)))) | refine HLe.cons (by repeat (first | exact At.here | apply At.there | with_reducible apply At.app | with_reducible apply At.app2)) ?_ | refine HLe.seg (by repeat (first | with_reducible exact AtS.here | with_reducible exact AtS.here2 | exact AtS.last | apply AtS.there | with_reducible apply AtS.app | with_reducible apply AtS.app2)) ?_ | exact HLe.last (by repeat (first | with_reducible exact AtS.here | with_reducible exact AtS.here2 | exact AtS.last | apply AtS.there | with_reducible apply AtS.app | with_reducible apply AtS.app2)))) ?_)
        | (refine VHs.is ?_; refine VHs.mk _ (HLe.refl _) ?_)
        | (refine VQ.is ?_; refine VQ.pos (by omega) (by omega) (by omega) ?_)
        | (refine VM.is ?_; refine VM.pos (by omega) (by omega) ?_)
        | (refine And.intro ?_ ?_)
      all_goals (conv => whnf)
      all_goals first
        | exact ⟨fun w' hw' => ⟨by rw [he, hf, ordErr_bad hx (by unfold evBad; omega)]; rfl, hw'.le .nil⟩⟩
        | (refine VNext.mk (0 + 1) ⟨by omega, ?_⟩ (by omega) (by repeat (first | exact trivial | refine ⟨rfl, ?_⟩)) (by repeat (first | exact HLe.nil | exact HLe.refl _ | refine HLe.nilv ?_ | (with_reducible refine HLe.seg ?_ ?_; (focus (repeat (first | with_reducible exact AtS.here | with_reducible exact AtS.here2 | exact AtS.last | apply AtS.there | with_reducible apply AtS.app | with_reducible apply AtS.app2)))) | refine HLe.cons (by repeat (first | exact At.here | apply At.there | with_reducible apply At.app | with_reducible apply At.app2)) ?_ | refine HLe.seg (by repeat (first | with_reducible exact AtS.here | with_reducible exact AtS.here2 | exact AtS.last | apply AtS.there | with_reducible apply AtS.app | with_reducible apply AtS.app2)) ?_ | exact HLe.last (by repeat (first | with_reducible exact AtS.here | with_reducible exact AtS.here2 | exact AtS.last | apply AtS.there | with_reducible apply AtS.app | with_reducible apply AtS.app2))))
           rw [hf, ordErr_next hx (by unfold evBad; omega) hn])
    | succ k =>
      obtain ⟨y, hy⟩ := h1.get (i := k) (by omega)
      have hp : prevOf l (k + 1) = some y := hy
      have hbh : evBehind x (prevOf l (k + 1)) ↔ evLate y x := by rw [hp]; rfl
      repeat' (conv => whnf); first
        | (refine VIx.is ?_; refine VIx.mk (h1.ptr (by omega)) (by omega) (by omega) ?_)
        | (refine VLd.is ?_; refine VLd.mk (Rd.cast (h1.rd (o := 0) (s := 2) (by simp) (fun _ => rfl) hx rfl) (by (try dsimp only); omega)) ?_)
        | (refine VLd.is ?_; refine VLd.mk (Rd.cast (h1.rd (o := 0) (s := 1) (by simp) (fun _ => rfl) hy rfl) (by (try dsimp only); omega)) ?_)
        | (refine VLd.is ?_; refine VLd.mk (Rd.cast (h1.rd (o := 1) (s := 1) (by simp) (fun _ => rfl) hy rfl) (by (try dsimp only); omega)) ?_)
        | (refine VCall.is ?_; refine VCall.bool (within_net _ _ _) ?_)
        | (refine VSeq.is ?_; refine VSeq.go ?_)
        | (refine VB.is ?_; refine VB.split (fun _ => ?_) (fun h => absurd (by omega) h))
        | (refine VB.is ?_; refine VB.split (fun h => absurd h (by omega)) (fun _ => ?_))
        | (refine VB.is ?_; refine VB.split (fun _ => ?_) (fun _ => ?_))
        | (refine boolE_split (fun h => ?_) (fun h => ?_) <;> subst h)
        | (refine VLd.is ?_; refine VLd.mk (.row (by repeat (first | exact At.here | apply At.there | with_reducible apply At.app | with_reducible apply At.app2)) (by rfl)) ?_)
        | (refine VSt.is ?_; refine VSt.row (by repeat (first | exact At.here | apply At.there | with_reducible apply At.app | with_reducible apply At.app2)) (by rfl) (by first | rfl | assumption) ?_)
        | (refine VNew.is ?_; refine VNew.mk fun _ => ?_)
        | (refine VAr.is ?_; refine VAr.i64 (by omega) (by omega) ?_)
        | (refine VIx.is ?_; refine VIx.mk rfl (by omega) (by omega) ?_)
        | (refine VKeep.is ?_; refine VKeep.mk (by repeat (first | exact HLe.nil | exact HLe.refl _ | refine HLe.nilv ?_ | (with_reducible refine HLe.seg ?_ ?_; (focus (repeat (first | with_reducible exact AtS.here | with_reducible exact AtS.here2 | exact AtS.last | apply AtS.there | with_reducible apply AtS.app | with_reducible apply AtS.app2)))) | refine HLe.cons (by repeat (first | exact At.here | apply At.there | with_reducible apply At.app | with_reducible apply At.app2)) ?_ | refine HLe.seg (by repeat (first | with_reducible exact AtS.here | with_reducible exact AtS.here2 | exact AtS.last | apply AtS.there | with_reducible apply AtS.app | with_reducible apply AtS.app2)) ?_ | exact HLe.last (by repeat (first | with_reducible exact AtS.here | with_reducible exact AtS.here2 | exact AtS.last | apply AtS.there | with_reducible apply AtS.app | with_reducible apply AtS.app2)))) ?_)
        | (refine VHs.is ?_; refine VHs.mk _ (HLe.refl _) ?_)
        | (refine VQ.is ?_; refine VQ.pos (by omega) (by omega) (by omega) ?_)
        | (refine VM.is ?_; refine VM.pos (by omega) (by omega) ?_)
        | (refine And.intro ?_ ?_)
      all_goals (conv => whnf)
      all_goals first
        | exact ⟨fun w' hw' => ⟨by rw [he, hf, ordErr_bad hx (by unfold evBad; omega)]; rfl, hw'.le .nil⟩⟩
        | exact ⟨fun w' hw' => ⟨by rw [he, hf, ordErr_late hx (by unfold evBad; omega) (hbh.2 (by unfold evLate; omega))]; rfl, hw'.le .nil⟩⟩
        | (refine VNext.mk (k + 1 + 1) ⟨by omega, ?_⟩ (by omega) (by repeat (first | exact trivial | refine ⟨rfl, ?_⟩)) (by repeat (first | exact HLe.nil | exact HLe.refl _ | refine HLe.nilv ?_ | (with_reducible refine HLe.seg ?_ ?_; (focus (repeat (first | with_reducible exact AtS.here | with_reducible exact AtS.here2 | exact AtS.last | apply AtS.there | with_reducible apply AtS.app | with_reducible apply AtS.app2)))) | refine HLe.cons (by repeat (first | exact At.here | apply At.there | with_reducible apply At.app | with_reducible apply At.app2)) ?_ | refine HLe.seg (by repeat (first | with_reducible exact AtS.here | with_reducible exact AtS.here2 | exact AtS.last | apply AtS.there | with_reducible apply AtS.app | with_reducible apply AtS.app2)) ?_ | exact HLe.last (by repeat (first | with_reducible exact AtS.here | with_reducible exact AtS.here2 | exact AtS.last | apply AtS.there | with_reducible apply AtS.app | with_reducible apply AtS.app2))))
           rw [hf, ordErr_next hx (by unfold evBad; omega) (fun h => by have := hbh.1 h; unfold evLate at this; omega)])
  · repeat' (conv => whnf); first
      | (refine VSeq.is ?_; refine VSeq.go ?_)
      | (refine VB.is ?_; refine VB.split (fun _ => ?_) (fun h => absurd (by omega) h))
      | (refine VB.is ?_; refine VB.split (fun h => absurd h (by omega)) (fun _ => ?_))
      | (refine VB.is ?_; refine VB.split (fun _ => ?_) (fun _ => ?_))
      | (refine boolE_split (fun h => ?_) (fun h => ?_) <;> subst h)
      | (refine VLd.is ?_; refine VLd.mk (.row (by repeat (first | exact At.here | apply At.there | with_reducible apply At.app | with_reducible apply At.app2)) (by rfl)) ?_)
      | (refine VSt.is ?_; refine VSt.row (by repeat (first | exact At.here | apply At.there | with_reducible apply At.app | with_reducible apply At.app2)) (by rfl) (by first | rfl | assumption) ?_)
      | (refine VNew.is ?_; refine VNew.mk fun _ => ?_)
      | (refine VAr.is ?_; refine VAr.i64 (by omega) (by omega) ?_)
      | (refine VIx.is ?_; refine VIx.mk rfl (by omega) (by omega) ?_)
      | (refine VKeep.is ?_; refine VKeep.mk (by repeat (first | exact HLe.nil | exact HLe.refl _ | refine HLe.nilv ?_ | (with_reducible refine HLe.seg ?_ ?_; (focus (repeat (first | with_reducible exact AtS.here | with_reducible exact AtS.here2 | exact AtS.last | apply AtS.there | with_reducible apply AtS.app | with_reducible apply AtS.app2)))) | refine HLe.cons (by repeat (first | exact At.here | apply At.there | with_reducible apply At.app | with_reducible apply At.app2)) ?_ | refine HLe.seg (by repeat (first | with_reducible exact AtS.here | with_reducible exact AtS.here2 | exact AtS.last | apply AtS.there | with_reducible apply AtS.app | with_reducible apply AtS.app2)) ?_ | exact HLe.last (by repeat (first | with_reducible exact AtS.here | with_reducible exact AtS.here2 | exact AtS.last | apply AtS.there | with_reducible apply AtS.app | with_reducible apply AtS.app2)))) ?_)
      | (refine VHs.is ?_; refine VHs.mk _ (HLe.refl _) ?_)
      | (refine VQ.is ?_; refine VQ.pos (by omega) (by omega) (by omega) ?_)
      | (refine VM.is ?_; refine VM.pos (by omega) (by omega) ?_)
      | (refine And.intro ?_ ?_)
    all_goals (conv => whnf)
    exact ⟨fun w' hw' => ⟨by rw [he, hf, List.drop_eq_nil_of_le hge]; rfl, hw'.le .nil⟩⟩

theorem ascending_any (N : Net) (hi : 0 ≤ N.inputs ∧ N.inputs ≤ 256) (l : List Int) (nv sv : Value) (p : Option Addr) (c b o : Nat) (w : World) (h1 : Sl w intV 1 l p l.length b o) (hbig : l.length < 9223372036854775807) :
    Calls Try.prog 90 #[.agg #[nv, .int .i64 N.inputs, sv], .slice p l.length c] w fun e w' => e = .returned (.int .i64 (ascErr N.inputs none l)) ∧ St w [] [] w' := by
  refine enter (C := Try.cx) (F := Try.fx90) (args := [_, _]) Try.func90 rfl rfl rfl Try.ok90 (St.start w []) ?_
  repeat' (conv => whnf); first
    | (refine VNew.is ?_; refine VNew.mk fun b1 => ?_)
    | (refine VSeq.is ?_; refine VSeq.go ?_)
    | (refine VB.is ?_; refine VB.split (fun _ => ?_) (fun h => absurd (by omega) h))
    | (refine VB.is ?_; refine VB.split (fun h => absurd h (by omega)) (fun _ => ?_))
    | (refine VB.is ?_; refine VB.split (fun _ => ?_) (fun _ => ?_))
    | (refine boolE_split (fun h => ?_) (fun h => ?_) <;> subst h)
    | (refine VLd.is ?_; refine VLd.mk (.row (by repeat (first | exact At.here | apply At.there | with_reducible apply At.app | with_reducible apply At.app2)) (by rfl)) ?_)
    | (refine VSt.is ?_; refine VSt.row (by repeat (first | exact At.here | apply At.there | with_reducible apply At.app | with_reducible apply At.app2)) (by rfl) (by first | rfl | assumption) ?_)
    | (refine VNew.is ?_; refine VNew.mk fun _ => ?_)
    | (refine VAr.is ?_; refine VAr.i64 (by omega) (by omega) ?_)
    | (refine VIx.is ?_; refine VIx.mk rfl (by omega) (by omega) ?_)
    | (refine VKeep.is ?_; refine VKeep.mk (by repeat (first | exact HLe.nil | exact HLe.refl _ | refine HLe.nilv ?_ | (with_reducible refine HLe.seg ?_ ?_; (focus (repeat (first | with_reducible exact AtS.here | with_reducible exact AtS.here2 | exact AtS.last | apply AtS.there | with_reducible apply AtS.app | with_reducible apply AtS.app2)))) | refine HLe.cons (by repeat (first | exact At.here | apply At.there | with_reducible apply At.app | with_reducible apply At.app2)) ?_ | refine HLe.seg (by repeat (first | with_reducible exact AtS.here | with_reducible exact AtS.here2 | exact AtS.last | apply AtS.there | with_reducible apply AtS.app | with_reducible apply AtS.app2)) ?_ | exact HLe.last (by repeat (first | with_reducible exact AtS.here | with_reducible exact AtS.here2 | exact AtS.last | apply AtS.there | with_reducible apply AtS.app | with_reducible apply AtS.app2)))) ?_)
    | (refine VHs.is ?_; refine VHs.mk _ (HLe.refl _) ?_)
    | (refine VQ.is ?_; refine VQ.pos (by omega) (by omega) (by omega) ?_)
    | (refine VM.is ?_; refine VM.pos (by omega) (by omega) ?_)
    | (refine And.intro ?_ ?_)
  all_goals (conv => whnf)
  refine VLoop.mk (α := Nat) (fun i => i ≤ l.length ∧ ascErr N.inputs none l = ascErr N.inputs (prevOf l i) (l.drop i))
    (fun i => [(1000000, .tuple #[]), (1, .slice p l.length c), (2, .pointer (some ⟨b1, 0, none⟩)), (7, .slice p l.length c), (8, .int .i64 (l.length : Int)), (9, .int .i64 (i : Int))])
    (fun _ => [.row b1 25 [nv, .int .i64 N.inputs, sv]]) (fun i => l.length - i) 0 ⟨by omega, rfl⟩ (by repeat (first | exact trivial | refine ⟨rfl, ?_⟩)) (by repeat (first | exact HLe.nil | exact HLe.refl _ | refine HLe.nilv ?_ | (with_reducible refine HLe.seg ?_ ?_; (focus (repeat (first | with_reducible exact AtS.here | with_reducible exact AtS.here2 | exact AtS.last | apply AtS.there | with_reducible apply AtS.app | with_reducible apply AtS.app2)))) | refine HLe.cons (by repeat (first | exact At.here | apply At.there | with_reducible apply At.app | with_reducible apply At.app2)) ?_ | refine HLe.seg (by repeat (first | with_reducible exact AtS.here | with_reducible exact AtS.here2 | exact AtS.last | apply AtS.there | with_reducible apply AtS.app | with_reducible apply AtS.app2)) ?_ | exact HLe.last (by repeat (first | with_reducible exact AtS.here | with_reducible exact AtS.here2 | exact AtS.last | apply AtS.there | with_reducible apply AtS.app | with_reducible apply AtS.app2)))) ?_
  rintro i ⟨hi', hf⟩
  rcases Nat.lt_or_ge i l.length with hlt | hge
  · obtain ⟨x, hx⟩ := h1.get hlt
    cases i with
    | zero =>
      have hn : ¬ inBehind x (prevOf l 0) := fun h => h
      repeat' (conv => whnf); first
        | (refine VIx.is ?_; refine VIx.mk (h1.ptr (by omega)) (by omega) (by omega) ?_)
        | (refine VLd.is ?_; refine VLd.mk (Rd.cast (h1.rd (o := 0) (s := 1) (by simp) (fun _ => rfl) hx rfl) (by (try dsimp only); omega)) ?_)
        | (refine VCall.is ?_; refine VCall.bool (within_net _ _ _) ?_)
        | (refine VSeq.is ?_; refine VSeq.go ?_)
        | (refine VB.is ?_; refine VB.split (fun _ => ?_) (fun h => absurd (by omega) h))
        | (refine VB.is ?_; refine VB.split (fun h => absurd h (by omega)) (fun _ => ?_))
        | (refine VB.is ?_; refine VB.split (fun _ => ?_) (fun _ => ?_))
        | (refine boolE_split (fun h => ?_) (fun h => ?_) <;> subst h)
        | (refine VLd.is ?_; refine VLd.mk (.row (by repeat (first | exact At.here | apply At.there | with_reducible apply At.app | with_reducible apply At.app2)) (by rfl)) ?_)
        | (refine VSt.is ?_; refine VSt.row (by repeat (first | exact At.here | apply At.there | with_reducible apply At.app | with_reducible apply At.app2)) (by rfl) (by first | rfl | assumption) ?_)
        | (refine VNew.is ?_; refine VNew.mk fun _ => ?_)
        | (refine VAr.is ?_; refine VAr.i64 (by omega) (by omega) ?_)
        | (refine VIx.is ?_; refine VIx.mk rfl (by omega) (by omega) ?_)
        | (refine VKeep.is ?_; refine VKeep.mk (by repeat (first | exact HLe.nil | exact HLe.refl _ | refine HLe.nilv ?_ | (with_reducible refine HLe.seg ?_ ?_; (focus (repeat (first | with_reducible exact AtS.here | with_reducible exact AtS.here2 | exact AtS.last | apply AtS.there | with_reducible apply AtS.app | with_reducible apply AtS.app2)))) | refine HLe.cons (by repeat (first | exact At.here | apply At.there | with_reducible apply At.app | with_reducible apply At.app2)) ?_ | refine HLe.seg (by repeat (first | with_reducible exact AtS.here | with_reducible exact AtS.here2 | exact AtS.last | apply AtS.there | with_reducible apply AtS.app | with_reducible apply AtS.app2)) ?_ | exact HLe.last (by repeat (first | with_reducible exact AtS.here | with_reducible exact AtS.here2 | exact AtS.last | apply AtS.there | with_reducible apply AtS.app | with_reducible apply AtS.app2)))) ?_)
        | (refine VHs.is ?_; refine VHs.mk _ (HLe.refl _) ?_)
        | (refine VQ.is ?_; refine VQ.pos (by omega) (by omega) (by omega) ?_)
        | (refine VM.is ?_; refine VM.pos (by omega) (by omega) ?_)
        | (refine And.intro ?_ ?_)
      all_goals (conv => whnf)
      all_goals first
        | exact ⟨fun w' hw' => ⟨by rw [hf, ascErr_bad hx (by unfold inBad; omega)]; rfl, hw'.le .nil⟩⟩
        | (refine VNext.mk (0 + 1) ⟨by omega, ?_⟩ (by omega) (by repeat (first | exact trivial | refine ⟨rfl, ?_⟩)) (by repeat (first | exact HLe.nil | exact HLe.refl _ | refine HLe.nilv ?_ | (with_reducible refine HLe.seg ?_ ?_; (focus (repeat (first | with_reducible exact AtS.here | with_reducible exact AtS.here2 | exact AtS.last | apply AtS.there | with_reducible apply AtS.app | with_reducible apply AtS.app2)))) | refine HLe.cons (by repeat (first | exact At.here | apply At.there | with_reducible apply At.app | with_reducible apply At.app2)) ?_ | refine HLe.seg (by repeat (first | with_reducible exact AtS.here | with_reducible exact AtS.here2 | exact AtS.last | apply AtS.there | with_reducible apply AtS.app | with_reducible apply AtS.app2)) ?_ | exact HLe.last (by repeat (first | with_reducible exact AtS.here | with_reducible exact AtS.here2 | exact AtS.last | apply AtS.there | with_reducible apply AtS.app | with_reducible apply AtS.app2))))
           rw [hf, ascErr_next hx (by unfold inBad; omega) hn])
    | succ k =>
      obtain ⟨y, hy⟩ := h1.get (i := k) (by omega)
      have hp : prevOf l (k + 1) = some y := hy
      have hbh : inBehind x (prevOf l (k + 1)) ↔ x ≤ y := by rw [hp]; rfl
      repeat' (conv => whnf); first
        | (refine VIx.is ?_; refine VIx.mk (h1.ptr (by omega)) (by omega) (by omega) ?_)
        | (refine VLd.is ?_; refine VLd.mk (Rd.cast (h1.rd (o := 0) (s := 1) (by simp) (fun _ => rfl) hx rfl) (by (try dsimp only); omega)) ?_)
        | (refine VLd.is ?_; refine VLd.mk (Rd.cast (h1.rd (o := 0) (s := 1) (by simp) (fun _ => rfl) hy rfl) (by (try dsimp only); omega)) ?_)
        | (refine VCall.is ?_; refine VCall.bool (within_net _ _ _) ?_)
        | (refine VSeq.is ?_; refine VSeq.go ?_)
        | (refine VB.is ?_; refine VB.split (fun _ => ?_) (fun h => absurd (by omega) h))
        | (refine VB.is ?_; refine VB.split (fun h => absurd h (by omega)) (fun _ => ?_))
        | (refine VB.is ?_; refine VB.split (fun _ => ?_) (fun _ => ?_))
        | (refine boolE_split (fun h => ?_) (fun h => ?_) <;> subst h)
        | (refine VLd.is ?_; refine VLd.mk (.row (by repeat (first | exact At.here | apply At.there | with_reducible apply At.app | with_reducible apply At.app2)) (by rfl)) ?_)
        | (refine VSt.is ?_; refine VSt.row (by repeat (first | exact At.here | apply At.there | with_reducible apply At.app | with_reducible apply At.app2)) (by rfl) (by first | rfl | assumption) ?_)
        | (refine VNew.is ?_; refine VNew.mk fun _ => ?_)
        | (refine VAr.is ?_; refine VAr.i64 (by omega) (by omega) ?_)
        | (refine VIx.is ?_; refine VIx.mk rfl (by omega) (by omega) ?_)
        | (refine VKeep.is ?_; refine VKeep.mk (by repeat (first | exact HLe.nil | exact HLe.refl _ | refine HLe.nilv ?_ | (with_reducible refine HLe.seg ?_ ?_; (focus (repeat (first | with_reducible exact AtS.here | with_reducible exact AtS.here2 | exact AtS.last | apply AtS.there | with_reducible apply AtS.app | with_reducible apply AtS.app2)))) | refine HLe.cons (by repeat (first | exact At.here | apply At.there | with_reducible apply At.app | with_reducible apply At.app2)) ?_ | refine HLe.seg (by repeat (first | with_reducible exact AtS.here | with_reducible exact AtS.here2 | exact AtS.last | apply AtS.there | with_reducible apply AtS.app | with_reducible apply AtS.app2)) ?_ | exact HLe.last (by repeat (first | with_reducible exact AtS.here | with_reducible exact AtS.here2 | exact AtS.last | apply AtS.there | with_reducible apply AtS.app | with_reducible apply AtS.app2)))) ?_)
        | (refine VHs.is ?_; refine VHs.mk _ (HLe.refl _) ?_)
        | (refine VQ.is ?_; refine VQ.pos (by omega) (by omega) (by omega) ?_)
        | (refine VM.is ?_; refine VM.pos (by omega) (by omega) ?_)
        | (refine And.intro ?_ ?_)
      all_goals (conv => whnf)
      all_goals first
        | exact ⟨fun w' hw' => ⟨by rw [hf, ascErr_bad hx (by unfold inBad; omega)]; rfl, hw'.le .nil⟩⟩
        | exact ⟨fun w' hw' => ⟨by rw [hf, ascErr_late hx (by unfold inBad; omega) (hbh.2 (by omega))]; rfl, hw'.le .nil⟩⟩
        | (refine VNext.mk (k + 1 + 1) ⟨by omega, ?_⟩ (by omega) (by repeat (first | exact trivial | refine ⟨rfl, ?_⟩)) (by repeat (first | exact HLe.nil | exact HLe.refl _ | refine HLe.nilv ?_ | (with_reducible refine HLe.seg ?_ ?_; (focus (repeat (first | with_reducible exact AtS.here | with_reducible exact AtS.here2 | exact AtS.last | apply AtS.there | with_reducible apply AtS.app | with_reducible apply AtS.app2)))) | refine HLe.cons (by repeat (first | exact At.here | apply At.there | with_reducible apply At.app | with_reducible apply At.app2)) ?_ | refine HLe.seg (by repeat (first | with_reducible exact AtS.here | with_reducible exact AtS.here2 | exact AtS.last | apply AtS.there | with_reducible apply AtS.app | with_reducible apply AtS.app2)) ?_ | exact HLe.last (by repeat (first | with_reducible exact AtS.here | with_reducible exact AtS.here2 | exact AtS.last | apply AtS.there | with_reducible apply AtS.app | with_reducible apply AtS.app2))))
           rw [hf, ascErr_next hx (by unfold inBad; omega) (fun h => by have := hbh.1 h; omega)])
  · repeat' (conv => whnf); first
      | (refine VSeq.is ?_; refine VSeq.go ?_)
      | (refine VB.is ?_; refine VB.split (fun _ => ?_) (fun h => absurd (by omega) h))
      | (refine VB.is ?_; refine VB.split (fun h => absurd h (by omega)) (fun _ => ?_))
      | (refine VB.is ?_; refine VB.split (fun _ => ?_) (fun _ => ?_))
      | (refine boolE_split (fun h => ?_) (fun h => ?_) <;> subst h)
      | (refine VLd.is ?_; refine VLd.mk (.row (by repeat (first | exact At.here | apply At.there | with_reducible apply At.app | with_reducible apply At.app2)) (by rfl)) ?_)
      | (refine VSt.is ?_; refine VSt.row (by repeat (first | exact At.here | apply At.there | with_reducible apply At.app | with_reducible apply At.app2)) (by rfl) (by first | rfl | assumption) ?_)
      | (refine VNew.is ?_; refine VNew.mk fun _ => ?_)
      | (refine VAr.is ?_; refine VAr.i64 (by omega) (by omega) ?_)
      | (refine VIx.is ?_; refine VIx.mk rfl (by omega) (by omega) ?_)
      | (refine VKeep.is ?_; refine VKeep.mk (by repeat (first | exact HLe.nil | exact HLe.refl _ | refine HLe.nilv ?_ | (with_reducible refine HLe.seg ?_ ?_; (focus (repeat (first | with_reducible exact AtS.here | with_reducible exact AtS.here2 | exact AtS.last | apply AtS.there | with_reducible apply AtS.app | with_reducible apply AtS.app2)))) | refine HLe.cons (by repeat (first | exact At.here | apply At.there | with_reducible apply At.app | with_reducible apply At.app2)) ?_ | refine HLe.seg (by repeat (first | with_reducible exact AtS.here | with_reducible exact AtS.here2 | exact AtS.last | apply AtS.there | with_reducible apply AtS.app | with_reducible apply AtS.app2)) ?_ | exact HLe.last (by repeat (first | with_reducible exact AtS.here | with_reducible exact AtS.here2 | exact AtS.last | apply AtS.there | with_reducible apply AtS.app | with_reducible apply AtS.app2)))) ?_)
      | (refine VHs.is ?_; refine VHs.mk _ (HLe.refl _) ?_)
      | (refine VQ.is ?_; refine VQ.pos (by omega) (by omega) (by omega) ?_)
      | (refine VM.is ?_; refine VM.pos (by omega) (by omega) ?_)
      | (refine And.intro ?_ ?_)
    all_goals (conv => whnf)
    exact ⟨fun w' hw' => ⟨by rw [hf, List.drop_eq_nil_of_le hge]; rfl, hw'.le .nil⟩⟩

/-- What prepared returns. -/
def prepErr (N : Net) (l : List Evt) (ticks limit : Int) : Int := if netchk N ≠ 0 then netchk N else if ¬ (0 ≤ ticks ∧ ticks ≤ limit) then 3 else evErr N.inputs limit l

theorem prepared_any (N : Net) (hN : N.wf) (l : List Evt) (hl : ∀ x ∈ l, x.wf) (ticks limit : Int) (hlim : 0 ≤ limit ∧ limit ≤ 1073741824) (pn : Option Addr) (cn bn on : Nat) (qs : Option Addr) (cs bs os : Nat) (p : Option Addr) (c b o : Nat) (w : World)
    (h1 : Sl w parV 8 N.ps pn N.ps.length bn on) (h2 : Sl w synV 4 N.syns qs N.syns.length bs os) (h3 : Sl w evtV 2 l p l.length b o) :
    Calls Try.prog 58 #[.agg #[.slice pn N.ps.length cn, .int .i64 N.inputs, .slice qs N.syns.length cs], .slice p l.length c, .int .i64 ticks, .int .i64 limit] w fun e w' => e = .returned (.int .i64 (prepErr N l ticks limit)) ∧ St w [] [] w' := by
  have hok := @netchk_zero N
  refine enter (C := Try.cx) (F := Try.fx58) (args := [_, _, _, _]) Try.func58 rfl rfl rfl Try.ok58 (St.start w []) ?_
  repeat' (conv => whnf); first
    | (refine VCall.is ?_; refine VCall.valR (fun w' hw' => Check_any N hN _ _ _ _ _ _ _ _ _ (h1.keep hw' (by simp)) (h2.keep hw' (by simp))) ?_)
    | (refine VCall.is ?_; refine VCall.valR (fun w' hw' => ordered_any N (hok.1 (by omega)).inputs l hl limit hlim _ _ _ _ _ _ _ (h3.keep hw' (by simp))) ?_)
    | (refine VCall.is ?_; refine VCall.bool (within_net _ _ _) ?_)
    | (refine VSeq.is ?_; refine VSeq.go ?_)
    | (refine VB.is ?_; refine VB.split (fun _ => ?_) (fun h => absurd (by omega) h))
    | (refine VB.is ?_; refine VB.split (fun h => absurd h (by omega)) (fun _ => ?_))
    | (refine VB.is ?_; refine VB.split (fun _ => ?_) (fun _ => ?_))
    | (refine boolE_split (fun h => ?_) (fun h => ?_) <;> subst h)
    | (refine VLd.is ?_; refine VLd.mk (.row (by repeat (first | exact At.here | apply At.there | with_reducible apply At.app | with_reducible apply At.app2)) (by rfl)) ?_)
    | (refine VSt.is ?_; refine VSt.row (by repeat (first | exact At.here | apply At.there | with_reducible apply At.app | with_reducible apply At.app2)) (by rfl) (by first | rfl | assumption) ?_)
    | (refine VNew.is ?_; refine VNew.mk fun _ => ?_)
    | (refine VAr.is ?_; refine VAr.i64 (by omega) (by omega) ?_)
    | (refine VIx.is ?_; refine VIx.mk rfl (by omega) (by omega) ?_)
    | (refine VKeep.is ?_; refine VKeep.mk (by repeat (first | exact HLe.nil | exact HLe.refl _ | refine HLe.nilv ?_ | (with_reducible refine HLe.seg ?_ ?_; (focus (repeat (first | with_reducible exact AtS.here | with_reducible exact AtS.here2 | exact AtS.last | apply AtS.there | with_reducible apply AtS.app | with_reducible apply AtS.app2)))) | refine HLe.cons (by repeat (first | exact At.here | apply At.there | with_reducible apply At.app | with_reducible apply At.app2)) ?_ | refine HLe.seg (by repeat (first | with_reducible exact AtS.here | with_reducible exact AtS.here2 | exact AtS.last | apply AtS.there | with_reducible apply AtS.app | with_reducible apply AtS.app2)) ?_ | exact HLe.last (by repeat (first | with_reducible exact AtS.here | with_reducible exact AtS.here2 | exact AtS.last | apply AtS.there | with_reducible apply AtS.app | with_reducible apply AtS.app2)))) ?_)
    | (refine VHs.is ?_; refine VHs.mk _ (HLe.refl _) ?_)
    | (refine VQ.is ?_; refine VQ.pos (by omega) (by omega) (by omega) ?_)
    | (refine VM.is ?_; refine VM.pos (by omega) (by omega) ?_)
    | (refine And.intro ?_ ?_)
  all_goals (conv => whnf)
  all_goals refine ⟨fun w' hw' => ⟨?_, hw'.le .nil⟩⟩
  all_goals refine congrArg (fun x => Ending.returned (.int .i64 x)) ?_
  all_goals unfold prepErr
  all_goals (repeat' split) <;> first | rfl | omega

end Go.Proofs
