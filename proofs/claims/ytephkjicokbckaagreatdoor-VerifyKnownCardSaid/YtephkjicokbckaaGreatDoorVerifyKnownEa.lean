import Derived.Test.YtephkjicokbckaaGreatDoorVerifyKnownWb
import Derived.Test.YtephkjicokbckaaGreatDoorVerifyKnownMk
import Derived.Test.YtephkjicokbckaaGreatDoorVerifyKnownWg
import Derived.Test.YtephkjicokbckaaGreatDoorVerifyKnownCl
import Derived.Test.YtephkjicokbckaaGreatDoorVerifyKnownTo2
section
set_option linter.unusedVariables false

set_option linter.unusedSimpArgs false

namespace Go.Proofs

open Go Go.Vx Go.Gm

end Go.Proofs
end

section
set_option linter.unusedVariables false

set_option linter.unusedSimpArgs false

namespace Go.Proofs

open Go Go.Vx Go.Gm

end Go.Proofs
end

section
set_option linter.unusedVariables false

set_option linter.unusedSimpArgs false

namespace Go.Gm

structure Mom where
  must : List Int
  nots : List Int

def Shown (m : Mom) (sp : List Int) : Prop := (∀ i ∈ m.must, i ∈ sp) ∧ ∀ i ∈ m.nots, i ∉ sp

instance (m : Mom) (sp : List Int) : Decidable (Shown m sp) := by unfold Shown; infer_instance

structure Sur where
  free : List Int
  fixed : List Evt
  most : Int

def atL (t : Int) (ids : List Int) : List Evt := ids.map fun i => ⟨t, i⟩

def fixedL (fixed : List Evt) (t : Int) : List Int := (fixed.filter fun x => decide (x.tick = t)).map (·.id)

theorem fixedL_take {fixed : List Evt} {t : Int} {k : Nat} {x : Evt} (h : fixed[k]? = some x) : fixedL (fixed.take (k + 1)) t = fixedL (fixed.take k) t ++ if x.tick = t then [x.id] else [] := by
  unfold fixedL
  rw [List.take_add_one, h, Option.toList_some, List.filter_append, List.map_append]
  congr 1
  by_cases hx : x.tick = t <;> simp [hx]

def freeErr (n : Int) : Option Int → List Int → Int
  | _, [] => 0
  | p, k :: r => if ¬ (0 ≤ k ∧ k ≤ n - 1) then 3 else if (match p with | none => false | some q => decide (k ≤ q)) = true then 2 else freeErr n (some k) r

end Go.Gm

namespace Go.Proofs

open Go Go.Vx Go.Gm

structure MomD where
  m : SlD Int
  n : SlD Int

def momV (x : MomD) : List Value := [slV x.m, slV x.n]

def MomD.mom (x : MomD) : Mom := ⟨x.m.l, x.n.l⟩

structure MomOk (w : World) (x : MomD) : Prop where
  m : ∃ b o, Sl w intV 1 x.m.l x.m.p x.m.l.length b o
  n : ∃ b o, Sl w intV 1 x.n.l x.n.p x.n.l.length b o
  ml : x.m.l.length ≤ 400000
  nl : x.n.l.length ≤ 400000

theorem MomOk.keep {w w' : World} {H : HP} {x : MomD} (h : MomOk w x) (hs : St w [] H w') : MomOk w' x := by
  obtain ⟨⟨b, o, h1⟩, ⟨b2, o2, h2⟩, h3, h4⟩ := h
  exact ⟨⟨b, o, h1.keep hs (by simp)⟩, ⟨b2, o2, h2.keep hs (by simp)⟩, h3, h4⟩

theorem shown_any (x : MomD) (sp : List Int) (hsl : sp.length ≤ 1000000) (ps : Option Addr) (cp b o : Nat) (w : World) (hx : MomOk w x) (h1 : Sl w intV 1 sp ps sp.length b o) :
    Calls Tryz.prog 58 #[.agg #[slV x.m, slV x.n], .slice ps sp.length cp] w fun e w' => ∃ c : Bool, e = .returned (.bool c) ∧ (c = true ↔ Shown x.mom sp) ∧ St w [] [] w' := by
  obtain ⟨⟨bm, om, hm⟩, ⟨bn, on, hn⟩, hml, hnl⟩ := hx
  obtain ⟨⟨pm, cm, M⟩, ⟨pn, cn, N⟩⟩ := x
  dsimp only at hm hn hml hnl
  have hS : Shown (MomD.mom ⟨⟨pm, cm, M⟩, ⟨pn, cn, N⟩⟩) sp ↔ (∀ i ∈ M, i ∈ sp) ∧ ∀ i ∈ N, i ∉ sp := Iff.rfl
  rw [hS]
  refine enter (C := Tryz.cx) (F := Tryz.fx58) (args := [_, _]) Tryz.func58 rfl rfl rfl Tryz.ok58 (St.start w []) ?_
  repeat' (conv => whnf); first | (refine VCall.isF 118 ?_; refine VCall.inl (F := Tryz.fx118) Tryz.func118 rfl rfl rfl Tryz.ok118 ?_) | (refine VCall.isF 168 ?_; refine VCall.inl (F := Tryz.fx168) Tryz.func168 rfl rfl rfl Tryz.ok168 ?_) | (refine VSeq.go ?_) | (refine VB.is ?_; refine VB.no (by omega) fun _ => ?_) | (refine VLd.is ?_; refine VLd.mk (.row aT (by rfl)) ?_) | (refine VSt.is ?_; refine VSt.row aT (by rfl) (by first | rfl | assumption) ?_) | (refine VNew.mk fun _ => ?_)
  all_goals (conv => whnf)
  rename_i b2 b3 b5
  refine VLoop.mk (α := Nat) (fun j => j ≤ M.length ∧ ∀ i ∈ M.take j, i ∈ sp) (fun j => [(1000000, .tuple #[]), (0, .slice pm M.length cm), (1, .func (.func 127) #[] #[.pointer (some ⟨b5, 0, none⟩)]), (4, .int .i64 0), (7, .int .i64 (M.length : Int)), (8, .int .i64 (j : Int))])
    (fun _ => [.row b5 184 [.func (.func 126) #[] #[.pointer (some ⟨b3, 0, none⟩)]], .row b3 26 [.slice ps sp.length cp], .row b2 87 [.slice pm M.length cm, .slice pn N.length cn]]) (fun j => M.length - j) 0 ⟨by omega, by simp⟩ aE aH ?_
  rintro j ⟨hj, hall⟩
  rcases Nat.lt_or_ge j M.length with hlt | hge
  · obtain ⟨i, hi⟩ := hm.get hlt
    have him := List.mem_of_getElem? hi
    repeat' (conv => whnf); first | (refine VIx.is ?_; refine VIx.mk (hm.ptr (by omega)) (by omega) (by omega) ?_) | (refine VLd.is ?_; refine VLd.mk (Rd.cast (hm.rd0 (by simp) (fun _ => rfl) hi rfl) (by first | omega | (dsimp only; omega) | rfl)) ?_) | (refine VCall.isF 127 ?_; refine VCall.inl (F := Tryz.fx127) Tryz.func127 rfl rfl rfl Tryz.ok127 ?_) | (refine VCall.isF 126 ?_; refine VCall.inl (F := Tryz.fx126) Tryz.func126 rfl rfl rfl Tryz.ok126 ?_) | (refine VCall.isF 117 ?_; (refine VCall.genR (fun w' hw' => contains_any sp (by omega) _ _ _ _ _ w' (h1.keep hw' (by simp))) ?_; intro c hc; cases c <;> simp only [Bool.false_eq_true, false_iff, true_iff] at hc)) | (refine VSeq.go ?_) | (refine VB.is ?_; refine VB.yes (by omega) fun _ => ?_) | (refine VLd.is ?_; refine VLd.mk (.row aT (by rfl)) ?_) | (refine VAr.is ?_; refine oA ?_)
    all_goals (conv => whnf)
    all_goals first
      | (refine VNext.mk (j + 1) ⟨by omega, ?_⟩ (by omega) aE aH
         rw [List.take_add_one, hi, Option.toList_some]
         intro k hk
         rcases List.mem_append.1 hk with hk | hk
         · exact hall k hk
         · simp only [List.mem_singleton] at hk; subst hk; exact hc)
      | exact ⟨fun w' hw' => ⟨false, rfl, by simp only [Bool.false_eq_true, false_iff]; exact fun h => hc (h.1 i him), hw'.le .nil⟩⟩
  rw [List.take_of_length_le hge] at hall
  repeat' (conv => whnf); first | (refine VCall.isF 118 ?_; refine VCall.inl (F := Tryz.fx118) Tryz.func118 rfl rfl rfl Tryz.ok118 ?_) | (refine VCall.isF 168 ?_; refine VCall.inl (F := Tryz.fx168) Tryz.func168 rfl rfl rfl Tryz.ok168 ?_) | (refine VSeq.go ?_) | (refine VB.is ?_; refine VB.no (by omega) fun _ => ?_) | (refine VLd.is ?_; refine VLd.mk (.row aT (by rfl)) ?_) | (refine VSt.is ?_; refine VSt.row aT (by rfl) (by first | rfl | assumption) ?_) | (refine VNew.mk fun _ => ?_)
  all_goals (conv => whnf)
  refine VLoop.mk (α := Nat) (fun j => j ≤ N.length ∧ ∀ i ∈ N.take j, i ∉ sp) (fun j => [(1000000, .tuple #[]), (0, .slice pn N.length cn), (1, .func (.func 126) #[] #[.pointer (some ⟨b3, 0, none⟩)]), (4, .int .i64 0), (7, .int .i64 (N.length : Int)), (8, .int .i64 (j : Int))])
    (fun _ => [.row b5 184 [.func (.func 126) #[] #[.pointer (some ⟨b3, 0, none⟩)]], .row b3 26 [.slice ps sp.length cp], .row b2 87 [.slice pm M.length cm, .slice pn N.length cn]]) (fun j => N.length - j) 0 ⟨by omega, by simp⟩ aE aH ?_
  rintro j2 ⟨hj2, hall2⟩
  rcases Nat.lt_or_ge j2 N.length with hlt2 | hge2
  · obtain ⟨i, hi⟩ := hn.get hlt2
    have him := List.mem_of_getElem? hi
    repeat' (conv => whnf); first | (refine VIx.is ?_; refine VIx.mk (hn.ptr (by omega)) (by omega) (by omega) ?_) | (refine VLd.is ?_; refine VLd.mk (Rd.cast (hn.rd0 (by simp) (fun _ => rfl) hi rfl) (by first | omega | (dsimp only; omega) | rfl)) ?_) | (refine VCall.isF 126 ?_; refine VCall.inl (F := Tryz.fx126) Tryz.func126 rfl rfl rfl Tryz.ok126 ?_) | (refine VCall.isF 117 ?_; (refine VCall.genR (fun w' hw' => contains_any sp (by omega) _ _ _ _ _ w' (h1.keep hw' (by simp))) ?_; intro c hc; cases c <;> simp only [Bool.false_eq_true, false_iff, true_iff] at hc)) | (refine VSeq.go ?_) | (refine VB.is ?_; refine VB.yes (by omega) fun _ => ?_) | (refine VLd.is ?_; refine VLd.mk (.row aT (by rfl)) ?_) | (refine VAr.is ?_; refine oA ?_)
    all_goals (conv => whnf)
    all_goals first
      | (refine VNext.mk (j2 + 1) ⟨by omega, ?_⟩ (by omega) aE aH
         rw [List.take_add_one, hi, Option.toList_some]
         intro k hk
         rcases List.mem_append.1 hk with hk | hk
         · exact hall2 k hk
         · simp only [List.mem_singleton] at hk; subst hk; exact hc)
      | exact ⟨fun w' hw' => ⟨false, rfl, by simp only [Bool.false_eq_true, false_iff]; exact fun h => h.2 i him hc, hw'.le .nil⟩⟩
  rw [List.take_of_length_le hge2] at hall2
  repeat' (conv => whnf); first | (refine VSeq.go ?_) | (refine VB.is ?_; refine VB.no (by omega) fun _ => ?_) | (refine VLd.is ?_; refine VLd.mk (.row aT (by rfl)) ?_)
  all_goals (conv => whnf)
  exact ⟨fun w' hw' => ⟨true, rfl, by simp only [true_iff]; exact ⟨hall, hall2⟩, hw'.le .nil⟩⟩

theorem vat_any (t : Int) (ids : List Int) (hl : ids.length ≤ 1000000) (p : Option Addr) (cp b o : Nat) (w : World) (h1 : Sl w intV 1 ids p ids.length b o) :
    Calls Tryz.prog 61 #[.int .i64 t, .slice p ids.length cp] w fun e w' => ∃ y : Option Addr × Nat, e = .returned (.slice y.1 ids.length y.2) ∧ (0 < ids.length → ∃ g, y.1 = some ⟨g, 0, none⟩) ∧ St w [] [.vec y.1 ids.length y.2 64 2 (flat evtV (atL t ids))] w' := by
  refine enter (C := Tryz.cx) (F := Tryz.fx61) (args := [_, _]) Tryz.func61 rfl rfl rfl Tryz.ok61 (St.start w []) ?_
  repeat' (conv => whnf); first | (refine VSeq.go ?_) | (refine VB.is ?_; refine VB.no (by omega) fun _ => ?_) | (refine VLd.is ?_; refine VLd.mk (.row aT (by rfl)) ?_)
  all_goals (conv => whnf)
  refine VLoop.mk (α := Nat × Option Addr × Nat) (fun y => y.1 ≤ ids.length ∧ (0 < y.1 → ∃ g, y.2.1 = some ⟨g, 0, none⟩)) (fun y => [(1000000, .tuple #[]), (0, .int .i64 t), (4, .slice none 0 0), (5, .slice y.2.1 y.1 y.2.2), (8, .slice p ids.length cp), (9, .int .i64 (ids.length : Int)), (10, .int .i64 (y.1 : Int))])
    (fun y => [.vec y.2.1 y.1 y.2.2 64 2 (flat evtV (atL t (ids.take y.1)))]) (fun y => ids.length - y.1) (0, none, 0) ⟨by dsimp only; omega, by simp⟩ aE (HLe.nilv .nil) ?_
  rintro ⟨j, q, cq⟩ ⟨hj, hq⟩
  dsimp only at hj hq ⊢
  rcases Nat.lt_or_ge j ids.length with hlt | hge
  · obtain ⟨i, hi⟩ := h1.get hlt
    repeat' (conv => whnf); first | (refine VIx.is ?_; refine VIx.mk (h1.ptr (by omega)) (by omega) (by omega) ?_) | (refine VLd.is ?_; refine VLd.mk (Rd.cast (h1.rd0 (by simp) (fun _ => rfl) hi rfl) (by first | omega | (dsimp only; omega) | rfl)) ?_) | (refine VAp.is ?_; refine VAp.own (p := q) aT (.at_ (.vec aT rfl)) (by simp [Value.oneCell']) (by (try dsimp only); omega) (by simp only [maxLen]; omega) fun p' cap' hp' => ?_) | (refine VSeq.go ?_) | (refine VB.is ?_; refine VB.yes (by omega) fun _ => ?_) | (refine VNew.mk fun _ => ?_) | (refine VAr.is ?_; refine oA ?_)
    all_goals (conv => whnf)
    refine VNext.mk (j + 1, p', cap') ⟨by dsimp only; omega, fun _ => hp' (by omega)⟩ (by dsimp only; omega) aE ?_
    dsimp only
    have e : atL t (ids.take (j + 1)) = atL t (ids.take j) ++ [⟨t, i⟩] := by unfold atL; rw [List.take_add_one, hi, Option.toList_some, List.map_append]; rfl
    rw [e, flat_append]
    exact aH
  · have hjn : j = ids.length := by omega
    subst hjn
    rw [List.take_length]
    repeat' (conv => whnf); first | (refine VSeq.go ?_) | (refine VB.is ?_; refine VB.no (by omega) fun _ => ?_) | (refine VLd.is ?_; refine VLd.mk (.row aT (by rfl)) ?_)
    all_goals (conv => whnf)
    exact ⟨fun w' hw' => ⟨(q, cq), rfl, hq, hw'.le aH⟩⟩

end Go.Proofs
end
