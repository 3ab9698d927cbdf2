import Derived.Test.YtephkjicokbckaaGreatDoorVerifyKnownVb
import Derived.Test.YtephkjicokbckaaGreatDoorVerifyKnownGa
import Derived.Test.YtephkjicokbckaaGreatDoorVerifyKnownNeuron
import Derived.Test.YtephkjicokbckaaGreatDoorVerifyKnownNa
import Derived.Deep.Slices
import Derived.Deep.Fields
import Derived.ChangeSame
import Derived.WalkKit
import Derived.ProofKit
import Derived.OpenShut
import Derived.Carry
import Derived.Lib.SmallJoins
import Derived.WideKeyArgs
import Derived.Test.YtephkjicokbckaaGreatDoorRows
section
section

set_option linter.unusedVariables false

set_option linter.unusedSimpArgs false

namespace Go.Proofs

open Go Go.Vx Go.Gm Go.RowKit Go.WideShapes Go.ChangeShapes Go.Deep Go.Joins

section

variable {H : Type} {enc : TypeId × Value → H} {P : Program} {w : World} {base : Nat} {spare : Nat → Bool} {held : Bool}

theorem Sl.thr {α β : Type} {f : α → List Value} {g : β → List Value} {k : Nat} {l : List α} {p : Option Addr} {n b off : Nat} (h : Sl w f k l p n b off) (m : α → β) (hm : ∀ x ∈ l, g (m x) = f x) : Sl w g k (l.map m) p n b off := by
  refine ⟨h.base, by rw [List.length_map]; exact h.len, ?_⟩
  have : flat g (l.map m) = flat f l := by
    clear h
    induction l with
    | nil => rfl
    | cons y l ih =>
      simp only [flat, List.map_cons, List.flatMap_cons] at ih ⊢
      rw [hm y (by simp), ih fun x hx => hm x (by simp [hx])]
  rw [this]
  exact h.cells

end

end Go.Proofs

end

section

set_option linter.unusedVariables false

set_option linter.unusedSimpArgs false

namespace Go.Proofs

open Go Go.Vx Go.Gm Go.RowKit Go.WideShapes Go.ChangeShapes Go.Deep Go.Joins

section

variable {H : Type} {enc : TypeId × Value → H} {P : Program}

theorem below_of_st {W W' : World} (h : St W [] [] W') : Below W.heap.size W W' := ⟨h.os, h.tape, h.output, h.size, fun k hk => h.old k hk (by simp)⟩

theorem args_stay (hl : laidOutB P = true) {W W' : World} (hb : Below W.heap.size W W') {sp : Nat → Bool} : ∀ {ts : List TypeId} {vs : List Value} {ds : List (DataW H)} {ps : List MemPlace},
    (ts.all fun t => P.readableRec t && decide (t < P.types.size)) = true → DataW.TrodAll enc P W 0 (fun _ => true) true ts vs ds ps → (∀ x ∈ ps, x.block < W.heap.size) → (∀ x ∈ ps, sp x.block = true) →
    DataW.TrodAll enc P W' 0 sp true ts vs ds ps
  | [], _, _, _, _, h, _, _ => by
    obtain ⟨rfl, rfl, rfl⟩ := trodAll_nil h
    rfl
  | t :: ts, _, _, _, hr, h, hlt, hsp => by
    obtain ⟨v, vs, d, ds, p, q, rfl, rfl, rfl, h1, h2⟩ := trodAll_cons h
    simp only [List.all_cons, Bool.and_eq_true, decide_eq_true_eq] at hr
    refine trodAll_cons_mk (WideElems.Trod_stays hl hr.1.1 hr.1.2 h1 (fun x hx => hb.same (hlt x (by simp [hx]))) (fun x hx => hsp x (by simp [hx]))) ?_
    exact args_stay hl hb hr.2 h2 (fun x hx => hlt x (by simp [hx])) (fun x hx => hsp x (by simp [hx]))

theorem law_post {f : Func} {s : ChangeSpec} {fresh handsOn : Bool} {W W' : World} {args : Array Value} {ds gs : List (DataW H)} {before : List MemPlace} {t0 : TypeId}
    (hl : laidOutB P = true) (hr : (f.params.toList.all fun t => P.readableRec t && decide (t < P.types.size)) = true) (hsv : s.vars = []) (hres : f.resultTypes = #[t0]) (ht0 : P.underlying t0 = some .bool)
    (hspec : s.fn H ds = { results := [.lit (.bool true)], args := ds }) (hW : DataW.Whole enc P f.params.toList s.vars false W args.toList ds gs before) (hs : St W [] [] W') :
    s.post enc P f false fresh handsOn false W args (.bool true) W' := by
  have hb := below_of_st hs
  have hlt : ∀ p ∈ before, p.block < W.heap.size := fun p hp => hW.lt p hp
  have hW' := hW
  obtain ⟨p, q, hA, hV, rfl, hz, hn⟩ := hW
  rw [hsv] at hV
  obtain ⟨rfl, rfl⟩ := trodVars_none hV
  have hargs : ∀ sp : Nat → Bool, (∀ x ∈ p, sp x.block = true) → DataW.TrodAll enc P W' 0 sp true f.params.toList args.toList ds p := fun sp hsp => args_stay hl hb hr hA (fun x hx => hlt x (by simp [hx])) hsp
  have hold : ∀ x ∈ p, (fun b => decide (b < W.heap.size)) x.block = true := fun x hx => by simpa using hlt x (by simp [hx])
  have e : s.fn H (ds ++ []) = { results := [.lit (.bool true)], args := ds } := by rw [List.append_nil]; exact hspec
  have hr1 : ∀ (b : Nat) (sp : Nat → Bool) (hd : Bool), DataW.TrodAll enc P W' b sp hd f.resultTypes.toList ((Value.bool true).resultList f.resultTypes.size) [.lit (.bool true)] [] := fun b sp hd => by
    rw [hres]
    exact trodAll_mk1 (shut_bool ht0 _)
  have hvars : ∀ sp : Nat → Bool, DataW.TrodVars enc P W' sp s.vars (s.fn H (ds ++ [])).vars [] := fun sp => by rw [hsv, e]; rfl
  refine ⟨ds, [], _, [], p, [], hW', by rw [e]; exact hr1 _ _ _, by rw [e]; exact hargs _ hold, hvars _, World.keptBut_mono (fun x hx => ?_) (hb.frame (fun _ => False)), fun h => by cases h⟩
  exact hx.elim

end

end Go.Proofs

end

section

set_option linter.unusedVariables false

set_option linter.unusedSimpArgs false

namespace Go.Proofs

open Go Go.Vx Go.Gm Go.RowKit Go.WideShapes Go.ChangeShapes Go.Deep Go.Joins

theorem Tryz.own0 : ownKnob Tryz.prog.godebug = none := by kernel_rfl

theorem Tryz.laid0 : laidOutB Tryz.prog = true := by kernel_rfl

section

variable {H : Type} {enc : TypeId × Value → H} {W : World} {base b0 : Nat} {spare : Nat → Bool} {held : Bool} {r : Reach}

end

end Go.Proofs

end

section

set_option linter.unusedVariables false

set_option linter.unusedSimpArgs false

namespace Go.Proofs

open Go Go.Vx Go.Gm Go.RowKit Go.WideShapes Go.ChangeShapes Go.Deep Go.Joins

section

variable {H : Type} {enc : TypeId × Value → H} {W : World} {base b0 : Nat} {spare : Nat → Bool} {held : Bool} {r : Reach}

end

end Go.Proofs

end
end

section
set_option linter.unusedVariables false

set_option linter.unusedSimpArgs false

namespace Go.Proofs

open Go Go.Vx Go.Gm

structure SlD (α : Type) where
  p : Option Addr
  c : Nat
  l : List α

def slV {α : Type} (d : SlD α) : Value := .slice d.p d.l.length d.c

def slVs {α : Type} (d : SlD α) : List Value := [slV d]

def cat {α : Type} (Ls : List (SlD α)) : List α := Ls.flatMap (·.l)

theorem cat_next {α : Type} {Ls : List (SlD α)} {i : Nat} {d : SlD α} (h : Ls[i]? = some d) : cat (Ls.take (i + 1)) = cat (Ls.take i) ++ d.l := by
  unfold cat
  rw [List.take_add_one, h, Option.toList_some, List.flatMap_append]
  simp

theorem cat_take_le {α : Type} (Ls : List (SlD α)) (i : Nat) : (cat (Ls.take i)).length ≤ (cat Ls).length := by
  have : cat Ls = cat (Ls.take i) ++ cat (Ls.drop i) := by unfold cat; rw [← List.flatMap_append, List.take_append_drop]
  rw [this, List.length_append]
  omega

theorem concatInt_any (Ls : List (SlD Int)) (hn : Ls.length ≤ 1000) (hsz : (cat Ls).length ≤ 1000000) (pp : Option Addr) (cc bb oo : Nat) (w : World) (hc : Sl w slVs 1 Ls pp Ls.length bb oo) (hs : ∀ d ∈ Ls, ∃ b off, Sl w intV 1 d.l d.p d.l.length b off) :
    Calls Tryz.prog 119 #[.slice pp Ls.length cc] w fun e w' => ∃ y : Option Addr × Nat, e = .returned (.slice y.1 (cat Ls).length y.2) ∧ (0 < (cat Ls).length → ∃ g, y.1 = some ⟨g, 0, none⟩) ∧ St w [] [.vec y.1 (cat Ls).length y.2 3 1 (flat intV (cat Ls))] w' := by
  refine enter (C := Tryz.cx) (F := Tryz.fx119) (args := [_]) Tryz.func119 rfl rfl rfl Tryz.ok119 (St.start w []) ?_
  repeat' (conv => whnf); first | (refine VSeq.go ?_) | (refine VB.is ?_; refine VB.no (by omega) fun _ => ?_)
  all_goals (conv => whnf)
  refine VLoop.kr (α := Nat) [1000000, 0, 2, 9, 10] rfl (fun i => i ≤ Ls.length) (fun i K => (11, .int .i64 (i : Int)) :: (3, .int .i64 ((cat (Ls.take i)).length : Int)) :: K) (fun _ => []) (fun i => Ls.length - i) 0 (by omega) aE aH ?_
  intro i hi
  rcases Nat.lt_or_ge i Ls.length with hlt | hge
  · obtain ⟨d, hd⟩ := hc.get hlt
    have hnx := cat_next hd
    have hle := cat_take_le Ls (i + 1)
    rw [hnx, List.length_append] at hle
    repeat' (conv => whnf); first | (refine VIx.is ?_; refine VIx.mk (hc.ptr (by omega)) (by omega) (by omega) ?_) | (refine VLd.is ?_; refine VLd.mk (Rd.cast (hc.rd0 (by simp) (fun _ => rfl) hd rfl) (by first | omega | (dsimp only; omega) | rfl)) ?_) | (refine VSeq.go ?_) | (refine VB.is ?_; refine VB.yes (by omega) fun _ => ?_) | (refine VB.is ?_; refine VB.no (by omega) fun _ => ?_) | (refine VAr.is ?_; refine oA ?_)
    all_goals (conv => whnf)
    refine VNext.mk (i + 1) (by omega) (by omega) ?_ aH
    rw [hnx, List.length_append]
    exact aE
  · rw [List.take_of_length_le hge]
    by_cases h0 : (cat Ls).length = 0
    · have hall : ∀ i, cat (Ls.take i) = [] := fun i => List.eq_nil_of_length_eq_zero (by have := cat_take_le Ls i; omega)
      repeat' (conv => whnf); first | (refine VCall.isF 169 ?_; refine VCall.inl (F := Tryz.fx169) Tryz.func169 rfl rfl rfl Tryz.ok169 ?_) | (refine VSeq.go ?_) | (refine VB.is ?_; refine VB.no (by omega) fun _ => ?_) | (refine VAr.is ?_; refine oA ?_)
      all_goals (conv => whnf)
      refine VLoop.kr (α := Nat × Option Addr × Nat) [1000000, 2, 25, 26] rfl (fun y => y.1 ≤ Ls.length) (fun y K => (27, .int .i64 (y.1 : Int)) :: (6, .slice y.2.1 (cat (Ls.take y.1)).length y.2.2) :: K)
        (fun y => [.vec y.2.1 (cat (Ls.take y.1)).length y.2.2 3 1 (flat intV (cat (Ls.take y.1)))]) (fun y => Ls.length - y.1) (0, none, 0) (by simp) aE aH ?_
      rintro ⟨j, p, cap⟩ hj
      dsimp only at hj ⊢
      rcases Nat.lt_or_ge j Ls.length with hltj | hgej
      · obtain ⟨d, hd⟩ := hc.get hltj
        obtain ⟨b1, o1, hsl⟩ := hs d (List.mem_of_getElem? hd)
        have hnx := cat_next hd
        have hle := cat_take_le Ls (j + 1)
        rw [hnx, List.length_append] at hle
        repeat' (conv => whnf); first | (refine VIx.is ?_; refine VIx.mk (hc.ptr (by omega)) (by omega) (by omega) ?_) | (refine VLd.is ?_; refine VLd.mk (Rd.cast (hc.rd0 (by simp) (fun _ => rfl) hd rfl) (by first | omega | (dsimp only; omega) | rfl)) ?_) | (refine VAp.is ?_; refine VAp.own (p := p) aT (hsl.src (by simp) (fun _ => rfl)) (flat_one_cell (by simp [intV, Value.oneCell'])) (by (try dsimp only); omega) (by simp only [maxLen]; omega) fun p' cap' hp' => ?_) | (refine VSeq.go ?_) | (refine VB.is ?_; refine VB.yes (by omega) fun _ => ?_) | (refine VAr.is ?_; refine oA ?_)
        all_goals (conv => whnf)
        refine VNext.mk (j + 1, p', cap') (by dsimp only; omega) (by dsimp only; omega) ?_ ?_
        · dsimp only; rw [hnx, List.length_append]; exact aE
        · dsimp only; rw [hnx, List.length_append, flat_append]; exact aH
      · rw [List.take_of_length_le hgej]
        repeat' (conv => whnf); first | (refine VSeq.go ?_) | (refine VB.is ?_; refine VB.no (by omega) fun _ => ?_)
        all_goals (conv => whnf)
        exact ⟨fun w' hw' => ⟨(p, cap), rfl, fun h => by omega, hw'.le aH⟩⟩
    · have hz := flat_rep (f := intV) (x := (0 : Int)) (cat Ls).length
      repeat' (conv => whnf); first | (refine VCall.isF 169 ?_; refine VCall.inl (F := Tryz.fx169) Tryz.func169 rfl rfl rfl Tryz.ok169 ?_) | (refine VSl.is ?_; refine VSl.is ?_; refine VSl.cut0 (m := 0) (cap := 0) (by omega) ?_) | (refine VApZ.is ?_; refine VApZ.nil (m := (cat Ls).length) rfl rfl rfl (by omega) (by omega) (by (try dsimp only); omega) (by simp only [maxLen]; omega) fun b cap' hcap => ?_) | (refine VSl.is ?_; refine VSl.is ?_; refine VSl.cut0 (m := 0) (cap := cap') (by omega) ?_) | (refine VSeq.go ?_) | (refine VB.is ?_; refine VB.yes (by omega) fun _ => ?_) | (refine VB.is ?_; refine VB.no (by omega) fun _ => ?_) | (refine VAr.is ?_; refine oA ?_)
      all_goals (conv => whnf)
      refine VLoop.krL (α := Nat × Option Addr × Nat) [1000000, 2, 25, 26] rfl (fun y => y.1 ≤ Ls.length) (fun y K => (27, .int .i64 (y.1 : Int)) :: (6, .slice y.2.1 (cat (Ls.take y.1)).length y.2.2) :: K)
        (fun y => [.vec y.2.1 (cat (Ls.take y.1)).length y.2.2 3 1 (flat intV (cat (Ls.take y.1)))]) (fun y => Ls.length - y.1) (0, some ⟨b, 0, none⟩, cap') (fun y => 0 < (cat (Ls.take y.1)).length → ∃ g, y.2.1 = some ⟨g, 0, none⟩) (fun y _ w hw => (vec_facts (hw _ (List.mem_cons_self ..))).2.1) (by simp) aE ?_ ?_
      · have := HLe.shr (f := intV) (k := 1) (l := List.replicate (cat Ls).length (0 : Int)) (p := some ⟨b, 0, none⟩) (n := (cat Ls).length) (m := 0) (cap := cap') (e := 3) (H := [.vec (some ⟨b, 0, none⟩) (cat Ls).length cap' 3 1 (flat intV (List.replicate (cat Ls).length (0 : Int)))]) (H' := []) .here (fun _ => rfl) (by simp) (by omega) .nil
        rw [← hz] at this
        exact this
      rintro ⟨j, p, cap⟩ hj hptr
      dsimp only at hj hptr ⊢
      rcases Nat.lt_or_ge j Ls.length with hltj | hgej
      · obtain ⟨d, hd⟩ := hc.get hltj
        obtain ⟨b1, o1, hsl⟩ := hs d (List.mem_of_getElem? hd)
        have hnx := cat_next hd
        have hle := cat_take_le Ls (j + 1)
        rw [hnx, List.length_append] at hle
        repeat' (conv => whnf); first | (refine VIx.is ?_; refine VIx.mk (hc.ptr (by omega)) (by omega) (by omega) ?_) | (refine VLd.is ?_; refine VLd.mk (Rd.cast (hc.rd0 (by simp) (fun _ => rfl) hd rfl) (by first | omega | (dsimp only; omega) | rfl)) ?_) | (refine VAp.is ?_; refine VAp.own (p := p) aT (hsl.src (by simp) (fun _ => rfl)) (flat_one_cell (by simp [intV, Value.oneCell'])) (by (try dsimp only); omega) (by simp only [maxLen]; omega) fun p' cap' hp' => ?_) | (refine VSeq.go ?_) | (refine VB.is ?_; refine VB.yes (by omega) fun _ => ?_) | (refine VAr.is ?_; refine oA ?_)
        all_goals (conv => whnf)
        refine VNext.mk (j + 1, p', cap') (by dsimp only; omega) (by dsimp only; omega) ?_ ?_
        · dsimp only; rw [hnx, List.length_append]; exact aE
        · dsimp only; rw [hnx, List.length_append, flat_append]; exact aH
      · rw [List.take_of_length_le hgej] at hptr ⊢
        repeat' (conv => whnf); first | (refine VSeq.go ?_) | (refine VB.is ?_; refine VB.no (by omega) fun _ => ?_)
        all_goals (conv => whnf)
        exact ⟨fun w' hw' => ⟨(p, cap), rfl, hptr, hw'.le aH⟩⟩

end Go.Proofs
end

section
set_option linter.unusedVariables false

set_option linter.unusedSimpArgs false

namespace Go.Proofs

open Go Go.Vx Go.Gm Go.RowKit Go.WideShapes Go.ChangeShapes Go.Deep Go.Joins

section

variable {H : Type} {enc : TypeId × Value → H} {W : World} {base b0 : Nat} {spare : Nat → Bool} {held : Bool} {r : Reach}

end

end Go.Proofs
end
