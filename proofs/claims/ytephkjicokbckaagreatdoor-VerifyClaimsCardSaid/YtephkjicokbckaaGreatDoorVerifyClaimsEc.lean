import Derived.Test.YtephkjicokbckaaGreatDoorVerifyClaimsEa
set_option linter.unusedVariables false

set_option linter.unusedSimpArgs false

namespace Go.Proofs

open Go Go.Vx Go.Gm

def momBad (n : Nat) (m : Mom) : Prop := ∃ i ∈ m.must ++ m.nots, ¬ (0 ≤ i ∧ i ≤ (n : Int) - 1)

instance (n : Nat) (m : Mom) : Decidable (momBad n m) := by unfold momBad; infer_instance

def patErr (n : Nat) (l : List Mom) : Int := if 8 < l.length then 9 else if l.length = 0 then 2 else if ∃ m ∈ l, momBad n m then 3 else 0

theorem vpat_any (n : Nat) (hn : n ≤ 1000000000) (Ls : List MomD) (pn : Option Addr) (cn : Nat) (iv sv : Value) (hone : oneAll [.slice pn n cn, iv, sv] = true) (p : Option Addr) (cp b o : Nat) (w : World) (h1 : Sl w momV 2 Ls p Ls.length b o) (h2 : ∀ x ∈ Ls, MomOk w x) :
    Calls Tryz.prog 53 #[.agg #[.slice pn n cn, iv, sv], .slice p Ls.length cp] w fun e w' => e = .returned (.int .i64 (patErr n (Ls.map (·.mom)))) ∧ St w [] [] w' := by
  have hpe : ∀ E, patErr n (Ls.map (·.mom)) = E → patErr n (Ls.map (·.mom)) = E := fun _ h => h
  have hlm : (Ls.map (·.mom)).length = Ls.length := List.length_map ..
  have hlm2 : (Ls.map MomD.mom).length = Ls.length := List.length_map ..
  refine enter (C := Tryz.cx) (F := Tryz.fx53) (args := [_, _]) Tryz.func53 rfl rfl rfl Tryz.ok53 (St.start w []) ?_
  by_cases h8 : 8 < Ls.length
  · have e : patErr n (Ls.map (·.mom)) = 9 := by unfold patErr; rw [if_pos (by omega)]
    rw [e]
    repeat' (conv => whnf); first | (refine VSeq.go ?_) | (refine VB.is ?_; refine VB.yes (by omega) fun _ => ?_) | (refine VB.is ?_; refine VB.no (by omega) fun _ => ?_) | (refine VNew.mk fun _ => ?_) | (refine VAr.is ?_; refine oA ?_)
    all_goals (conv => whnf)
    all_goals exact ⟨fun w' hw' => ⟨rfl, hw'.le .nil⟩⟩
  by_cases h0 : Ls.length = 0
  · have e : patErr n (Ls.map (·.mom)) = 2 := by unfold patErr; rw [if_neg (by omega), if_pos (by omega)]
    rw [e]
    repeat' (conv => whnf); first | (refine VSeq.go ?_) | (refine VB.is ?_; refine VB.yes (by omega) fun _ => ?_) | (refine VB.is ?_; refine VB.no (by omega) fun _ => ?_) | (refine VNew.mk fun _ => ?_) | (refine VAr.is ?_; refine oA ?_)
    all_goals (conv => whnf)
    all_goals exact ⟨fun w' hw' => ⟨rfl, hw'.le .nil⟩⟩
  have hbad : (∃ m ∈ Ls.map MomD.mom, momBad n m) → patErr n (Ls.map (·.mom)) = 3 := fun h => by unfold patErr; rw [if_neg (by omega), if_neg (by omega), if_pos h]
  have hgood : (¬ ∃ m ∈ Ls.map MomD.mom, momBad n m) → patErr n (Ls.map (·.mom)) = 0 := fun h => by unfold patErr; rw [if_neg (by omega), if_neg (by omega), if_neg h]
  repeat' (conv => whnf); first | (refine VNew.mk fun b2 => ?_) | (refine VSeq.go ?_) | (refine VB.is ?_; refine VB.no (by omega) fun _ => ?_)
  all_goals (conv => whnf)
  refine VLoop.mk (α := Nat) (fun k => k ≤ Ls.length ∧ ¬ ∃ m ∈ (Ls.map MomD.mom).take k, momBad n m)
    (fun k => [(1000000, .tuple #[]), (2, .pointer (some ⟨b2, 0, none⟩)), (4, .int .i64 0), (15, .slice p Ls.length cp), (16, .int .i64 (Ls.length : Int)), (17, .int .i64 (k : Int))])
    (fun _ => [.row b2 25 [.slice pn n cn, iv, sv]]) (fun k => Ls.length - k) 0 ⟨by omega, by simp⟩ aE aH ?_
  rintro k ⟨hk, hno⟩
  rcases Nat.lt_or_ge k Ls.length with hlt | hge
  · obtain ⟨x, hx⟩ := h1.get hlt
    have hxo := h2 x (List.mem_of_getElem? hx)
    have hxm : (Ls.map (·.mom))[k]? = some x.mom := by rw [List.getElem?_map, hx]; rfl
    have hcat : cat [x.m, x.n] = x.m.l ++ x.n.l := by simp [cat]
    have hcl : (cat [x.m, x.n]).length ≤ 1000000 := by rw [hcat, List.length_append]; have := hxo.ml; have := hxo.nl; omega
    repeat' (conv => whnf); first | (refine VIx.is ?_; refine VIx.mk (h1.ptr (by omega)) (by omega) (by omega) ?_) | (refine VLd.is ?_; refine VLd.mk (Rd.cast (h1.rd0 (s := 2) (vs := momV x) (by simp) (fun _ => rfl) hx rfl) (by first | omega | (dsimp only; omega) | rfl)) ?_) | (refine VCall.isF 119 ?_; (refine VCall.genR (fun w' hw' => concatInt_any [x.m, x.n] (by simp) hcl (some ⟨_, 0, none⟩) 2 _ 0 w' (Sl.own' (f := slVs) (cap := 2) (e := 26) hw' (by exact List.mem_cons_self) (fun _ => rfl) rfl) (fun d hd => by (have h := hxo.keep hw'); (simp only [List.mem_cons, List.not_mem_nil, or_false] at hd); (rcases hd with rfl | rfl); (· exact h.m); (· exact h.n))) ?_; rintro ⟨q, cq⟩ hq; dsimp only at hq)) | (refine VCall.isF 118 ?_; refine VCall.inl (F := Tryz.fx118) Tryz.func118 rfl rfl rfl Tryz.ok118 ?_) | (refine VCall.isF 168 ?_; refine VCall.inl (F := Tryz.fx168) Tryz.func168 rfl rfl rfl Tryz.ok168 ?_) | (refine VSeq.go ?_) | (refine VB.is ?_; refine VB.yes (by omega) fun _ => ?_) | (refine VLd.is ?_; refine VLd.mk (.row aT (by rfl)) ?_) | (refine VSt.is ?_; refine VSt.row aT (by rfl) (by first | rfl | assumption) ?_) | (refine VNew.mk fun _ => ?_)
    all_goals (conv => whnf)
    dsimp only
    obtain ⟨X, hX⟩ : ∃ X, cat [x.m, x.n] = X := ⟨_, rfl⟩
    rw [hX] at hcat hcl hq
    rw [hX]
    have hmb : momBad n x.mom ↔ ∃ i ∈ X, ¬ (0 ≤ i ∧ i ≤ (n : Int) - 1) := by unfold momBad; rw [hcat]; rfl
    have hxin : x.mom ∈ Ls.map MomD.mom := List.mem_of_getElem? hxm
    refine VLoop.kr (α := Nat) [1000000, 0, 1, 4, 7] rfl (fun j => j ≤ X.length ∧ ¬ ∃ i ∈ X.take j, ¬ (0 ≤ i ∧ i ≤ (n : Int) - 1))
      (fun j K => (8, .int .i64 (j : Int)) :: K) (fun _ => [.vec q X.length cq 3 1 (flat intV X), .row b2 25 [.slice pn n cn, iv, sv]]) (fun j => X.length - j) 0 ⟨by omega, by simp⟩ aE aH ?_
    rintro j ⟨hj, hnj⟩
    rcases Nat.lt_or_ge j X.length with hltj | hgej
    · obtain ⟨i, hi⟩ : ∃ i, X[j]? = some i := ⟨X[j], List.getElem?_eq_getElem _⟩
      have him := List.mem_of_getElem? hi
      obtain ⟨gq, rfl⟩ := hq (by omega)
      repeat' (conv => whnf); first | (refine VIx.is ?_; refine VIx.mk rfl (by omega) (by omega) ?_) | (refine VLd.is ?_; refine VLd.mk (Rd.cast (.vec aT (sub_flat0 (f := intV) (k := 1) (fun _ => rfl) hi rfl)) (by first | omega | (dsimp only; omega) | rfl)) ?_) | (refine VCall.isF 120 ?_; refine VCall.inl (F := Tryz.fx120) Tryz.func120 rfl rfl rfl Tryz.ok120 ?_) | (refine VCall.isF 90 ?_; refine VCall.inl (F := Tryz.fx90) Tryz.func90 rfl rfl rfl Tryz.ok90 ?_) | (refine VSeq.go ?_) | (refine VB.is ?_; refine VB.yes (by omega) fun _ => ?_) | (refine VB.split (fun _ => ?_) (fun _ => ?_)) | (refine VLd.is ?_; refine VLd.mk (.row aT (by rfl)) ?_) | (refine VAr.is ?_; refine oA ?_)
      all_goals (conv => whnf)
      all_goals first
        | (refine VNext.mk (j + 1) ⟨by omega, ?_⟩ (by omega) aE aH
           rw [List.take_add_one, hi, Option.toList_some]
           rintro ⟨y, hy, hf⟩
           rcases List.mem_append.1 hy with hy | hy
           · exact hnj ⟨y, hy, hf⟩
           · simp only [List.mem_singleton] at hy; subst hy; omega)
        | exact ⟨fun w' hw' => ⟨by rw [hbad ⟨x.mom, hxin, hmb.2 ⟨i, him, by omega⟩⟩]; rfl, hw'.le .nil⟩⟩
    rw [List.take_of_length_le hgej] at hnj
    repeat' (conv => whnf); first | (refine VSeq.go ?_) | (refine VB.is ?_; refine VB.yes (by omega) fun _ => ?_) | (refine VB.is ?_; refine VB.no (by omega) fun _ => ?_) | (refine VNew.mk fun _ => ?_) | (refine VAr.is ?_; refine oA ?_)
    all_goals (conv => whnf)
    refine VNext.mk (k + 1) ⟨by omega, ?_⟩ (by omega) aE aH
    rw [List.take_add_one, hxm, Option.toList_some]
    rintro ⟨y, hy, hf⟩
    rcases List.mem_append.1 hy with hy | hy
    · exact hno ⟨y, hy, hf⟩
    · simp only [List.mem_singleton] at hy; subst hy; exact hnj (hmb.1 hf)
  rw [List.take_of_length_le (by omega)] at hno
  repeat' (conv => whnf); first | (refine VSeq.go ?_) | (refine VB.is ?_; refine VB.yes (by omega) fun _ => ?_) | (refine VB.is ?_; refine VB.no (by omega) fun _ => ?_) | (refine VNew.mk fun _ => ?_) | (refine VAr.is ?_; refine oA ?_)
  all_goals (conv => whnf)
  exact ⟨fun w' hw' => ⟨by rw [hgood hno]; rfl, hw'.le .nil⟩⟩

end Go.Proofs
