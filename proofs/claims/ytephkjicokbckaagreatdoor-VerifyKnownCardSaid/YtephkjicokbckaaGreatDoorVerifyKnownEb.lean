import Derived.Test.YtephkjicokbckaaGreatDoorVerifyKnownEa
set_option linter.unusedVariables false

set_option linter.unusedSimpArgs false

namespace Go.Proofs

open Go Go.Vx Go.Gm

def surErr (N : Net) (v : Sur) : Int :=
  if 6 < v.free.length then 9 else if freeErr N.inputs none v.free ≠ 0 then freeErr N.inputs none v.free else if evEr N v.fixed ≠ 0 then evEr N v.fixed
  else if ∃ x ∈ v.fixed, x.id ∈ v.free then 16 else if v.most < 0 then 3 else 0

def prevO (l : List Int) (k : Nat) : Option Int := if k = 0 then none else l[k - 1]?

theorem freeErr_drop {n : Int} {l : List Int} {k : Nat} {i : Int} (h : l[k]? = some i) :
    freeErr n (prevO l k) (l.drop k) = if ¬ (0 ≤ i ∧ i ≤ n - 1) then 3 else if (match prevO l k with | none => false | some q => decide (i ≤ q)) = true then 2 else freeErr n (prevO l (k + 1)) (l.drop (k + 1)) := by
  obtain ⟨hlt, he⟩ := List.getElem?_eq_some_iff.1 h
  have e : prevO l (k + 1) = some i := by unfold prevO; rw [if_neg (by omega), Nat.add_sub_cancel]; exact h
  rw [List.drop_eq_getElem_cons hlt, he, e]
  rfl

theorem surErr_free {N : Net} {v : Sur} (h : v.free.length ≤ 6) (h1 : freeErr N.inputs none v.free ≠ 0) : surErr N v = freeErr N.inputs none v.free := by
  unfold surErr
  rw [if_neg (by omega), if_pos h1]

theorem surErr_rest {N : Net} {v : Sur} (h : v.free.length ≤ 6) (h1 : freeErr N.inputs none v.free = 0) : surErr N v = if evEr N v.fixed ≠ 0 then evEr N v.fixed else if ∃ x ∈ v.fixed, x.id ∈ v.free then 16 else if v.most < 0 then 3 else 0 := by
  unfold surErr
  rw [if_neg (by omega), if_neg (by omega)]

set_option maxHeartbeats 1600000 in
theorem vsur_any (N : Net) (hN : N.wf) (v : Sur) (hfw : ∀ x ∈ v.fixed, x.wf) (hmo : I64 v.most) (hi0 : 0 ≤ N.inputs) (pn qs : Value) (hone : oneAll [pn, .int .i64 N.inputs, qs] = true) (pf : Option Addr) (cf bf of : Nat) (px : Option Addr) (cx bx ox : Nat) (w : World)
    (h1 : Sl w intV 1 v.free pf v.free.length bf of) (h2 : Sl w evtV 2 v.fixed px v.fixed.length bx ox) (hcx : v.fixed.length ≤ cx) :
    Calls Tryz.prog 51 #[.agg #[.slice pf v.free.length cf, .slice px v.fixed.length cx, .int .i64 v.most], .agg #[pn, .int .i64 N.inputs, qs]] w fun e w' => e = .returned (.int .i64 (surErr N v)) ∧ St w [] [] w' := by
  have hin := hN.inputs
  unfold I64 at hin hmo
  refine enter (C := Tryz.cx) (F := Tryz.fx51) (args := [_, _]) Tryz.func51 rfl rfl rfl Tryz.ok51 (St.start w []) ?_
  by_cases h6 : 6 < v.free.length
  · repeat' (conv => whnf); first | (refine VSeq.go ?_) | (refine VB.is ?_; refine VB.yes (by omega) fun _ => ?_) | (refine VLd.is ?_; refine VLd.mk (.row aT (by rfl)) ?_) | (refine VNew.mk fun _ => ?_)
    all_goals (conv => whnf)
    all_goals exact ⟨fun w' hw' => ⟨by unfold surErr; rw [if_pos h6]; rfl, hw'.le .nil⟩⟩
  repeat' (conv => whnf); first | (refine VNew.mk fun b3 => ?_) | (refine VSeq.go ?_) | (refine VB.is ?_; refine VB.no (by omega) fun _ => ?_) | (refine VLd.is ?_; refine VLd.mk (.row aT (by rfl)) ?_)
  all_goals (conv => whnf)
  rename_i b2 _
  refine VLoop.mk (α := Nat) (fun k => k ≤ v.free.length ∧ freeErr N.inputs none v.free = freeErr N.inputs (prevO v.free k) (v.free.drop k))
    (fun k => [(1000000, .tuple #[]), (2, .pointer (some ⟨b2, 0, none⟩)), (3, .pointer (some ⟨b3, 0, none⟩)), (4, .int .i64 0), (13, .slice pf v.free.length cf), (14, .int .i64 (v.free.length : Int)), (15, .int .i64 (k : Int))])
    (fun _ => [.row b3 25 [pn, .int .i64 N.inputs, qs], .row b2 29 [.slice pf v.free.length cf, .slice px v.fixed.length cx, .int .i64 v.most]]) (fun k => v.free.length - k) 0 ⟨by omega, rfl⟩ aE aH ?_
  rintro k ⟨hk, hinv⟩
  rcases Nat.lt_or_ge k v.free.length with hlt | hge
  · obtain ⟨i, hi⟩ := h1.get hlt
    rw [freeErr_drop hi] at hinv
    have hprev : ∀ q, 0 < k → v.free[k - 1]? = some q → prevO v.free k = some q := fun q h0 hq => by unfold prevO; rw [if_neg (by omega)]; exact hq
    obtain ⟨q, hq⟩ : ∃ q, 0 < k → v.free[k - 1]? = some q := by
      by_cases h0 : 0 < k
      · exact ⟨v.free[k - 1]'(by omega), fun _ => List.getElem?_eq_getElem _⟩
      · exact ⟨0, fun h => absurd h h0⟩
    have hm1 : k = 0 → (match prevO v.free k with | none => false | some q => decide (i ≤ q)) = false := fun h => by subst h; rfl
    have hm2 : 0 < k → (match prevO v.free k with | none => false | some q => decide (i ≤ q)) = decide (i ≤ q) := fun h => by rw [hprev q h (hq h)]
    repeat' (conv => whnf); first | (refine VIx.is ?_; refine VIx.mk (h1.ptr (by omega)) (by omega) (by omega) ?_) | (refine VLd.is ?_; refine VLd.mk (Rd.cast (h1.rd0 (i := k) (by simp) (fun _ => rfl) hi rfl) (by first | omega | (dsimp only; omega) | rfl)) ?_) | (refine VLd.is ?_; refine VLd.mk (Rd.cast (h1.rd0 (i := k - 1) (by simp) (fun _ => rfl) (hq (by omega)) rfl) (by first | omega | (dsimp only; omega) | rfl)) ?_) | (refine VCall.isF 90 ?_; refine VCall.inl (F := Tryz.fx90) Tryz.func90 rfl rfl rfl Tryz.ok90 ?_) | (refine VSeq.go ?_) | (refine VB.is ?_; refine VB.yes (by omega) fun _ => ?_) | (refine VB.split (fun _ => ?_) (fun _ => ?_)) | (refine VLd.is ?_; refine VLd.mk (.row aT (by rfl)) ?_) | (refine VAr.is ?_; refine oA ?_)
    all_goals (conv => whnf)
    all_goals first
      | (rw [if_pos (by omega)] at hinv
         exact ⟨fun w' hw' => ⟨by rw [surErr_free (by omega) (by omega), hinv]; rfl, hw'.le .nil⟩⟩)
      | (have h0 : k = 0 := by omega
         rw [if_neg (by omega), hm1 h0, if_neg (by simp)] at hinv
         exact VNext.mk (k + 1) ⟨by omega, hinv⟩ (by omega) aE aH)
      | (rw [if_neg (by omega), hm2 (by omega), decide_eq_true (by omega), if_pos rfl] at hinv
         exact ⟨fun w' hw' => ⟨by rw [surErr_free (by omega) (by omega), hinv]; rfl, hw'.le .nil⟩⟩)
      | (rw [if_neg (by omega), hm2 (by omega), decide_eq_false (by omega), if_neg (by simp)] at hinv
         exact VNext.mk (k + 1) ⟨by omega, hinv⟩ (by omega) aE aH)
  rw [List.drop_eq_nil_of_le hge] at hinv
  have hz : freeErr N.inputs none v.free = 0 := by rw [hinv]; rfl
  have hres := surErr_rest (v := v) (by omega) hz
  obtain ⟨E, hE⟩ : ∃ E, evEr N v.fixed = E := ⟨_, rfl⟩
  rw [hE] at hres
  by_cases hE0 : E = 0
  rotate_left
  · rw [if_pos hE0] at hres
    repeat' (conv => whnf); first | (refine VCall.isF 77 ?_; (refine VCall.valR (fun w' hw' => events_any N hN v.fixed hfw _ _ _ _ _ _ _ (h2.keep hw' (by simp)) hcx) ?_; rw [hE])) | (refine VSeq.go ?_) | (refine VB.is ?_; refine VB.yes (by omega) fun _ => ?_) | (refine VB.is ?_; refine VB.no (by omega) fun _ => ?_) | (refine VLd.is ?_; refine VLd.mk (.row aT (by rfl)) ?_)
    all_goals (conv => whnf)
    all_goals exact ⟨fun w' hw' => ⟨by rw [hres]; rfl, hw'.le .nil⟩⟩
  have hfl := (evEr_zero (hE.trans hE0)).few
  subst hE0
  rw [if_neg (by omega)] at hres
  repeat' (conv => whnf); first | (refine VCall.isF 77 ?_; (refine VCall.valR (fun w' hw' => events_any N hN v.fixed hfw _ _ _ _ _ _ _ (h2.keep hw' (by simp)) hcx) ?_; rw [hE])) | (refine VCall.isF 91 ?_; refine VCall.inl (F := Tryz.fx91) Tryz.func91 rfl rfl rfl Tryz.ok91 ?_) | (refine VCall.isF 150 ?_; refine VCall.inl (F := Tryz.fx150) Tryz.func150 rfl rfl rfl Tryz.ok150 ?_) | (refine VSeq.go ?_) | (refine VB.is ?_; refine VB.no (by omega) fun _ => ?_) | (refine VLd.is ?_; refine VLd.mk (.row aT (by rfl)) ?_)
  all_goals (conv => whnf)
  refine VLoop.kr (α := Nat) [1000000, 0, 1, 4, 7] rfl (fun j => j ≤ v.fixed.length ∧ ¬ ∃ x ∈ v.fixed.take j, x.id ∈ v.free)
    (fun j K => (8, .int .i64 (j : Int)) :: K) (fun _ => [.row b3 25 [pn, .int .i64 N.inputs, qs], .row b2 29 [.slice pf v.free.length cf, .slice px v.fixed.length cx, .int .i64 v.most]]) (fun j => v.fixed.length - j) 0 ⟨by omega, by simp⟩ aE aH ?_
  rintro j ⟨hj, hno⟩
  rcases Nat.lt_or_ge j v.fixed.length with hltj | hgej
  · obtain ⟨x, hx⟩ := h2.get hltj
    have hxm := List.mem_of_getElem? hx
    repeat' (conv => whnf); first | (refine VIx.is ?_; refine VIx.mk (h2.ptr (by omega)) (by omega) (by omega) ?_) | (refine VLd.is ?_; refine VLd.mk (Rd.cast (h2.rd0 (by simp) (fun _ => rfl) hx rfl) (by first | omega | (dsimp only; omega) | rfl)) ?_) | (refine VCall.isF 116 ?_; refine VCall.inl (F := Tryz.fx116) Tryz.func116 rfl rfl rfl Tryz.ok116 ?_) | (refine VCall.isF 117 ?_; (refine VCall.genR (fun w' hw' => contains_any v.free (by omega) _ _ _ _ _ w' (h1.keep hw' (by simp))) ?_; intro c hc; cases c <;> simp only [Bool.false_eq_true, false_iff, true_iff] at hc)) | (refine VSeq.go ?_) | (refine VB.is ?_; refine VB.yes (by omega) fun _ => ?_) | (refine VLd.is ?_; refine VLd.mk (.row aT (by rfl)) ?_) | (refine VNew.mk fun _ => ?_) | (refine VAr.is ?_; refine oA ?_)
    all_goals (conv => whnf)
    all_goals first
      | (refine VNext.mk (j + 1) ⟨by omega, ?_⟩ (by omega) aE aH
         rw [List.take_add_one, hx, Option.toList_some]
         rintro ⟨y, hy, hf⟩
         rcases List.mem_append.1 hy with hy | hy
         · exact hno ⟨y, hy, hf⟩
         · simp only [List.mem_singleton] at hy; subst hy; exact hc hf)
      | (rw [if_pos ⟨x, hxm, hc⟩] at hres
         exact ⟨fun w' hw' => ⟨by rw [hres]; rfl, hw'.le .nil⟩⟩)
  rw [List.take_of_length_le hgej] at hno
  rw [if_neg hno] at hres
  repeat' (conv => whnf); first | (refine VCall.isF 86 ?_; refine VCall.inl (F := Tryz.fx86) Tryz.func86 rfl rfl rfl Tryz.ok86 ?_) | (refine VSeq.go ?_) | (refine VB.is ?_; refine VB.no (by omega) fun _ => ?_) | (refine VB.split (fun _ => ?_) (fun _ => ?_)) | (refine VLd.is ?_; refine VLd.mk (.row aT (by rfl)) ?_)
  all_goals (conv => whnf)
  all_goals first
    | exact ⟨fun w' hw' => ⟨by rw [hres, if_pos (by omega)]; rfl, hw'.le .nil⟩⟩
    | exact ⟨fun w' hw' => ⟨by rw [hres, if_neg (by omega)]; rfl, hw'.le .nil⟩⟩

end Go.Proofs
