import Derived.Test.YtephkjicokbckaaGreatDoorVerifyDisturbedEa
import Derived.Test.YtephkjicokbckaaGreatDoorVerifyDisturbedDb
section
set_option linter.unusedVariables false

set_option linter.unusedSimpArgs false

namespace Go.Gm

def chosenT (free : List Int) (c m : Nat) : List Int := (List.range m).filterMap fun k => if c.testBit k = true then free[k]? else none

def chosen (free : List Int) (c : Nat) : List Int := chosenT free c free.length

theorem chosenT_succ (free : List Int) (c m : Nat) : chosenT free c (m + 1) = chosenT free c m ++ (if c.testBit m = true then (free[m]?).toList else []) := by
  unfold chosenT
  rw [List.range_succ, List.filterMap_append]
  congr 1
  by_cases hb : c.testBit m = true
  · cases h : free[m]? <;> simp [hb, h]
  · simp [hb]

theorem mem_chosen {free : List Int} {c : Nat} {i : Int} : i ∈ chosen free c ↔ ∃ k, c.testBit k = true ∧ free[k]? = some i := by
  unfold chosen chosenT
  rw [List.mem_filterMap]
  constructor
  · rintro ⟨k, hk, h⟩
    split at h
    · exact ⟨k, ‹_›, h⟩
    · cases h
  · rintro ⟨k, h1, h2⟩
    exact ⟨k, List.mem_range.2 (List.getElem?_eq_some_iff.1 h2).1, by rw [if_pos h1]; exact h2⟩

theorem chosenT_len (free : List Int) (c m : Nat) : (chosenT free c m).length ≤ m := by
  unfold chosenT
  have := List.length_filterMap_le (fun k => if c.testBit k = true then free[k]? else none) (List.range m)
  rwa [List.length_range] at this

theorem mem_free_of_chosen {free : List Int} {c : Nat} {i : Int} (h : i ∈ chosen free c) : i ∈ free := by
  obtain ⟨k, _, hk⟩ := mem_chosen.1 h
  exact List.mem_of_getElem? hk

def Asc (l : List Int) : Prop := l.Pairwise (· < ·)

theorem asc_ext : ∀ {l l' : List Int}, Asc l → Asc l' → (∀ i, i ∈ l ↔ i ∈ l') → l = l'
  | [], [], _, _, _ => rfl
  | [], b :: l', _, _, h => by have := (h b).2 List.mem_cons_self; simp at this
  | a :: l, [], _, _, h => by have := (h a).1 List.mem_cons_self; simp at this
  | a :: l, b :: l', h1, h2, h => by
    have h1' := List.pairwise_cons.1 h1
    have h2' := List.pairwise_cons.1 h2
    have hab : a = b := by
      have ha := (h a).1 List.mem_cons_self
      have hb := (h b).2 List.mem_cons_self
      rcases List.mem_cons.1 ha with e | ha
      · exact e
      · rcases List.mem_cons.1 hb with e | hb
        · exact e.symm
        · have := h1'.1 b hb
          have := h2'.1 a ha
          omega
    subst hab
    congr 1
    refine asc_ext h1'.2 h2'.2 fun i => ?_
    constructor
    · intro hi
      rcases List.mem_cons.1 ((h i).1 (List.mem_cons_of_mem _ hi)) with e | e
      · have := h1'.1 i hi; omega
      · exact e
    · intro hi
      rcases List.mem_cons.1 ((h i).2 (List.mem_cons_of_mem _ hi)) with e | e
      · have := h2'.1 i hi; omega
      · exact e

theorem asc_nodup {l : List Int} (h : Asc l) : l.Nodup := h.imp fun hab e => by omega

theorem asc_of_sorted {l : List Int} (h1 : l.Pairwise (· ≤ ·)) (h2 : l.Nodup) : Asc l := by
  induction l with
  | nil => exact List.Pairwise.nil
  | cons a l ih =>
    have g1 := List.pairwise_cons.1 h1
    have g2 := List.nodup_cons.1 h2
    refine List.pairwise_cons.2 ⟨fun b hb => ?_, ih g1.2 g2.2⟩
    have := g1.1 b hb
    have hne : a ≠ b := fun e => g2.1 (by rw [e]; exact hb)
    omega

theorem chosen_asc {free : List Int} (h : Asc free) (c : Nat) : Asc (chosen free c) := by
  have key : ∀ m, m ≤ free.length → Asc (chosenT free c m) ∧ ∀ i ∈ chosenT free c m, ∃ k, k < m ∧ free[k]? = some i := by
    intro m
    induction m with
    | zero => intro _; exact ⟨List.Pairwise.nil, by simp [chosenT]⟩
    | succ m ih =>
      intro hm
      obtain ⟨g1, g2⟩ := ih (by omega)
      rw [chosenT_succ]
      obtain ⟨x, hx⟩ : ∃ x, free[m]? = some x := ⟨free[m], List.getElem?_eq_getElem _⟩
      refine ⟨?_, fun i hi => ?_⟩
      · refine List.pairwise_append.2 ⟨g1, ?_, fun a ha b hb => ?_⟩
        · split
          · rw [hx]; simp
          · exact List.Pairwise.nil
        · split at hb
          · rw [hx] at hb
            simp only [Option.toList_some, List.mem_singleton] at hb
            subst hb
            obtain ⟨k, hk, hka⟩ := g2 a ha
            exact List.pairwise_iff_getElem.1 h k m (by omega) (by omega) hk |> fun e => by
              have e1 := (List.getElem?_eq_some_iff.1 hka).2
              have e2 := (List.getElem?_eq_some_iff.1 hx).2
              rw [e1, e2] at e
              exact e
          · simp at hb
      · rcases List.mem_append.1 hi with hi | hi
        · obtain ⟨k, hk, hka⟩ := g2 i hi
          exact ⟨k, by omega, hka⟩
        · split at hi
          · rw [hx] at hi
            simp only [Option.toList_some, List.mem_singleton] at hi
            exact ⟨m, by omega, by rw [hi]; exact hx⟩
          · simp at hi
  exact (key free.length (Nat.le_refl _)).1

def mergedT (fixed free : List Int) (c n : Nat) : List Int := ((List.range n).map fun k : Nat => (k : Int)).filter fun k => decide (k ∈ chosen free c) || decide (k ∈ fixed)

theorem mergedT_asc (fixed free : List Int) (c n : Nat) : Asc (mergedT fixed free c n) := by
  refine List.Pairwise.filter _ (List.pairwise_map.2 ?_)
  exact List.pairwise_lt_range.imp fun h => by omega

theorem mem_mergedT {fixed free : List Int} {c n : Nat} {i : Int} : i ∈ mergedT fixed free c n ↔ (0 ≤ i ∧ i < n) ∧ (i ∈ chosen free c ∨ i ∈ fixed) := by
  unfold mergedT
  rw [List.mem_filter, List.mem_map]
  constructor
  · rintro ⟨⟨k, hk, rfl⟩, h⟩
    have := List.mem_range.1 hk
    simp only [Bool.or_eq_true, decide_eq_true_eq] at h
    exact ⟨by omega, h⟩
  · rintro ⟨h1, h2⟩
    exact ⟨⟨i.toNat, List.mem_range.2 (by omega), by omega⟩, by simpa using h2⟩

theorem sorted_merged {fixed free : List Int} {n : Nat} (hf : Asc fixed) (hfr : Asc free) (hfi : ∀ i ∈ fixed, 0 ≤ i ∧ i < n) (hfri : ∀ i ∈ free, 0 ≤ i ∧ i < n) (hdis : ∀ i ∈ fixed, i ∉ free) (c : Nat) {l : List Int}
    (hl : l.Pairwise (· ≤ ·)) (hp : l.Perm (fixed ++ chosen free c)) : l = mergedT fixed free c n := by
  have hnd : (fixed ++ chosen free c).Nodup := by
    refine List.nodup_append.2 ⟨asc_nodup hf, asc_nodup (chosen_asc hfr c), fun a ha b hb e => ?_⟩
    subst e
    exact hdis a ha (mem_free_of_chosen hb)
  refine asc_ext (asc_of_sorted hl (hp.nodup_iff.2 hnd)) (mergedT_asc _ _ _ _) fun i => ?_
  rw [hp.mem_iff, List.mem_append, mem_mergedT]
  constructor
  · rintro (h | h)
    · exact ⟨hfi i h, .inr h⟩
    · exact ⟨hfri i (mem_free_of_chosen h), .inl h⟩
  · rintro ⟨_, h | h⟩
    · exact .inr h
    · exact .inl h

end Go.Gm
end

section
set_option linter.unusedVariables false

set_option linter.unusedSimpArgs false

namespace Go.Proofs

open Go Go.Vx Go.Gm

def surErr (N : Net) (v : Sur) : Int :=
  if 6 < v.free.length then 9 else if freeErr N.inputs none v.free ≠ 0 then freeErr N.inputs none v.free else if evEr N v.fixed ≠ 0 then evEr N v.fixed
  else if ∃ x ∈ v.fixed, x.id ∈ v.free then 16 else if v.most < 0 then 3 else 0

def prevO (l : List Int) (k : Nat) : Option Int := if k = 0 then none else l[k - 1]?

theorem freeErr_drop {n : Int} {l : List Int} {k : Nat} {i : Int} (h : l[k]? = some i) :
    freeErr n (prevO l k) (l.drop k) = if ¬ (0 ≤ i ∧ i ≤ n - 1) then 3 else if (match prevO l k with | none => false | some q => decide (i ≤ q)) = true then 2 else freeErr n (prevO l (k + 1)) (l.drop (k + 1)) := by
  obtain ⟨hlt, he⟩ := List.getElem?_eq_some_iff.1 h
  have e : prevO l (k + 1) = some i := by unfold prevO; rw [if_neg (by omega), Nat.add_sub_cancel]; exact h
  rw [List.drop_eq_getElem_cons hlt, he, e]
  rfl

theorem surErr_free {N : Net} {v : Sur} (h : v.free.length ≤ 6) (h1 : freeErr N.inputs none v.free ≠ 0) : surErr N v = freeErr N.inputs none v.free := by
  unfold surErr
  rw [if_neg (by omega), if_pos h1]

theorem surErr_rest {N : Net} {v : Sur} (h : v.free.length ≤ 6) (h1 : freeErr N.inputs none v.free = 0) : surErr N v = if evEr N v.fixed ≠ 0 then evEr N v.fixed else if ∃ x ∈ v.fixed, x.id ∈ v.free then 16 else if v.most < 0 then 3 else 0 := by
  unfold surErr
  rw [if_neg (by omega), if_neg (by omega)]

set_option maxHeartbeats 1600000 in
theorem vsur_any (N : Net) (hN : N.wf) (v : Sur) (hfw : ∀ x ∈ v.fixed, x.wf) (hmo : I64 v.most) (hi0 : 0 ≤ N.inputs) (pn qs : Value) (hone : oneAll [pn, .int .i64 N.inputs, qs] = true) (pf : Option Addr) (cf bf of : Nat) (px : Option Addr) (cx bx ox : Nat) (w : World)
    (h1 : Sl w intV 1 v.free pf v.free.length bf of) (h2 : Sl w evtV 2 v.fixed px v.fixed.length bx ox) (hcx : v.fixed.length ≤ cx) :
    Calls Tryz.prog 51 #[.agg #[.slice pf v.free.length cf, .slice px v.fixed.length cx, .int .i64 v.most], .agg #[pn, .int .i64 N.inputs, qs]] w fun e w' => e = .returned (.int .i64 (surErr N v)) ∧ St w [] [] w' := by
  have hin := hN.inputs
  unfold I64 at hin hmo
  refine enter (C := Tryz.cx) (F := Tryz.fx51) (args := [_, _]) Tryz.func51 rfl rfl rfl Tryz.ok51 (St.start w []) ?_
  by_cases h6 : 6 < v.free.length
  · repeat' (conv => whnf); first | (refine VSeq.go ?_) | (refine VB.is ?_; refine VB.yes (by omega) fun _ => ?_) | (refine VLd.is ?_; refine VLd.mk (.row aT (by rfl)) ?_) | (refine VNew.mk fun _ => ?_)
    all_goals (conv => whnf)
    all_goals exact ⟨fun w' hw' => ⟨by unfold surErr; rw [if_pos h6]; rfl, hw'.le .nil⟩⟩
  repeat' (conv => whnf); first | (refine VNew.mk fun b3 => ?_) | (refine VSeq.go ?_) | (refine VB.is ?_; refine VB.no (by omega) fun _ => ?_) | (refine VLd.is ?_; refine VLd.mk (.row aT (by rfl)) ?_)
  all_goals (conv => whnf)
  rename_i b2 _
  refine VLoop.mk (α := Nat) (fun k => k ≤ v.free.length ∧ freeErr N.inputs none v.free = freeErr N.inputs (prevO v.free k) (v.free.drop k))
    (fun k => [(1000000, .tuple #[]), (2, .pointer (some ⟨b2, 0, none⟩)), (3, .pointer (some ⟨b3, 0, none⟩)), (4, .int .i64 0), (13, .slice pf v.free.length cf), (14, .int .i64 (v.free.length : Int)), (15, .int .i64 (k : Int))])
    (fun _ => [.row b3 25 [pn, .int .i64 N.inputs, qs], .row b2 29 [.slice pf v.free.length cf, .slice px v.fixed.length cx, .int .i64 v.most]]) (fun k => v.free.length - k) 0 ⟨by omega, rfl⟩ aE aH ?_
  rintro k ⟨hk, hinv⟩
  rcases Nat.lt_or_ge k v.free.length with hlt | hge
  · obtain ⟨i, hi⟩ := h1.get hlt
    rw [freeErr_drop hi] at hinv
    have hprev : ∀ q, 0 < k → v.free[k - 1]? = some q → prevO v.free k = some q := fun q h0 hq => by unfold prevO; rw [if_neg (by omega)]; exact hq
    obtain ⟨q, hq⟩ : ∃ q, 0 < k → v.free[k - 1]? = some q := by
      by_cases h0 : 0 < k
      · exact ⟨v.free[k - 1]'(by omega), fun _ => List.getElem?_eq_getElem _⟩
      · exact ⟨0, fun h => absurd h h0⟩
    have hm1 : k = 0 → (match prevO v.free k with | none => false | some q => decide (i ≤ q)) = false := fun h => by subst h; rfl
    have hm2 : 0 < k → (match prevO v.free k with | none => false | some q => decide (i ≤ q)) = decide (i ≤ q) := fun h => by rw [hprev q h (hq h)]
    repeat' (conv => whnf); first | (refine VIx.is ?_; refine VIx.mk (h1.ptr (by omega)) (by omega) (by omega) ?_) | (refine VLd.is ?_; refine VLd.mk (Rd.cast (h1.rd0 (i := k) (by simp) (fun _ => rfl) hi rfl) (by first | omega | (dsimp only; omega) | rfl)) ?_) | (refine VLd.is ?_; refine VLd.mk (Rd.cast (h1.rd0 (i := k - 1) (by simp) (fun _ => rfl) (hq (by omega)) rfl) (by first | omega | (dsimp only; omega) | rfl)) ?_) | (refine VCall.isF 90 ?_; refine VCall.inl (F := Tryz.fx90) Tryz.func90 rfl rfl rfl Tryz.ok90 ?_) | (refine VSeq.go ?_) | (refine VB.is ?_; refine VB.yes (by omega) fun _ => ?_) | (refine VB.split (fun _ => ?_) (fun _ => ?_)) | (refine VLd.is ?_; refine VLd.mk (.row aT (by rfl)) ?_) | (refine VAr.is ?_; refine oA ?_)
    all_goals (conv => whnf)
    all_goals first
      | (rw [if_pos (by omega)] at hinv
         exact ⟨fun w' hw' => ⟨by rw [surErr_free (by omega) (by omega), hinv]; rfl, hw'.le .nil⟩⟩)
      | (have h0 : k = 0 := by omega
         rw [if_neg (by omega), hm1 h0, if_neg (by simp)] at hinv
         exact VNext.mk (k + 1) ⟨by omega, hinv⟩ (by omega) aE aH)
      | (rw [if_neg (by omega), hm2 (by omega), decide_eq_true (by omega), if_pos rfl] at hinv
         exact ⟨fun w' hw' => ⟨by rw [surErr_free (by omega) (by omega), hinv]; rfl, hw'.le .nil⟩⟩)
      | (rw [if_neg (by omega), hm2 (by omega), decide_eq_false (by omega), if_neg (by simp)] at hinv
         exact VNext.mk (k + 1) ⟨by omega, hinv⟩ (by omega) aE aH)
  rw [List.drop_eq_nil_of_le hge] at hinv
  have hz : freeErr N.inputs none v.free = 0 := by rw [hinv]; rfl
  have hres := surErr_rest (v := v) (by omega) hz
  obtain ⟨E, hE⟩ : ∃ E, evEr N v.fixed = E := ⟨_, rfl⟩
  rw [hE] at hres
  by_cases hE0 : E = 0
  rotate_left
  · rw [if_pos hE0] at hres
    repeat' (conv => whnf); first | (refine VCall.isF 77 ?_; (refine VCall.valR (fun w' hw' => events_any N hN v.fixed hfw _ _ _ _ _ _ _ (h2.keep hw' (by simp)) hcx) ?_; rw [hE])) | (refine VSeq.go ?_) | (refine VB.is ?_; refine VB.yes (by omega) fun _ => ?_) | (refine VB.is ?_; refine VB.no (by omega) fun _ => ?_) | (refine VLd.is ?_; refine VLd.mk (.row aT (by rfl)) ?_)
    all_goals (conv => whnf)
    all_goals exact ⟨fun w' hw' => ⟨by rw [hres]; rfl, hw'.le .nil⟩⟩
  have hfl := (evEr_zero (hE.trans hE0)).few
  subst hE0
  rw [if_neg (by omega)] at hres
  repeat' (conv => whnf); first | (refine VCall.isF 77 ?_; (refine VCall.valR (fun w' hw' => events_any N hN v.fixed hfw _ _ _ _ _ _ _ (h2.keep hw' (by simp)) hcx) ?_; rw [hE])) | (refine VCall.isF 91 ?_; refine VCall.inl (F := Tryz.fx91) Tryz.func91 rfl rfl rfl Tryz.ok91 ?_) | (refine VCall.isF 150 ?_; refine VCall.inl (F := Tryz.fx150) Tryz.func150 rfl rfl rfl Tryz.ok150 ?_) | (refine VSeq.go ?_) | (refine VB.is ?_; refine VB.no (by omega) fun _ => ?_) | (refine VLd.is ?_; refine VLd.mk (.row aT (by rfl)) ?_)
  all_goals (conv => whnf)
  refine VLoop.kr (α := Nat) [1000000, 0, 1, 4, 7] rfl (fun j => j ≤ v.fixed.length ∧ ¬ ∃ x ∈ v.fixed.take j, x.id ∈ v.free)
    (fun j K => (8, .int .i64 (j : Int)) :: K) (fun _ => [.row b3 25 [pn, .int .i64 N.inputs, qs], .row b2 29 [.slice pf v.free.length cf, .slice px v.fixed.length cx, .int .i64 v.most]]) (fun j => v.fixed.length - j) 0 ⟨by omega, by simp⟩ aE aH ?_
  rintro j ⟨hj, hno⟩
  rcases Nat.lt_or_ge j v.fixed.length with hltj | hgej
  · obtain ⟨x, hx⟩ := h2.get hltj
    have hxm := List.mem_of_getElem? hx
    repeat' (conv => whnf); first | (refine VIx.is ?_; refine VIx.mk (h2.ptr (by omega)) (by omega) (by omega) ?_) | (refine VLd.is ?_; refine VLd.mk (Rd.cast (h2.rd0 (by simp) (fun _ => rfl) hx rfl) (by first | omega | (dsimp only; omega) | rfl)) ?_) | (refine VCall.isF 116 ?_; refine VCall.inl (F := Tryz.fx116) Tryz.func116 rfl rfl rfl Tryz.ok116 ?_) | (refine VCall.isF 117 ?_; (refine VCall.genR (fun w' hw' => contains_any v.free (by omega) _ _ _ _ _ w' (h1.keep hw' (by simp))) ?_; intro c hc; cases c <;> simp only [Bool.false_eq_true, false_iff, true_iff] at hc)) | (refine VSeq.go ?_) | (refine VB.is ?_; refine VB.yes (by omega) fun _ => ?_) | (refine VLd.is ?_; refine VLd.mk (.row aT (by rfl)) ?_) | (refine VNew.mk fun _ => ?_) | (refine VAr.is ?_; refine oA ?_)
    all_goals (conv => whnf)
    all_goals first
      | (refine VNext.mk (j + 1) ⟨by omega, ?_⟩ (by omega) aE aH
         rw [List.take_add_one, hx, Option.toList_some]
         rintro ⟨y, hy, hf⟩
         rcases List.mem_append.1 hy with hy | hy
         · exact hno ⟨y, hy, hf⟩
         · simp only [List.mem_singleton] at hy; subst hy; exact hc hf)
      | (rw [if_pos ⟨x, hxm, hc⟩] at hres
         exact ⟨fun w' hw' => ⟨by rw [hres]; rfl, hw'.le .nil⟩⟩)
  rw [List.take_of_length_le hgej] at hno
  rw [if_neg hno] at hres
  repeat' (conv => whnf); first | (refine VCall.isF 86 ?_; refine VCall.inl (F := Tryz.fx86) Tryz.func86 rfl rfl rfl Tryz.ok86 ?_) | (refine VSeq.go ?_) | (refine VB.is ?_; refine VB.no (by omega) fun _ => ?_) | (refine VB.split (fun _ => ?_) (fun _ => ?_)) | (refine VLd.is ?_; refine VLd.mk (.row aT (by rfl)) ?_)
  all_goals (conv => whnf)
  all_goals first
    | exact ⟨fun w' hw' => ⟨by rw [hres, if_pos (by omega)]; rfl, hw'.le .nil⟩⟩
    | exact ⟨fun w' hw' => ⟨by rw [hres, if_neg (by omega)]; rfl, hw'.le .nil⟩⟩

end Go.Proofs
end
