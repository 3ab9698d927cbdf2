import Derived.Test.YtephkjicokbckaaGreatDoorVerifyKnownOs
set_option linter.unusedVariables false

set_option linter.unusedSimpArgs false

namespace Go.Proofs

open Go Go.Vx Go.Gm

def ddF : Evt → List Evt → List Evt
  | _, [] => []
  | x, y :: r => if y = x then ddF x r else y :: ddF y r

def dd : List Evt → List Evt
  | [] => []
  | x :: r => x :: ddF x r

theorem ddF_snoc : ∀ (l : List Evt) (x y z : Evt), (x :: l).getLast? = some z → ddF x (l ++ [y]) = ddF x l ++ if y = z then [] else [y]
  | [], x, y, z, h => by
    have hz : x = z := by simpa using h
    subst hz
    by_cases e : y = x <;> simp [ddF, e]
  | u :: r, x, y, z, h => by
    have h' : (u :: r).getLast? = some z := by rw [List.getLast?_cons_cons] at h; exact h
    show ddF x (u :: (r ++ [y])) = _
    by_cases e : u = x
    · subst e
      simp only [ddF, if_true]
      exact ddF_snoc r u y z h'
    · simp only [ddF, if_neg e, ddF_snoc r u y z h', List.cons_append]

theorem dd_take {X : List Evt} {i : Nat} {y z : Evt} (hz : X[i]? = some z) (hy : X[i + 1]? = some y) : dd (X.take (i + 2)) = dd (X.take (i + 1)) ++ if y = z then [] else [y] := by
  have e1 : X.take (i + 2) = X.take (i + 1) ++ [y] := by rw [List.take_add_one, hy]; rfl
  have e2 : X.take (i + 1) = X.take i ++ [z] := by rw [List.take_add_one, hz]; rfl
  rw [e1]
  cases hc : X.take (i + 1) with
  | nil => rw [hc] at e2; simp at e2
  | cons x l =>
    show x :: ddF x (l ++ [y]) = x :: ddF x l ++ _
    rw [ddF_snoc l x y z (by rw [← hc, e2]; simp)]
    rfl

theorem ddF_spec : ∀ (l : List Evt) (x : Evt), (x :: l).Pairwise (fun a b => ¬ evLt b a) → (∀ y ∈ ddF x l, evLt x y) ∧ (ddF x l).Pairwise evLt ∧ ∀ y, (y = x ∨ y ∈ ddF x l) ↔ (y = x ∨ y ∈ l)
  | [], x, _ => by simp [ddF]
  | u :: r, x, h => by
    obtain ⟨h1, h2⟩ := List.pairwise_cons.1 h
    by_cases e : u = x
    · subst e
      obtain ⟨i1, i2, i3⟩ := ddF_spec r u h2
      simp only [ddF, if_true]
      refine ⟨i1, i2, fun y => ?_⟩
      rw [i3 y, List.mem_cons]
      constructor
      · rintro (h | h)
        · exact .inl h
        · exact .inr (.inr h)
      · rintro (h | h | h)
        · exact .inl h
        · exact .inl h
        · exact .inr h
    · obtain ⟨i1, i2, i3⟩ := ddF_spec r u h2
      simp only [ddF, if_neg e]
      have hxu : evLt x u := Decidable.byContradiction fun hn => e (evLt_tri (h1 u List.mem_cons_self) hn)
      refine ⟨fun y hy => ?_, ?_, fun y => ?_⟩
      · rcases List.mem_cons.1 hy with rfl | hy
        · exact hxu
        · exact evLt_trans hxu (i1 y hy)
      · exact List.pairwise_cons.2 ⟨i1, i2⟩
      · rw [List.mem_cons, List.mem_cons, i3 y]

theorem sortU_dd (l : List Evt) : sortU l = dd (sortE l) := by
  have hp : (sortE l).Pairwise (fun a b => ¬ evLt b a) := by
    unfold sortE
    have h := List.pairwise_mergeSort (le := fun x y => !(ltOf cmpE) y x) (fun a b c h1 h2 => by
      simp only [ltE, Bool.not_eq_true', decide_eq_false_iff_not] at h1 h2 ⊢
      unfold evLt at *
      omega) (fun a b => by
      simp only [ltE, Bool.or_eq_true, Bool.not_eq_true', decide_eq_false_iff_not]
      unfold evLt
      omega) l
    refine h.imp fun {a b} hab => ?_
    rw [ltE] at hab
    simpa using hab
  have hm : ∀ e, e ∈ l ↔ e ∈ sortE l := fun e => by unfold sortE; rw [List.mem_mergeSort]
  cases hc : sortE l with
  | nil =>
    rw [hc] at hm
    exact sortU_eq List.Pairwise.nil hm
  | cons x r =>
    rw [hc] at hp hm
    obtain ⟨i1, i2, i3⟩ := ddF_spec r x hp
    refine sortU_eq (List.pairwise_cons.2 ⟨i1, i2⟩) fun e => ?_
    rw [hm, List.mem_cons, ← i3 e]
    exact List.mem_cons.symm

theorem dd_few {X : List Evt} (h : X.length < 2) : dd X = X := by
  match X, h with
  | [], _ => rfl
  | [x], _ => rfl

set_option maxHeartbeats 2000000 in
theorem sortedV_any (l : List Evt) (hl : l.length ≤ 65536) (pe : Option Addr) (ce be oe : Nat) (w : World) (h1 : Sl w evtV 2 l pe l.length be oe) :
    Calls Tryz.prog 109 #[.slice pe l.length ce] w fun e w' => ∃ y : Option Addr × Nat, e = .returned (.slice y.1 (sortU l).length y.2) ∧ (0 < (sortU l).length → ∃ g, y.1 = some ⟨g, 0, none⟩) ∧ St w [] [.vec y.1 (sortU l).length y.2 64 2 (flat evtV (sortU l))] w' := by
  refine enter (C := Tryz.cx) (F := Tryz.fx109) (args := [_]) Tryz.func109 rfl rfl rfl Tryz.ok109 (St.start w []) ?_
  rw [sortU_dd]
  obtain ⟨X, hX⟩ : ∃ X, sortE l = X := ⟨_, rfl⟩
  have hXl : X.length = l.length := by rw [← hX]; unfold sortE; rw [List.length_mergeSort]
  repeat' (conv => whnf); first | (refine VCall.isF 158 ?_; (refine VCall.genR (fun w' hw' => cloneEvt_any l pe ce be oe w' (h1.keep hw' (by simp)) hl) ?_; rintro ⟨q, cq⟩ hq; dsimp only at hq ⊢)) | (refine VCall.isF 159 ?_; (refine sortE_call q l.length cq l rfl aT (by omega) ?_; rw [hX])) | (refine VCall.isF 163 ?_; refine VCall.inl (F := Tryz.fx163) Tryz.func163 rfl rfl rfl Tryz.ok163 ?_) | (refine VSeq.go ?_) | (refine VB.split (fun _ => ?_) (fun _ => ?_))
  all_goals (conv => whnf)
  · have hfew := dd_few (X := X) (by omega)
    refine ⟨fun w' hw' => ⟨(q, cq), ?_, ?_, hw'.le ?_⟩⟩
    · rw [hfew, hXl]; rfl
    · rw [hfew, hXl]; exact hq
    · rw [hfew, hXl]; exact aH
  obtain ⟨gq, rfl⟩ := hq (by omega)
  rw [← hXl]
  have hn : 2 ≤ X.length := by omega
  have hnb : X.length ≤ 65536 := by omega
  clear hX hXl hq h1
  refine VLoop.mk (α := Nat) (fun k => 1 ≤ k ∧ k ≤ X.length ∧ dd (X.take k) = X.take k)
    (fun k => [(1000000, .tuple #[]), (0, .slice (some ⟨gq, 0, none⟩) X.length cq), (2, .slice none 0 0), (3, .int .i64 (k : Int))])
    (fun _ => [.vec (some ⟨gq, 0, none⟩) X.length cq 64 2 (flat evtV X)]) (fun k => X.length - k) 1 ⟨Nat.le_refl _, by omega, dd_few (by rw [List.length_take]; omega)⟩ aE aH ?_
  rintro k ⟨hk1, hk, hdd⟩
  rcases Nat.lt_or_ge k X.length with hlt | hge
  · obtain ⟨m, rfl⟩ : ∃ m, k = m + 1 := ⟨k - 1, by omega⟩
    obtain ⟨y, hy⟩ : ∃ y, X[m + 1]? = some y := ⟨X[m + 1], List.getElem?_eq_getElem _⟩
    obtain ⟨z, hz⟩ : ∃ z, X[m]? = some z := ⟨X[m], List.getElem?_eq_getElem _⟩
    have hst := dd_take hz hy
    have hyv : sub (evtV y) 0 2 = some [.int .i64 y.tick, .int .i64 y.id] := rfl
    have hzv : sub (evtV z) 0 2 = some [.int .i64 z.tick, .int .i64 z.id] := rfl
    repeat' (conv => whnf); first | (refine VSeq.is ?_; refine VSeq.isA 8 rfl ?_; refine VSeq.learn (at_ := 8) (fun w hw => vec_facts (hw (.vec (some ⟨gq, 0, none⟩) X.length cq 64 2 (flat evtV X)) (by simp))) (fun hfc => ?_)) | (refine VIx.is ?_; refine VIx.mk rfl (by omega) (by omega) ?_) | (refine VLd.is ?_; refine VLd.mk (Rd.cast (.vec aT (sub_flat0 (f := evtV) (k := 2) (fun _ => rfl) hy hyv)) (by first | omega | (dsimp only; omega) | rfl)) ?_) | (refine VLd.is ?_; refine VLd.mk (Rd.cast (.vec aT (sub_flat0 (f := evtV) (k := 2) (fun _ => rfl) hz hzv)) (by first | omega | (dsimp only; omega) | rfl)) ?_) | (refine VSl.is ?_; refine VSl.is ?_; refine VSl.mk (by omega) (by omega) (by have := hfc.1; omega) fun q2 hq2 hq3 => ?_; have hqe := hq2 (by have := hfc.1; omega); clear hq2 hq3; subst hqe) | (refine VSeq.go ?_) | (refine VB.is ?_; refine VB.yes (by omega) fun _ => ?_) | (refine VB.split (fun _ => ?_) (fun _ => ?_)) | (refine VAr.is ?_; refine oA ?_) | (refine VHs.mk _ (.refl _) ?_)
    all_goals (conv => whnf)
    rotate_left
    · rename_i hne
      rw [if_neg (fun e => hne (by rw [e]; exact ⟨rfl, rfl, trivial⟩))] at hst
      refine VNext.mk (m + 2) ⟨by omega, by omega, ?_⟩ (by omega) aE aH
      rw [hst, hdd]
      rw [List.take_add_one (l := X) (i := m + 1), hy]; rfl
    rename_i heq
    have hyz : y = z := by
      cases y; cases z
      obtain ⟨e1, e2, _⟩ := heq
      dsimp only at e1 e2
      rw [e1, e2]
    rw [if_pos hyz, List.append_nil, hdd] at hst
    have hXc := hfc.1
    have hml : (X.take (m + 1)).length = m + 1 := by rw [List.length_take]; omega
    clear hfc hdd hyz heq hyv hzv
    refine VLoop.mk (α := Nat × Nat × List Evt) (fun s => (1 ≤ s.1 ∧ 1 ≤ s.2.1 ∧ s.1 < m + 1 + s.2.1 ∧ m + 1 + s.2.1 ≤ X.length ∧ s.1 = (dd (X.take (m + 1 + s.2.1))).length) ∧ s.2.2.length = X.length ∧ s.2.2.take s.1 = dd (X.take (m + 1 + s.2.1)) ∧ s.2.2.drop (m + s.2.1) = X.drop (m + s.2.1))
      (fun s => [(1000000, .tuple #[]), (0, .slice (some ⟨gq, 0, none⟩) X.length cq), (2, .slice none 0 0), (3, .int .i64 (s.1 : Int)), (4, .slice (some ⟨gq, 0 + (m + 1) * 2, none⟩) (X.length - (m + 1)) (cq - (m + 1))), (5, .int .i64 (s.2.1 : Int))])
      (fun s => [.vec (some ⟨gq, 0, none⟩) X.length cq 64 2 (flat evtV s.2.2)]) (fun s => X.length - s.2.1) (m + 1, 1, X) ⟨⟨by dsimp only; omega, by dsimp only; omega, by dsimp only; omega, by dsimp only; omega, ?_⟩, rfl, ?_, rfl⟩ ?_ aH ?_
    · dsimp only; rw [hst, hml]
    · dsimp only; rw [hst]
    · exact aE
    clear hst hy hz hk1 hk hlt
    rintro ⟨k, j, Y⟩ ⟨⟨hk1, hj1, hkj, hj, hkl⟩, hYl, hYt, hYd⟩
    dsimp only at hk1 hj1 hkj hj hkl hYl hYt hYd ⊢
    rcases Nat.lt_or_ge (m + 1 + j) X.length with hlt | hge
    · obtain ⟨y, hy⟩ : ∃ y, X[m + j + 1]? = some y := ⟨X[m + j + 1], List.getElem?_eq_getElem _⟩
      obtain ⟨z, hz⟩ : ∃ z, X[m + j]? = some z := ⟨X[m + j], List.getElem?_eq_getElem _⟩
      have hst := dd_take hz hy
      rw [show m + j + 2 = m + 1 + (j + 1) by omega, show m + j + 1 = m + 1 + j by omega] at hst
      have hYz : Y[m + j]? = some z := by
        have h1 := congrArg (fun L => L[0]?) hYd
        simp only [List.getElem?_drop, Nat.add_zero] at h1
        rw [h1, hz]
      have hYy : Y[m + j + 1]? = some y := by
        have h1 := congrArg (fun L => L[1]?) hYd
        simp only [List.getElem?_drop] at h1
        rw [h1, hy]
      obtain ⟨u, hu⟩ : ∃ u, Y[k]? = some u := ⟨Y[k]'(by omega), List.getElem?_eq_getElem _⟩
      have hyv : sub (evtV y) 0 2 = some [.int .i64 y.tick, .int .i64 y.id] := rfl
      have hzv : sub (evtV z) 0 2 = some [.int .i64 z.tick, .int .i64 z.id] := rfl
      have hups : upd (flat evtV Y) (k * 2) [.int .i64 y.tick, .int .i64 y.id] = some (flat evtV (Y.set k y)) := upd_flat0 (f := evtV) (k := 2) (y := y) (fun _ => rfl) hu rfl
      repeat' (conv => whnf); first | (refine VIx.is ?_; refine VIx.mk rfl (by omega) (by omega) ?_) | (refine VLd.is ?_; refine VLd.mk (Rd.cast (.vec aT (sub_flat0 (f := evtV) (k := 2) (fun _ => rfl) hYy hyv)) (by first | omega | (dsimp only; omega) | rfl)) ?_) | (refine VLd.is ?_; refine VLd.mk (Rd.cast (.vec aT (sub_flat0 (f := evtV) (k := 2) (fun _ => rfl) hYz hzv)) (by first | omega | (dsimp only; omega) | rfl)) ?_) | (refine VSt.is ?_; refine VSt.cast (off' := k * 2) (by first | omega | (dsimp only; omega) | rfl) (VSt.vec aT hups rfl ?_)) | (refine VSeq.go ?_) | (refine VB.is ?_; refine VB.yes (by omega) fun _ => ?_) | (refine VB.split (fun _ => ?_) (fun _ => ?_)) | (refine VAr.is ?_; refine oA ?_) | (refine VHs.mk _ (.refl _) ?_)
      all_goals (conv => whnf)
      · rename_i hne
        rw [if_neg (fun e => hne (by rw [e]; exact ⟨rfl, rfl, trivial⟩))] at hst
        refine VNext.mk (k + 1, j + 1, Y.set k y) ⟨⟨by dsimp only; omega, by dsimp only; omega, by dsimp only; omega, by dsimp only; omega, by dsimp only; rw [hst, List.length_append, List.length_singleton]; omega⟩, by dsimp only; rw [List.length_set]; exact hYl, ?_, ?_⟩ (by dsimp only; omega) aE aH
        · dsimp only
          rw [hst, ← hYt]
          apply List.ext_getElem?
          intro t
          rw [List.getElem?_take, List.getElem?_set, List.getElem?_append, List.length_take, List.getElem?_take]
          have m1 : min k Y.length = k := by omega
          rw [m1]
          rcases Nat.lt_trichotomy t k with h | h | h
          · rw [if_pos (by omega), if_neg (by omega), if_pos h, if_pos h]
          · subst h
            rw [if_pos (by omega), if_pos rfl, if_pos (by omega), if_neg (by omega), Nat.sub_self]; rfl
          · rw [if_neg (by omega), if_neg (by omega), List.getElem?_eq_none (by simp; omega)]
        · dsimp only
          apply List.ext_getElem?
          intro t
          have h2 := congrArg (fun L => L[t + 1]?) hYd
          simp only [List.getElem?_drop] at h2
          rw [List.getElem?_drop, List.getElem?_drop, List.getElem?_set, if_neg (by omega), show m + (j + 1) + t = m + j + (t + 1) by omega]
          exact h2
      · rename_i heq
        have hyz : y = z := by
          cases y; cases z
          obtain ⟨e1, e2, _⟩ := Decidable.not_not.1 heq
          dsimp only at e1 e2
          rw [e1, e2]
        rw [if_pos hyz, List.append_nil] at hst
        refine VNext.mk (k, j + 1, Y) ⟨⟨by dsimp only; omega, by dsimp only; omega, by dsimp only; omega, by dsimp only; omega, by dsimp only; rw [hst]; exact hkl⟩, hYl, by dsimp only; rw [hst]; exact hYt, ?_⟩ (by dsimp only; omega) aE aH
        dsimp only
        apply List.ext_getElem?
        intro t
        have h2 := congrArg (fun L => L[t + 1]?) hYd
        simp only [List.getElem?_drop] at h2
        rw [List.getElem?_drop, List.getElem?_drop, show m + (j + 1) + t = m + j + (t + 1) by omega]
        exact h2
    · have hjx : m + 1 + j = X.length := by omega
      rw [hjx, List.take_length] at hkl hYt
      have hut := upd_tail (f := evtV) (k := 2) (fun _ => rfl) (l := Y) (i := k) (n := X.length - k) ⟨0, 0⟩ (by omega)
      repeat' (conv => whnf); first | (refine VSl.is ?_; refine VSl.is ?_; refine VSl.cut0 (m := k) (cap := cq) (by omega) ?_) | (refine VSl.is ?_; refine VSl.is ?_; refine VSl.mk (by omega) (by omega) (by omega) fun q2 hq2 hq3 => ?_; have hqe := hq2 (by omega); clear hq2 hq3; subst hqe) | (refine VCl.is ?_; refine VCl.part (b := gq) (off := k * 2) (by simp [Addr.add]; omega) (by omega) ?_) | (refine VSt.is ?_; refine VSt.is ?_; refine VSt.vec aT hut (oneAll_zero _) ?_) | (refine VSeq.go ?_) | (refine VB.is ?_; refine VB.no (by omega) fun _ => ?_)
      all_goals (conv => whnf)
      have hlX : (Y.take k ++ List.replicate (X.length - k) (⟨0, 0⟩ : Evt)).length = X.length := by rw [List.length_append, List.length_take, List.length_replicate]; omega
      have htX : (Y.take k ++ List.replicate (X.length - k) (⟨0, 0⟩ : Evt)).take k = dd X := by
        rw [← hYt, List.take_append_of_le_length (by rw [List.length_take]; omega), List.take_of_length_le (by rw [List.length_take]; omega)]
      refine ⟨fun w' hw' => ⟨(some ⟨gq, 0, none⟩, cq), ?_, fun _ => ⟨_, rfl⟩, hw'.le ?_⟩⟩
      · rw [← hkl]; rfl
      · dsimp only
        rw [← hkl, ← htX]
        exact HLe.shr (l := Y.take k ++ List.replicate (X.length - k) (⟨0, 0⟩ : Evt)) aT (fun _ => rfl) hlX (by omega) .nil
  · have hkl : k = X.length := by omega
    subst hkl
    rw [List.take_length] at hdd
    repeat' (conv => whnf); first | (refine VSeq.go ?_) | (refine VB.is ?_; refine VB.no (by omega) fun _ => ?_)
    all_goals (conv => whnf)
    rw [hdd]
    exact ⟨fun w' hw' => ⟨(some ⟨gq, 0, none⟩, cq), rfl, fun _ => ⟨_, rfl⟩, hw'.le aH⟩⟩

end Go.Proofs
