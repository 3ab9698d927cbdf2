import Derived.Test.YtephkjicokbckaaGreatDoorVerifyDisturbedVr
import Derived.Test.YtephkjicokbckaaGreatDoorVerifyDisturbedTo2
set_option linter.unusedVariables false

set_option linter.unusedSimpArgs false

namespace Go.Proofs

open Go Go.Vx Go.Gm

def slE (d : SlD Int) : Ent := .vec d.p d.l.length d.c 3 1 (flat intV d.l)

def OwnP (d : SlD Int) : Prop := (∃ g, d.p = some ⟨g, 0, none⟩) ∨ (d.p = none ∧ d.l = [])

theorem Src.ofSeg {w0 : World} {M : List Nat} {H : HP} {Z : HP → HP} {D : List (SlD Int)} {i : Nat} {d : SlD Int} (h : AtS H (D.map slE) Z) (hd : D[i]? = some d) (hp : OwnP d) : Src w0 M H d.p d.l.length 1 (flat intV d.l) := by
  rcases hp with ⟨g, hg⟩ | ⟨hg, hl⟩
  · rw [hg]
    refine .at_ (Rd.seg (f := slE) (l := D) (n := d.l.length) (cap := d.c) (e := 3) (size := 1) (xs := flat intV d.l) h hd (by unfold slE; rw [hg]) ?_)
    rw [sub_mk _ _ _ (by rw [flat_length (k := 1) fun _ => rfl]; omega), List.drop_zero, List.take_of_length_le (by rw [flat_length (k := 1) fun _ => rfl]; omega)]
  · rw [hg, hl]; exact .empty

theorem extR_take {losses : Nat} {o x : List Int} {j : Nat} {t : Int} (h : o[j]? = some t) : extR losses (o.take (j + 1)) x = extR losses (o.take j) x ++ if lostN (x ++ [t]) ≤ losses then [x ++ [t]] else [] := by
  unfold extR
  rw [List.take_add_one, h, Option.toList_some, List.map_append, List.filter_append]
  congr 1
  by_cases hl : lostN (x ++ [t]) ≤ losses <;> simp [hl]

set_option maxHeartbeats 1600000 in
theorem refRunsL_any (l : List Evt) (hl : ∀ x ∈ l, 0 ≤ x.tick ∧ x.tick < 10000) (hll : l.length ≤ 64) (J L : Nat) (hJ : J ≤ 64) (hL : L ≤ 64) (p : Option Addr) (cap b o : Nat) (w : World) (h1 : Sl w evtV 2 l p l.length b o) :
    Calls Tryz.prog 95 #[.slice p l.length cap, .int .i64 (J : Int), .int .i64 (L : Int)] w fun e w' => ∃ y : (Option Addr × Nat) × List (SlD Int), e = .returned (.slice y.1.1 y.2.length y.1.2) ∧
      (y.2.map (·.l) = runsM L J (l.map (·.tick)) [[]] ∧ y.2.length ≤ 30000 ∧ (0 < y.2.length → ∃ g, y.1.1 = some ⟨g, 0, none⟩) ∧ ∀ d ∈ y.2, OwnP d ∧ d.l.length = l.length) ∧ St w [] (.vec y.1.1 y.2.length y.1.2 26 1 (flat slVs y.2) :: y.2.map slE) w' := by
  refine enter (C := Tryz.cx) (F := Tryz.fx95) (args := [_, _, _]) Tryz.func95 rfl rfl rfl Tryz.ok95 (St.start w []) ?_
  repeat' (conv => whnf); first | (refine VSeq.go ?_) | (refine VB.is ?_; refine VB.yes (by omega) fun _ => ?_) | (refine VB.is ?_; refine VB.no (by omega) fun _ => ?_) | (refine VB.split (fun _ => ?_) (fun _ => ?_)) | (refine VNew.mk fun _ => ?_) | (refine VAr.is ?_; refine oA ?_)
  all_goals (conv => whnf)
  rename_i g0
  obtain ⟨T, hT⟩ : ∃ T, l.map (·.tick) = T := ⟨_, rfl⟩
  have hTl : T.length = l.length := by rw [← hT, List.length_map]
  rw [hT]
  refine VLoop.mk (α := Nat × (Option Addr × Nat) × List (SlD Int)) (fun y => y.1 ≤ l.length ∧ runsM L J T [[]] = runsM L J (T.drop y.1) (y.2.2.map (·.l)) ∧ y.2.2.length ≤ 30000 ∧ (0 < y.2.2.length → ∃ g, y.2.1.1 = some ⟨g, 0, none⟩) ∧ ∀ d ∈ y.2.2, OwnP d ∧ d.l.length = y.1)
    (fun y => [(1000000, .tuple #[]), (0, .slice p l.length cap), (1, .int .i64 (J : Int)), (2, .int .i64 (L : Int)), (6, .slice none 0 0), (7, .slice y.2.1.1 y.2.2.length y.2.1.2), (8, .int .i64 (y.1 : Int))])
    (fun y => .vec y.2.1.1 y.2.2.length y.2.1.2 26 1 (flat slVs y.2.2) :: y.2.2.map slE) (fun y => l.length - y.1) (0, (some ⟨g0, 0, none⟩, 1), [⟨none, 0, []⟩]) ⟨by dsimp only; omega, rfl, by simp, fun _ => ⟨_, rfl⟩, by simp [OwnP]⟩ aE ?_ ?_
  · refine HLe.cons aT (HLe.nilv .nil)
  rintro ⟨i, ⟨q, cq⟩, D⟩ ⟨hi, hrun, hDl, hq, hD⟩
  dsimp only at hi hrun hDl hq hD ⊢
  rcases Nat.lt_or_ge i l.length with hlt | hge
  · obtain ⟨x, hx⟩ := h1.get hlt
    have hxt := hl x (List.mem_of_getElem? hx)
    obtain ⟨o1, o2, o3⟩ := opts_ok hxt J
    repeat' (conv => whnf); first | (refine VIx.is ?_; refine VIx.mk (h1.ptr (by omega)) (by omega) (by omega) ?_) | (refine VLd.is ?_; refine VLd.mk (Rd.cast (h1.rd (o := 0) (s := 1) (by simp) (fun _ => rfl) hx rfl) (by first | omega | (dsimp only; omega) | rfl)) ?_) | (refine VCall.isF 151 ?_; (refine VCall.genR (fun w' hw' => refOptions_any x.tick hxt J hJ w') ?_; rintro ⟨p2, c2⟩ ⟨g2, hg2⟩; dsimp only at hg2; subst hg2)) | (refine VSeq.go ?_) | (refine VB.is ?_; refine VB.yes (by omega) fun _ => ?_)
    all_goals (conv => whnf)
    obtain ⟨O, hO⟩ : ∃ O, opts x.tick J ++ [-1] = O := ⟨_, rfl⟩
    have hOl : O.length = (opts x.tick J).length + 1 := by rw [← hO]; simp
    have hOi : ∀ t ∈ O, I64 t := by
      intro t ht
      rw [← hO] at ht
      rcases List.mem_append.1 ht with h | h
      · have := (o1 t h).1; have := (o1 t h).2; unfold I64; omega
      · simp only [List.mem_singleton] at h; subst h; unfold I64; omega
    rw [hO, ← hOl]
    dsimp only
    refine VLoop.mk (α := Nat × (Option Addr × Nat) × List (SlD Int)) (fun y => y.1 ≤ D.length ∧ extAll L O [] (D.map (·.l)) = extAll L O (y.2.2.map (·.l)) ((D.map (·.l)).drop y.1) ∧ y.2.2.length ≤ 20200 ∧ (0 < y.2.2.length → ∃ g, y.2.1.1 = some ⟨g, 0, none⟩) ∧ ∀ d ∈ y.2.2, OwnP d ∧ d.l.length = i + 1)
      (fun y => [(1000000, .tuple #[]), (0, .slice p l.length cap), (1, .int .i64 (J : Int)), (2, .int .i64 (L : Int)), (6, .slice none 0 0), (7, .slice q D.length cq), (8, .int .i64 (i : Int)), (9, .slice (some ⟨g2, 0, none⟩) O.length c2), (10, .slice y.2.1.1 y.2.2.length y.2.1.2), (11, .int .i64 (y.1 : Int))])
      (fun y => .vec (some ⟨g2, 0, none⟩) O.length c2 3 1 (flat intV O) :: .vec q D.length cq 26 1 (flat slVs D) :: .vec y.2.1.1 y.2.2.length y.2.1.2 26 1 (flat slVs y.2.2) :: (D.map slE ++ y.2.2.map slE)) (fun y => D.length - y.1) (0, (none, 0), []) ⟨by dsimp only; omega, rfl, by simp, by simp, by simp⟩ aE ?_ ?_
    · dsimp only
      refine HLe.cons aT (HLe.cons aT (HLe.nilv ?_))
      rw [List.map_nil, List.append_nil]
      exact aH
    rintro ⟨k, ⟨qn, cn⟩, N⟩ ⟨hk, hext, hNl, hqn, hN⟩
    dsimp only at hk hext hNl hqn hN ⊢
    by_cases hgo : k < D.length ∧ N.length ≤ 20000
    · obtain ⟨d, hd⟩ : ∃ d, D[k]? = some d := ⟨D[k]'(by omega), List.getElem?_eq_getElem _⟩
      obtain ⟨hdo, hdl⟩ := hD d (List.mem_of_getElem? hd)
      obtain ⟨gq, rfl⟩ := hq (by omega)
      repeat' (conv => whnf); first | (refine VSeq.go ?_) | (refine VB.is ?_; refine VB.yes (by omega) fun _ => ?_) | (refine VB.is ?_; refine VB.no (by omega) fun _ => ?_) | (refine VB.split (fun _ => ?_) (fun _ => ?_)) | (refine VNew.mk fun _ => ?_) | (refine VAr.is ?_; refine oA ?_)
      all_goals (conv => whnf)
      refine VLoop.mk (α := Nat × (Option Addr × Nat) × List (SlD Int)) (fun y => y.1 ≤ O.length ∧ y.2.2.map (·.l) = N.map (·.l) ++ extR L (O.take y.1) d.l ∧ y.2.2.length ≤ N.length + y.1 ∧ (0 < y.2.2.length → ∃ g, y.2.1.1 = some ⟨g, 0, none⟩) ∧ ∀ d ∈ y.2.2, OwnP d ∧ d.l.length = i + 1)
        (fun y => [(1000000, .tuple #[]), (0, .slice p l.length cap), (1, .int .i64 (J : Int)), (2, .int .i64 (L : Int)), (6, .slice none 0 0), (7, .slice (some ⟨gq, 0, none⟩) D.length cq), (8, .int .i64 (i : Int)), (9, .slice (some ⟨g2, 0, none⟩) O.length c2), (10, .slice y.2.1.1 y.2.2.length y.2.1.2), (11, .int .i64 (k : Int)), (12, .int .i64 (y.1 : Int))])
        (fun y => .vec (some ⟨g2, 0, none⟩) O.length c2 3 1 (flat intV O) :: .vec (some ⟨gq, 0, none⟩) D.length cq 26 1 (flat slVs D) :: .vec y.2.1.1 y.2.2.length y.2.1.2 26 1 (flat slVs y.2.2) :: (D.map slE ++ y.2.2.map slE)) (fun y => O.length - y.1) (0, (qn, cn), N) ⟨by dsimp only; omega, by simp [extR], by simp, hqn, hN⟩ aE aH ?_
      rintro ⟨j, ⟨qm, cm⟩, N2⟩ ⟨hj, hNm, hN2l, hqm, hN2⟩
      dsimp only at hj hNm hN2l hqm hN2 ⊢
      rcases Nat.lt_or_ge j O.length with hltj | hgej
      · obtain ⟨t, ht⟩ : ∃ t, O[j]? = some t := ⟨O[j], List.getElem?_eq_getElem hltj⟩
        have hti := hOi t (List.mem_of_getElem? ht)
        unfold I64 at hti
        obtain ⟨X, hX⟩ : ∃ X, d.l ++ [t] = X := ⟨_, rfl⟩
        have hXl : X.length = d.l.length + 1 := by rw [← hX]; simp
        have hXf : flat intV d.l ++ [.int .i64 t] = flat intV X := by rw [← hX, flat_append]; rfl
        have hn0 : 0 + d.l.length + 1 = X.length := by omega
        repeat' (conv => whnf); first | (refine VSeq.is ?_; refine VSeq.cut (at_ := 14) (α := Nat × Nat) (fun _ => True) (fun y => [(1000000, .tuple #[]), (0, .slice p l.length cap), (1, .int .i64 (J : Int)), (2, .int .i64 (L : Int)), (6, .slice none 0 0), (7, .slice (some ⟨gq, 0, none⟩) D.length cq), (8, .int .i64 (i : Int)), (9, .slice (some ⟨g2, 0, none⟩) O.length c2), (10, .slice qm N2.length cm), (11, .int .i64 (k : Int)), (12, .int .i64 (j : Int)), (13, .slice (some ⟨y.1, 0, none⟩) X.length y.2)]) (fun y => .vec (some ⟨g2, 0, none⟩) O.length c2 3 1 (flat intV O) :: .vec (some ⟨gq, 0, none⟩) D.length cq 26 1 (flat slVs D) :: .vec qm N2.length cm 26 1 (flat slVs N2) :: .vec (some ⟨y.1, 0, none⟩) X.length y.2 3 1 (flat intV X) :: (D.map slE ++ N2.map slE)) ?_ ?_) | (refine VIx.is ?_; refine VIx.mk rfl (by omega) (by omega) ?_) | (refine VLd.is ?_; refine VLd.mk (Rd.cast (.vec aT (sub_flat0 (f := slVs) (k := 1) (fun _ => rfl) hd rfl)) (by first | omega | (dsimp only; omega) | rfl)) ?_) | (refine VLd.is ?_; refine VLd.mk (Rd.cast (.vec aT (sub_flat0 (f := intV) (k := 1) (fun _ => rfl) ht rfl)) (by first | omega | (dsimp only; omega) | rfl)) ?_) | (refine VAp.is ?_; refine VAp.own (q := d.p) aT (Src.ofSeg (D := D) aS hd hdo) (flat_one_cell (by simp [intV, Value.oneCell'])) (by (try dsimp only); omega) (by simp only [maxLen]; omega) fun p3 c3 hp3 => ?_) | (refine VAp.is ?_; refine VAp.own aT (.at_ (.vec aT rfl)) (by simp [Value.oneCell']) (by (try dsimp only); omega) (by simp only [maxLen]; omega) fun p4 c4 hp4 => ?_) | (refine VSeq.go ?_) | (refine VB.is ?_; refine VB.yes (by omega) fun _ => ?_) | (refine VNew.mk fun _ => ?_) | (refine VKeep.is ?_; refine VKeep.mk aH ?_) | (refine VHs.mk _ (.refl _) ?_) | (refine And.intro ?_ ?_)
        all_goals (conv => whnf)
        iterate 3
          obtain ⟨g4, hg4⟩ := hp4 (by omega)
          subst hg4
          refine VMid.mk (g4, c4) trivial ?_ ?_
          · rw [← hn0]
            exact aE
          · rw [← hn0, ← hXf]
            exact aH
        all_goals
          rintro ⟨g4, c4⟩ -
          dsimp only
          repeat' (conv => whnf); first | (refine VSeq.go ?_) | (refine VB.is ?_; refine VB.yes (by omega) fun _ => ?_) | (refine VB.is ?_; refine VB.no (by omega) fun _ => ?_) | (refine VB.split (fun _ => ?_) (fun _ => ?_)) | (refine VNew.mk fun _ => ?_) | (refine VAr.is ?_; refine oA ?_)
          all_goals (conv => whnf)
          refine VLoop.mk (α := Nat) (fun m => m ≤ X.length)
            (fun m => [(1000000, .tuple #[]), (0, .slice p l.length cap), (1, .int .i64 (J : Int)), (2, .int .i64 (L : Int)), (6, .slice none 0 0), (7, .slice (some ⟨gq, 0, none⟩) D.length cq), (8, .int .i64 (i : Int)), (9, .slice (some ⟨g2, 0, none⟩) O.length c2), (10, .slice qm N2.length cm), (11, .int .i64 (k : Int)), (12, .int .i64 (j : Int)), (13, .slice (some ⟨g4, 0, none⟩) X.length c4), (14, .int .i64 (lostN (X.take m) : Int)), (15, .int .i64 (m : Int))])
            (fun m => .vec (some ⟨g2, 0, none⟩) O.length c2 3 1 (flat intV O) :: .vec (some ⟨gq, 0, none⟩) D.length cq 26 1 (flat slVs D) :: .vec qm N2.length cm 26 1 (flat slVs N2) :: .vec (some ⟨g4, 0, none⟩) X.length c4 3 1 (flat intV X) :: (D.map slE ++ N2.map slE)) (fun m => X.length - m) 0 (by omega) aE aH ?_
          intro m hm
          rcases Nat.lt_or_ge m X.length with hltm | hgem
          · obtain ⟨u, hu⟩ : ∃ u, X[m]? = some u := ⟨X[m], List.getElem?_eq_getElem hltm⟩
            have hlo : lostN (X.take m) ≤ m := Nat.le_trans List.countP_le_length (by rw [List.length_take]; omega)
            have hst : X.take (m + 1) = X.take m ++ [u] := by rw [List.take_add_one, hu]; rfl
            repeat' (conv => whnf); first | (refine VIx.is ?_; refine VIx.mk rfl (by omega) (by omega) ?_) | (refine VLd.is ?_; refine VLd.mk (Rd.cast (.vec aT (sub_flat0 (f := intV) (k := 1) (fun _ => rfl) hu rfl)) (by first | omega | (dsimp only; omega) | rfl)) ?_) | (refine VSeq.go ?_) | (refine VB.is ?_; refine VB.yes (by omega) fun _ => ?_) | (refine VB.split (fun _ => ?_) (fun _ => ?_)) | (refine VAr.is ?_; refine oA ?_)
            all_goals (conv => whnf)
            · have e : lostN (X.take (m + 1)) = lostN (X.take m) + 1 := by rw [hst, lostN_snoc, if_pos (by omega)]
              refine VNext.mk (m + 1) (by omega) (by omega) ?_ aH
              rw [e]
              exact aE
            · have e : lostN (X.take (m + 1)) = lostN (X.take m) := by rw [hst, lostN_snoc, if_neg (by omega), Nat.add_zero]
              refine VNext.mk (m + 1) (by omega) (by omega) ?_ aH
              rw [e]
              exact aE
          · have hex := extR_take (losses := L) (x := d.l) ht
            rw [hX] at hex
            rw [List.take_of_length_le hgem]
            repeat' (conv => whnf); first | (refine VAp.is ?_; refine VAp.own (p := qm) aT (.at_ (.vec aT rfl)) (by simp [Value.oneCell']) (by (try dsimp only); omega) (by simp only [maxLen]; omega) fun p5 c5 hp5 => ?_) | (refine VSeq.go ?_) | (refine VB.is ?_; refine VB.no (by omega) fun _ => ?_) | (refine VB.split (fun _ => ?_) (fun _ => ?_)) | (refine VNew.mk fun _ => ?_) | (refine VAr.is ?_; refine oA ?_)
            all_goals (conv => whnf)
            · rw [if_pos (by omega)] at hex
              refine VNext.mk (j + 1, (p5, c5), N2 ++ [⟨some ⟨g4, 0, none⟩, c4, X⟩]) ⟨by dsimp only; omega, ?_, ?_, fun _ => hp5 (by omega), ?_⟩ (by dsimp only; omega) ?_ ?_
              · dsimp only
                rw [List.map_append, hNm, hex, List.append_assoc]; rfl
              · simp only [List.length_append, List.length_cons, List.length_nil]; omega
              · intro f hf
                rcases List.mem_append.1 hf with h | h
                · exact hN2 f h
                · simp only [List.mem_singleton] at h; subst h
                  exact ⟨.inl ⟨_, rfl⟩, by dsimp only; omega⟩
              · simp only [List.length_append, List.length_cons, List.length_nil]
                exact aE
              · dsimp only
                rw [flat_append, List.length_append, List.map_append, List.length_cons, List.length_nil]
                refine HLe.cons aT (HLe.cons aT (HLe.cons aT ?_))
                refine HLe.permL (A := .vec (some ⟨g4, 0, none⟩) X.length c4 3 1 (flat intV X) :: (D.map slE ++ N2.map slE)) ?_ (by rw [List.map_cons, List.map_nil, ← List.append_assoc]; exact List.perm_append_singleton _ _)
                exact aH
            · rw [if_neg (by omega), List.append_nil] at hex
              refine VNext.mk (j + 1, (qm, cm), N2) ⟨by dsimp only; omega, by dsimp only; rw [hex]; exact hNm, by dsimp only; omega, hqm, hN2⟩ (by dsimp only; omega) aE aH
      · repeat' (conv => whnf); first | (refine VSeq.go ?_) | (refine VB.is ?_; refine VB.no (by omega) fun _ => ?_) | (refine VAr.is ?_; refine oA ?_)
        all_goals (conv => whnf)
        have hNm2 : N2.map (·.l) = N.map (·.l) ++ extR L O d.l := by rw [hNm, List.take_of_length_le hgej]
        have hdk : (D.map (·.l)).drop k = d.l :: (D.map (·.l)).drop (k + 1) := by
          have h : (D.map (·.l))[k]? = some d.l := by rw [List.getElem?_map, hd]; rfl
          obtain ⟨hlt', he⟩ := List.getElem?_eq_some_iff.1 h
          rw [List.drop_eq_getElem_cons hlt', he]
        refine VNext.mk (k + 1, (qm, cm), N2) ⟨by dsimp only; omega, ?_, by dsimp only; omega, hqm, hN2⟩ (by dsimp only; omega) aE aH
        dsimp only
        rw [hext, hdk, extAll, if_pos (by rw [List.length_map]; omega), hNm2]
    · have hfin : extAll L O (N.map (·.l)) ((D.map (·.l)).drop k) = N.map (·.l) := by
        by_cases hkD : k < D.length
        · cases hdr : (D.map (·.l)).drop k with
          | nil => rfl
          | cons y r => rw [extAll, if_neg (by rw [List.length_map]; omega)]
        · rw [List.drop_eq_nil_of_le (by rw [List.length_map]; omega)]; rfl
      have hTi : T[i]? = some x.tick := by rw [← hT, List.getElem?_map, hx]; rfl
      obtain ⟨hlt', hTe⟩ := List.getElem?_eq_some_iff.1 hTi
      repeat' (conv => whnf); first | (refine VSeq.go ?_) | (refine VB.is ?_; refine VB.yes (by omega) fun _ => ?_) | (refine VB.is ?_; refine VB.no (by omega) fun _ => ?_) | (refine VB.split (fun _ => ?_) (fun _ => ?_)) | (refine VNew.mk fun _ => ?_) | (refine VAr.is ?_; refine oA ?_)
      all_goals (conv => whnf)
      all_goals
        refine VNext.mk (i + 1, (qn, cn), N) ⟨by dsimp only; omega, ?_, by dsimp only; omega, hqn, hN⟩ (by dsimp only; omega) aE aH
        dsimp only
        rw [hrun, List.drop_eq_getElem_cons hlt', hTe, runsM, hO, hext, hfin]
  · repeat' (conv => whnf); first | (refine VSeq.go ?_) | (refine VB.is ?_; refine VB.no (by omega) fun _ => ?_) | (refine VAr.is ?_; refine oA ?_)
    all_goals (conv => whnf)
    refine ⟨fun w' hw' => ⟨((q, cq), D), rfl, ⟨?_, hDl, hq, fun d hd => ?_⟩, hw'⟩⟩
    · rw [hrun, List.drop_eq_nil_of_le (by omega)]; rfl
    · have := hD d hd; exact ⟨this.1, by omega⟩

theorem counts0 (L : Nat) : Counts L [1] [[]] := by
  refine ⟨by simp, fun i => ?_, by simp [lostN]⟩
  rcases i with _ | i
  · simp [cntR, lostN]
  · simp [cntR, lostN]

theorem refRuns_any (l : List Evt) (hl : ∀ x ∈ l, x.wf) (jit losses : Int) (hj : I64 jit) (hlo : I64 losses) (p : Option Addr) (cap b o : Nat) (w : World) (h1 : Sl w evtV 2 l p l.length b o) :
    Calls Tryz.prog 29 #[.slice p l.length cap, .int .i64 jit, .int .i64 losses] w fun e w' => e = .returned (.tuple #[.int .i64 (runsRes l jit losses).1, .int .i64 (runsRes l jit losses).2]) ∧ St w [] [] w' := by
  have hfin : ∀ (a c : Int) w' H, St w [] H w' → runsRes l jit losses = (a, c) → Ending.returned (.tuple #[.int .i64 a, .int .i64 c]) = .returned (.tuple #[.int .i64 (runsRes l jit losses).1, .int .i64 (runsRes l jit losses).2]) ∧ St w [] [] w' := by
    intro a c w' H hw' he
    rw [he]
    exact ⟨rfl, hw'.le .nil⟩
  unfold I64 at hj hlo
  refine enter (C := Tryz.cx) (F := Tryz.fx29) (args := [_, _, _]) Tryz.func29 rfl rfl rfl Tryz.ok29 (St.start w []) ?_
  repeat' (conv => whnf); first | (refine VSeq.go ?_) | (refine VB.is ?_; refine VB.yes (by omega) fun _ => ?_) | (refine VB.is ?_; refine VB.no (by omega) fun _ => ?_) | (refine VB.split (fun _ => ?_) (fun _ => ?_)) | (refine VNew.mk fun _ => ?_) | (refine VAr.is ?_; refine oA ?_)
  all_goals (conv => whnf)
  · exact ⟨fun w' hw' => hfin 0 9 w' _ hw' (by unfold runsRes; rw [if_pos (by omega)])⟩
  · exact ⟨fun w' hw' => hfin 0 3 w' _ hw' (by unfold runsRes; rw [if_neg (by omega), if_pos (by omega)])⟩
  · exact ⟨fun w' hw' => hfin 0 3 w' _ hw' (by unfold runsRes; rw [if_neg (by omega), if_pos (by omega)])⟩
  · exact ⟨fun w' hw' => hfin 0 3 w' _ hw' (by unfold runsRes; rw [if_neg (by omega), if_pos (by omega)])⟩
  · exact ⟨fun w' hw' => hfin 0 3 w' _ hw' (by unfold runsRes; rw [if_neg (by omega), if_pos (by omega)])⟩
  obtain ⟨J, rfl⟩ : ∃ J : Nat, jit = J := ⟨jit.toNat, by omega⟩
  obtain ⟨L, rfl⟩ : ∃ L : Nat, losses = L := ⟨losses.toNat, by omega⟩
  have hJ : J ≤ 64 := by omega
  have hL : L ≤ 64 := by omega
  refine VLoop.mk (α := Nat) (fun i => i ≤ l.length ∧ ∀ x ∈ l.take i, 0 ≤ x.tick ∧ x.tick < 10000)
    (fun i => [(1000000, .tuple #[]), (0, .slice p l.length cap), (1, .int .i64 (J : Int)), (2, .int .i64 (L : Int)), (6, .int .i64 0), (7, .int .i64 0), (8, .int .i64 (i : Int))]) (fun _ => []) (fun i => l.length - i) 0 ⟨by omega, by simp⟩ aE aH ?_
  rintro i ⟨hi, hall⟩
  rcases Nat.lt_or_ge i l.length with hlt | hge
  · obtain ⟨x, hx⟩ := h1.get hlt
    have hxw := hl x (List.mem_of_getElem? hx)
    unfold Evt.wf I64 at hxw
    repeat' (conv => whnf); first | (refine VIx.is ?_; refine VIx.mk (h1.ptr (by omega)) (by omega) (by omega) ?_) | (refine VLd.is ?_; refine VLd.mk (Rd.cast (h1.rd (o := 0) (s := 1) (by simp) (fun _ => rfl) hx rfl) (by first | omega | (dsimp only; omega) | rfl)) ?_) | (refine VSeq.go ?_) | (refine VB.is ?_; refine VB.yes (by omega) fun _ => ?_) | (refine VB.split (fun _ => ?_) (fun _ => ?_)) | (refine VAr.is ?_; refine oA ?_)
    all_goals (conv => whnf)
    all_goals first
      | exact ⟨fun w' hw' => hfin 0 3 w' _ hw' (by unfold runsRes; rw [if_neg (by omega), if_neg (by omega), if_pos ⟨x, List.mem_of_getElem? hx, by omega⟩])⟩
      | (refine VNext.mk (i + 1) ⟨by omega, ?_⟩ (by omega) aE aH
         rw [List.take_add_one, hx, Option.toList_some]
         intro f hf
         rcases List.mem_append.1 hf with h | h
         · exact hall f h
         · simp only [List.mem_singleton] at h; subst h; omega)
  rw [List.take_of_length_le hge] at hall
  have hres : runsRes l (J : Int) (L : Int) = if 20000 < (runsM L J (l.map (·.tick)) [[]]).length then (0, 9) else (((runsM L J (l.map (·.tick)) [[]]).length : Int), 0) := by
    unfold runsRes
    rw [if_neg (by omega), if_neg (by omega), if_neg (by rintro ⟨x, hx, h⟩; exact h (hall x hx)), Int.toNat_natCast, Int.toNat_natCast]
    rw [runs_same (l.map (·.tick)) [1] [[]] (fun t ht => by obtain ⟨x, hx, rfl⟩ := List.mem_map.1 ht; exact hall x hx) (counts0 L) (by simp)]
    by_cases h : 20000 < (runsM L J (l.map (·.tick)) [[]]).length
    · rw [if_pos h, if_pos h]
    · rw [if_neg h, if_neg h]
  repeat' (conv => whnf); first | (refine VCall.isF 95 ?_; (refine VCall.genR (fun w' hw' => refRunsL_any l hall (by omega) J L hJ hL p cap b o w' (h1.keep hw' (by simp))) ?_; rintro ⟨⟨p2, c2⟩, Y⟩ ⟨hY, hYl, hYp, hYo⟩; dsimp only at hY hYl hYp hYo; rw [← hY, List.length_map] at hres; dsimp only)) | (refine VSeq.go ?_) | (refine VB.is ?_; refine VB.no (by omega) fun _ => ?_) | (refine VB.split (fun _ => ?_) (fun _ => ?_))
  all_goals (conv => whnf)
  · exact ⟨fun w' hw' => hfin 0 9 w' _ hw' (by rw [hres, if_pos (by omega)])⟩
  · exact ⟨fun w' hw' => hfin _ 0 w' _ hw' (by rw [hres, if_neg (by omega)])⟩

end Go.Proofs
