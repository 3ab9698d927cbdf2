import Derived.Test.YtephkjicokbckaaGreatDoorVerifyCertainsCt
import Derived.Test.YtephkjicokbckaaGreatDoorVerifyCertainsWf
set_option linter.unusedVariables false

set_option linter.unusedSimpArgs false

namespace Go.Proofs

open Go Go.Vx Go.Gm

set_option maxHeartbeats 4000000 in
theorem refCertain_any (N : Net) (hN : N.wf) (sure may : List Evt) (hsu : ∀ x ∈ sure, x.wf) (hma : ∀ x ∈ may, x.wf) (ticks : Int) (hti : I64 ticks) (pn : Option Addr) (cn bn on : Nat) (qs : Option Addr) (cs bs os : Nat) (ps : Option Addr) (ce be oe : Nat) (pm : Option Addr) (cm bm om : Nat)
    (c : Clm) (hc : c.wf) (hns : c.ns.length ≤ 100000) (pc : Option Addr) (cc bc oc : Nat) (hcc : c.ns.length ≤ cc) (hnl : N.ps.length ≤ 1000000000) (w : World)
    (h1 : Sl w parV 8 N.ps pn N.ps.length bn on) (h2 : Sl w synV 4 N.syns qs N.syns.length bs os) (h3 : Sl w evtV 2 sure ps sure.length be oe) (h4 : Sl w evtV 2 may pm may.length bm om) (h5 : Sl w intV 1 c.ns pc c.ns.length bc oc) :
    Calls Tryz.prog 27 #[.agg #[.slice pn N.ps.length cn, .int .i64 N.inputs, .slice qs N.syns.length cs], .slice ps sure.length ce, .slice pm may.length cm, .int .i64 ticks, clmA c pc cc] w fun e w' =>
      e = .returned (.tuple #[.int .i64 (certRes N sure may ticks c).1, .int .i64 (certRes N sure may ticks c).2]) ∧ St w [] [] w' := by
  have hti' := hti
  unfold I64 at hti'
  have hto := hc.to
  unfold I64 at hto
  refine enter (C := Tryz.cx) (F := Tryz.fx27) (args := [_, _, _, _, _]) Tryz.func27 rfl rfl rfl Tryz.ok27 (St.start w []) ?_
  have hB := fun (H : HP) (w' : World) (hw' : St w [] H w') => refBounds_any N hN sure may hsu hma ticks hti pn cn bn on qs cs bs os ps ce be oe pm cm bm om w' (h1.keep hw' (by simp)) (h2.keep hw' (by simp)) (h3.keep hw' (by simp)) (h4.keep hw' (by simp))
  by_cases hb : bndErr N sure may ticks = 0
  rotate_left
  · have hr : bndRes N sure may ticks = ([], bndErr N sure may ticks) := by unfold bndRes; rw [if_pos hb]
    have hcr : certRes N sure may ticks c = (0, bndErr N sure may ticks) := by unfold certRes; rw [if_pos hb]
    rw [hr] at hB
    rw [hcr]
    repeat' (conv => whnf); first | (refine VCall.isF 24 ?_; (refine VCall.genR (hB _) ?_; rintro ⟨⟨q, cq⟩, D⟩ ⟨hD, hq⟩; dsimp only)) | (refine VSeq.go ?_) | (refine VB.is ?_; refine VB.yes (by omega) fun _ => ?_) | (refine VB.is ?_; refine VB.no (by omega) fun _ => ?_) | (refine VLd.is ?_; refine VLd.mk (.row aT (by rfl)) ?_) | (refine VNew.mk fun _ => ?_)
    all_goals (conv => whnf)
    all_goals exact ⟨fun w' hw' => ⟨rfl, hw'.le .nil⟩⟩
  have hbe := hb
  unfold bndErr at hbe
  have hfacts : netchk N = 0 ∧ evEr N sure = 0 ∧ evEr N may = 0 ∧ tmE ticks = 0 := by
    split at hbe
    · omega
    · split at hbe
      · omega
      · split at hbe
        · omega
        · omega
  have htm : 0 ≤ ticks ∧ ticks ≤ 10000 := by
    have h := hfacts.2.2.2
    unfold tmE at h
    split at h
    · assumption
    · cases h
  have hNok : NetOk N := netchk_zero.1 hfacts.1
  have hBo := bst_ok hNok.ps sure may ticks.toNat
  have hr : bndRes N sure may ticks = ((bst N sure may ticks.toNat).out, 0) := by unfold bndRes; rw [if_neg (by omega)]
  rw [hr] at hB
  have hcr : certRes N sure may ticks c = if clmErr N.ps.length c ≠ 0 then (0, clmErr N.ps.length c) else if ticks < c.to then (0, 3) else (certV c (bst N sure may ticks.toNat).out, 0) := by unfold certRes; rw [if_neg (by omega)]
  obtain ⟨O, hO⟩ : ∃ O, (bst N sure may ticks.toNat).out = O := ⟨_, rfl⟩
  have hOl : O.length = ticks.toNat := by rw [← hO]; exact hBo.out
  have hOr : ∀ r ∈ O, r.length = N.ps.length := fun r hr => (hBo.row r (by rw [hO]; exact hr)).1
  have hOv : ∀ r ∈ O, ∀ v ∈ r, 0 ≤ v ∧ v ≤ 2 := fun r hr => (hBo.row r (by rw [hO]; exact hr)).2
  rw [hO] at hB hcr
  clear hBo hr hbe hfacts
  obtain ⟨E, hE⟩ : ∃ E, clmErr N.ps.length c = E := ⟨_, rfl⟩
  rw [hE] at hcr
  by_cases hz : E = 0
  rotate_left
  · rw [if_pos hz] at hcr
    rw [hcr]
    repeat' (conv => whnf); first | (refine VCall.isF 24 ?_; (refine VCall.genR (hB _) ?_; rintro ⟨⟨q, cq⟩, D⟩ ⟨hD, hq⟩; dsimp only at hD hq ⊢)) | (refine VCall.isF 88 ?_; (refine VCall.valR (fun w' hw' => rclaim_any c hc (by omega) pc cc bc oc hcc N.ps.length hnl _ _ _ _ rfl w' (h5.keep hw' (by simp))) ?_; rw [hE])) | (refine VSeq.go ?_) | (refine VB.is ?_; refine VB.yes (by omega) fun _ => ?_) | (refine VB.is ?_; refine VB.no (by omega) fun _ => ?_) | (refine VLd.is ?_; refine VLd.mk (.row aT (by rfl)) ?_) | (refine VNew.mk fun _ => ?_)
    all_goals (conv => whnf)
    all_goals exact ⟨fun w' hw' => ⟨rfl, hw'.le .nil⟩⟩
  subst hz
  obtain ⟨g1, g2, ⟨g3, _⟩, g4⟩ := clmErr_zero hE
  by_cases htt : ticks < c.to
  · rw [if_neg (by omega), if_pos htt] at hcr
    rw [hcr]
    repeat' (conv => whnf); first | (refine VCall.isF 24 ?_; (refine VCall.genR (hB _) ?_; rintro ⟨⟨q, cq⟩, D⟩ ⟨hD, hq⟩; dsimp only at hD hq ⊢)) | (refine VCall.isF 88 ?_; (refine VCall.valR (fun w' hw' => rclaim_any c hc (by omega) pc cc bc oc hcc N.ps.length hnl _ _ _ _ rfl w' (h5.keep hw' (by simp))) ?_; rw [hE])) | (refine VSeq.go ?_) | (refine VB.is ?_; refine VB.yes (by omega) fun _ => ?_) | (refine VB.is ?_; refine VB.no (by omega) fun _ => ?_) | (refine VLd.is ?_; refine VLd.mk (.row aT (by rfl)) ?_) | (refine VNew.mk fun _ => ?_)
    all_goals (conv => whnf)
    all_goals exact ⟨fun w' hw' => ⟨rfl, hw'.le .nil⟩⟩
  rw [if_neg (by omega), if_neg htt] at hcr
  rw [hcr]
  rcases g1 with hkd | hkd
  · have hv : certV c O = certLead c ((O.drop c.frm.toNat).take (c.to.toNat - c.frm.toNat)) := by unfold certV; rw [if_pos hkd]
    rw [hv]
    repeat' (conv => whnf); first | (refine VCall.isF 24 ?_; (refine VCall.genR (hB _) ?_; rintro ⟨⟨q, cq⟩, D⟩ ⟨hD, hq⟩; dsimp only at hD hq ⊢)) | (refine VCall.isF 88 ?_; (refine VCall.valR (fun w' hw' => rclaim_any c hc (by omega) pc cc bc oc hcc N.ps.length hnl _ _ _ _ rfl w' (h5.keep hw' (by simp))) ?_; rw [hE])) | (refine VCall.isF 89 ?_; (refine VCall.valR (fun w' hw' => by (have hDl : D.length = ticks.toNat := by rw [← hOl, ← hD, List.length_map]); (have hlD : ∀ d ∈ D, d.l.length = N.ps.length := fun d hd => hOr d.l (by rw [← hD]; exact List.mem_map.2 ⟨d, hd, rfl⟩)); (obtain ⟨b1, hb1⟩ := rowsAt_own (n := N.ps.length) hw' aT (fun d hd => by simp [List.mem_map_of_mem hd]) hlD); (have h := winner_any c hc hns g2 pc cc bc oc D q cq b1 0 N.ps.length (by omega) (by omega) g3 w' (h5.keep hw' (by simp)) hb1); rw [hD] at h; exact h) ?_)) | (refine VSeq.go ?_) | (refine VB.is ?_; refine VB.yes (by omega) fun _ => ?_) | (refine VB.is ?_; refine VB.no (by omega) fun _ => ?_) | (refine VLd.is ?_; refine VLd.mk (.row aT (by rfl)) ?_) | (refine VNew.mk fun _ => ?_)
    all_goals (conv => whnf)
    all_goals exact ⟨fun w' hw' => ⟨rfl, hw'.le .nil⟩⟩
  · obtain ⟨F, hF⟩ : ∃ F : Nat, c.frm = F := ⟨c.frm.toNat, by omega⟩
    obtain ⟨T, hT⟩ : ∃ T : Nat, c.to = T := ⟨c.to.toNat, by omega⟩
    have hFT : F ≤ T := by omega
    obtain ⟨V, hV⟩ : ∃ V, (O.drop F).take (T - F) = V := ⟨_, rfl⟩
    have hv : certV c O = certCount c V := by unfold certV; rw [if_neg (by omega), hF, hT, Int.toNat_natCast, Int.toNat_natCast, hV]
    have hA : clmA c pc cc = .agg #[.int .i64 c.kind, .slice pc c.ns.length cc, .int .i64 (F : Int), .int .i64 (T : Int), .int .i64 c.lo, .int .i64 c.hi] := by unfold clmA; rw [hF, hT]
    rw [hv, hA]
    repeat' (conv => whnf); first | (refine VCall.isF 24 ?_; (refine VCall.genR (hB _) ?_; rintro ⟨⟨q, cq⟩, D⟩ ⟨hD, hq⟩; dsimp only at hD hq ⊢)) | (refine VCall.isF 88 ?_; (refine VCall.valR (fun w' hw' => by (have h := rclaim_any c hc (by omega) pc cc bc oc hcc N.ps.length hnl pn cn (.int .i64 N.inputs) (.slice qs N.syns.length cs) rfl w' (h5.keep hw' (by simp))); rw [hA] at h; exact h) ?_; rw [hE])) | (refine VSeq.go ?_) | (refine VB.is ?_; refine VB.yes (by omega) fun _ => ?_) | (refine VB.is ?_; refine VB.no (by omega) fun _ => ?_) | (refine VLd.is ?_; refine VLd.mk (.row aT (by rfl)) ?_) | (refine VNew.mk fun _ => ?_)
    all_goals (conv => whnf)
    rename_i b9 _ _ _ _
    have hDl : D.length = ticks.toNat := by rw [← hOl, ← hD, List.length_map]
    have hlD : ∀ d ∈ D, d.l.length = N.ps.length := fun d hd => hOr d.l (by rw [← hD]; exact List.mem_map.2 ⟨d, hd, rfl⟩)
    have hvD : ∀ d ∈ D, ∀ v ∈ d.l, 0 ≤ v ∧ v ≤ 2 := fun d hd => hOv d.l (by rw [← hD]; exact List.mem_map.2 ⟨d, hd, rfl⟩)
    have hVl : V.length = T - F := by rw [← hV]; simp; omega
    have hcb : ∀ v t, cntRows v (V.take t) c.ns ≤ 1000000000 := by
      intro v t
      have h1 := cntRows_le v (V.take t) c.ns
      have h2 : (V.take t).length ≤ 10000 := by rw [List.length_take]; omega
      exact Nat.le_trans h1 (Nat.mul_le_mul h2 hns)
    refine VLoop.mk (α := Nat) (fun t => F + t ≤ T) (fun t => [(1000000, .tuple #[]), (9, .pointer (some ⟨b9, 0, none⟩)), (10, .int .i64 0), (11, .int .i64 0), (12, .slice q D.length cq), (14, .int .i64 ((cntRows 2 (V.take t) c.ns : Nat) : Int)), (15, .int .i64 ((cntRows 2 (V.take t) c.ns + cntRows 1 (V.take t) c.ns : Nat) : Int)), (16, .int .i64 ((F + t : Nat) : Int))])
      (fun _ => .row b9 54 [.int .i64 c.kind, .slice pc c.ns.length cc, .int .i64 (F : Int), .int .i64 (T : Int), .int .i64 c.lo, .int .i64 c.hi] :: .vec q D.length cq 26 1 (flat drV D) :: D.map drowE) (fun t => T - F - t) 0 (by omega) aE aH ?_
    intro t ht
    rcases Nat.lt_or_ge (F + t) T with hlt | hge
    · obtain ⟨d, hd⟩ : ∃ d, D[F + t]? = some d := ⟨D[F + t]'(by omega), List.getElem?_eq_getElem _⟩
      have hdm := List.mem_of_getElem? hd
      have hdl := hlD d hdm
      have hdv := hvD d hdm
      obtain ⟨gq, rfl⟩ := hq (by omega)
      have hVt : V[t]? = some d.l := by rw [← hV, List.getElem?_take, if_pos (by omega), List.getElem?_drop, ← hD, List.getElem?_map, hd]; rfl
      repeat' (conv => whnf); first | (refine VSeq.go ?_) | (refine VB.is ?_; refine VB.yes (by omega) fun _ => ?_) | (refine VB.is ?_; refine VB.no (by omega) fun _ => ?_) | (refine VB.split (fun _ => ?_) (fun _ => ?_)) | (refine VLd.is ?_; refine VLd.mk (.row aT (by rfl)) ?_) | (refine VAr.is ?_; refine oA ?_)
      all_goals (conv => whnf)
      have hA2 := hcb 2 t
      have hA1 := hcb 1 t
      obtain ⟨A2, hA2e⟩ : ∃ A, cntRows 2 (V.take t) c.ns = A := ⟨_, rfl⟩
      obtain ⟨A1, hA1e⟩ : ∃ A, cntRows 1 (V.take t) c.ns = A := ⟨_, rfl⟩
      rw [hA2e] at hA2 ⊢
      rw [hA1e] at hA1 ⊢
      refine VLoop.mk (α := Nat) (fun k => k ≤ c.ns.length) (fun k => [(1000000, .tuple #[]), (9, .pointer (some ⟨b9, 0, none⟩)), (10, .int .i64 0), (11, .int .i64 0), (12, .slice (some ⟨gq, 0, none⟩) D.length cq), (14, .int .i64 ((A2 + cntRow 2 d.l (c.ns.take k) : Nat) : Int)), (15, .int .i64 ((A2 + A1 + (cntRow 2 d.l (c.ns.take k) + cntRow 1 d.l (c.ns.take k)) : Nat) : Int)), (16, .int .i64 ((F + t : Nat) : Int)), (17, .int .i64 (k : Int))])
        (fun _ => .row b9 54 [.int .i64 c.kind, .slice pc c.ns.length cc, .int .i64 (F : Int), .int .i64 (T : Int), .int .i64 c.lo, .int .i64 c.hi] :: .vec (some ⟨gq, 0, none⟩) D.length cq 26 1 (flat drV D) :: D.map drowE) (fun k => c.ns.length - k) 0 (by omega) aE aH ?_
      intro k hk
      rcases Nat.lt_or_ge k c.ns.length with hltk | hgek
      · obtain ⟨i, hi⟩ := h5.get hltk
        have hib := g3 i (List.mem_of_getElem? hi)
        obtain ⟨v, hv⟩ : ∃ v, d.l[i.toNat]? = some v := ⟨d.l[i.toNat]'(by omega), List.getElem?_eq_getElem _⟩
        have hv02 := hdv v (List.mem_of_getElem? hv)
        have hva : vAt d.l i = v := by unfold vAt; rw [hv]; rfl
        have e2 := cntRow_take (v := 2) (row := d.l) hi
        have e1 := cntRow_take (v := 1) (row := d.l) hi
        rw [hva] at e2 e1
        have b2 := Nat.le_trans (cntRow_le 2 d.l (c.ns.take k)) (by rw [List.length_take]; omega : (c.ns.take k).length ≤ 100000)
        have b1 := Nat.le_trans (cntRow_le 1 d.l (c.ns.take k)) (by rw [List.length_take]; omega : (c.ns.take k).length ≤ 100000)
        obtain ⟨P2, hP2⟩ : ∃ P, cntRow 2 d.l (c.ns.take k) = P := ⟨_, rfl⟩
        obtain ⟨P1, hP1⟩ : ∃ P, cntRow 1 d.l (c.ns.take k) = P := ⟨_, rfl⟩
        rw [hP2] at e2 b2 ⊢
        rw [hP1] at e1 b1 ⊢
        repeat' (conv => whnf); first | (refine VIx.is ?_; refine VIx.mk (h5.ptr (by omega)) (by omega) (by omega) ?_) | (refine VIx.is ?_; refine VIx.mk rfl (by omega) (by omega) ?_) | (refine VLd.is ?_; refine VLd.mk (Rd.cast (h5.rd0 (by simp) (fun _ => rfl) hi rfl) (by first | omega | (dsimp only; omega) | rfl)) ?_) | (refine VLd.is ?_; refine VLd.mk (Rd.cast (.vec aT (sub_flat0 (f := drV) (k := 1) (i := F + t) (fun _ => rfl) hd rfl)) (by first | omega | (dsimp only; omega) | rfl)) ?_) | (refine VLd.is ?_; refine VLd.mk (Rd.cast (Rd.seg (f := drowE) (l := D) aS hd rfl (sub_flat0 (f := intV) (k := 1) (fun _ => rfl) hv rfl)) (by first | omega | (dsimp only; omega) | rfl)) ?_) | (refine VSeq.go ?_) | (refine VB.is ?_; refine VB.yes (by omega) fun _ => ?_) | (refine VB.split (fun _ => ?_) (fun _ => ?_)) | (refine VLd.is ?_; refine VLd.mk (.row aT (by rfl)) ?_) | (refine VAr.is ?_; refine oA ?_) | (refine VHs.mk _ (.refl _) ?_)
        all_goals (conv => whnf)
        all_goals first
          | (rw [if_pos (by omega)] at e2
             rw [if_neg (by omega)] at e1
             refine VNext.mk (k + 1) (by omega) (by omega) ?_ aH
             rw [e2, e1, show A2 + A1 + (P2 + 1 + (P1 + 0)) = A2 + A1 + (P2 + P1) + 1 from by omega]
             exact aE)
          | (rw [if_neg (by omega)] at e2
             rw [if_pos (by omega)] at e1
             refine VNext.mk (k + 1) (by omega) (by omega) ?_ aH
             rw [e2, e1, show A2 + A1 + (P2 + 0 + (P1 + 1)) = A2 + A1 + (P2 + P1) + 1 from by omega]
             exact aE)
          | (rw [if_neg (by omega)] at e2
             rw [if_neg (by omega)] at e1
             refine VNext.mk (k + 1) (by omega) (by omega) ?_ aH
             rw [e2, e1]
             exact aE)
      · rw [List.take_of_length_le hgek]
        have f2 := cntRows_take (v := 2) (ns := c.ns) hVt
        have f1 := cntRows_take (v := 1) (ns := c.ns) hVt
        rw [hA2e] at f2
        rw [hA1e] at f1
        repeat' (conv => whnf); first | (refine VSeq.go ?_) | (refine VB.is ?_; refine VB.yes (by omega) fun _ => ?_) | (refine VB.is ?_; refine VB.no (by omega) fun _ => ?_) | (refine VB.split (fun _ => ?_) (fun _ => ?_)) | (refine VLd.is ?_; refine VLd.mk (.row aT (by rfl)) ?_) | (refine VAr.is ?_; refine oA ?_)
        all_goals (conv => whnf)
        have e : A2 + A1 + (cntRow 2 d.l c.ns + cntRow 1 d.l c.ns) = (A2 + cntRow 2 d.l c.ns) + (A1 + cntRow 1 d.l c.ns) := by omega
        rw [e]
        refine VNext.mk (t + 1) (by omega) (by omega) ?_ aH
        rw [f2, f1]
        exact aE
    · have hb2 := hcb 2 t
      have hb1 := hcb 1 t
      rw [List.take_of_length_le (by omega)] at hb2 hb1 ⊢
      have hres : certCount c V = if c.lo ≤ (cntRows 2 V c.ns : Int) ∧ (cntRows 2 V c.ns : Int) + cntRows 1 V c.ns ≤ c.hi then 1 else if (cntRows 2 V c.ns : Int) + cntRows 1 V c.ns < c.lo ∨ c.hi < (cntRows 2 V c.ns : Int) then -1 else 0 := rfl
      obtain ⟨A2, hA2e⟩ : ∃ A, cntRows 2 V c.ns = A := ⟨_, rfl⟩
      obtain ⟨A1, hA1e⟩ : ∃ A, cntRows 1 V c.ns = A := ⟨_, rfl⟩
      rw [hA2e] at hb2 hres ⊢
      rw [hA1e] at hb1 hres ⊢
      repeat' (conv => whnf); first | (refine VSeq.go ?_) | (refine VB.is ?_; refine VB.yes (by omega) fun _ => ?_) | (refine VB.is ?_; refine VB.no (by omega) fun _ => ?_) | (refine VB.split (fun _ => ?_) (fun _ => ?_)) | (refine VLd.is ?_; refine VLd.mk (.row aT (by rfl)) ?_) | (refine VAr.is ?_; refine oA ?_)
      all_goals (conv => whnf)
      all_goals first
        | exact ⟨fun w' hw' => ⟨by rw [hres, if_pos (by omega)]; rfl, hw'.le .nil⟩⟩
        | exact ⟨fun w' hw' => ⟨by rw [hres, if_neg (by omega), if_pos (by omega)]; rfl, hw'.le .nil⟩⟩
        | exact ⟨fun w' hw' => ⟨by rw [hres, if_neg (by omega), if_neg (by omega)]; rfl, hw'.le .nil⟩⟩

end Go.Proofs
