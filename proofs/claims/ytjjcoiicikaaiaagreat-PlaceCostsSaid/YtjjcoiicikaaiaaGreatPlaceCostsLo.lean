import Derived.Test.YtjjcoiicikaaiaaGreatPlaceCostsMz
set_option linter.unusedVariables false

set_option linter.unusedSimpArgs false

namespace Go.Gm

def lowS (N : Net) (C : Chp) (k : Nat) : Int := ((List.range k).map fun (j : Nat) => lowK N C (j : Int)).sum

theorem lowS_all (N : Net) (C : Chp) : lowS N C (nSrc N) = lowM N C := rfl

theorem lowS_next (N : Net) (C : Chp) (k : Nat) : lowS N C (k + 1) = lowS N C k + lowK N C (k : Int) := by
  unfold lowS
  rw [List.range_succ, List.map_append, List.sum_append]
  simp

theorem tgtM_len (N : Net) (l : List Syn) (key : Int) : (tgtM N l key).length ≤ l.length := by
  have := tgt_len (N := N) (key := key) l []
  unfold tgtM
  simpa using this

theorem lowK_nil {N : Net} {C : Chp} {key : Int} (h : tgtM N N.syns key = []) : lowK N C key = 0 := by
  unfold lowK
  rw [h]; rfl

theorem lowK_eq {N : Net} {C : Chp} {key : Int} {l : List Int} (hl : tgtM N N.syns key = l) (h : l ≠ []) {m : Int} (hm : (l.length : Int) + (if key < N.ps.length ∧ key ∉ l then 1 else 0) = m) : lowK N C key = (m - 1) / C.nr := by
  unfold lowK
  rw [hl]
  dsimp only
  rw [if_neg h, hm]

theorem lowK_le {N : Net} {C : Chp} (h : ChpOk C) (hN : N.syns.length ≤ 8192) (key : Int) : 0 ≤ lowK N C key ∧ lowK N C key ≤ 8192 := by
  have hnr := h.nr
  by_cases hn : tgtM N N.syns key = []
  · rw [lowK_nil hn]; omega
  · have hl := tgtM_len N N.syns key
    have hp := List.length_pos_iff.2 hn
    rw [lowK_eq rfl hn rfl]
    have h0 : 0 ≤ ((tgtM N N.syns key).length : Int) + (if key < N.ps.length ∧ key ∉ tgtM N N.syns key then 1 else 0) - 1 := by split <;> omega
    have h1 : ((tgtM N N.syns key).length : Int) + (if key < N.ps.length ∧ key ∉ tgtM N N.syns key then 1 else 0) - 1 ≤ 8192 := by split <;> omega
    exact ⟨Int.ediv_nonneg h0 (by omega), Int.le_trans (Int.ediv_le_self _ h0) h1⟩

theorem lowS_le {N : Net} {C : Chp} (h : ChpOk C) (hN : N.syns.length ≤ 8192) : ∀ k, 0 ≤ lowS N C k ∧ lowS N C k ≤ 8192 * k
  | 0 => by unfold lowS; simp
  | k + 1 => by
    have h1 := lowS_le (N := N) h hN k
    have h2 := lowK_le (N := N) h hN (k : Int)
    rw [lowS_next]
    omega

def lowR (N : Net) (C : Chp) : Int × Int := if planE N C ≠ 0 then (0, planE N C) else (lowM N C, 0)

end Go.Gm

namespace Go.Proofs

open Go Go.Vx Go.Gm

theorem placeLow_any (X : PlnX) (w : World) (hX : PlnRd X w) :
    Calls Tryz.prog 35 #[.agg X.net.toArray, .agg (chpC X.C X.pd X.cd).toArray] w fun e w' => e = .returned (.tuple #[.int .i64 (lowR X.N X.C).1, .int .i64 (lowR X.N X.C).2]) ∧ St w [] [] w' := by
  have hb := fun he (w' : World) h => newPlanner_bad X w' h he
  have hg := fun he (w' : World) h => newPlanner_any X w' h he
  unfold lowR
  by_cases he : Gm.planE X.N X.C ≠ 0
  · have hb := hb he
    rw [if_pos he]
    obtain ⟨E, hE⟩ : ∃ E, Gm.planE X.N X.C = E := ⟨_, rfl⟩
    rw [hE] at hb he ⊢
    unfold PlnX.net chpC at hb ⊢
    refine enter (C := Tryz.cx) (F := Tryz.fx35) (args := [_, _]) Tryz.func35 rfl rfl rfl Tryz.ok35 (St.start w []) ?_
    repeat' (conv => whnf); first | (refine VCall.isF 60 ?_; (refine VCall.valR (fun w' hw' => hb w' (hX.keep hw')) ?_)) | (refine VSeq.go ?_) | (refine VB.is ?_; refine VB.yes (by omega) fun _ => ?_) | (refine VB.is ?_; refine VB.no (by omega) fun _ => ?_) | (refine VB.split (fun _ => ?_) (fun _ => ?_)) | (refine boolE_split (fun h => ?_) (fun h => ?_) <;> subst h) | (refine VLd.is ?_; refine VLd.mk (.row aT (by rfl)) ?_) | (refine VSt.is ?_; refine VSt.row aT (by rfl) (by first | rfl | assumption) ?_) | (refine VNew.mk fun _ => ?_) | (refine VAr.is ?_; refine oA ?_) | (refine VIx.is ?_; refine VIx.mk rfl (by omega) (by omega) ?_) | (refine VKeep.is ?_; refine VKeep.mk aH ?_) | (refine VHs.mk _ (.refl _) ?_) | (refine VQ.is ?_; refine oQ ?_) | (refine VM.is ?_; refine oM ?_) | (refine And.intro ?_ ?_)
    all_goals (conv => whnf)
    all_goals first
      | exact ⟨fun w' hw' => ⟨rfl, hw'.le .nil⟩⟩
      | (exfalso; omega)
  have he0 := Decidable.not_not.1 he
  have hg := hg he0
  rw [if_neg he]
  obtain ⟨hnet, hchip, hfew⟩ := planE_zero he0
  have hfs := hnet.fewS
  have hnr := hchip.nr
  have hinp := hnet.inputs
  have hns : nSrc X.N ≤ 256 := by unfold nSrc; omega
  unfold PlnX.net chpC at hg ⊢
  refine enter (C := Tryz.cx) (F := Tryz.fx35) (args := [_, _]) Tryz.func35 rfl rfl rfl Tryz.ok35 (St.start w []) ?_
  clear hb he
  repeat' (conv => whnf); first | (refine VNew.mk fun b3 => ?_) | (refine VCall.isF 60 ?_; (refine VCall.genR (fun w' hw' => hg w' (hX.keep hw')) ?_; rintro x hup; unfold plnH plnV)) | (refine VSeq.go ?_) | (refine VB.is ?_; refine VB.yes (by omega) fun _ => ?_) | (refine VB.is ?_; refine VB.no (by omega) fun _ => ?_) | (refine VB.split (fun _ => ?_) (fun _ => ?_)) | (refine boolE_split (fun h => ?_) (fun h => ?_) <;> subst h) | (refine VLd.is ?_; refine VLd.mk (.row aT (by rfl)) ?_) | (refine VSt.is ?_; refine VSt.row aT (by rfl) (by first | rfl | assumption) ?_) | (refine VNew.mk fun _ => ?_) | (refine VAr.is ?_; refine oA ?_) | (refine VIx.is ?_; refine VIx.mk rfl (by omega) (by omega) ?_) | (refine VKeep.is ?_; refine VKeep.mk aH ?_) | (refine VHs.mk _ (.refl _) ?_) | (refine VQ.is ?_; refine oQ ?_) | (refine VM.is ?_; refine oM ?_) | (refine And.intro ?_ ?_)
  all_goals (conv => whnf)
  rename_i b2 q1
  have hTl : x.T.length = nSrc X.N := by
    have := congrArg List.length hup.T
    rw [List.length_map] at this
    rw [this]; unfold tgtL; simp
  refine VLoop.mk (α := Nat) (fun k => k ≤ nSrc X.N) (fun k => [(1000000, .tuple #[]), (2, .pointer (some ⟨b2, 0, none⟩)), (3, .pointer (some ⟨b3, 0, none⟩)), (4, .int .i64 0), (5, .int .i64 0), (8, .int .i64 (lowS X.N X.C k)), (24, .slice (some ⟨x.gt, 0, none⟩) x.T.length x.T.length), (25, .int .i64 (x.T.length : Int)), (26, .int .i64 (k : Int))])
    (fun _ => .row b2 39 [.slice X.pn X.N.ps.length X.cn, .int .i64 X.N.inputs, .slice X.qs X.N.syns.length X.cs] :: .row b3 26 [.int .i64 X.C.mesh.wide, .int .i64 X.C.mesh.high, .int .i64 X.C.mesh.room, .int .i64 X.C.nr, .int .i64 X.C.sy, .int .i64 X.C.en, .int .i64 X.C.bits, .slice X.pd X.C.dead.length X.cd] :: .vec (some ⟨x.gt, 0, none⟩) x.T.length x.T.length 24 1 (flat srV x.T) :: (x.T.map srE ++ x.F.map srE)) (fun k => nSrc X.N - k) 0 (Nat.zero_le _) aE aH ?_
  intro k hk
  rcases Nat.lt_or_ge k (nSrc X.N) with hlt | hge
  · obtain ⟨d, hd⟩ : ∃ d, x.T[k]? = some d := ⟨_, List.getElem?_eq_getElem (by omega)⟩
    have hdl : d.l = tgtM X.N X.N.syns (k : Int) := by
      have := congrArg (fun L => L[k]?) hup.T
      rw [List.getElem?_map, hd] at this
      unfold tgtL at this
      rw [List.getElem?_map, List.getElem?_range hlt] at this
      simpa using this
    have hdn := tgtM_len X.N X.N.syns (k : Int)
    rw [← hdl] at hdn
    have hnx := lowS_next X.N X.C k
    have hb1 := lowS_le (N := X.N) hchip hfs k
    have hb2 := lowK_le (N := X.N) hchip hfs (k : Int)
    have hz : d.l.length = 0 → lowK X.N X.C (k : Int) = 0 := fun h => lowK_nil (by rw [← hdl]; exact List.length_eq_zero_iff.1 h)
    have hnz : ∀ m : Int, d.l.length ≠ 0 → (d.l.length : Int) + (if (k : Int) < X.N.ps.length ∧ (k : Int) ∉ d.l then 1 else 0) = m → (m - 1) / X.C.nr = lowK X.N X.C (k : Int) := fun m h hm => (lowK_eq hdl.symm (fun e => h (by rw [e]; rfl)) hm).symm
    obtain ⟨S0, hS0⟩ : ∃ S, lowS X.N X.C k = S := ⟨_, rfl⟩
    obtain ⟨LK, hLK⟩ : ∃ S, lowK X.N X.C (k : Int) = S := ⟨_, rfl⟩
    rw [hS0, hLK] at hnx
    rw [hS0] at hb1 ⊢
    rw [hLK] at hb2 hz hnz
    clear hg hX hup hdl hS0 hLK
    repeat' (conv => whnf); first | (refine VIx.is ?_; refine VIx.mk rfl (by omega) (by omega) ?_) | (refine VLd.is ?_; refine VLd.mk (Rd.cast (.vec aT (sub_flat0 (vs := [.slice d.p d.l.length d.c]) (s := 1) (f := srV) (k := 1) (fun _ => rfl) hd rfl)) (by first | omega | (dsimp only; omega) | rfl)) ?_) | (refine VCall.isF 49 ?_; (refine VCall.genR (fun w' hw' => Exists.elim (srow_sl hw' aS hd) fun bq hq => contains_any d.l (by omega) (k : Int) _ _ bq 0 w' hq) ?_; intro cc hcc; cases cc <;> simp only [Bool.false_eq_true, false_iff, true_iff] at hcc)) | (refine VQ.is ?_; refine VQ.is ?_; refine VQ.gen (by omega) (by omega) (by omega) fun qq hqq hq0 hq1 => ?_) | (refine VSeq.go ?_) | (refine VB.is ?_; refine VB.yes (by omega) fun _ => ?_) | (refine VB.is ?_; refine VB.no (by omega) fun _ => ?_) | (refine VB.split (fun _ => ?_) (fun _ => ?_)) | (refine boolE_split (fun h => ?_) (fun h => ?_) <;> subst h) | (refine VLd.is ?_; refine VLd.mk (.row aT (by rfl)) ?_) | (refine VSt.is ?_; refine VSt.row aT (by rfl) (by first | rfl | assumption) ?_) | (refine VNew.mk fun _ => ?_) | (refine VAr.is ?_; refine oA ?_) | (refine VIx.is ?_; refine VIx.mk rfl (by omega) (by omega) ?_) | (refine VKeep.is ?_; refine VKeep.mk aH ?_) | (refine VHs.mk _ (.refl _) ?_) | (refine VQ.is ?_; refine oQ ?_) | (refine VM.is ?_; refine oM ?_) | (refine And.intro ?_ ?_)
    all_goals (conv => whnf)
    · refine VNext.mk (k + 1) (by omega) (by omega) ?_ aH
      rw [hnx, hz (by omega), Int.add_zero]
      exact aE
    · have e : qq = LK := hqq.symm.trans (hnz _ (by omega) (by rw [if_pos ⟨by omega, hcc⟩]))
      subst e
      refine VNext.mk (k + 1) (by omega) (by omega) ?_ aH
      rw [hnx]
      exact aE
    · have e : qq = LK := hqq.symm.trans (hnz _ (by omega) (by rw [if_neg (fun h => h.2 hcc), Int.add_zero]))
      subst e
      refine VNext.mk (k + 1) (by omega) (by omega) ?_ aH
      rw [hnx]
      exact aE
    · have e : qq = LK := hqq.symm.trans (hnz _ (by omega) (by rw [if_neg (fun h => absurd h.1 (by omega)), Int.add_zero]))
      subst e
      refine VNext.mk (k + 1) (by omega) (by omega) ?_ aH
      rw [hnx]
      exact aE
  have hkn : k = nSrc X.N := by omega
  rw [hkn, lowS_all]
  rw [hkn] at hge
  repeat' (conv => whnf); first | (refine VSeq.go ?_) | (refine VB.is ?_; refine VB.yes (by omega) fun _ => ?_) | (refine VB.is ?_; refine VB.no (by omega) fun _ => ?_) | (refine VB.split (fun _ => ?_) (fun _ => ?_)) | (refine boolE_split (fun h => ?_) (fun h => ?_) <;> subst h) | (refine VLd.is ?_; refine VLd.mk (.row aT (by rfl)) ?_) | (refine VSt.is ?_; refine VSt.row aT (by rfl) (by first | rfl | assumption) ?_) | (refine VNew.mk fun _ => ?_) | (refine VAr.is ?_; refine oA ?_) | (refine VIx.is ?_; refine VIx.mk rfl (by omega) (by omega) ?_) | (refine VKeep.is ?_; refine VKeep.mk aH ?_) | (refine VHs.mk _ (.refl _) ?_) | (refine VQ.is ?_; refine oQ ?_) | (refine VM.is ?_; refine oM ?_) | (refine And.intro ?_ ?_)
  all_goals (conv => whnf)
  exact ⟨fun w' hw' => ⟨rfl, hw'.le .nil⟩⟩

theorem rlow_div {a nr q : Int} (hn : 0 < nr) (h : (a + nr - 1) / nr = q) : (a - 1) / nr = q - 1 := by
  rw [← h, show a + nr - 1 = (a - 1) + nr by omega, Int.add_ediv_of_dvd_right (Int.dvd_refl nr), Int.ediv_self (by omega)]
  omega

theorem rLow_any (X : PlnX) (w : World) (hX : PlnRd X w) :
    Calls Tryz.prog 36 #[.agg X.net.toArray, .agg (chpC X.C X.pd X.cd).toArray] w fun e w' => e = .returned (.tuple #[.int .i64 (lowR X.N X.C).1, .int .i64 (lowR X.N X.C).2]) ∧ St w [] [] w' := by
  have hbo := fun (w' : World) h => both_any X w' h
  unfold lowR
  by_cases he : Gm.planE X.N X.C ≠ 0
  · rw [if_pos he]
    obtain ⟨E, hE⟩ : ∃ E, Gm.planE X.N X.C = E := ⟨_, rfl⟩
    rw [hE] at hbo he ⊢
    unfold PlnX.net chpC at hbo ⊢
    refine enter (C := Tryz.cx) (F := Tryz.fx36) (args := [_, _]) Tryz.func36 rfl rfl rfl Tryz.ok36 (St.start w []) ?_
    repeat' (conv => whnf); first | (refine VCall.isF 65 ?_; (refine VCall.valR (fun w' hw' => hbo w' (hX.keep hw')) ?_)) | (refine VSeq.go ?_) | (refine VB.is ?_; refine VB.yes (by omega) fun _ => ?_) | (refine VB.is ?_; refine VB.no (by omega) fun _ => ?_) | (refine VB.split (fun _ => ?_) (fun _ => ?_)) | (refine boolE_split (fun h => ?_) (fun h => ?_) <;> subst h) | (refine VLd.is ?_; refine VLd.mk (.row aT (by rfl)) ?_) | (refine VSt.is ?_; refine VSt.row aT (by rfl) (by first | rfl | assumption) ?_) | (refine VNew.mk fun _ => ?_) | (refine VAr.is ?_; refine oA ?_) | (refine VIx.is ?_; refine VIx.mk rfl (by omega) (by omega) ?_) | (refine VKeep.is ?_; refine VKeep.mk aH ?_) | (refine VHs.mk _ (.refl _) ?_) | (refine VQ.is ?_; refine oQ ?_) | (refine VM.is ?_; refine oM ?_) | (refine And.intro ?_ ?_)
    all_goals (conv => whnf)
    all_goals first
      | exact ⟨fun w' hw' => ⟨rfl, hw'.le .nil⟩⟩
      | (exfalso; omega)
  have he0 := Decidable.not_not.1 he
  rw [if_neg he]
  rw [he0] at hbo
  obtain ⟨hnet, hchip, hfew⟩ := planE_zero he0
  have hfs := hnet.fewS
  have hfn := hnet.few
  have hnr := hchip.nr
  have hinp := hnet.inputs
  have hns : (nSrc X.N : Int) = (X.N.ps.length : Int) + X.N.inputs := by unfold nSrc; omega
  have hnsb : nSrc X.N ≤ 256 := by omega
  have hkeep := fun (w' : World) (H : HP) (hw' : St w [] H w') => hX.keep hw'
  obtain ⟨bs, os, hs⟩ := hX.syns
  have hfr : ∀ s ∈ X.N.syns, -1000000 ≤ s.frm ∧ s.frm ≤ 1000000000 := fun s h => by
    have h1 := (hnet.syns s h).1
    unfold srcOk at h1
    omega
  have hky := fun (f : Int) hf (w' : World) => rkey_any X.N hfn X.pn X.cn (.int .i64 X.N.inputs) (.slice X.qs X.N.syns.length X.cs) (by rfl) f hf w'
  unfold PlnX.net chpC at hbo ⊢
  refine enter (C := Tryz.cx) (F := Tryz.fx36) (args := [_, _]) Tryz.func36 rfl rfl rfl Tryz.ok36 (St.start w []) ?_
  clear he
  repeat' (conv => whnf); first | (refine VNew.mk fun b3 => ?_) | (refine VCall.isF 65 ?_; (refine VCall.valR (fun w' hw' => hbo w' (hkeep w' _ hw')) ?_)) | (refine VSeq.go ?_) | (refine VB.is ?_; refine VB.yes (by omega) fun _ => ?_) | (refine VB.is ?_; refine VB.no (by omega) fun _ => ?_) | (refine VB.split (fun _ => ?_) (fun _ => ?_)) | (refine boolE_split (fun h => ?_) (fun h => ?_) <;> subst h) | (refine VLd.is ?_; refine VLd.mk (.row aT (by rfl)) ?_) | (refine VSt.is ?_; refine VSt.row aT (by rfl) (by first | rfl | assumption) ?_) | (refine VNew.mk fun _ => ?_) | (refine VAr.is ?_; refine oA ?_) | (refine VIx.is ?_; refine VIx.mk rfl (by omega) (by omega) ?_) | (refine VKeep.is ?_; refine VKeep.mk aH ?_) | (refine VHs.mk _ (.refl _) ?_) | (refine VQ.is ?_; refine oQ ?_) | (refine VM.is ?_; refine oM ?_) | (refine And.intro ?_ ?_)
  all_goals (conv => whnf)
  rename_i b2 q1
  refine VLoop.mk (α := Nat) (fun k => k ≤ nSrc X.N) (fun k => [(1000000, .tuple #[]), (2, .pointer (some ⟨b2, 0, none⟩)), (3, .pointer (some ⟨b3, 0, none⟩)), (4, .int .i64 0), (5, .int .i64 0), (7, .int .i64 (lowS X.N X.C k)), (8, .int .i64 (k : Int))])
    (fun _ => [.row b2 39 [.slice X.pn X.N.ps.length X.cn, .int .i64 X.N.inputs, .slice X.qs X.N.syns.length X.cs], .row b3 33 [.int .i64 X.C.mesh.wide, .int .i64 X.C.mesh.high, .int .i64 X.C.mesh.room, .int .i64 X.C.nr, .int .i64 X.C.sy, .int .i64 X.C.en, .int .i64 X.C.bits, .slice X.pd X.C.dead.length X.cd]]) (fun k => nSrc X.N - k) 0 (Nat.zero_le _) aE aH ?_
  intro k hk
  rcases Nat.lt_or_ge k (nSrc X.N) with hlt | hge
  · repeat' (conv => whnf); first | (refine VSeq.go ?_) | (refine VB.is ?_; refine VB.yes (by omega) fun _ => ?_) | (refine VB.is ?_; refine VB.no (by omega) fun _ => ?_) | (refine VB.split (fun _ => ?_) (fun _ => ?_)) | (refine boolE_split (fun h => ?_) (fun h => ?_) <;> subst h) | (refine VLd.is ?_; refine VLd.mk (.row aT (by rfl)) ?_) | (refine VSt.is ?_; refine VSt.row aT (by rfl) (by first | rfl | assumption) ?_) | (refine VNew.mk fun _ => ?_) | (refine VAr.is ?_; refine oA ?_) | (refine VIx.is ?_; refine VIx.mk rfl (by omega) (by omega) ?_) | (refine VKeep.is ?_; refine VKeep.mk aH ?_) | (refine VHs.mk _ (.refl _) ?_) | (refine VQ.is ?_; refine oQ ?_) | (refine VM.is ?_; refine oM ?_) | (refine And.intro ?_ ?_)
    all_goals (conv => whnf)
    refine VLoop.mk (α := Nat × Option Addr × Nat) (fun z => z.1 ≤ X.N.syns.length ∧ (0 < (tgtM X.N (X.N.syns.take z.1) (k : Int)).length → ∃ g, z.2.1 = some ⟨g, 0, none⟩)) (fun z => [(1000000, .tuple #[]), (2, .pointer (some ⟨b2, 0, none⟩)), (3, .pointer (some ⟨b3, 0, none⟩)), (4, .int .i64 0), (5, .int .i64 0), (7, .int .i64 (lowS X.N X.C k)), (8, .int .i64 (k : Int)), (9, .slice z.2.1 (tgtM X.N (X.N.syns.take z.1) (k : Int)).length z.2.2), (10, .int .i64 (z.1 : Int))])
      (fun z => .vec z.2.1 (tgtM X.N (X.N.syns.take z.1) (k : Int)).length z.2.2 3 1 (flat intV (tgtM X.N (X.N.syns.take z.1) (k : Int))) :: [.row b2 39 [.slice X.pn X.N.ps.length X.cn, .int .i64 X.N.inputs, .slice X.qs X.N.syns.length X.cs], .row b3 33 [.int .i64 X.C.mesh.wide, .int .i64 X.C.mesh.high, .int .i64 X.C.mesh.room, .int .i64 X.C.nr, .int .i64 X.C.sy, .int .i64 X.C.en, .int .i64 X.C.bits, .slice X.pd X.C.dead.length X.cd]]) (fun z => X.N.syns.length - z.1) (0, none, 0) ⟨Nat.zero_le _, fun h => by cases h⟩ aE (HLe.nilv aH) ?_
    rintro ⟨j, q, cq⟩ ⟨hj, hq⟩
    dsimp only at hj hq ⊢
    have hTl := tgtM_len X.N (X.N.syns.take j) (k : Int)
    rw [List.length_take] at hTl
    rcases Nat.lt_or_ge j X.N.syns.length with hlj | hgj
    · obtain ⟨s, hsj⟩ := hs.get hlj
      have hsm := List.mem_of_getElem? hsj
      have hnx := tgtM_next (N := X.N) hsj (k : Int)
      have hky2 := hky s.frm (hfr s hsm)
      obtain ⟨ky, hkyE⟩ : ∃ ky, keyM X.N s.frm = ky := ⟨_, rfl⟩
      unfold tgt1 at hnx
      rw [hkyE] at hnx hky2
      obtain ⟨T, hT⟩ : ∃ T, tgtM X.N (X.N.syns.take j) (k : Int) = T := ⟨_, rfl⟩
      rw [hT] at hnx hTl hq ⊢
      have hsx : sub (synV s) 0 4 = some [.int .i64 s.frm, .int .i64 s.to, .int .i64 s.wt, .int .i64 s.dl] := rfl
      clear hbo hky hfr
      repeat' (conv => whnf); first | (refine VNew.mk fun b13 => ?_) | (refine VIx.is ?_; refine VIx.mk (hs.ptr (by omega)) (by omega) (by omega) ?_) | (refine VLd.is ?_; refine VLd.mk (Rd.cast (hs.rd0 (by simp) (fun _ => rfl) hsj hsx) (by first | omega | (dsimp only; omega) | rfl)) ?_) | (refine VCall.isF 81 ?_; (refine VCall.valR (fun w' _ => hky2 w') ?_)) | (refine VCall.isF 52 ?_; (refine VCall.genR (fun w' hw' => Exists.elim (Sl.own (f := intV) (l := T) (k := 1) hw' aT (fun _ => rfl) rfl) fun b1 hb1 => rhasL_any T (by omega) s.to _ _ b1 0 w' hb1) ?_; intro cc hcc; cases cc <;> simp only [Bool.false_eq_true, false_iff, true_iff] at hcc)) | (refine VAp.is ?_; refine VAp.own aT (.at_ (.vec aT rfl)) (by simp [Value.oneCell']) (by (try dsimp only); omega) (by simp only [maxLen]; omega) fun p' cap' hp' => ?_) | (refine VSeq.go ?_) | (refine VB.is ?_; refine VB.yes (by omega) fun _ => ?_) | (refine VB.is ?_; refine VB.no (by omega) fun _ => ?_) | (refine VB.split (fun _ => ?_) (fun _ => ?_)) | (refine boolE_split (fun h => ?_) (fun h => ?_) <;> subst h) | (refine VLd.is ?_; refine VLd.mk (.row aT (by rfl)) ?_) | (refine VSt.is ?_; refine VSt.row aT (by rfl) (by first | rfl | assumption) ?_) | (refine VNew.mk fun _ => ?_) | (refine VAr.is ?_; refine oA ?_) | (refine VIx.is ?_; refine VIx.mk rfl (by omega) (by omega) ?_) | (refine VKeep.is ?_; refine VKeep.mk aH ?_) | (refine VHs.mk _ (.refl _) ?_) | (refine VQ.is ?_; refine oQ ?_) | (refine VM.is ?_; refine oM ?_) | (refine And.intro ?_ ?_)
      all_goals (conv => whnf)
      all_goals first
        | (rw [if_pos ⟨by omega, hcc⟩] at hnx
           refine VNext.mk (j + 1, p', cap') ⟨by dsimp only; omega, fun _ => hp' (by omega)⟩ (by dsimp only; omega) ?_ ?_
           · dsimp only
             rw [hnx, List.length_append]
             exact aE
           · dsimp only
             rw [hnx, List.length_append, flat_append]
             exact aH)
        | (rw [if_neg (fun h => by first | exact h.2 hcc | exact absurd h.1 (by omega))] at hnx
           refine VNext.mk (j + 1, q, cq) ⟨by dsimp only; omega, by dsimp only; rw [hnx]; exact hq⟩ (by dsimp only; omega) ?_ ?_
           · dsimp only
             rw [hnx]
             exact aE
           · dsimp only
             rw [hnx]
             exact aH)
    rw [List.take_of_length_le hgj] at hq hTl ⊢
    have hnx := lowS_next X.N X.C k
    have hb1 := lowS_le (N := X.N) hchip hfs k
    have hb2 := lowK_le (N := X.N) hchip hfs (k : Int)
    obtain ⟨T, hT⟩ : ∃ T, tgtM X.N X.N.syns (k : Int) = T := ⟨_, rfl⟩
    have hz : T.length = 0 → lowK X.N X.C (k : Int) = 0 := fun h => lowK_nil (by rw [hT]; exact List.length_eq_zero_iff.1 h)
    have hnz : ∀ m : Int, T.length ≠ 0 → (T.length : Int) + (if (k : Int) < X.N.ps.length ∧ (k : Int) ∉ T then 1 else 0) = m → (m - 1) / X.C.nr = lowK X.N X.C (k : Int) := fun m h hm => (lowK_eq hT (fun e => h (by rw [e]; rfl)) hm).symm
    obtain ⟨S0, hS0⟩ : ∃ S, lowS X.N X.C k = S := ⟨_, rfl⟩
    obtain ⟨LK, hLK⟩ : ∃ S, lowK X.N X.C (k : Int) = S := ⟨_, rfl⟩
    rw [hS0, hLK] at hnx
    rw [hS0] at hb1 ⊢
    rw [hLK] at hb2 hz hnz
    rw [hT] at hq hTl ⊢
    clear hbo hky hfr hT hS0 hLK
    repeat' (conv => whnf); first | (refine VNew.mk fun b13 => ?_) | (refine VCall.isF 52 ?_; (refine VCall.genR (fun w' hw' => Exists.elim (Sl.own (f := intV) (l := T) (k := 1) hw' aT (fun _ => rfl) rfl) fun b1 hb1 => rhasL_any T (by omega) (k : Int) _ _ b1 0 w' hb1) ?_; intro cc hcc; cases cc <;> simp only [Bool.false_eq_true, false_iff, true_iff] at hcc)) | (refine VAp.is ?_; refine VAp.own aT (.at_ (.vec aT rfl)) (by simp [Value.oneCell']) (by (try dsimp only); omega) (by simp only [maxLen]; omega) fun p' cap' hp' => ?_) | (refine VQ.is ?_; refine VQ.is ?_; refine VQ.gen (by omega) (by omega) (by omega) fun qq hqq hq0 hq1 => ?_) | (refine VSeq.go ?_) | (refine VB.is ?_; refine VB.yes (by omega) fun _ => ?_) | (refine VB.is ?_; refine VB.no (by omega) fun _ => ?_) | (refine VB.split (fun _ => ?_) (fun _ => ?_)) | (refine boolE_split (fun h => ?_) (fun h => ?_) <;> subst h) | (refine VLd.is ?_; refine VLd.mk (.row aT (by rfl)) ?_) | (refine VSt.is ?_; refine VSt.row aT (by rfl) (by first | rfl | assumption) ?_) | (refine VNew.mk fun _ => ?_) | (refine VAr.is ?_; refine oA ?_) | (refine VIx.is ?_; refine VIx.mk rfl (by omega) (by omega) ?_) | (refine VKeep.is ?_; refine VKeep.mk aH ?_) | (refine VHs.mk _ (.refl _) ?_) | (refine VQ.is ?_; refine oQ ?_) | (refine VM.is ?_; refine oM ?_) | (refine And.intro ?_ ?_)
    all_goals (conv => whnf)
    · refine VNext.mk (k + 1) (by omega) (by omega) ?_ aH
      rw [hnx, hz (by omega), Int.add_zero]
      exact aE
    · have e : qq - 1 = LK := (rlow_div (by omega) hqq).symm.trans (hnz _ (by omega) (by rw [if_pos ⟨by omega, hcc⟩]; omega))
      refine VNext.mk (k + 1) (by omega) (by omega) ?_ aH
      rw [hnx, ← e]
      exact aE
    · have e : qq - 1 = LK := (rlow_div (by omega) hqq).symm.trans (hnz _ (by omega) (by rw [if_neg (fun h => h.2 hcc), Int.add_zero]))
      refine VNext.mk (k + 1) (by omega) (by omega) ?_ aH
      rw [hnx, ← e]
      exact aE
    · have e : qq - 1 = LK := (rlow_div (by omega) hqq).symm.trans (hnz _ (by omega) (by rw [if_neg (fun h => absurd h.1 (by omega)), Int.add_zero]))
      refine VNext.mk (k + 1) (by omega) (by omega) ?_ aH
      rw [hnx, ← e]
      exact aE
  have hkn : k = nSrc X.N := by omega
  rw [hkn, lowS_all]
  rw [hkn] at hge
  repeat' (conv => whnf); first | (refine VSeq.go ?_) | (refine VB.is ?_; refine VB.yes (by omega) fun _ => ?_) | (refine VB.is ?_; refine VB.no (by omega) fun _ => ?_) | (refine VB.split (fun _ => ?_) (fun _ => ?_)) | (refine boolE_split (fun h => ?_) (fun h => ?_) <;> subst h) | (refine VLd.is ?_; refine VLd.mk (.row aT (by rfl)) ?_) | (refine VSt.is ?_; refine VSt.row aT (by rfl) (by first | rfl | assumption) ?_) | (refine VNew.mk fun _ => ?_) | (refine VAr.is ?_; refine oA ?_) | (refine VIx.is ?_; refine VIx.mk rfl (by omega) (by omega) ?_) | (refine VKeep.is ?_; refine VKeep.mk aH ?_) | (refine VHs.mk _ (.refl _) ?_) | (refine VQ.is ?_; refine oQ ?_) | (refine VM.is ?_; refine oM ?_) | (refine And.intro ?_ ?_)
  all_goals (conv => whnf)
  exact ⟨fun w' hw' => ⟨rfl, hw'.le .nil⟩⟩

end Go.Proofs
