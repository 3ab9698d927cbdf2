import Derived.Test.YtjjcoiicikaaiaaGreatPlaceKnownPg
import Derived.Test.YtjjcoiicikaaiaaGreatPlaceKnownQw
import Derived.Test.YtjjcoiicikaaiaaGreatPlaceKnownMw
import Derived.Test.YtjjcoiicikaaiaaGreatPlaceKnownPc
section
set_option linter.unusedVariables false

set_option linter.unusedSimpArgs false

namespace Go.Gm

def keysK (N : Net) (k : Nat) : List Int := ((List.range k).map fun (j : Nat) => (j : Int)).filter fun key => decide (∃ s ∈ N.syns, keyM N s.frm = key)

theorem keysK_all (N : Net) : keysK N (nSrc N) = keysM N := rfl

theorem keysK_next (N : Net) (k : Nat) : keysK N (k + 1) = keysK N k ++ if tgtM N N.syns (k : Int) ≠ [] then [(k : Int)] else [] := by
  unfold keysK
  rw [List.range_succ, List.map_append, List.filter_append]
  congr 1
  simp only [List.map_cons, List.map_nil]
  by_cases h : tgtM N N.syns (k : Int) ≠ []
  · rw [if_pos h, List.filter_cons, if_pos (decide_eq_true (tgt_some.2 h))]; rfl
  · rw [if_neg h, List.filter_cons, if_neg (fun h2 => h (tgt_some.1 (of_decide_eq_true h2)))]; rfl

theorem keysK_mem {N : Net} {k : Nat} {x : Int} (h : x ∈ keysK N k) : 0 ≤ x ∧ x < k := by
  unfold keysK at h
  rw [List.mem_filter, List.mem_map] at h
  obtain ⟨⟨j, hj, rfl⟩, _⟩ := h
  rw [List.mem_range] at hj
  omega

theorem keysK_asc (N : Net) (k : Nat) : (keysK N k).Pairwise fun a b => a < b := by
  unfold keysK
  refine List.Pairwise.filter _ ?_
  rw [List.pairwise_map]
  exact List.pairwise_lt_range.imp fun h => by omega

theorem keysK_len (N : Net) (k : Nat) : (keysK N k).length ≤ k := by
  unfold keysK
  refine Nat.le_trans (List.length_filter_le _ _) ?_
  simp

def tabF (T : Int → List Int) (keys : List Int) (en : Int) (r : Nat) : List Ety :=
  if ((tableM T keys r).length : Int) ≤ en then tableM T keys r else mergeM (tableM T keys r) ((tableM T keys r).map (·.key))

structure MapM where
  cores : List Int
  slots : List Int
  quant : QR
  rows : List (List RowE)
  tables : List (List Ety)
  waves : List Int
  cost : Int
  load : Int
  steps : Int

def mapNone : MapM := ⟨[], [], qNone, [], [], [], 0, 0, 0⟩

def synQs (N : Net) (q : List Int) : List (Syn × Int) := N.syns.zip q

def tablesF (N : Net) (C : Chp) (cores : List Int) : List (List Ety) := (List.range (nCores C)).map (tabF (srcTree N C cores) (keysM N) C.en)

def mapErr (N : Net) (C : Chp) (cores : List Int) : Int := if asgE N C cores ≠ 0 then asgE N C cores else if ∃ t ∈ tablesF N C cores, ¬ (t.length : Int) ≤ C.en then 15 else 0

def wavesF (N : Net) (C : Chp) (cores : List Int) : List (List Int) := wavesM (srcTree N C cores) C.mesh.room (keysM N)

def mapRes (N : Net) (C : Chp) (cores : List Int) : MapM := if mapErr N C cores ≠ 0 then mapNone else
  ⟨cores, slotsM cores, quantRes N C.bits, (List.range (nCores C)).map fun (k : Nat) => rowsM N cores (synQs N (quantRes N C.bits).quots) (k : Int), tablesF N C cores,
    (List.range (nSrc N)).map fun (k : Nat) => waveOf (wavesF N C cores) (k : Int), (costM N C cores : Int), (mostM ((keysM N).map (srcTree N C cores)) : Int), (stepsM C.mesh.wide (srcTree N C cores) (homeM N cores) (coresM N C cores) (wavesF N C cores) : Int)⟩

end Go.Gm
end

section
set_option linter.unusedVariables false

set_option linter.unusedSimpArgs false

namespace Go.Gm

def lowS (N : Net) (C : Chp) (k : Nat) : Int := ((List.range k).map fun (j : Nat) => lowK N C (j : Int)).sum

theorem lowS_all (N : Net) (C : Chp) : lowS N C (nSrc N) = lowM N C := rfl

theorem lowS_next (N : Net) (C : Chp) (k : Nat) : lowS N C (k + 1) = lowS N C k + lowK N C (k : Int) := by
  unfold lowS
  rw [List.range_succ, List.map_append, List.sum_append]
  simp

theorem tgtM_len (N : Net) (l : List Syn) (key : Int) : (tgtM N l key).length ≤ l.length := by
  have := tgt_len (N := N) (key := key) l []
  unfold tgtM
  simpa using this

theorem lowK_nil {N : Net} {C : Chp} {key : Int} (h : tgtM N N.syns key = []) : lowK N C key = 0 := by
  unfold lowK
  rw [h]; rfl

theorem lowK_eq {N : Net} {C : Chp} {key : Int} {l : List Int} (hl : tgtM N N.syns key = l) (h : l ≠ []) {m : Int} (hm : (l.length : Int) + (if key < N.ps.length ∧ key ∉ l then 1 else 0) = m) : lowK N C key = (m - 1) / C.nr := by
  unfold lowK
  rw [hl]
  dsimp only
  rw [if_neg h, hm]

theorem lowK_le {N : Net} {C : Chp} (h : ChpOk C) (hN : N.syns.length ≤ 8192) (key : Int) : 0 ≤ lowK N C key ∧ lowK N C key ≤ 8192 := by
  have hnr := h.nr
  by_cases hn : tgtM N N.syns key = []
  · rw [lowK_nil hn]; omega
  · have hl := tgtM_len N N.syns key
    have hp := List.length_pos_iff.2 hn
    rw [lowK_eq rfl hn rfl]
    have h0 : 0 ≤ ((tgtM N N.syns key).length : Int) + (if key < N.ps.length ∧ key ∉ tgtM N N.syns key then 1 else 0) - 1 := by split <;> omega
    have h1 : ((tgtM N N.syns key).length : Int) + (if key < N.ps.length ∧ key ∉ tgtM N N.syns key then 1 else 0) - 1 ≤ 8192 := by split <;> omega
    exact ⟨Int.ediv_nonneg h0 (by omega), Int.le_trans (Int.ediv_le_self _ h0) h1⟩

theorem lowS_le {N : Net} {C : Chp} (h : ChpOk C) (hN : N.syns.length ≤ 8192) : ∀ k, 0 ≤ lowS N C k ∧ lowS N C k ≤ 8192 * k
  | 0 => by unfold lowS; simp
  | k + 1 => by
    have h1 := lowS_le (N := N) h hN k
    have h2 := lowK_le (N := N) h hN (k : Int)
    rw [lowS_next]
    omega

def lowR (N : Net) (C : Chp) : Int × Int := if planE N C ≠ 0 then (0, planE N C) else (lowM N C, 0)

end Go.Gm

namespace Go.Proofs

open Go Go.Vx Go.Gm

theorem placeLow_any (X : PlnX) (w : World) (hX : PlnRd X w) :
    Calls Tryz.prog 35 #[.agg X.net.toArray, .agg (chpC X.C X.pd X.cd).toArray] w fun e w' => e = .returned (.tuple #[.int .i64 (lowR X.N X.C).1, .int .i64 (lowR X.N X.C).2]) ∧ St w [] [] w' := by
  have hb := fun he (w' : World) h => newPlanner_bad X w' h he
  have hg := fun he (w' : World) h => newPlanner_any X w' h he
  unfold lowR
  by_cases he : Gm.planE X.N X.C ≠ 0
  · have hb := hb he
    rw [if_pos he]
    obtain ⟨E, hE⟩ : ∃ E, Gm.planE X.N X.C = E := ⟨_, rfl⟩
    rw [hE] at hb he ⊢
    unfold PlnX.net chpC at hb ⊢
    refine enter (C := Tryz.cx) (F := Tryz.fx35) (args := [_, _]) Tryz.func35 rfl rfl rfl Tryz.ok35 (St.start w []) ?_
    repeat' (conv => whnf); first | (refine VCall.isF 60 ?_; (refine VCall.valR (fun w' hw' => hb w' (hX.keep hw')) ?_)) | (refine VSeq.go ?_) | (refine VB.is ?_; refine VB.yes (by omega) fun _ => ?_) | (refine VB.is ?_; refine VB.no (by omega) fun _ => ?_) | (refine VB.split (fun _ => ?_) (fun _ => ?_)) | (refine boolE_split (fun h => ?_) (fun h => ?_) <;> subst h) | (refine VLd.is ?_; refine VLd.mk (.row aT (by rfl)) ?_) | (refine VSt.is ?_; refine VSt.row aT (by rfl) (by first | rfl | assumption) ?_) | (refine VNew.mk fun _ => ?_) | (refine VAr.is ?_; refine oA ?_) | (refine VIx.is ?_; refine VIx.mk rfl (by omega) (by omega) ?_) | (refine VKeep.is ?_; refine VKeep.mk aH ?_) | (refine VHs.mk _ (.refl _) ?_) | (refine VQ.is ?_; refine oQ ?_) | (refine VM.is ?_; refine oM ?_) | (refine And.intro ?_ ?_)
    all_goals (conv => whnf)
    all_goals first
      | exact ⟨fun w' hw' => ⟨rfl, hw'.le .nil⟩⟩
      | (exfalso; omega)
  have he0 := Decidable.not_not.1 he
  have hg := hg he0
  rw [if_neg he]
  obtain ⟨hnet, hchip, hfew⟩ := planE_zero he0
  have hfs := hnet.fewS
  have hnr := hchip.nr
  have hinp := hnet.inputs
  have hns : nSrc X.N ≤ 256 := by unfold nSrc; omega
  unfold PlnX.net chpC at hg ⊢
  refine enter (C := Tryz.cx) (F := Tryz.fx35) (args := [_, _]) Tryz.func35 rfl rfl rfl Tryz.ok35 (St.start w []) ?_
  clear hb he
  repeat' (conv => whnf); first | (refine VNew.mk fun b3 => ?_) | (refine VCall.isF 60 ?_; (refine VCall.genR (fun w' hw' => hg w' (hX.keep hw')) ?_; rintro x hup; unfold plnH plnV)) | (refine VSeq.go ?_) | (refine VB.is ?_; refine VB.yes (by omega) fun _ => ?_) | (refine VB.is ?_; refine VB.no (by omega) fun _ => ?_) | (refine VB.split (fun _ => ?_) (fun _ => ?_)) | (refine boolE_split (fun h => ?_) (fun h => ?_) <;> subst h) | (refine VLd.is ?_; refine VLd.mk (.row aT (by rfl)) ?_) | (refine VSt.is ?_; refine VSt.row aT (by rfl) (by first | rfl | assumption) ?_) | (refine VNew.mk fun _ => ?_) | (refine VAr.is ?_; refine oA ?_) | (refine VIx.is ?_; refine VIx.mk rfl (by omega) (by omega) ?_) | (refine VKeep.is ?_; refine VKeep.mk aH ?_) | (refine VHs.mk _ (.refl _) ?_) | (refine VQ.is ?_; refine oQ ?_) | (refine VM.is ?_; refine oM ?_) | (refine And.intro ?_ ?_)
  all_goals (conv => whnf)
  rename_i b2 q1
  have hTl : x.T.length = nSrc X.N := by
    have := congrArg List.length hup.T
    rw [List.length_map] at this
    rw [this]; unfold tgtL; simp
  refine VLoop.mk (α := Nat) (fun k => k ≤ nSrc X.N) (fun k => [(1000000, .tuple #[]), (2, .pointer (some ⟨b2, 0, none⟩)), (3, .pointer (some ⟨b3, 0, none⟩)), (4, .int .i64 0), (5, .int .i64 0), (8, .int .i64 (lowS X.N X.C k)), (24, .slice (some ⟨x.gt, 0, none⟩) x.T.length x.T.length), (25, .int .i64 (x.T.length : Int)), (26, .int .i64 (k : Int))])
    (fun _ => .row b2 39 [.slice X.pn X.N.ps.length X.cn, .int .i64 X.N.inputs, .slice X.qs X.N.syns.length X.cs] :: .row b3 26 [.int .i64 X.C.mesh.wide, .int .i64 X.C.mesh.high, .int .i64 X.C.mesh.room, .int .i64 X.C.nr, .int .i64 X.C.sy, .int .i64 X.C.en, .int .i64 X.C.bits, .slice X.pd X.C.dead.length X.cd] :: .vec (some ⟨x.gt, 0, none⟩) x.T.length x.T.length 24 1 (flat srV x.T) :: (x.T.map srE ++ x.F.map srE)) (fun k => nSrc X.N - k) 0 (Nat.zero_le _) aE aH ?_
  intro k hk
  rcases Nat.lt_or_ge k (nSrc X.N) with hlt | hge
  · obtain ⟨d, hd⟩ : ∃ d, x.T[k]? = some d := ⟨_, List.getElem?_eq_getElem (by omega)⟩
    have hdl : d.l = tgtM X.N X.N.syns (k : Int) := by
      have := congrArg (fun L => L[k]?) hup.T
      rw [List.getElem?_map, hd] at this
      unfold tgtL at this
      rw [List.getElem?_map, List.getElem?_range hlt] at this
      simpa using this
    have hdn := tgtM_len X.N X.N.syns (k : Int)
    rw [← hdl] at hdn
    have hnx := lowS_next X.N X.C k
    have hb1 := lowS_le (N := X.N) hchip hfs k
    have hb2 := lowK_le (N := X.N) hchip hfs (k : Int)
    have hz : d.l.length = 0 → lowK X.N X.C (k : Int) = 0 := fun h => lowK_nil (by rw [← hdl]; exact List.length_eq_zero_iff.1 h)
    have hnz : ∀ m : Int, d.l.length ≠ 0 → (d.l.length : Int) + (if (k : Int) < X.N.ps.length ∧ (k : Int) ∉ d.l then 1 else 0) = m → (m - 1) / X.C.nr = lowK X.N X.C (k : Int) := fun m h hm => (lowK_eq hdl.symm (fun e => h (by rw [e]; rfl)) hm).symm
    obtain ⟨S0, hS0⟩ : ∃ S, lowS X.N X.C k = S := ⟨_, rfl⟩
    obtain ⟨LK, hLK⟩ : ∃ S, lowK X.N X.C (k : Int) = S := ⟨_, rfl⟩
    rw [hS0, hLK] at hnx
    rw [hS0] at hb1 ⊢
    rw [hLK] at hb2 hz hnz
    clear hg hX hup hdl hS0 hLK
    repeat' (conv => whnf); first | (refine VIx.is ?_; refine VIx.mk rfl (by omega) (by omega) ?_) | (refine VLd.is ?_; refine VLd.mk (Rd.cast (.vec aT (sub_flat0 (vs := [.slice d.p d.l.length d.c]) (s := 1) (f := srV) (k := 1) (fun _ => rfl) hd rfl)) (by first | omega | (dsimp only; omega) | rfl)) ?_) | (refine VCall.isF 49 ?_; (refine VCall.genR (fun w' hw' => Exists.elim (srow_sl hw' aS hd) fun bq hq => contains_any d.l (by omega) (k : Int) _ _ bq 0 w' hq) ?_; intro cc hcc; cases cc <;> simp only [Bool.false_eq_true, false_iff, true_iff] at hcc)) | (refine VQ.is ?_; refine VQ.is ?_; refine VQ.gen (by omega) (by omega) (by omega) fun qq hqq hq0 hq1 => ?_) | (refine VSeq.go ?_) | (refine VB.is ?_; refine VB.yes (by omega) fun _ => ?_) | (refine VB.is ?_; refine VB.no (by omega) fun _ => ?_) | (refine VB.split (fun _ => ?_) (fun _ => ?_)) | (refine boolE_split (fun h => ?_) (fun h => ?_) <;> subst h) | (refine VLd.is ?_; refine VLd.mk (.row aT (by rfl)) ?_) | (refine VSt.is ?_; refine VSt.row aT (by rfl) (by first | rfl | assumption) ?_) | (refine VNew.mk fun _ => ?_) | (refine VAr.is ?_; refine oA ?_) | (refine VIx.is ?_; refine VIx.mk rfl (by omega) (by omega) ?_) | (refine VKeep.is ?_; refine VKeep.mk aH ?_) | (refine VHs.mk _ (.refl _) ?_) | (refine VQ.is ?_; refine oQ ?_) | (refine VM.is ?_; refine oM ?_) | (refine And.intro ?_ ?_)
    all_goals (conv => whnf)
    · refine VNext.mk (k + 1) (by omega) (by omega) ?_ aH
      rw [hnx, hz (by omega), Int.add_zero]
      exact aE
    · have e : qq = LK := hqq.symm.trans (hnz _ (by omega) (by rw [if_pos ⟨by omega, hcc⟩]))
      subst e
      refine VNext.mk (k + 1) (by omega) (by omega) ?_ aH
      rw [hnx]
      exact aE
    · have e : qq = LK := hqq.symm.trans (hnz _ (by omega) (by rw [if_neg (fun h => h.2 hcc), Int.add_zero]))
      subst e
      refine VNext.mk (k + 1) (by omega) (by omega) ?_ aH
      rw [hnx]
      exact aE
    · have e : qq = LK := hqq.symm.trans (hnz _ (by omega) (by rw [if_neg (fun h => absurd h.1 (by omega)), Int.add_zero]))
      subst e
      refine VNext.mk (k + 1) (by omega) (by omega) ?_ aH
      rw [hnx]
      exact aE
  have hkn : k = nSrc X.N := by omega
  rw [hkn, lowS_all]
  rw [hkn] at hge
  repeat' (conv => whnf); first | (refine VSeq.go ?_) | (refine VB.is ?_; refine VB.yes (by omega) fun _ => ?_) | (refine VB.is ?_; refine VB.no (by omega) fun _ => ?_) | (refine VB.split (fun _ => ?_) (fun _ => ?_)) | (refine boolE_split (fun h => ?_) (fun h => ?_) <;> subst h) | (refine VLd.is ?_; refine VLd.mk (.row aT (by rfl)) ?_) | (refine VSt.is ?_; refine VSt.row aT (by rfl) (by first | rfl | assumption) ?_) | (refine VNew.mk fun _ => ?_) | (refine VAr.is ?_; refine oA ?_) | (refine VIx.is ?_; refine VIx.mk rfl (by omega) (by omega) ?_) | (refine VKeep.is ?_; refine VKeep.mk aH ?_) | (refine VHs.mk _ (.refl _) ?_) | (refine VQ.is ?_; refine oQ ?_) | (refine VM.is ?_; refine oM ?_) | (refine And.intro ?_ ?_)
  all_goals (conv => whnf)
  exact ⟨fun w' hw' => ⟨rfl, hw'.le .nil⟩⟩

end Go.Proofs
end
