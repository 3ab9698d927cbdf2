import Derived.Test.YtjjcoiicikaaiaaGreatPlaceImprovesWk
set_option linter.unusedVariables false

set_option linter.unusedSimpArgs false

namespace Go.Gm

def arS (N : Net) (C : Chp) (cores : List Int) (i j : Nat) : Nat := ((((frmM N N.syns (i : Int)).take j).filter fun key => decide (key ≠ (i : Int))).map fun key => linksM (srcTree N C cores key)).sum

theorem arS_next {N : Net} {C : Chp} {cores : List Int} {i j : Nat} {key : Int} (h : (frmM N N.syns (i : Int))[j]? = some key) : arS N C cores i (j + 1) = arS N C cores i j + if key ≠ (i : Int) then linksM (srcTree N C cores key) else 0 := by
  unfold arS
  rw [List.take_add_one, h, Option.toList_some, List.filter_append, List.map_append, List.sum_append]
  congr 1
  by_cases hk : key ≠ (i : Int)
  · simp [hk]
  · simp [Decidable.not_not.1 hk]

theorem arS_all {N : Net} {C : Chp} {cores : List Int} {i : Nat} : aroundM N C cores i = (if tgtM N N.syns i = [] then 0 else linksM (srcTree N C cores i)) + arS N C cores i (frmM N N.syns (i : Int)).length := by
  unfold aroundM arS
  rw [List.take_length]

theorem arS_le {N : Net} {C : Chp} (h : ChpOk C) (cores : List Int) (i : Nat) : ∀ j, arS N C cores i j ≤ 256 * j
  | 0 => by unfold arS; simp
  | j + 1 => by
    have h1 := arS_le (N := N) h cores i j
    cases hg : (frmM N N.syns (i : Int))[j]? with
    | none =>
      have hl := List.getElem?_eq_none_iff.1 hg
      have e : arS N C cores i (j + 1) = arS N C cores i j := by
        unfold arS
        rw [List.take_of_length_le (by omega), List.take_of_length_le hl]
      omega
    | some key =>
      rw [arS_next hg]
      have h2 := srcLinks_le (N := N) h cores key
      split <;> omega

theorem frmM_len (N : Net) (l : List Syn) (to : Int) : (frmM N l to).length ≤ l.length := by
  have := frm_len (N := N) (to := to) l []
  unfold frmM
  simpa using this

end Go.Gm

namespace Go.Proofs

open Go Go.Vx Go.Gm

theorem paround_any (X : PlnX) (x : PlnM) (cores : List Int) (hA : AsgOk X.N X.C cores) (i : Nat) (hi : i < X.N.ps.length) (p : Option Addr) (c b o : Nat) (w : World) (hx : PlnAt X x w) (h1 : Sl w intV 1 cores p cores.length b o) :
    Calls Tryz.prog 92 #[.pointer (some ⟨x.b, 0, none⟩), .slice p cores.length c, .int .i64 (i : Int)] w fun e w' => e = .returned (.int .i64 (aroundM X.N X.C cores i : Int)) ∧ St w [] [] w' := by
  have hchip := hA.plan.chip
  have hrow := hx.row
  have hTc := hx.T
  have hFc := hx.F
  have hfs := hA.plan.net.fewS
  have hns : nSrc X.N = X.N.ps.length + X.N.inputs.toNat := rfl
  have hnsb : nSrc X.N ≤ 256 := by
    have := hA.plan.few
    have := hA.plan.net.inputs
    unfold nSrc; omega
  have hTl : x.T.length = nSrc X.N := by
    have := congrArg List.length hx.up.T
    rw [List.length_map] at this
    rw [this]; unfold tgtL; simp
  have hFl : x.F.length = X.N.ps.length := by
    have := congrArg List.length hx.up.F
    rw [List.length_map] at this
    rw [this]; unfold frmL; simp
  obtain ⟨d, hd⟩ : ∃ d, x.T[i]? = some d := ⟨_, List.getElem?_eq_getElem (by omega)⟩
  have hdl : d.l = tgtM X.N X.N.syns (i : Int) := by
    have := congrArg (fun L => L[i]?) hx.up.T
    rw [List.getElem?_map, hd] at this
    unfold tgtL at this
    rw [List.getElem?_map, List.getElem?_range (by omega)] at this
    simpa using this
  obtain ⟨g, hg⟩ : ∃ g, x.F[i]? = some g := ⟨_, List.getElem?_eq_getElem (by omega)⟩
  have hgl : g.l = frmM X.N X.N.syns (i : Int) := by
    have := congrArg (fun L => L[i]?) hx.up.F
    rw [List.getElem?_map, hg] at this
    unfold frmL at this
    rw [List.getElem?_map, List.getElem?_range (by omega)] at this
    simpa using this
  obtain ⟨bg, hgs⟩ := hx.rowF g (List.mem_of_getElem? hg)
  have hgn : g.l.length ≤ 8192 := by have := frmM_len X.N X.N.syns (i : Int); rw [hgl]; omega
  have hdn : d.l.length ≤ 8192 := by have := tgtM_len X.N X.N.syns (i : Int); rw [hdl]; omega
  have k11 : sub (plnV X x) 11 1 = some [.slice (some ⟨x.gt, 0, none⟩) x.T.length x.T.length] := rfl
  have k12 : sub (plnV X x) 12 1 = some [.slice (some ⟨x.gf, 0, none⟩) x.F.length x.F.length] := rfl
  have hpt := fun (k : Nat) hk hne (w' : World) h h1 => ptree_any X x cores hA k hk hne p c b o w' h h1
  have hSok : ∀ key : Int, OutsOk (srcTree X.N X.C cores key) := fun key => Gm.tree_ok _ _ _ _
  have hSl : ∀ key : Int, (srcTree X.N X.C cores key).length ≤ 64 := fun key => by
    unfold srcTree
    rw [tree_length]
    exact (nCores_ok hchip).2.2
  have hpl := fun (key : Int) (t1 t2 t3 : Value) h po co bo oo w' => plinks_any (srcTree X.N X.C cores key) (hSok key) (by have := hSl key; omega) t1 t2 t3 h po co bo oo w'
  have hle := fun key : Int => srcLinks_le (N := X.N) hchip cores key
  have hkeyF : ∀ key ∈ g.l, ∃ k : Nat, key = (k : Int) ∧ k < nSrc X.N ∧ tgtM X.N X.N.syns (k : Int) ≠ [] := fun key hk => by
    rw [hgl] at hk
    obtain ⟨s, hs, h1, h2⟩ := mem_frmM.1 hk
    have hr := key_range hA.plan.net hs
    refine ⟨key.toNat, by omega, by omega, tgt_some.1 ⟨s, hs, by omega⟩⟩
  rw [arS_all, ← hgl, ← hdl]
  unfold treC treH at hpt
  refine enter (C := Tryz.cx) (F := Tryz.fx92) (args := [_, _, _]) Tryz.func92 rfl rfl rfl Tryz.ok92 (St.start w []) ?_
  obtain ⟨A0, hA0⟩ : ∃ A : Nat, (if d.l = [] then 0 else linksM (srcTree X.N X.C cores (i : Int))) = A := ⟨_, rfl⟩
  have hA1 : d.l.length = 0 → A0 = 0 := fun h => by rw [← hA0, if_pos (List.length_eq_zero_iff.1 h)]
  have hA2 : 0 < d.l.length → linksM (srcTree X.N X.C cores (i : Int)) = A0 := fun h => by rw [← hA0, if_neg (List.length_pos_iff.1 h)]
  have hA3 : A0 ≤ 256 := by rw [← hA0]; split; omega; exact hle _
  rw [hA0]
  have hne0 : 0 < d.l.length → tgtM X.N X.N.syns ((i : Nat) : Int) ≠ [] := fun h => by rw [← hdl]; exact List.length_pos_iff.1 h
  clear hA0 hdl
  repeat' (conv => whnf); first | (refine VLd.is ?_; refine VLd.mk (Rd.cast (.old (hrow.part k11) rfl (by simp)) (by first | omega | (dsimp only; omega) | rfl)) ?_) | (refine VIx.is ?_; refine VIx.mk rfl (by omega) (by omega) ?_) | (refine VLd.is ?_; refine VLd.mk (Rd.cast (.old (hTc.part (sub_flat0 (vs := [.slice d.p d.l.length d.c]) (s := 1) (f := srV) (k := 1) (fun _ => rfl) hd rfl)) rfl (by simp)) (by first | omega | (dsimp only; omega) | rfl)) ?_) | (refine VSeq.is ?_; refine VSeq.isN 4 rfl ?_; refine VSeq.cut (at_ := 4) (α := Unit) (fun _ => True) (fun _ => [(1000000, .tuple #[]), (0, .pointer (some ⟨x.b, 0, none⟩)), (1, .slice p cores.length c), (2, .int .i64 (i : Int)), (6, .int .i64 0), (7, .int .i64 (A0 : Int))]) (fun _ => []) ?_ ?_) | (refine VCall.isF 110 ?_; (refine VCall.genR (fun w' hw' => hpt i (by omega) (hne0 (by omega)) w' (hx.keep hw') (h1.keep hw' (by simp))) ?_; rintro z _; dsimp only)) | (refine VCall.isF 73 ?_; (refine VCall.valR (fun w' hw' => hpl (i : Int) _ _ _ (by rfl) _ _ _ _ w' (Sl.own' hw' (l := srcTree X.N X.C cores (i : Int)) (f := intV) (k := 1) (by first | exact List.mem_cons_self | exact List.mem_cons_of_mem _ List.mem_cons_self) (fun _ => rfl) rfl)) ?_)) | (refine VSeq.go ?_) | (refine VB.is ?_; refine VB.yes (by omega) fun _ => ?_) | (refine VB.is ?_; refine VB.no (by omega) fun _ => ?_) | (refine VB.split (fun _ => ?_) (fun _ => ?_)) | (refine boolE_split (fun h => ?_) (fun h => ?_) <;> subst h) | (refine VLd.is ?_; refine VLd.mk (.row aT (by rfl)) ?_) | (refine VSt.is ?_; refine VSt.row aT (by rfl) (by first | rfl | assumption) ?_) | (refine VNew.mk fun _ => ?_) | (refine VAr.is ?_; refine oA ?_) | (refine VIx.is ?_; refine VIx.mk rfl (by omega) (by omega) ?_) | (refine VKeep.is ?_; refine VKeep.mk aH ?_) | (refine VHs.mk _ (.refl _) ?_) | (refine VQ.is ?_; refine oQ ?_) | (refine VM.is ?_; refine oM ?_) | (refine And.intro ?_ ?_)
  all_goals (conv => whnf)
  · have e := hA2 (by omega)
    refine VMid.mk () trivial ?_ aH
    rw [← e]
    exact aE
  · have e := hA1 (by omega)
    subst e
    exact VMid.mk () trivial aE aH
  rintro _ _
  repeat' (conv => whnf); first | (refine VLd.is ?_; refine VLd.mk (Rd.cast (.old (hrow.part k12) rfl (by simp)) (by first | omega | (dsimp only; omega) | rfl)) ?_) | (refine VIx.is ?_; refine VIx.mk rfl (by omega) (by omega) ?_) | (refine VLd.is ?_; refine VLd.mk (Rd.cast (.old (hFc.part (sub_flat0 (vs := [.slice g.p g.l.length g.c]) (s := 1) (f := srV) (k := 1) (fun _ => rfl) hg rfl)) rfl (by simp)) (by first | omega | (dsimp only; omega) | rfl)) ?_) | (refine VSeq.go ?_) | (refine VB.is ?_; refine VB.yes (by omega) fun _ => ?_) | (refine VB.is ?_; refine VB.no (by omega) fun _ => ?_) | (refine VB.split (fun _ => ?_) (fun _ => ?_)) | (refine boolE_split (fun h => ?_) (fun h => ?_) <;> subst h) | (refine VLd.is ?_; refine VLd.mk (.row aT (by rfl)) ?_) | (refine VSt.is ?_; refine VSt.row aT (by rfl) (by first | rfl | assumption) ?_) | (refine VNew.mk fun _ => ?_) | (refine VAr.is ?_; refine oA ?_) | (refine VIx.is ?_; refine VIx.mk rfl (by omega) (by omega) ?_) | (refine VKeep.is ?_; refine VKeep.mk aH ?_) | (refine VHs.mk _ (.refl _) ?_) | (refine VQ.is ?_; refine oQ ?_) | (refine VM.is ?_; refine oM ?_) | (refine And.intro ?_ ?_)
  all_goals (conv => whnf)
  refine VLoop.mk (α := Nat) (fun j => j ≤ g.l.length) (fun j => [(1000000, .tuple #[]), (0, .pointer (some ⟨x.b, 0, none⟩)), (1, .slice p cores.length c), (2, .int .i64 (i : Int)), (6, .int .i64 0), (7, .int .i64 ((A0 + arS X.N X.C cores i j : Nat) : Int)), (30, .slice g.p g.l.length g.c), (31, .int .i64 (g.l.length : Int)), (32, .int .i64 (j : Int))])
    (fun _ => []) (fun j => g.l.length - j) 0 (Nat.zero_le _) aE aH ?_
  intro j hj
  have hal := arS_le (N := X.N) hchip cores i j
  rcases Nat.lt_or_ge j g.l.length with hlt | hge
  · obtain ⟨key, hkj⟩ := hgs.get hlt
    obtain ⟨k, rfl, hkn, hkne⟩ := hkeyF key (List.mem_of_getElem? hkj)
    have hnx := arS_next (N := X.N) (C := X.C) (cores := cores) (i := i) (by rw [← hgl]; exact hkj)
    have hpt2 := fun (w' : World) h h1 => hpt k hkn hkne w' h h1
    have hpl2 := hpl (k : Int)
    have hle2 := hle (k : Int)
    obtain ⟨S, hS⟩ : ∃ S, arS X.N X.C cores i j = S := ⟨_, rfl⟩
    obtain ⟨ST, hST⟩ : ∃ S, srcTree X.N X.C cores (k : Int) = S := ⟨_, rfl⟩
    rw [hST] at hnx hpt2 hpl2 hle2
    obtain ⟨m, hm⟩ : ∃ m, linksM ST = m := ⟨_, rfl⟩
    rw [hm] at hnx hpl2 hle2
    rw [hS] at hnx hal ⊢
    clear hpt hpl hle hSok hSl hkeyF hA1 hA2 hne0
    repeat' (conv => whnf); first | (refine VIx.is ?_; refine VIx.mk (hgs.ptr (by omega)) (by omega) (by omega) ?_) | (refine VLd.is ?_; refine VLd.mk (Rd.cast (hgs.rd0 (by simp) (fun _ => rfl) hkj rfl) (by first | omega | (dsimp only; omega) | rfl)) ?_) | (refine VCall.isF 110 ?_; (refine VCall.genR (fun w' hw' => hpt2 w' (hx.keep hw') (h1.keep hw' (by simp))) ?_; rintro z _; dsimp only)) | (refine VCall.isF 73 ?_; (refine VCall.valR (fun w' hw' => hpl2 _ _ _ (by rfl) _ _ _ _ w' (Sl.own' hw' (l := ST) (f := intV) (k := 1) (by first | exact List.mem_cons_self | exact List.mem_cons_of_mem _ List.mem_cons_self) (fun _ => rfl) rfl)) ?_)) | (refine VSeq.go ?_) | (refine VB.is ?_; refine VB.yes (by omega) fun _ => ?_) | (refine VB.is ?_; refine VB.no (by omega) fun _ => ?_) | (refine VB.split (fun _ => ?_) (fun _ => ?_)) | (refine boolE_split (fun h => ?_) (fun h => ?_) <;> subst h) | (refine VLd.is ?_; refine VLd.mk (.row aT (by rfl)) ?_) | (refine VSt.is ?_; refine VSt.row aT (by rfl) (by first | rfl | assumption) ?_) | (refine VNew.mk fun _ => ?_) | (refine VAr.is ?_; refine oA ?_) | (refine VIx.is ?_; refine VIx.mk rfl (by omega) (by omega) ?_) | (refine VKeep.is ?_; refine VKeep.mk aH ?_) | (refine VHs.mk _ (.refl _) ?_) | (refine VQ.is ?_; refine oQ ?_) | (refine VM.is ?_; refine oM ?_) | (refine And.intro ?_ ?_)
    all_goals (conv => whnf)
    all_goals first
      | (rw [if_pos (by omega)] at hnx
         refine VNext.mk (j + 1) (by omega) (by omega) ?_ aH
         rw [hnx, show ((A0 + (S + m) : Nat) : Int) = ((A0 + S : Nat) : Int) + (m : Int) by omega]
         exact aE)
      | (rw [if_neg (by omega)] at hnx
         refine VNext.mk (j + 1) (by omega) (by omega) ?_ aH
         rw [hnx, show ((A0 + (S + 0) : Nat) : Int) = ((A0 + S : Nat) : Int) by omega]
         exact aE)
  have hjl : j = g.l.length := by omega
  subst hjl
  repeat' (conv => whnf); first | (refine VSeq.go ?_) | (refine VB.is ?_; refine VB.yes (by omega) fun _ => ?_) | (refine VB.is ?_; refine VB.no (by omega) fun _ => ?_) | (refine VB.split (fun _ => ?_) (fun _ => ?_)) | (refine boolE_split (fun h => ?_) (fun h => ?_) <;> subst h) | (refine VLd.is ?_; refine VLd.mk (.row aT (by rfl)) ?_) | (refine VSt.is ?_; refine VSt.row aT (by rfl) (by first | rfl | assumption) ?_) | (refine VNew.mk fun _ => ?_) | (refine VAr.is ?_; refine oA ?_) | (refine VIx.is ?_; refine VIx.mk rfl (by omega) (by omega) ?_) | (refine VKeep.is ?_; refine VKeep.mk aH ?_) | (refine VHs.mk _ (.refl _) ?_) | (refine VQ.is ?_; refine oQ ?_) | (refine VM.is ?_; refine oM ?_) | (refine And.intro ?_ ?_)
  all_goals (conv => whnf)
  exact ⟨fun w' hw' => ⟨rfl, hw'.le .nil⟩⟩

end Go.Proofs
