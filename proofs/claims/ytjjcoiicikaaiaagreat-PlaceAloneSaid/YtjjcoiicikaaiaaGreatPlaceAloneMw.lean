import Derived.Test.YtjjcoiicikaaiaaGreatPlaceAloneMv
set_option linter.unusedVariables false

set_option linter.unusedSimpArgs false

namespace Go.Gm

def costK (N : Net) (C : Chp) (cores : List Int) (k : Nat) : Nat := ((((List.range k).map fun (j : Nat) => (j : Int)).filter fun key => decide (∃ s ∈ N.syns, keyM N s.frm = key)).map fun key => linksM (srcTree N C cores key)).sum

theorem costK_all (N : Net) (C : Chp) (cores : List Int) : costK N C cores (nSrc N) = costM N C cores := rfl

theorem tgt_some {N : Net} {key : Int} : (∃ s ∈ N.syns, keyM N s.frm = key) ↔ tgtM N N.syns key ≠ [] := by
  constructor
  · rintro ⟨s, hs, hk⟩ he
    have := mem_tgtM.2 ⟨s, hs, hk, rfl⟩
    rw [he] at this
    cases this
  · intro h
    obtain ⟨t, ht⟩ := List.exists_mem_of_ne_nil _ h
    obtain ⟨s, hs, hk, _⟩ := mem_tgtM.1 ht
    exact ⟨s, hs, hk⟩

theorem costK_next (N : Net) (C : Chp) (cores : List Int) (k : Nat) : costK N C cores (k + 1) = costK N C cores k + if tgtM N N.syns (k : Int) ≠ [] then linksM (srcTree N C cores (k : Int)) else 0 := by
  unfold costK
  rw [List.range_succ, List.map_append, List.filter_append, List.map_append, List.sum_append]
  congr 1
  simp only [List.map_cons, List.map_nil]
  by_cases h : tgtM N N.syns (k : Int) ≠ []
  · rw [if_pos h, List.filter_cons, if_pos (decide_eq_true (tgt_some.2 h))]
    simp
  · rw [if_neg h, List.filter_cons, if_neg (fun h2 => h (tgt_some.1 (of_decide_eq_true h2)))]
    simp

theorem srcLinks_le {N : Net} {C : Chp} (h : ChpOk C) (cores : List Int) (key : Int) : linksM (srcTree N C cores key) ≤ 256 := by
  have h1 := linksM_le (srcTree N C cores key)
  have h2 := (nCores_ok h).2.2
  have h3 : (srcTree N C cores key).length = nCores C := tree_length ..
  omega

theorem costK_le {N : Net} {C : Chp} (h : ChpOk C) (cores : List Int) : ∀ k, costK N C cores k ≤ 256 * k
  | 0 => Nat.le_refl _
  | k + 1 => by
    have h1 := costK_le (N := N) h cores k
    have h2 := srcLinks_le (N := N) h cores (k : Int)
    rw [costK_next]
    split <;> omega

end Go.Gm

namespace Go.Proofs

open Go Go.Vx Go.Gm

theorem trees_iter {α : Type} {w0 : World} {H : HP} {K : Value → HP → Prop} (X : PlnX) (x : PlnM) (cores : List Int) (hA : AsgOk X.N X.C cores) (p : Option Addr) (c b o : Nat) (hx : PlnAt X x w0) (h1 : Sl w0 intV 1 cores p cores.length b o) (l b2 b3 : Nat) (I : Nat → α → Prop) (G : α → HP) (x0 : α) (h0 : I 0 x0)
    (hH : HLe (.row b2 123 [.pointer (some ⟨x.b, 0, none⟩)] :: .row b3 24 [.slice p cores.length c] :: G x0) H)
    (step : ∀ k v z, k < nSrc X.N → tgtM X.N X.N.syns (k : Int) ≠ [] → I k v →
      VYield Tryz.cx.P w0 [] (treH X.N X.C cores (k : Int) z ++ (.row b2 123 [.pointer (some ⟨x.b, 0, none⟩)] :: .row b3 24 [.slice p cores.length c] :: G v)) l [.agg (treC X.N X.C cores (k : Int) z).toArray] fun r H' => (r = .bool true ∧ ∃ y, I (k + 1) y ∧ HLe (.row b2 123 [.pointer (some ⟨x.b, 0, none⟩)] :: .row b3 24 [.slice p cores.length c] :: G y) H') ∨ (r = .bool false ∧ K (.tuple #[]) H'))
    (skip : ∀ k v, k < nSrc X.N → tgtM X.N X.N.syns (k : Int) = [] → I k v → I (k + 1) v)
    (fin : ∀ v, I (nSrc X.N) v → K (.tuple #[]) (.row b2 123 [.pointer (some ⟨x.b, 0, none⟩)] :: .row b3 24 [.slice p cores.length c] :: G v)) :
    VCall Tryz.cx.P w0 [] H 109 [.func (.yield l) #[] #[], .pointer (some ⟨b2, 0, none⟩), .pointer (some ⟨b3, 0, none⟩)] K := by
  have hrow := hx.row
  have hTc := hx.T
  have hns : nSrc X.N ≤ 256 := by
    have := hA.plan.few
    have := hA.plan.net.inputs
    unfold nSrc; omega
  have hTl : x.T.length = nSrc X.N := by
    have := congrArg List.length hx.up.T
    rw [List.length_map] at this
    rw [this]; unfold tgtL; simp
  have k11 : sub (plnV X x) 11 1 = some [.slice (some ⟨x.gt, 0, none⟩) x.T.length x.T.length] := rfl
  refine VCall.le hH ?_
  refine VCall.inl (F := Tryz.fx109) Tryz.func109 rfl rfl rfl Tryz.ok109 ?_
  repeat' (conv => whnf); first | (refine VLd.is ?_; refine VLd.mk (Rd.cast (.old (hrow.part k11) rfl (by simp)) (by first | omega | (dsimp only; omega) | rfl)) ?_) | (refine VSeq.go ?_) | (refine VB.is ?_; refine VB.yes (by omega) fun _ => ?_) | (refine VB.is ?_; refine VB.no (by omega) fun _ => ?_) | (refine VB.split (fun _ => ?_) (fun _ => ?_)) | (refine boolE_split (fun h => ?_) (fun h => ?_) <;> subst h) | (refine VLd.is ?_; refine VLd.mk (.row aT (by rfl)) ?_) | (refine VSt.is ?_; refine VSt.row aT (by rfl) (by first | rfl | assumption) ?_) | (refine VNew.mk fun _ => ?_) | (refine VAr.is ?_; refine oA ?_) | (refine VIx.is ?_; refine VIx.mk rfl (by omega) (by omega) ?_) | (refine VKeep.is ?_; refine VKeep.mk aH ?_) | (refine VHs.mk _ (.refl _) ?_) | (refine VQ.is ?_; refine oQ ?_) | (refine VM.is ?_; refine oM ?_) | (refine And.intro ?_ ?_)
  all_goals (conv => whnf)
  refine VLoop.mk (α := Nat × α) (fun z => z.1 ≤ nSrc X.N ∧ I z.1 z.2) (fun z => [(1000000, .tuple #[]), (0, .func (.yield l) #[] #[]), (1, .pointer (some ⟨b2, 0, none⟩)), (2, .pointer (some ⟨b3, 0, none⟩)), (9, .slice (some ⟨x.gt, 0, none⟩) x.T.length x.T.length), (10, .int .i64 (x.T.length : Int)), (11, .int .i64 (z.1 : Int))])
    (fun z => .row b2 123 [.pointer (some ⟨x.b, 0, none⟩)] :: .row b3 24 [.slice p cores.length c] :: G z.2) (fun z => nSrc X.N - z.1) (0, x0) ⟨Nat.zero_le _, h0⟩ aE aH ?_
  rintro ⟨k, v⟩ ⟨hk, hI⟩
  dsimp only at hk hI ⊢
  rcases Nat.lt_or_ge k (nSrc X.N) with hlt | hge
  · obtain ⟨d, hd⟩ : ∃ d, x.T[k]? = some d := ⟨_, List.getElem?_eq_getElem (by omega)⟩
    have hdl : d.l = tgtM X.N X.N.syns (k : Int) := by
      have := congrArg (fun L => L[k]?) hx.up.T
      rw [List.getElem?_map, hd] at this
      unfold tgtL at this
      rw [List.getElem?_map, List.getElem?_range hlt] at this
      simpa using this
    have hpt := fun (hne : 0 < d.l.length) (w' : World) => ptree_any X x cores hA k hlt (by rw [← hdl]; exact List.length_pos_iff.1 hne) p c b o w'
    have hst := fun (hne : 0 < d.l.length) z => step k v z hlt (by rw [← hdl]; exact List.length_pos_iff.1 hne) hI
    have hsk := fun (hne : ¬ 0 < d.l.length) => skip k v hlt (by rw [← hdl]; exact List.length_eq_zero_iff.1 (by omega)) hI
    repeat' (conv => whnf); first | (refine VIx.is ?_; refine VIx.mk rfl (by omega) (by omega) ?_) | (refine VLd.is ?_; refine VLd.mk (Rd.cast (.old (hTc.part (sub_flat0 (vs := [.slice d.p d.l.length d.c]) (s := 1) (f := srV) (k := 1) (fun _ => rfl) hd rfl)) rfl (by simp)) (by first | omega | (dsimp only; omega) | rfl)) ?_) | (refine VCall.isF 110 ?_; (refine VCall.genR (fun w' hw' => hpt (by omega) w' (hx.keep hw') (h1.keep hw' (by simp))) ?_; rintro z _)) | (refine VYield.is ?_; refine VYield.is ?_; refine VYield.hle (VYield.mono (VYield.weak ?_ (hst (by omega) z)) fun r H' hr => ?_); (focus (exact aH)); rcases hr with ⟨rfl, y, hy, hl⟩ | ⟨rfl, hK⟩ <;> first | refine ⟨_, hl, ?_⟩ | refine ⟨_, HLe.refl _, ?_⟩) | (refine VSeq.go ?_) | (refine VB.is ?_; refine VB.yes (by omega) fun _ => ?_) | (refine VB.is ?_; refine VB.no (by omega) fun _ => ?_) | (refine VB.split (fun _ => ?_) (fun _ => ?_)) | (refine boolE_split (fun h => ?_) (fun h => ?_) <;> subst h) | (refine VLd.is ?_; refine VLd.mk (.row aT (by rfl)) ?_) | (refine VSt.is ?_; refine VSt.row aT (by rfl) (by first | rfl | assumption) ?_) | (refine VNew.mk fun _ => ?_) | (refine VAr.is ?_; refine oA ?_) | (refine VIx.is ?_; refine VIx.mk rfl (by omega) (by omega) ?_) | (refine VKeep.is ?_; refine VKeep.mk aH ?_) | (refine VHs.mk _ (.refl _) ?_) | (refine VQ.is ?_; refine oQ ?_) | (refine VM.is ?_; refine oM ?_) | (refine And.intro ?_ ?_)
    all_goals (conv => whnf)
    · exact VNext.mk (k + 1, y) ⟨by dsimp only; omega, hy⟩ (by dsimp only; omega) aE aH
    · exact hK
    · exact VNext.mk (k + 1, v) ⟨by dsimp only; omega, hsk (by omega)⟩ (by dsimp only; omega) aE aH
  have hkl : k = nSrc X.N := by omega
  subst hkl
  repeat' (conv => whnf); first | (refine VSeq.go ?_) | (refine VB.is ?_; refine VB.yes (by omega) fun _ => ?_) | (refine VB.is ?_; refine VB.no (by omega) fun _ => ?_) | (refine VB.split (fun _ => ?_) (fun _ => ?_)) | (refine boolE_split (fun h => ?_) (fun h => ?_) <;> subst h) | (refine VLd.is ?_; refine VLd.mk (.row aT (by rfl)) ?_) | (refine VSt.is ?_; refine VSt.row aT (by rfl) (by first | rfl | assumption) ?_) | (refine VNew.mk fun _ => ?_) | (refine VAr.is ?_; refine oA ?_) | (refine VIx.is ?_; refine VIx.mk rfl (by omega) (by omega) ?_) | (refine VKeep.is ?_; refine VKeep.mk aH ?_) | (refine VHs.mk _ (.refl _) ?_) | (refine VQ.is ?_; refine oQ ?_) | (refine VM.is ?_; refine oM ?_) | (refine And.intro ?_ ?_)
  all_goals (conv => whnf)
  exact fin v hI

theorem pcost_any (X : PlnX) (x : PlnM) (cores : List Int) (hA : AsgOk X.N X.C cores) (p : Option Addr) (c b o : Nat) (w : World) (hx : PlnAt X x w) (h1 : Sl w intV 1 cores p cores.length b o) :
    Calls Tryz.prog 91 #[.pointer (some ⟨x.b, 0, none⟩), .slice p cores.length c] w fun e w' => e = .returned (.int .i64 (costM X.N X.C cores : Int)) ∧ St w [] [] w' := by
  have hchip := hA.plan.chip
  refine enter (C := Tryz.cx) (F := Tryz.fx91) (args := [_, _]) Tryz.func91 rfl rfl rfl Tryz.ok91 (St.start w []) ?_
  repeat' (conv => whnf); first | (refine VNew.mk fun b3 => ?_) | (refine VCall.isF 72 ?_; refine VCall.inl (F := Tryz.fx72) Tryz.func72 rfl rfl rfl Tryz.ok72 ?_) | (refine VRange.go (ms := []) rfl fun hokx hoky l d L hL => ?_) | (refine VSeq.go ?_) | (refine VB.is ?_; refine VB.yes (by omega) fun _ => ?_) | (refine VB.is ?_; refine VB.no (by omega) fun _ => ?_) | (refine VB.split (fun _ => ?_) (fun _ => ?_)) | (refine boolE_split (fun h => ?_) (fun h => ?_) <;> subst h) | (refine VLd.is ?_; refine VLd.mk (.row aT (by rfl)) ?_) | (refine VSt.is ?_; refine VSt.row aT (by rfl) (by first | rfl | assumption) ?_) | (refine VNew.mk fun _ => ?_) | (refine VAr.is ?_; refine oA ?_) | (refine VIx.is ?_; refine VIx.mk rfl (by omega) (by omega) ?_) | (refine VKeep.is ?_; refine VKeep.mk aH ?_) | (refine VHs.mk _ (.refl _) ?_) | (refine VQ.is ?_; refine oQ ?_) | (refine VM.is ?_; refine oM ?_) | (refine And.intro ?_ ?_)
  all_goals (conv => whnf)
  rename_i bc b2
  refine trees_iter X x cores hA p c b o hx h1 l b2 b3 (α := Nat) (fun k n => n = costK X.N X.C cores k) (fun n => L .ready none :: .obj d (.deferred (some [])) :: .row bc 3 [.int .i64 (n : Int)] :: []) 0 rfl aH ?_ ?_ ?_
  · rintro k n z hk hne rfl
    have hnx := costK_next X.N X.C cores k
    rw [if_pos hne] at hnx
    have hle := costK_le (N := X.N) hchip cores k
    have hsl := srcLinks_le (N := X.N) hchip cores (k : Int)
    have hnk : k < 256 := by
      have := hA.plan.few
      have := hA.plan.net.inputs
      unfold nSrc at hk; omega
    have hok : OutsOk (srcTree X.N X.C cores (k : Int)) := Gm.tree_ok _ _ _ _
    have hSl : (srcTree X.N X.C cores (k : Int)).length ≤ 64 := by
      unfold srcTree
      rw [tree_length]
      exact (nCores_ok hchip).2.2
    obtain ⟨n, hn⟩ : ∃ n, costK X.N X.C cores k = n := ⟨_, rfl⟩
    unfold treH treC
    obtain ⟨ST, hST⟩ : ∃ S, srcTree X.N X.C cores (k : Int) = S := ⟨_, rfl⟩
    rw [hST] at hnx hsl hok hSl ⊢
    rw [hn] at hnx hle ⊢
    obtain ⟨m, hm⟩ : ∃ m, linksM ST = m := ⟨_, rfl⟩
    have hpl := fun (t1 t2 t3 : Value) h po co bo oo w' => plinks_any ST hok (by omega) t1 t2 t3 h po co bo oo w'
    rw [hm] at hnx hsl hpl
    refine VYield.go hL hokx hoky aT rfl ?_
    repeat' (conv => whnf); first | (refine VBegin.is ?_; refine VBegin.mk aT ?_) | (refine VNew.mk fun b6 => ?_) | (refine VCall.isF 73 ?_; (refine VCall.valR (fun w' hw' => hpl _ _ _ (by rfl) _ _ _ _ w' (Sl.own' hw' (l := ST) (f := intV) (k := 1) (by first | exact List.mem_cons_self | exact List.mem_cons_of_mem _ List.mem_cons_self) (fun _ => rfl) rfl)) ?_)) | (refine VSeq.go ?_) | (refine VB.is ?_; refine VB.yes (by omega) fun _ => ?_) | (refine VB.is ?_; refine VB.no (by omega) fun _ => ?_) | (refine VB.split (fun _ => ?_) (fun _ => ?_)) | (refine boolE_split (fun h => ?_) (fun h => ?_) <;> subst h) | (refine VLd.is ?_; refine VLd.mk (.row aT (by rfl)) ?_) | (refine VSt.is ?_; refine VSt.row aT (by rfl) (by first | rfl | assumption) ?_) | (refine VNew.mk fun _ => ?_) | (refine VAr.is ?_; refine oA ?_) | (refine VIx.is ?_; refine VIx.mk rfl (by omega) (by omega) ?_) | (refine VKeep.is ?_; refine VKeep.mk aH ?_) | (refine VHs.mk _ (.refl _) ?_) | (refine VQ.is ?_; refine oQ ?_) | (refine VM.is ?_; refine oM ?_) | (refine And.intro ?_ ?_)
    all_goals (conv => whnf)
    refine VRound.mk aT ?_
    exact .inl ⟨rfl, n + m, hnx.symm, by exact aH⟩
  · rintro k n hk hne rfl
    have hnx := costK_next X.N X.C cores k
    rw [if_neg (fun h => h hne)] at hnx
    exact hnx.symm
  · rintro n rfl
    rw [costK_all]
    repeat' (conv => whnf); first | (refine VEnd.is ?_; refine VEnd.mk aT (by simp) ?_) | (refine VUn.is ?_; refine VUn.mk aT ?_) | (refine VSeq.go ?_) | (refine VB.is ?_; refine VB.yes (by omega) fun _ => ?_) | (refine VB.is ?_; refine VB.no (by omega) fun _ => ?_) | (refine VB.split (fun _ => ?_) (fun _ => ?_)) | (refine boolE_split (fun h => ?_) (fun h => ?_) <;> subst h) | (refine VLd.is ?_; refine VLd.mk (.row aT (by rfl)) ?_) | (refine VSt.is ?_; refine VSt.row aT (by rfl) (by first | rfl | assumption) ?_) | (refine VNew.mk fun _ => ?_) | (refine VAr.is ?_; refine oA ?_) | (refine VIx.is ?_; refine VIx.mk rfl (by omega) (by omega) ?_) | (refine VKeep.is ?_; refine VKeep.mk aH ?_) | (refine VHs.mk _ (.refl _) ?_) | (refine VQ.is ?_; refine oQ ?_) | (refine VM.is ?_; refine oM ?_) | (refine And.intro ?_ ?_)
    all_goals (conv => whnf)
    exact ⟨fun w' hw' => ⟨rfl, hw'.le .nil⟩⟩

theorem asgE_chk (N : Net) (C : Chp) (cores : List Int) : asgE N C cores = if Gm.planE N C ≠ 0 then Gm.planE N C else chkA N C cores := rfl

theorem planned_bad (X : PlnX) (w : World) (hX : PlnRd X w) (he : Gm.planE X.N X.C ≠ 0) (cs : Value) (hone : cs.oneCell' = true) :
    Calls Tryz.prog 68 #[.agg X.net.toArray, .agg (chpC X.C X.pd X.cd).toArray, cs] w fun e w' => e = .returned (.tuple #[.pointer none, .int .i64 (Gm.planE X.N X.C)]) ∧ St w [] [] w' := by
  have hnp := fun (w' : World) h => newPlanner_bad X w' h he
  obtain ⟨E, hE⟩ : ∃ E, Gm.planE X.N X.C = E := ⟨_, rfl⟩
  rw [hE] at hnp he ⊢
  unfold PlnX.net chpC at hnp ⊢
  refine enter (C := Tryz.cx) (F := Tryz.fx68) (args := [_, _, _]) Tryz.func68 rfl rfl rfl Tryz.ok68 (St.start w []) ?_
  repeat' (conv => whnf); first | (refine VCall.isF 60 ?_; (refine VCall.valR (fun w' hw' => hnp w' (hX.keep hw')) ?_)) | (refine VSeq.go ?_) | (refine VB.is ?_; refine VB.yes (by omega) fun _ => ?_) | (refine VB.is ?_; refine VB.no (by omega) fun _ => ?_) | (refine VB.split (fun _ => ?_) (fun _ => ?_)) | (refine boolE_split (fun h => ?_) (fun h => ?_) <;> subst h) | (refine VLd.is ?_; refine VLd.mk (.row aT (by rfl)) ?_) | (refine VSt.is ?_; refine VSt.row aT (by rfl) (by first | rfl | assumption) ?_) | (refine VNew.mk fun _ => ?_) | (refine VAr.is ?_; refine oA ?_) | (refine VIx.is ?_; refine VIx.mk rfl (by omega) (by omega) ?_) | (refine VKeep.is ?_; refine VKeep.mk aH ?_) | (refine VHs.mk _ (.refl _) ?_) | (refine VQ.is ?_; refine oQ ?_) | (refine VM.is ?_; refine oM ?_) | (refine And.intro ?_ ?_)
  all_goals (conv => whnf)
  all_goals first
    | exact ⟨fun w' hw' => ⟨rfl, hw'.le .nil⟩⟩
    | (exfalso; omega)

theorem planned_any (X : PlnX) (w : World) (hX : PlnRd X w) (he : Gm.planE X.N X.C = 0) (cores : List Int) (hcw : ∀ k ∈ cores, I64 k) (hlc : cores.length ≤ 1000000) (p : Option Addr) (c b o : Nat) (h1 : Sl w intV 1 cores p cores.length b o) :
    Calls Tryz.prog 68 #[.agg X.net.toArray, .agg (chpC X.C X.pd X.cd).toArray, .slice p cores.length c] w fun e w' => ∃ x : PlnM, e = .returned (.tuple #[.pointer (some ⟨x.b, 0, none⟩), .int .i64 (chkA X.N X.C cores)]) ∧ PlnUp X X.N.syns x ∧ St w [] (plnH X x) w' := by
  have hnp := fun (w' : World) h => newPlanner_any X w' h he
  have hck := fun (x : PlnM) (w' : World) => pcheck_any X x cores hcw hlc p c b o w'
  have hok := planE_zero he
  unfold PlnX.net chpC at hnp ⊢
  refine enter (C := Tryz.cx) (F := Tryz.fx68) (args := [_, _, _]) Tryz.func68 rfl rfl rfl Tryz.ok68 (St.start w []) ?_
  repeat' (conv => whnf); first | (refine VCall.isF 60 ?_; (refine VCall.genR (fun w' hw' => hnp w' (hX.keep hw')) ?_; rintro x hup)) | (refine VCall.isF 107 ?_; (refine VCall.valR (fun w' hw' => hck x w' (PlnAt.of hok hup (hX.keep hw') hw' aH) (h1.keep hw' (by simp))) ?_)) | (refine VSeq.go ?_) | (refine VB.is ?_; refine VB.yes (by omega) fun _ => ?_) | (refine VB.is ?_; refine VB.no (by omega) fun _ => ?_) | (refine VB.split (fun _ => ?_) (fun _ => ?_)) | (refine boolE_split (fun h => ?_) (fun h => ?_) <;> subst h) | (refine VLd.is ?_; refine VLd.mk (.row aT (by rfl)) ?_) | (refine VSt.is ?_; refine VSt.row aT (by rfl) (by first | rfl | assumption) ?_) | (refine VNew.mk fun _ => ?_) | (refine VAr.is ?_; refine oA ?_) | (refine VIx.is ?_; refine VIx.mk rfl (by omega) (by omega) ?_) | (refine VKeep.is ?_; refine VKeep.mk aH ?_) | (refine VHs.mk _ (.refl _) ?_) | (refine VQ.is ?_; refine oQ ?_) | (refine VM.is ?_; refine oM ?_) | (refine And.intro ?_ ?_)
  all_goals (conv => whnf)
  exact ⟨fun w' hw' => ⟨x, rfl, hup, hw'.le aH⟩⟩

theorem placeCheck_any (X : PlnX) (w : World) (hX : PlnRd X w) (cores : List Int) (hcw : ∀ k ∈ cores, I64 k) (hlc : cores.length ≤ 1000000) (p : Option Addr) (c b o : Nat) (h1 : Sl w intV 1 cores p cores.length b o) :
    Calls Tryz.prog 37 #[.agg X.net.toArray, .agg (chpC X.C X.pd X.cd).toArray, .slice p cores.length c] w fun e w' => e = .returned (.int .i64 (asgE X.N X.C cores)) ∧ St w [] [] w' := by
  rw [asgE_chk]
  have hb := fun he (w' : World) h => planned_bad X w' h he (.slice p cores.length c) rfl
  have hg := fun he (w' : World) h h1 => planned_any X w' h he cores hcw hlc p c b o h1
  by_cases he : Gm.planE X.N X.C ≠ 0
  · have hb := hb he
    rw [if_pos he]
    unfold PlnX.net chpC at hb ⊢
    refine enter (C := Tryz.cx) (F := Tryz.fx37) (args := [_, _, _]) Tryz.func37 rfl rfl rfl Tryz.ok37 (St.start w []) ?_
    repeat' (conv => whnf); first | (refine VCall.isF 68 ?_; (refine VCall.valR (fun w' hw' => hb w' (hX.keep hw')) ?_)) | (refine VSeq.go ?_) | (refine VB.is ?_; refine VB.yes (by omega) fun _ => ?_) | (refine VB.is ?_; refine VB.no (by omega) fun _ => ?_) | (refine VB.split (fun _ => ?_) (fun _ => ?_)) | (refine boolE_split (fun h => ?_) (fun h => ?_) <;> subst h) | (refine VLd.is ?_; refine VLd.mk (.row aT (by rfl)) ?_) | (refine VSt.is ?_; refine VSt.row aT (by rfl) (by first | rfl | assumption) ?_) | (refine VNew.mk fun _ => ?_) | (refine VAr.is ?_; refine oA ?_) | (refine VIx.is ?_; refine VIx.mk rfl (by omega) (by omega) ?_) | (refine VKeep.is ?_; refine VKeep.mk aH ?_) | (refine VHs.mk _ (.refl _) ?_) | (refine VQ.is ?_; refine oQ ?_) | (refine VM.is ?_; refine oM ?_) | (refine And.intro ?_ ?_)
    all_goals (conv => whnf)
    exact ⟨fun w' hw' => ⟨rfl, hw'.le .nil⟩⟩
  · have hg := hg (Decidable.not_not.1 he)
    rw [if_neg he]
    unfold PlnX.net chpC at hg ⊢
    refine enter (C := Tryz.cx) (F := Tryz.fx37) (args := [_, _, _]) Tryz.func37 rfl rfl rfl Tryz.ok37 (St.start w []) ?_
    repeat' (conv => whnf); first | (refine VCall.isF 68 ?_; (refine VCall.genR (fun w' hw' => hg w' (hX.keep hw') (h1.keep hw' (by simp))) ?_; rintro x hup)) | (refine VSeq.go ?_) | (refine VB.is ?_; refine VB.yes (by omega) fun _ => ?_) | (refine VB.is ?_; refine VB.no (by omega) fun _ => ?_) | (refine VB.split (fun _ => ?_) (fun _ => ?_)) | (refine boolE_split (fun h => ?_) (fun h => ?_) <;> subst h) | (refine VLd.is ?_; refine VLd.mk (.row aT (by rfl)) ?_) | (refine VSt.is ?_; refine VSt.row aT (by rfl) (by first | rfl | assumption) ?_) | (refine VNew.mk fun _ => ?_) | (refine VAr.is ?_; refine oA ?_) | (refine VIx.is ?_; refine VIx.mk rfl (by omega) (by omega) ?_) | (refine VKeep.is ?_; refine VKeep.mk aH ?_) | (refine VHs.mk _ (.refl _) ?_) | (refine VQ.is ?_; refine oQ ?_) | (refine VM.is ?_; refine oM ?_) | (refine And.intro ?_ ?_)
    all_goals (conv => whnf)
    exact ⟨fun w' hw' => ⟨rfl, hw'.le .nil⟩⟩

def costR (N : Net) (C : Chp) (cores : List Int) : Int × Int := if asgE N C cores ≠ 0 then (0, asgE N C cores) else ((costM N C cores : Int), 0)

theorem placeCost_any (X : PlnX) (w : World) (hX : PlnRd X w) (cores : List Int) (hcw : ∀ k ∈ cores, I64 k) (hlc : cores.length ≤ 1000000) (p : Option Addr) (c b o : Nat) (h1 : Sl w intV 1 cores p cores.length b o) :
    Calls Tryz.prog 33 #[.agg X.net.toArray, .agg (chpC X.C X.pd X.cd).toArray, .slice p cores.length c] w fun e w' => e = .returned (.tuple #[.int .i64 (costR X.N X.C cores).1, .int .i64 (costR X.N X.C cores).2]) ∧ St w [] [] w' := by
  have hasg := asgE_chk X.N X.C cores
  have hb := fun he (w' : World) h => planned_bad X w' h he (.slice p cores.length c) rfl
  have hg := fun he (w' : World) h h1 => planned_any X w' h he cores hcw hlc p c b o h1
  unfold costR
  by_cases he : Gm.planE X.N X.C ≠ 0
  · have hb := hb he
    rw [if_pos he] at hasg
    rw [hasg, if_pos he]
    unfold PlnX.net chpC at hb ⊢
    refine enter (C := Tryz.cx) (F := Tryz.fx33) (args := [_, _, _]) Tryz.func33 rfl rfl rfl Tryz.ok33 (St.start w []) ?_
    obtain ⟨E, hE⟩ : ∃ E, Gm.planE X.N X.C = E := ⟨_, rfl⟩
    rw [hE] at hb he ⊢
    repeat' (conv => whnf); first | (refine VCall.isF 68 ?_; (refine VCall.valR (fun w' hw' => hb w' (hX.keep hw')) ?_)) | (refine VSeq.go ?_) | (refine VB.is ?_; refine VB.yes (by omega) fun _ => ?_) | (refine VB.is ?_; refine VB.no (by omega) fun _ => ?_) | (refine VB.split (fun _ => ?_) (fun _ => ?_)) | (refine boolE_split (fun h => ?_) (fun h => ?_) <;> subst h) | (refine VLd.is ?_; refine VLd.mk (.row aT (by rfl)) ?_) | (refine VSt.is ?_; refine VSt.row aT (by rfl) (by first | rfl | assumption) ?_) | (refine VNew.mk fun _ => ?_) | (refine VAr.is ?_; refine oA ?_) | (refine VIx.is ?_; refine VIx.mk rfl (by omega) (by omega) ?_) | (refine VKeep.is ?_; refine VKeep.mk aH ?_) | (refine VHs.mk _ (.refl _) ?_) | (refine VQ.is ?_; refine oQ ?_) | (refine VM.is ?_; refine oM ?_) | (refine And.intro ?_ ?_)
    all_goals (conv => whnf)
    all_goals first
      | exact ⟨fun w' hw' => ⟨rfl, hw'.le .nil⟩⟩
      | (exfalso; omega)
  have hp0 := Decidable.not_not.1 he
  have hg := hg hp0
  rw [if_neg he] at hasg
  have hok := planE_zero hp0
  by_cases hc : chkA X.N X.C cores ≠ 0
  · rw [hasg, if_pos hc]
    obtain ⟨E, hE⟩ : ∃ E, chkA X.N X.C cores = E := ⟨_, rfl⟩
    rw [hE] at hg hc ⊢
    unfold PlnX.net chpC at hg ⊢
    refine enter (C := Tryz.cx) (F := Tryz.fx33) (args := [_, _, _]) Tryz.func33 rfl rfl rfl Tryz.ok33 (St.start w []) ?_
    repeat' (conv => whnf); first | (refine VCall.isF 68 ?_; (refine VCall.genR (fun w' hw' => hg w' (hX.keep hw') (h1.keep hw' (by simp))) ?_; rintro x hup)) | (refine VSeq.go ?_) | (refine VB.is ?_; refine VB.yes (by omega) fun _ => ?_) | (refine VB.is ?_; refine VB.no (by omega) fun _ => ?_) | (refine VB.split (fun _ => ?_) (fun _ => ?_)) | (refine boolE_split (fun h => ?_) (fun h => ?_) <;> subst h) | (refine VLd.is ?_; refine VLd.mk (.row aT (by rfl)) ?_) | (refine VSt.is ?_; refine VSt.row aT (by rfl) (by first | rfl | assumption) ?_) | (refine VNew.mk fun _ => ?_) | (refine VAr.is ?_; refine oA ?_) | (refine VIx.is ?_; refine VIx.mk rfl (by omega) (by omega) ?_) | (refine VKeep.is ?_; refine VKeep.mk aH ?_) | (refine VHs.mk _ (.refl _) ?_) | (refine VQ.is ?_; refine oQ ?_) | (refine VM.is ?_; refine oM ?_) | (refine And.intro ?_ ?_)
    all_goals (conv => whnf)
    all_goals first
      | exact ⟨fun w' hw' => ⟨rfl, hw'.le .nil⟩⟩
      | (exfalso; omega)
  have hc0 := Decidable.not_not.1 hc
  have hA : AsgOk X.N X.C cores := asgE_zero (hasg.trans hc0)
  rw [hasg, if_neg hc]
  rw [hc0] at hg
  have hco := fun (x : PlnM) (w' : World) => pcost_any X x cores hA p c b o w'
  unfold PlnX.net chpC at hg ⊢
  refine enter (C := Tryz.cx) (F := Tryz.fx33) (args := [_, _, _]) Tryz.func33 rfl rfl rfl Tryz.ok33 (St.start w []) ?_
  repeat' (conv => whnf); first | (refine VCall.isF 68 ?_; (refine VCall.genR (fun w' hw' => hg w' (hX.keep hw') (h1.keep hw' (by simp))) ?_; rintro x hup)) | (refine VCall.isF 91 ?_; (refine VCall.valR (fun w' hw' => hco x w' (PlnAt.of hok hup (hX.keep hw') hw' aH) (h1.keep hw' (by simp))) ?_)) | (refine VSeq.go ?_) | (refine VB.is ?_; refine VB.yes (by omega) fun _ => ?_) | (refine VB.is ?_; refine VB.no (by omega) fun _ => ?_) | (refine VB.split (fun _ => ?_) (fun _ => ?_)) | (refine boolE_split (fun h => ?_) (fun h => ?_) <;> subst h) | (refine VLd.is ?_; refine VLd.mk (.row aT (by rfl)) ?_) | (refine VSt.is ?_; refine VSt.row aT (by rfl) (by first | rfl | assumption) ?_) | (refine VNew.mk fun _ => ?_) | (refine VAr.is ?_; refine oA ?_) | (refine VIx.is ?_; refine VIx.mk rfl (by omega) (by omega) ?_) | (refine VKeep.is ?_; refine VKeep.mk aH ?_) | (refine VHs.mk _ (.refl _) ?_) | (refine VQ.is ?_; refine oQ ?_) | (refine VM.is ?_; refine oM ?_) | (refine And.intro ?_ ?_)
  all_goals (conv => whnf)
  exact ⟨fun w' hw' => ⟨rfl, hw'.le .nil⟩⟩

end Go.Proofs
