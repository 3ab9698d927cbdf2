import Derived.Test.YtephkjicokbckaaGreatDoorVerifyExactSh
set_option linter.unusedVariables false

set_option linter.unusedSimpArgs false

namespace Go.Proofs

open Go Go.Vx Go.Gm

set_option maxHeartbeats 4000000 in
theorem VerifyExact_any (N : Net) (hN : N.wf) (sure : List Evt) (hsu : ∀ x ∈ sure, x.wf) (may : List Evt) (hma : ∀ x ∈ may, x.wf) (ticks : Int) (hti : I64 ticks) (z : Nat) (hz : z < 18446744073709551616) (pn : Option Addr) (cn bn on : Nat) (qs : Option Addr) (cs bs os : Nat) (ps : Option Addr) (ce be oe : Nat) (pm : Option Addr) (cm bm om : Nat) (w : World) (htab : PowTab w)
    (h1 : Sl w parV 8 N.ps pn N.ps.length bn on) (h2 : Sl w synV 4 N.syns qs N.syns.length bs os) (h3 : Sl w evtV 2 sure ps sure.length be oe) (hce : sure.length ≤ ce) (h4 : Sl w evtV 2 may pm may.length bm om) (hcm : may.length ≤ cm) :
    Calls Tryz.prog 9 #[.agg #[.slice pn N.ps.length cn, .int .i64 N.inputs, .slice qs N.syns.length cs], .slice ps sure.length ce, .slice pm may.length cm, .int .i64 ticks, .int .u64 (z : Int)] w fun e w' => e = .returned (.bool true) ∧ St w [] [] w' := by
  unfold I64 at hti
  refine enter (C := Tryz.cx) (F := Tryz.fx9) (args := [_, _, _, _, _]) Tryz.func9 rfl rfl rfl Tryz.ok9 (St.start w []) ?_
  refine VSeq.go ?_
  repeat' (conv => whnf); first | (refine VNew.mk fun b5 => ?_) | (refine VB.is ?_; refine VB.yes (by omega) fun _ => ?_) | (refine VB.is ?_; refine VB.no (by omega) fun _ => ?_) | (refine VB.split (fun _ => ?_) (fun _ => ?_)) | (refine boolE_split (fun h => ?_) (fun h => ?_) <;> subst h) | (refine VLd.is ?_; refine VLd.mk (.row aT (by rfl)) ?_) | (refine VSt.is ?_; refine VSt.row aT (by rfl) (by first | rfl | assumption) ?_) | (refine VNew.mk fun _ => ?_) | (refine VAr.is ?_; refine oA ?_) | (refine VIx.is ?_; refine VIx.mk rfl (by omega) (by omega) ?_) | (refine VKeep.is ?_; refine VKeep.mk aH ?_) | (refine VHs.mk _ (.refl _) ?_) | (refine VQ.is ?_; refine oQ ?_) | (refine VM.is ?_; refine oM ?_) | (refine And.intro ?_ ?_)
  all_goals (conv => whnf)
  refine VSeq.cut (at_ := 2) (α := Bool × (Option Addr × Nat) × List DRow) (fun y => y.1 = true → (bndErr N sure may ticks = 0 ∧ y.2.2.map (·.l) = (bst N sure may ticks.toNat).out ∧ (0 < y.2.2.length → ∃ g, y.2.1.1 = some ⟨g, 0, none⟩)) ∧ (N.ps.length ≤ 10 ∧ N.syns.length ≤ 40) ∧ (0 ≤ ticks ∧ ticks ≤ 60) ∧ sure.length ≤ 60 ∧ may.length ≤ 60) (fun y => [(1000000, .tuple #[]), (1, .slice ps sure.length ce), (2, .slice pm may.length cm), (3, .int .i64 ticks), (4, .int .u64 (z : Int)), (5, .pointer (some ⟨b5, 0, none⟩)), (10, .bool false), (11, .slice y.2.1.1 y.2.2.length y.2.1.2), (12, .bool y.1)]) (fun y => .row b5 25 [.slice pn N.ps.length cn, .int .i64 N.inputs, .slice qs N.syns.length cs] :: .vec y.2.1.1 y.2.2.length y.2.1.2 26 1 (flat drV y.2.2) :: y.2.2.map drowE) ?_ ?_
  · repeat' (conv => whnf); first | (refine VCall.isF 34 ?_; refine VCall.inl (F := Tryz.fx34) Tryz.func34 rfl rfl rfl Tryz.ok34 ?_) | (refine VCall.isF 15 ?_; (refine VCall.genR (fun w' _ => vfew_any _ _ _ _ _ _ _ w') ?_; intro bf hbf)) | (refine VCall.isF 17 ?_; (refine VCall.valR (fun w' hw' => vworks_any w' (Lib.tabBelow_of_tabIs htab w' hw'.below)) ?_)) | (refine VCall.isF 23 ?_; (refine VCall.genR (fun w' hw' => Bounds_any N hN sure may hsu hma ticks hti _ _ _ _ _ _ _ _ _ _ _ _ _ _ _ _ w' (h1.keep hw' (by simp)) (h2.keep hw' (by simp)) (h3.keep hw' (by simp)) (h4.keep hw' (by simp)) hce hcm) ?_; rintro ⟨⟨q, cq⟩, D⟩ ⟨hD, hq⟩; dsimp only at hD hq ⊢)) | (refine VCall.isF 30 ?_; (refine VCall.genR (fun w' hw' => Run_any N hN sure hsu ticks _ _ _ _ _ _ _ _ _ _ _ _ w' (h1.keep hw' (by simp)) (h2.keep hw' (by simp)) (h3.keep hw' (by simp)) hce) ?_; rintro ⟨r, cr⟩ _; dsimp only)) | (refine VSeq.go ?_) | (refine VB.is ?_; refine VB.yes (by omega) fun _ => ?_) | (refine VB.is ?_; refine VB.no (by omega) fun _ => ?_) | (refine VB.split (fun _ => ?_) (fun _ => ?_)) | (refine boolE_split (fun h => ?_) (fun h => ?_) <;> subst h) | (refine VLd.is ?_; refine VLd.mk (.row aT (by rfl)) ?_) | (refine VSt.is ?_; refine VSt.row aT (by rfl) (by first | rfl | assumption) ?_) | (refine VNew.mk fun _ => ?_) | (refine VAr.is ?_; refine oA ?_) | (refine VIx.is ?_; refine VIx.mk rfl (by omega) (by omega) ?_) | (refine VKeep.is ?_; refine VKeep.mk aH ?_) | (refine VHs.mk _ (.refl _) ?_) | (refine VQ.is ?_; refine oQ ?_) | (refine VM.is ?_; refine oM ?_) | (refine And.intro ?_ ?_)
    all_goals (conv => whnf)
    all_goals first
      | exact VMid.mk (false, (none, 0), []) (fun h => by cases h) aE aH
      | exact VMid.mk (true, (q, cq), D) (fun _ => ⟨⟨(bndRes_ok (by omega : (bndRes N sure may ticks).2 = 0)).1, by rw [← (bndRes_ok (by omega : (bndRes N sure may ticks).2 = 0)).2]; exact hD, hq⟩, hbf rfl, by omega, by omega, by omega⟩) aE aH
      | exact VMid.mk (false, (q, cq), D) (fun h => by cases h) aE aH
  rintro ⟨b, ⟨q, cq⟩, D⟩ hy
  dsimp only at hy ⊢
  cases b
  · repeat' (conv => whnf); first | (refine VCall.isF 17 ?_; (refine VCall.valR (fun w' hw' => vworks_any w' (Lib.tabBelow_of_tabIs htab w' hw'.below)) ?_)) | (refine VSeq.go ?_) | (refine VB.is ?_; refine VB.yes (by omega) fun _ => ?_) | (refine VB.is ?_; refine VB.no (by omega) fun _ => ?_) | (refine VB.split (fun _ => ?_) (fun _ => ?_)) | (refine boolE_split (fun h => ?_) (fun h => ?_) <;> subst h) | (refine VLd.is ?_; refine VLd.mk (.row aT (by rfl)) ?_) | (refine VSt.is ?_; refine VSt.row aT (by rfl) (by first | rfl | assumption) ?_) | (refine VNew.mk fun _ => ?_) | (refine VAr.is ?_; refine oA ?_) | (refine VIx.is ?_; refine VIx.mk rfl (by omega) (by omega) ?_) | (refine VKeep.is ?_; refine VKeep.mk aH ?_) | (refine VHs.mk _ (.refl _) ?_) | (refine VQ.is ?_; refine oQ ?_) | (refine VM.is ?_; refine oM ?_) | (refine And.intro ?_ ?_)
    all_goals (conv => whnf)
    exact ⟨fun w' hw' => ⟨rfl, hw'.le .nil⟩⟩
  obtain ⟨⟨hbe, hD, hq⟩, ⟨hfew, _⟩, ht0, hsl, hml⟩ := hy rfl
  clear hy
  have hG := given_of hbe
  repeat' (conv => whnf); first | (refine VCall.isF 17 ?_; (refine VCall.valR (fun w' hw' => vworks_any w' (Lib.tabBelow_of_tabIs htab w' hw'.below)) ?_)) | (refine VSeq.go ?_) | (refine VB.is ?_; refine VB.yes (by omega) fun _ => ?_) | (refine VB.is ?_; refine VB.no (by omega) fun _ => ?_) | (refine VB.split (fun _ => ?_) (fun _ => ?_)) | (refine boolE_split (fun h => ?_) (fun h => ?_) <;> subst h) | (refine VLd.is ?_; refine VLd.mk (.row aT (by rfl)) ?_) | (refine VSt.is ?_; refine VSt.row aT (by rfl) (by first | rfl | assumption) ?_) | (refine VNew.mk fun _ => ?_) | (refine VAr.is ?_; refine oA ?_) | (refine VIx.is ?_; refine VIx.mk rfl (by omega) (by omega) ?_) | (refine VKeep.is ?_; refine VKeep.mk aH ?_) | (refine VHs.mk _ (.refl _) ?_) | (refine VQ.is ?_; refine oQ ?_) | (refine VM.is ?_; refine oM ?_) | (refine And.intro ?_ ?_)
  all_goals (conv => whnf)
  refine VCall.genR (fun w' hw' => Bounds_any N hN sure sure hsu hsu ticks hti _ _ _ _ _ _ _ _ _ _ _ _ _ _ _ _ w' (h1.keep hw' (by simp)) (h2.keep hw' (by simp)) (h3.keep hw' (by simp)) (h3.keep hw' (by simp)) hce hce) ?_
  rintro ⟨⟨qx, cx⟩, Dx⟩ ⟨hDx, hqx⟩
  rw [bndRes_zero (bnd_again hbe hG.sure)] at hDx ⊢
  dsimp only at hDx hqx ⊢
  repeat' (conv => whnf); first | (refine VCall.isF 17 ?_; (refine VCall.valR (fun w' hw' => vworks_any w' (Lib.tabBelow_of_tabIs htab w' hw'.below)) ?_)) | (refine VSeq.go ?_) | (refine VB.is ?_; refine VB.yes (by omega) fun _ => ?_) | (refine VB.is ?_; refine VB.no (by omega) fun _ => ?_) | (refine VB.split (fun _ => ?_) (fun _ => ?_)) | (refine boolE_split (fun h => ?_) (fun h => ?_) <;> subst h) | (refine VLd.is ?_; refine VLd.mk (.row aT (by rfl)) ?_) | (refine VSt.is ?_; refine VSt.row aT (by rfl) (by first | rfl | assumption) ?_) | (refine VNew.mk fun _ => ?_) | (refine VAr.is ?_; refine oA ?_) | (refine VIx.is ?_; refine VIx.mk rfl (by omega) (by omega) ?_) | (refine VKeep.is ?_; refine VKeep.mk aH ?_) | (refine VHs.mk _ (.refl _) ?_) | (refine VQ.is ?_; refine oQ ?_) | (refine VM.is ?_; refine oM ?_) | (refine And.intro ?_ ?_)
  all_goals (conv => whnf)
  refine VCall.genR (fun w' hw' => vhappened_any [] may (by simp) hma (by simp) (by omega) (z : Int) (by omega) none 0 0 0 pm cm bm om w' (Sl.nil (.inl rfl)) (h4.keep hw' (by simp))) ?_
  rintro ⟨⟨p1, c1⟩, sb⟩ hsub
  rw [List.nil_append] at ⊢
  dsimp only at hsub ⊢
  have hF := some_ok hG hsub (by omega)
  have hFw : ∀ x ∈ sortU sb, x.wf := fun x hx => hma x (hsub.mem (mem_sortU.1 hx))
  have hex := fun (t i : Nat) (rx rf rl : List Int) (x f l : Int) => exact_row hG hsub (by omega) (t := t) (i := i) (rx := rx) (rf := rf) (rl := rl) (x := x) (f := f) (l := l)
  have hbf := bnd_again hbe hF
  have hFl : (sortU sb).length ≤ 60 := by have := sortU_len sb; have := hsub.length_le; omega
  obtain ⟨F, hFe⟩ : ∃ F, sortU sb = F := ⟨_, rfl⟩
  rw [hFe] at hF hFw hex hbf hFl ⊢
  repeat' (conv => whnf); first | (refine VCall.isF 23 ?_; (refine VCall.genR (fun w' hw' => Exists.elim (Sl.own (f := evtV) (l := F) (cap := c1) (e := 64) (p := p1) (k := 2) hw' aT (fun _ => rfl) rfl) fun bq hbq => Bounds_any N hN sure F hsu hFw ticks hti _ _ _ _ _ _ _ _ _ _ _ _ p1 c1 bq 0 w' (h1.keep hw' (by simp)) (h2.keep hw' (by simp)) (h3.keep hw' (by simp)) hbq hce (vec_facts (hw'.own (.vec p1 F.length c1 64 2 (flat evtV F)) (by simp))).1) ?_; rintro ⟨⟨qf, cf⟩, Df⟩ ⟨hDf, hqf⟩; rw [bndRes_zero hbf] at hDf ⊢; dsimp only at hDf hqf ⊢; have hBl := (bst_ok hG.net.ps sure may ticks.toNat).out; have hBx := (bst_ok hG.net.ps sure sure ticks.toNat).out; have hBf := (bst_ok hG.net.ps sure F ticks.toNat).out; rw [← hD, List.length_map] at hBl; rw [← hDx, List.length_map] at hBx; rw [← hDf, List.length_map] at hBf)) | (refine VSeq.go ?_) | (refine VB.is ?_; refine VB.yes (by omega) fun _ => ?_) | (refine VB.is ?_; refine VB.no (by omega) fun _ => ?_) | (refine VB.split (fun _ => ?_) (fun _ => ?_)) | (refine boolE_split (fun h => ?_) (fun h => ?_) <;> subst h) | (refine VLd.is ?_; refine VLd.mk (.row aT (by rfl)) ?_) | (refine VSt.is ?_; refine VSt.row aT (by rfl) (by first | rfl | assumption) ?_) | (refine VNew.mk fun _ => ?_) | (refine VAr.is ?_; refine oA ?_) | (refine VIx.is ?_; refine VIx.mk rfl (by omega) (by omega) ?_) | (refine VKeep.is ?_; refine VKeep.mk aH ?_) | (refine VHs.mk _ (.refl _) ?_) | (refine VQ.is ?_; refine oQ ?_) | (refine VM.is ?_; refine oM ?_) | (refine And.intro ?_ ?_)
  all_goals (conv => whnf)
  have hDr : ∀ d ∈ D, d.l.length = N.ps.length := fun d hd => ((bst_ok hG.net.ps sure may ticks.toNat).row d.l (by rw [← hD]; exact List.mem_map_of_mem hd)).1
  have hDxr : ∀ d ∈ Dx, d.l.length = N.ps.length := fun d hd => ((bst_ok hG.net.ps sure sure ticks.toNat).row d.l (by rw [← hDx]; exact List.mem_map_of_mem hd)).1
  have hDfr : ∀ d ∈ Df, d.l.length = N.ps.length := fun d hd => ((bst_ok hG.net.ps sure F ticks.toNat).row d.l (by rw [← hDf]; exact List.mem_map_of_mem hd)).1
  obtain ⟨T, hT⟩ : ∃ T : Nat, ticks = T := ⟨ticks.toNat, by omega⟩
  subst hT
  rw [Int.toNat_natCast] at *
  obtain ⟨n, hn⟩ : ∃ n, N.ps.length = n := ⟨_, rfl⟩
  refine VLoop.kr (α := Nat) [1000000, 3, 5, 10, 11, 13, 15] rfl (fun t => t ≤ T) (fun t K => (17, .int .i64 (t : Int)) :: K)
    (fun _ => .row b5 25 [.slice pn N.ps.length cn, .int .i64 N.inputs, .slice qs N.syns.length cs] :: .vec qf Df.length cf 26 1 (flat drV Df) :: (Df.map drowE ++ .vec qx Dx.length cx 26 1 (flat drV Dx) :: (Dx.map drowE ++ .vec q D.length cq 26 1 (flat drV D) :: D.map drowE))) (fun t => T - t) 0 (by omega) aE aH ?_
  intro t ht
  rcases Nat.lt_or_ge t T with hlt | hge
  rotate_left
  · repeat' (conv => whnf); first | (refine VCall.isF 17 ?_; (refine VCall.valR (fun w' hw' => vworks_any w' (Lib.tabBelow_of_tabIs htab w' hw'.below)) ?_)) | (refine VSeq.go ?_) | (refine VB.is ?_; refine VB.yes (by omega) fun _ => ?_) | (refine VB.is ?_; refine VB.no (by omega) fun _ => ?_) | (refine VB.split (fun _ => ?_) (fun _ => ?_)) | (refine boolE_split (fun h => ?_) (fun h => ?_) <;> subst h) | (refine VLd.is ?_; refine VLd.mk (.row aT (by rfl)) ?_) | (refine VSt.is ?_; refine VSt.row aT (by rfl) (by first | rfl | assumption) ?_) | (refine VNew.mk fun _ => ?_) | (refine VAr.is ?_; refine oA ?_) | (refine VIx.is ?_; refine VIx.mk rfl (by omega) (by omega) ?_) | (refine VKeep.is ?_; refine VKeep.mk aH ?_) | (refine VHs.mk _ (.refl _) ?_) | (refine VQ.is ?_; refine oQ ?_) | (refine VM.is ?_; refine oM ?_) | (refine And.intro ?_ ?_)
    all_goals (conv => whnf)
    exact ⟨fun w' hw' => ⟨rfl, hw'.le .nil⟩⟩
  obtain ⟨gq, rfl⟩ := hq (by omega)
  obtain ⟨gx, rfl⟩ := hqx (by omega)
  obtain ⟨gf, rfl⟩ := hqf (by omega)
  obtain ⟨d, hd⟩ : ∃ d, D[t]? = some d := ⟨D[t]'(by omega), List.getElem?_eq_getElem _⟩
  obtain ⟨dx, hdx⟩ : ∃ d, Dx[t]? = some d := ⟨Dx[t]'(by omega), List.getElem?_eq_getElem _⟩
  obtain ⟨df, hdf⟩ : ∃ d, Df[t]? = some d := ⟨Df[t]'(by omega), List.getElem?_eq_getElem _⟩
  have hdl := hDr d (List.mem_of_getElem? hd)
  have hdxl := hDxr dx (List.mem_of_getElem? hdx)
  have hdfl := hDfr df (List.mem_of_getElem? hdf)
  have bd : (bst N sure may T).out[t]? = some d.l := by rw [← hD, List.getElem?_map, hd]; rfl
  have bx : (bst N sure sure T).out[t]? = some dx.l := by rw [← hDx, List.getElem?_map, hdx]; rfl
  have bf : (bst N sure F T).out[t]? = some df.l := by rw [← hDf, List.getElem?_map, hdf]; rfl
  have sd : sub (drV d) 0 1 = some [.slice (some ⟨d.g, 0, none⟩) N.ps.length d.cap] := by rw [← hdl]; rfl
  have sx : sub (drV dx) 0 1 = some [.slice (some ⟨dx.g, 0, none⟩) N.ps.length dx.cap] := by rw [← hdxl]; rfl
  have sf : sub (drV df) 0 1 = some [.slice (some ⟨df.g, 0, none⟩) N.ps.length df.cap] := by rw [← hdfl]; rfl
  repeat' (conv => whnf); first | (refine VIx.is ?_; refine VIx.mk rfl (by omega) (by omega) ?_) | (refine VLd.is ?_; refine VLd.mk (Rd.cast (.vec aT (sub_flat0 (f := drV) (k := 1) (fun _ => rfl) hd sd)) (by first | omega | (dsimp only; omega) | rfl)) ?_) | (refine VLd.is ?_; refine VLd.mk (Rd.cast (.vec aT (sub_flat0 (f := drV) (k := 1) (fun _ => rfl) hdx sx)) (by first | omega | (dsimp only; omega) | rfl)) ?_) | (refine VLd.is ?_; refine VLd.mk (Rd.cast (.vec aT (sub_flat0 (f := drV) (k := 1) (fun _ => rfl) hdf sf)) (by first | omega | (dsimp only; omega) | rfl)) ?_) | (refine VSeq.go ?_) | (refine VB.is ?_; refine VB.yes (by omega) fun _ => ?_) | (refine VB.is ?_; refine VB.no (by omega) fun _ => ?_) | (refine VB.split (fun _ => ?_) (fun _ => ?_)) | (refine boolE_split (fun h => ?_) (fun h => ?_) <;> subst h) | (refine VLd.is ?_; refine VLd.mk (.row aT (by rfl)) ?_) | (refine VSt.is ?_; refine VSt.row aT (by rfl) (by first | rfl | assumption) ?_) | (refine VNew.mk fun _ => ?_) | (refine VAr.is ?_; refine oA ?_) | (refine VIx.is ?_; refine VIx.mk rfl (by omega) (by omega) ?_) | (refine VKeep.is ?_; refine VKeep.mk aH ?_) | (refine VHs.mk _ (.refl _) ?_) | (refine VQ.is ?_; refine oQ ?_) | (refine VM.is ?_; refine oM ?_) | (refine And.intro ?_ ?_)
  all_goals (conv => whnf)
  refine VLoop.kr (α := Nat) [1000000, 3, 5, 10, 11, 13, 15, 17] rfl (fun i => i ≤ n) (fun i K => (18, .int .i64 (i : Int)) :: K)
    (fun _ => .row b5 25 [.slice pn N.ps.length cn, .int .i64 N.inputs, .slice qs N.syns.length cs] :: .vec (some ⟨gf, 0, none⟩) Df.length cf 26 1 (flat drV Df) :: (Df.map drowE ++ .vec (some ⟨gx, 0, none⟩) Dx.length cx 26 1 (flat drV Dx) :: (Dx.map drowE ++ .vec (some ⟨gq, 0, none⟩) D.length cq 26 1 (flat drV D) :: D.map drowE))) (fun i => n - i) 0 (by omega) aE aH ?_
  intro i hi
  rcases Nat.lt_or_ge i n with hin | hin
  · obtain ⟨l, hl⟩ : ∃ v, d.l[i]? = some v := ⟨d.l[i]'(by omega), List.getElem?_eq_getElem _⟩
    obtain ⟨x, hx⟩ : ∃ v, dx.l[i]? = some v := ⟨dx.l[i]'(by omega), List.getElem?_eq_getElem _⟩
    obtain ⟨f, hf⟩ : ∃ v, df.l[i]? = some v := ⟨df.l[i]'(by omega), List.getElem?_eq_getElem _⟩
    have hxf := hex t i dx.l df.l d.l x f l bx bf bd hx hf hl
    clear hex bx bf bd hDr hDxr hDfr hF hFw hbf hbe hG hsub hq hqx hqf
    repeat' (conv => whnf); first | (refine VIx.is ?_; refine VIx.mk rfl (by omega) (by omega) ?_) | (refine VLd.is ?_; refine VLd.mk (Rd.cast (.vec aT (sub_flat0 (f := drV) (k := 1) (fun _ => rfl) hd sd)) (by first | omega | (dsimp only; omega) | rfl)) ?_) | (refine VLd.is ?_; refine VLd.mk (Rd.cast (.vec aT (sub_flat0 (f := drV) (k := 1) (fun _ => rfl) hdx sx)) (by first | omega | (dsimp only; omega) | rfl)) ?_) | (refine VLd.is ?_; refine VLd.mk (Rd.cast (.vec aT (sub_flat0 (f := drV) (k := 1) (fun _ => rfl) hdf sf)) (by first | omega | (dsimp only; omega) | rfl)) ?_) | (refine VLd.is ?_; refine VLd.mk (Rd.cast (Rd.seg (f := drowE) (l := D) aS hd rfl (sub_flat0 (f := intV) (k := 1) (fun _ => rfl) hl rfl)) (by first | omega | (dsimp only; omega) | rfl)) ?_) | (refine VLd.is ?_; refine VLd.mk (Rd.cast (Rd.seg (f := drowE) (l := Dx) aS hdx rfl (sub_flat0 (f := intV) (k := 1) (fun _ => rfl) hx rfl)) (by first | omega | (dsimp only; omega) | rfl)) ?_) | (refine VLd.is ?_; refine VLd.mk (Rd.cast (Rd.seg (f := drowE) (l := Df) aS hdf rfl (sub_flat0 (f := intV) (k := 1) (fun _ => rfl) hf rfl)) (by first | omega | (dsimp only; omega) | rfl)) ?_) | (refine VSeq.go ?_) | (refine VB.is ?_; refine VB.yes (by omega) fun _ => ?_) | (refine VB.is ?_; refine VB.no (by omega) fun _ => ?_) | (refine VB.split (fun _ => ?_) (fun _ => ?_)) | (refine boolE_split (fun h => ?_) (fun h => ?_) <;> subst h) | (refine VLd.is ?_; refine VLd.mk (.row aT (by rfl)) ?_) | (refine VSt.is ?_; refine VSt.row aT (by rfl) (by first | rfl | assumption) ?_) | (refine VNew.mk fun _ => ?_) | (refine VAr.is ?_; refine oA ?_) | (refine VIx.is ?_; refine VIx.mk rfl (by omega) (by omega) ?_) | (refine VKeep.is ?_; refine VKeep.mk aH ?_) | (refine VHs.mk _ (.refl _) ?_) | (refine VQ.is ?_; refine oQ ?_) | (refine VM.is ?_; refine oM ?_) | (refine And.intro ?_ ?_)
    all_goals (conv => whnf)
    all_goals exact VNext.mk (i + 1) (by omega) (by omega) aE aH
  · repeat' (conv => whnf); first | (refine VIx.is ?_; refine VIx.mk rfl (by omega) (by omega) ?_) | (refine VLd.is ?_; refine VLd.mk (Rd.cast (.vec aT (sub_flat0 (f := drV) (k := 1) (fun _ => rfl) hd sd)) (by first | omega | (dsimp only; omega) | rfl)) ?_) | (refine VLd.is ?_; refine VLd.mk (Rd.cast (.vec aT (sub_flat0 (f := drV) (k := 1) (fun _ => rfl) hdx sx)) (by first | omega | (dsimp only; omega) | rfl)) ?_) | (refine VLd.is ?_; refine VLd.mk (Rd.cast (.vec aT (sub_flat0 (f := drV) (k := 1) (fun _ => rfl) hdf sf)) (by first | omega | (dsimp only; omega) | rfl)) ?_) | (refine VSeq.go ?_) | (refine VB.is ?_; refine VB.yes (by omega) fun _ => ?_) | (refine VB.is ?_; refine VB.no (by omega) fun _ => ?_) | (refine VB.split (fun _ => ?_) (fun _ => ?_)) | (refine boolE_split (fun h => ?_) (fun h => ?_) <;> subst h) | (refine VLd.is ?_; refine VLd.mk (.row aT (by rfl)) ?_) | (refine VSt.is ?_; refine VSt.row aT (by rfl) (by first | rfl | assumption) ?_) | (refine VNew.mk fun _ => ?_) | (refine VAr.is ?_; refine oA ?_) | (refine VIx.is ?_; refine VIx.mk rfl (by omega) (by omega) ?_) | (refine VKeep.is ?_; refine VKeep.mk aH ?_) | (refine VHs.mk _ (.refl _) ?_) | (refine VQ.is ?_; refine oQ ?_) | (refine VM.is ?_; refine oM ?_) | (refine And.intro ?_ ?_)
    all_goals (conv => whnf)
    exact VNext.mk (t + 1) (by omega) (by omega) aE aH

end Go.Proofs
