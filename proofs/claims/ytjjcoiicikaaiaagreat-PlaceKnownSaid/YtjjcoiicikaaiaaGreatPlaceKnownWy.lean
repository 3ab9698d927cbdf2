import Derived.Test.YtjjcoiicikaaiaaGreatPlaceKnownPc
set_option linter.unusedVariables false

set_option linter.unusedSimpArgs false

namespace Go.Proofs

open Go Go.Vx Go.Gm

theorem perm_pl (a b : Ent) (P G : HP) : (a :: b :: (P ++ G)).Perm (P ++ (a :: b :: G)) := by
  refine List.Perm.trans ?_ List.perm_middle.symm
  exact List.Perm.cons _ List.perm_middle.symm

theorem trees_iter2 {α : Type} {w0 : World} {H : HP} {K : Value → HP → Prop} (X : PlnX) (x : PlnM) (cores : List Int) (hA : AsgOk X.N X.C cores) (hup : PlnUp X X.N.syns x) (hrd : PlnRd X w0) (p : Option Addr) (c b o : Nat) (h1 : Sl w0 intV 1 cores p cores.length b o) (l b2 b3 : Nat) (I : Nat → α → Prop) (G : α → HP) (x0 : α) (h0 : I 0 x0)
    (hH : HLe (.row b2 123 [.pointer (some ⟨x.b, 0, none⟩)] :: .row b3 24 [.slice p cores.length c] :: (plnH X x ++ G x0)) H)
    (step : ∀ k v z, k < nSrc X.N → tgtM X.N X.N.syns (k : Int) ≠ [] → I k v →
      VYield Tryz.cx.P w0 [] (treH X.N X.C cores (k : Int) z ++ (.row b2 123 [.pointer (some ⟨x.b, 0, none⟩)] :: .row b3 24 [.slice p cores.length c] :: (plnH X x ++ G v))) l [.agg (treC X.N X.C cores (k : Int) z).toArray] fun r H' => (r = .bool true ∧ ∃ y, I (k + 1) y ∧ HLe (.row b2 123 [.pointer (some ⟨x.b, 0, none⟩)] :: .row b3 24 [.slice p cores.length c] :: (plnH X x ++ G y)) H') ∨ (r = .bool false ∧ K (.tuple #[]) H'))
    (skip : ∀ k v, k < nSrc X.N → tgtM X.N X.N.syns (k : Int) = [] → I k v → I (k + 1) v)
    (fin : ∀ v, I (nSrc X.N) v → K (.tuple #[]) (.row b2 123 [.pointer (some ⟨x.b, 0, none⟩)] :: .row b3 24 [.slice p cores.length c] :: (plnH X x ++ G v))) :
    VCall Tryz.cx.P w0 [] H 109 [.func (.yield l) #[] #[], .pointer (some ⟨b2, 0, none⟩), .pointer (some ⟨b3, 0, none⟩)] K := by
  have hns : nSrc X.N ≤ 256 := by
    have := hA.plan.few
    have := hA.plan.net.inputs
    unfold nSrc; omega
  have hTl : x.T.length = nSrc X.N := by
    have := congrArg List.length hup.T
    rw [List.length_map] at this
    rw [this]; unfold tgtL; simp
  have k11 : sub (plnV X x) 11 1 = some [.slice (some ⟨x.gt, 0, none⟩) x.T.length x.T.length] := rfl
  refine VCall.le hH ?_
  refine VCall.inl (F := Tryz.fx109) Tryz.func109 rfl rfl rfl Tryz.ok109 ?_
  repeat' (conv => whnf); first | (refine VLd.is ?_; refine VLd.mk (Rd.cast (.row (.there (.there .here)) k11) (by first | omega | (dsimp only; omega) | rfl)) ?_) | (refine VSeq.go ?_) | (refine VB.is ?_; refine VB.yes (by omega) fun _ => ?_) | (refine VB.is ?_; refine VB.no (by omega) fun _ => ?_) | (refine VB.split (fun _ => ?_) (fun _ => ?_)) | (refine boolE_split (fun h => ?_) (fun h => ?_) <;> subst h) | (refine VLd.is ?_; refine VLd.mk (.row aT (by rfl)) ?_) | (refine VSt.is ?_; refine VSt.row aT (by rfl) (by first | rfl | assumption) ?_) | (refine VNew.mk fun _ => ?_) | (refine VAr.is ?_; refine oA ?_) | (refine VIx.is ?_; refine VIx.mk rfl (by omega) (by omega) ?_) | (refine VKeep.is ?_; refine VKeep.mk aH ?_) | (refine VHs.mk _ (.refl _) ?_) | (refine VQ.is ?_; refine oQ ?_) | (refine VM.is ?_; refine oM ?_) | (refine And.intro ?_ ?_)
  all_goals (conv => whnf)
  refine VLoop.mk (α := Nat × α) (fun z => z.1 ≤ nSrc X.N ∧ I z.1 z.2) (fun z => [(1000000, .tuple #[]), (0, .func (.yield l) #[] #[]), (1, .pointer (some ⟨b2, 0, none⟩)), (2, .pointer (some ⟨b3, 0, none⟩)), (9, .slice (some ⟨x.gt, 0, none⟩) x.T.length x.T.length), (10, .int .i64 (x.T.length : Int)), (11, .int .i64 (z.1 : Int))])
    (fun z => .row b2 123 [.pointer (some ⟨x.b, 0, none⟩)] :: .row b3 24 [.slice p cores.length c] :: (plnH X x ++ G z.2)) (fun z => nSrc X.N - z.1) (0, x0) ⟨Nat.zero_le _, h0⟩ aE (HLe.refl _) ?_
  rintro ⟨k, v⟩ ⟨hk, hI⟩
  dsimp only at hk hI ⊢
  rcases Nat.lt_or_ge k (nSrc X.N) with hlt | hge
  · obtain ⟨d, hd⟩ : ∃ d, x.T[k]? = some d := ⟨_, List.getElem?_eq_getElem (by omega)⟩
    have hdl : d.l = tgtM X.N X.N.syns (k : Int) := by
      have := congrArg (fun L => L[k]?) hup.T
      rw [List.getElem?_map, hd] at this
      unfold tgtL at this
      rw [List.getElem?_map, List.getElem?_range hlt] at this
      simpa using this
    have hpt := fun (hne : 0 < d.l.length) (w' : World) => ptree_any X x cores hA k hlt (by rw [← hdl]; exact List.length_pos_iff.1 hne) p c b o w'
    have hst := fun (hne : 0 < d.l.length) z => step k v z hlt (by rw [← hdl]; exact List.length_pos_iff.1 hne) hI
    have hsk := fun (hne : ¬ 0 < d.l.length) => skip k v hlt (by rw [← hdl]; exact List.length_eq_zero_iff.1 (by omega)) hI
    repeat' (conv => whnf); first | (refine VIx.is ?_; refine VIx.mk rfl (by omega) (by omega) ?_) | (refine VLd.is ?_; refine VLd.mk (Rd.cast (.vec (.there (.there (.there .here))) (sub_flat0 (vs := [.slice d.p d.l.length d.c]) (s := 1) (f := srV) (k := 1) (fun _ => rfl) hd rfl)) (by first | omega | (dsimp only; omega) | rfl)) ?_) | (refine VCall.isF 110 ?_; (refine VCall.genR (fun w' hw' => hpt (by omega) w' (PlnAt.of hA.plan hup (hrd.keep hw') hw' (HLe.of_sub _ (perm_pl _ _ _ _))) (h1.keep hw' (by simp))) ?_; rintro z _)) | (refine VYield.is ?_; refine VYield.is ?_; refine VYield.hle (VYield.mono (VYield.weak (HLe.refl _) (hst (by omega) z)) fun r H' hr => ?_); rcases hr with ⟨rfl, y, hy, hl⟩ | ⟨rfl, hK⟩ <;> first | refine ⟨_, hl, ?_⟩ | refine ⟨_, HLe.refl _, ?_⟩) | (refine VSeq.go ?_) | (refine VB.is ?_; refine VB.yes (by omega) fun _ => ?_) | (refine VB.is ?_; refine VB.no (by omega) fun _ => ?_) | (refine VB.split (fun _ => ?_) (fun _ => ?_)) | (refine boolE_split (fun h => ?_) (fun h => ?_) <;> subst h) | (refine VLd.is ?_; refine VLd.mk (.row aT (by rfl)) ?_) | (refine VSt.is ?_; refine VSt.row aT (by rfl) (by first | rfl | assumption) ?_) | (refine VNew.mk fun _ => ?_) | (refine VAr.is ?_; refine oA ?_) | (refine VIx.is ?_; refine VIx.mk rfl (by omega) (by omega) ?_) | (refine VKeep.is ?_; refine VKeep.mk aH ?_) | (refine VHs.mk _ (.refl _) ?_) | (refine VQ.is ?_; refine oQ ?_) | (refine VM.is ?_; refine oM ?_) | (refine And.intro ?_ ?_)
    all_goals (conv => whnf)
    · exact VNext.mk (k + 1, y) ⟨by dsimp only; omega, hy⟩ (by dsimp only; omega) aE (HLe.refl _)
    · exact hK
    · exact VNext.mk (k + 1, v) ⟨by dsimp only; omega, hsk (by omega)⟩ (by dsimp only; omega) aE (HLe.refl _)
  have hkl : k = nSrc X.N := by omega
  subst hkl
  repeat' (conv => whnf); first | (refine VSeq.go ?_) | (refine VB.is ?_; refine VB.yes (by omega) fun _ => ?_) | (refine VB.is ?_; refine VB.no (by omega) fun _ => ?_) | (refine VB.split (fun _ => ?_) (fun _ => ?_)) | (refine boolE_split (fun h => ?_) (fun h => ?_) <;> subst h) | (refine VLd.is ?_; refine VLd.mk (.row aT (by rfl)) ?_) | (refine VSt.is ?_; refine VSt.row aT (by rfl) (by first | rfl | assumption) ?_) | (refine VNew.mk fun _ => ?_) | (refine VAr.is ?_; refine oA ?_) | (refine VIx.is ?_; refine VIx.mk rfl (by omega) (by omega) ?_) | (refine VKeep.is ?_; refine VKeep.mk aH ?_) | (refine VHs.mk _ (.refl _) ?_) | (refine VQ.is ?_; refine oQ ?_) | (refine VM.is ?_; refine oM ?_) | (refine And.intro ?_ ?_)
  all_goals (conv => whnf)
  exact fin v hI

end Go.Proofs
