import Derived.Test.YtephkjicokbckaaGreatDoorVerifySoundSu
import Derived.Test.YtephkjicokbckaaGreatDoorVerifySoundLs
import Derived.Test.YtephkjicokbckaaGreatDoorVerifySoundVBounds
set_option linter.unusedVariables false

set_option linter.unusedSimpArgs false

namespace Go.Proofs

open Go Go.Vx Go.Gm

theorem bndRes_ok {N : Net} {sure may : List Evt} {ticks : Int} (h : (bndRes N sure may ticks).2 = 0) : bndErr N sure may ticks = 0 ∧ (bndRes N sure may ticks).1 = (bst N sure may ticks.toNat).out := by
  unfold bndRes at h ⊢
  split at h
  · contradiction
  · rename_i h0
    exact ⟨by omega, by rw [if_neg h0]⟩

set_option maxHeartbeats 2000000 in
theorem VerifySound_any (N : Net) (hN : N.wf) (sure : List Evt) (hsu : ∀ x ∈ sure, x.wf) (may : List Evt) (hma : ∀ x ∈ may, x.wf) (ticks : Int) (hti : I64 ticks) (z : Nat) (hz : z < 18446744073709551616) (pn : Option Addr) (cn bn on : Nat) (qs : Option Addr) (cs bs os : Nat) (ps : Option Addr) (ce be oe : Nat) (pm : Option Addr) (cm bm om : Nat) (w : World) (htab : PowTab w)
    (h1 : Sl w parV 8 N.ps pn N.ps.length bn on) (h2 : Sl w synV 4 N.syns qs N.syns.length bs os) (h3 : Sl w evtV 2 sure ps sure.length be oe) (hce : sure.length ≤ ce) (h4 : Sl w evtV 2 may pm may.length bm om) (hcm : may.length ≤ cm) :
    Calls Tryz.prog 8 #[.agg #[.slice pn N.ps.length cn, .int .i64 N.inputs, .slice qs N.syns.length cs], .slice ps sure.length ce, .slice pm may.length cm, .int .i64 ticks, .int .u64 (z : Int)] w fun e w' => e = .returned (.bool true) ∧ St w [] [] w' := by
  unfold I64 at hti
  refine enter (C := Tryz.cx) (F := Tryz.fx8) (args := [_, _, _, _, _]) Tryz.func8 rfl rfl rfl Tryz.ok8 (St.start w []) ?_
  refine VSeq.go ?_
  repeat' (conv => whnf); first | (refine VNew.mk fun b5 => ?_) | (refine VB.is ?_; refine VB.yes (by omega) fun _ => ?_) | (refine VB.is ?_; refine VB.no (by omega) fun _ => ?_) | (refine VB.split (fun _ => ?_) (fun _ => ?_)) | (refine boolE_split (fun h => ?_) (fun h => ?_) <;> subst h) | (refine VLd.is ?_; refine VLd.mk (.row aT (by rfl)) ?_) | (refine VSt.is ?_; refine VSt.row aT (by rfl) (by first | rfl | assumption) ?_) | (refine VNew.mk fun _ => ?_) | (refine VAr.is ?_; refine oA ?_) | (refine VIx.is ?_; refine VIx.mk rfl (by omega) (by omega) ?_) | (refine VKeep.is ?_; refine VKeep.mk aH ?_) | (refine VHs.mk _ (.refl _) ?_) | (refine VQ.is ?_; refine oQ ?_) | (refine VM.is ?_; refine oM ?_) | (refine And.intro ?_ ?_)
  all_goals (conv => whnf)
  repeat' (conv => whnf); first | (refine VCall.isF 34 ?_; refine VCall.inl (F := Tryz.fx34) Tryz.func34 rfl rfl rfl Tryz.ok34 ?_) | (refine VCall.isF 15 ?_; (refine VCall.genR (fun w' _ => vfew_any _ _ _ _ _ _ _ w') ?_; intro bf hbf)) | (refine VCall.isF 17 ?_; (refine VCall.valR (fun w' hw' => vworks_any w' (Lib.tabBelow_of_tabIs htab w' hw'.below)) ?_)) | (refine VCall.isF 23 ?_; (refine VCall.genR (fun w' hw' => Bounds_any N hN sure may hsu hma ticks hti _ _ _ _ _ _ _ _ _ _ _ _ _ _ _ _ w' (h1.keep hw' (by simp)) (h2.keep hw' (by simp)) (h3.keep hw' (by simp)) (h4.keep hw' (by simp)) hce hcm) ?_; rintro ⟨⟨q, cq⟩, D⟩ ⟨hD, hq⟩; dsimp only at hD hq ⊢)) | (refine VCall.isF 30 ?_; (refine VCall.genR (fun w' hw' => Run_any N hN sure hsu ticks _ _ _ _ _ _ _ _ _ _ _ _ w' (h1.keep hw' (by simp)) (h2.keep hw' (by simp)) (h3.keep hw' (by simp)) hce) ?_; rintro ⟨r, cr⟩ _; dsimp only)) | (refine VSeq.go ?_) | (refine VB.is ?_; refine VB.yes (by omega) fun _ => ?_) | (refine VB.is ?_; refine VB.no (by omega) fun _ => ?_) | (refine VB.split (fun _ => ?_) (fun _ => ?_)) | (refine boolE_split (fun h => ?_) (fun h => ?_) <;> subst h) | (refine VLd.is ?_; refine VLd.mk (.row aT (by rfl)) ?_) | (refine VSt.is ?_; refine VSt.row aT (by rfl) (by first | rfl | assumption) ?_) | (refine VNew.mk fun _ => ?_) | (refine VAr.is ?_; refine oA ?_) | (refine VIx.is ?_; refine VIx.mk rfl (by omega) (by omega) ?_) | (refine VKeep.is ?_; refine VKeep.mk aH ?_) | (refine VHs.mk _ (.refl _) ?_) | (refine VQ.is ?_; refine oQ ?_) | (refine VM.is ?_; refine oM ?_) | (refine And.intro ?_ ?_)
  all_goals (conv => whnf)
  all_goals try exact ⟨fun w' hw' => ⟨rfl, hw'.le .nil⟩⟩
  have hb0 : (bndRes N sure may ticks).2 = 0 := by omega
  obtain ⟨hbe, hbo⟩ := bndRes_ok hb0
  have hG := given_of hbe
  have hfew := (hbf rfl).1
  rw [hbo] at hD
  have hB := bst_ok hG.net.ps sure may ticks.toNat
  have hDl : D.length = ticks.toNat := by rw [← hB.out, ← hD, List.length_map]
  have hDr : ∀ d ∈ D, d.l.length = N.ps.length := fun d hd => (hB.row d.l (by rw [← hD]; exact List.mem_map_of_mem hd)).1
  refine VCall.genR (fun w' hw' => vhappened_any sure may hsu hma (by omega) (by omega) (z : Int) (by omega) ps ce be oe pm cm bm om w' (h3.keep hw' (by simp)) (h4.keep hw' (by simp))) ?_
  rintro ⟨⟨p1, c1⟩, sb⟩ hsub
  dsimp only at hsub ⊢
  have hrun := happened_run hG hsub (by omega) (by omega) hfew (by omega)
  have hsnd := fun (t i : Nat) (r : List Int) (v : Int) => sound hG hsub (by omega) (by omega) (t := t) (i := i) (r := r) (v := v)
  have hLl := sortU_len (sure ++ sb)
  have hsl := hsub.length_le
  rw [List.length_append] at hLl
  have hLw : ∀ x ∈ sortU (sure ++ sb), x.wf := fun x hx => by
    rcases List.mem_append.1 (mem_sortU.1 hx) with h | h
    · exact hsu x h
    · exact hma x (hsub.mem h)
  have hOf := outTo_few hG.net (sortU (sure ++ sb)) ticks.toNat
  obtain ⟨L, hL⟩ : ∃ L, sortU (sure ++ sb) = L := ⟨_, rfl⟩
  rw [hL] at hrun hsnd hLl hLw hOf ⊢
  obtain ⟨T, hT⟩ : ∃ T : Nat, ticks = T := ⟨ticks.toNat, by omega⟩
  subst hT
  rw [Int.toNat_natCast] at hrun hsnd hOf hDl hD
  have hOl : (outTo N L T).length ≤ 600 := Nat.le_trans hOf (by have : T * N.ps.length ≤ 60 * 10 := Nat.mul_le_mul (by omega) hfew; omega)
  have hmem := fun (τ i : Int) => mem_outTo (N := N) (l := L) (i := i) (τ := τ) (T := T)
  obtain ⟨O, hO⟩ : ∃ O, outTo N L T = O := ⟨_, rfl⟩
  rw [hO] at hrun hOl hmem
  repeat' (conv => whnf); first | (refine VCall.isF 30 ?_; (refine VCall.genR (fun w' hw' => Exists.elim (Sl.own (f := evtV) (l := L) (cap := c1) (e := 64) (p := p1) (k := 2) hw' aT (fun _ => rfl) rfl) fun bq hbq => Run_any N hN L hLw (T : Int) _ _ _ _ _ _ _ _ p1 c1 bq 0 w' (h1.keep hw' (by simp)) (h2.keep hw' (by simp)) hbq (vec_facts (hw'.own (.vec p1 L.length c1 64 2 (flat evtV L)) (by simp))).1) ?_; rintro ⟨r2, cr2⟩ _; rw [hrun]; dsimp only)) | (refine VSeq.go ?_) | (refine VB.is ?_; refine VB.yes (by omega) fun _ => ?_) | (refine VB.is ?_; refine VB.no (by omega) fun _ => ?_) | (refine VB.split (fun _ => ?_) (fun _ => ?_)) | (refine boolE_split (fun h => ?_) (fun h => ?_) <;> subst h) | (refine VLd.is ?_; refine VLd.mk (.row aT (by rfl)) ?_) | (refine VSt.is ?_; refine VSt.row aT (by rfl) (by first | rfl | assumption) ?_) | (refine VNew.mk fun _ => ?_) | (refine VAr.is ?_; refine oA ?_) | (refine VIx.is ?_; refine VIx.mk rfl (by omega) (by omega) ?_) | (refine VKeep.is ?_; refine VKeep.mk aH ?_) | (refine VHs.mk _ (.refl _) ?_) | (refine VQ.is ?_; refine oQ ?_) | (refine VM.is ?_; refine oM ?_) | (refine And.intro ?_ ?_)
  all_goals (conv => whnf)
  obtain ⟨n, hn⟩ : ∃ n, N.ps.length = n := ⟨_, rfl⟩
  refine VLoop.kr (α := Nat) [1000000, 3, 5, 10, 11, 13] rfl (fun t => t ≤ T) (fun t K => (15, .int .i64 (t : Int)) :: K)
    (fun _ => .row b5 25 [.slice pn N.ps.length cn, .int .i64 N.inputs, .slice qs N.syns.length cs] :: .vec r2 O.length cr2 64 2 (flat evtV O) :: .vec q D.length cq 26 1 (flat drV D) :: D.map drowE) (fun t => T - t) 0 (by omega) aE aH ?_
  intro t ht
  rcases Nat.lt_or_ge t T with hlt | hge
  rotate_left
  · repeat' (conv => whnf); first | (refine VCall.isF 17 ?_; (refine VCall.valR (fun w' hw' => vworks_any w' (Lib.tabBelow_of_tabIs htab w' hw'.below)) ?_)) | (refine VSeq.go ?_) | (refine VB.is ?_; refine VB.yes (by omega) fun _ => ?_) | (refine VB.is ?_; refine VB.no (by omega) fun _ => ?_) | (refine VB.split (fun _ => ?_) (fun _ => ?_)) | (refine boolE_split (fun h => ?_) (fun h => ?_) <;> subst h) | (refine VLd.is ?_; refine VLd.mk (.row aT (by rfl)) ?_) | (refine VSt.is ?_; refine VSt.row aT (by rfl) (by first | rfl | assumption) ?_) | (refine VNew.mk fun _ => ?_) | (refine VAr.is ?_; refine oA ?_) | (refine VIx.is ?_; refine VIx.mk rfl (by omega) (by omega) ?_) | (refine VKeep.is ?_; refine VKeep.mk aH ?_) | (refine VHs.mk _ (.refl _) ?_) | (refine VQ.is ?_; refine oQ ?_) | (refine VM.is ?_; refine oM ?_) | (refine And.intro ?_ ?_)
    all_goals (conv => whnf)
    exact ⟨fun w' hw' => ⟨rfl, hw'.le .nil⟩⟩
  obtain ⟨gq, rfl⟩ := hq (by omega)
  obtain ⟨d, hd⟩ : ∃ d, D[t]? = some d := ⟨D[t]'(by omega), List.getElem?_eq_getElem _⟩
  have hdl := hDr d (List.mem_of_getElem? hd)
  have hbd : (bst N sure may T).out[t]? = some d.l := by rw [← hD, List.getElem?_map, hd]; rfl
  have sd : sub (drV d) 0 1 = some [.slice (some ⟨d.g, 0, none⟩) N.ps.length d.cap] := by rw [← hdl]; rfl
  repeat' (conv => whnf); first | (refine VIx.is ?_; refine VIx.mk rfl (by omega) (by omega) ?_) | (refine VLd.is ?_; refine VLd.mk (Rd.cast (.vec aT (sub_flat0 (f := drV) (k := 1) (fun _ => rfl) hd sd)) (by first | omega | (dsimp only; omega) | rfl)) ?_) | (refine VSeq.go ?_) | (refine VB.is ?_; refine VB.yes (by omega) fun _ => ?_) | (refine VB.is ?_; refine VB.no (by omega) fun _ => ?_) | (refine VB.split (fun _ => ?_) (fun _ => ?_)) | (refine boolE_split (fun h => ?_) (fun h => ?_) <;> subst h) | (refine VLd.is ?_; refine VLd.mk (.row aT (by rfl)) ?_) | (refine VSt.is ?_; refine VSt.row aT (by rfl) (by first | rfl | assumption) ?_) | (refine VNew.mk fun _ => ?_) | (refine VAr.is ?_; refine oA ?_) | (refine VIx.is ?_; refine VIx.mk rfl (by omega) (by omega) ?_) | (refine VKeep.is ?_; refine VKeep.mk aH ?_) | (refine VHs.mk _ (.refl _) ?_) | (refine VQ.is ?_; refine oQ ?_) | (refine VM.is ?_; refine oM ?_) | (refine And.intro ?_ ?_)
  all_goals (conv => whnf)
  refine VLoop.kr (α := Nat) [1000000, 3, 5, 10, 11, 13, 15] rfl (fun i => i ≤ n) (fun i K => (16, .int .i64 (i : Int)) :: K)
    (fun _ => .row b5 25 [.slice pn N.ps.length cn, .int .i64 N.inputs, .slice qs N.syns.length cs] :: .vec r2 O.length cr2 64 2 (flat evtV O) :: .vec (some ⟨gq, 0, none⟩) D.length cq 26 1 (flat drV D) :: D.map drowE) (fun i => n - i) 0 (by omega) aE aH ?_
  intro i hi
  rcases Nat.lt_or_ge i n with hin | hin
  · obtain ⟨v, hv⟩ : ∃ v, d.l[i]? = some v := ⟨d.l[i]'(by omega), List.getElem?_eq_getElem _⟩
    obtain ⟨hv1, hv2, hv3⟩ := hsnd t i d.l v hbd hv
    have hfact : ∀ c : Bool, (c = true ↔ (⟨(t : Int), (i : Int)⟩ : Evt) ∈ O) → (c = true ∧ v ≠ 0) ∨ (c = false ∧ v ≠ 2) := fun c hc => by
      rw [hmem, Int.toNat_natCast] at hc
      cases c
      · refine .inr ⟨rfl, fun e => ?_⟩
        have := hc.2 ⟨by omega, by omega, hv2 e⟩
        cases this
      · exact .inl ⟨rfl, fun e => hv3 e (hc.1 rfl).2.2⟩
    repeat' (conv => whnf); first | (refine VIx.is ?_; refine VIx.mk rfl (by omega) (by omega) ?_) | (refine VLd.is ?_; refine VLd.mk (Rd.cast (.vec aT (sub_flat0 (f := drV) (k := 1) (fun _ => rfl) hd sd)) (by first | omega | (dsimp only; omega) | rfl)) ?_) | (refine VLd.is ?_; refine VLd.mk (Rd.cast (Rd.seg (f := drowE) (l := D) aS hd rfl (sub_flat0 (f := intV) (k := 1) (fun _ => rfl) hv rfl)) (by first | omega | (dsimp only; omega) | rfl)) ?_) | (refine VCall.isF 36 ?_; (refine VCall.genR (fun w' hw' => Exists.elim (Sl.own (f := evtV) (l := O) (cap := cr2) (e := 64) (p := r2) (k := 2) hw' aT (fun _ => rfl) rfl) fun bq hbq => vspike_any O (by omega) (t : Int) (i : Int) r2 cr2 bq 0 w' hbq) ?_; intro c hc; rcases hfact c hc with ⟨rfl, hv0⟩ | ⟨rfl, hv0⟩)) | (refine VSeq.go ?_) | (refine VB.is ?_; refine VB.yes (by omega) fun _ => ?_) | (refine VB.is ?_; refine VB.no (by omega) fun _ => ?_) | (refine VB.split (fun _ => ?_) (fun _ => ?_)) | (refine boolE_split (fun h => ?_) (fun h => ?_) <;> subst h) | (refine VLd.is ?_; refine VLd.mk (.row aT (by rfl)) ?_) | (refine VSt.is ?_; refine VSt.row aT (by rfl) (by first | rfl | assumption) ?_) | (refine VNew.mk fun _ => ?_) | (refine VAr.is ?_; refine oA ?_) | (refine VIx.is ?_; refine VIx.mk rfl (by omega) (by omega) ?_) | (refine VKeep.is ?_; refine VKeep.mk aH ?_) | (refine VHs.mk _ (.refl _) ?_) | (refine VQ.is ?_; refine oQ ?_) | (refine VM.is ?_; refine oM ?_) | (refine And.intro ?_ ?_)
    all_goals (conv => whnf)
    all_goals exact VNext.mk (i + 1) (by omega) (by omega) aE aH
  · repeat' (conv => whnf); first | (refine VIx.is ?_; refine VIx.mk rfl (by omega) (by omega) ?_) | (refine VLd.is ?_; refine VLd.mk (Rd.cast (.vec aT (sub_flat0 (f := drV) (k := 1) (fun _ => rfl) hd sd)) (by first | omega | (dsimp only; omega) | rfl)) ?_) | (refine VSeq.go ?_) | (refine VB.is ?_; refine VB.yes (by omega) fun _ => ?_) | (refine VB.is ?_; refine VB.no (by omega) fun _ => ?_) | (refine VB.split (fun _ => ?_) (fun _ => ?_)) | (refine boolE_split (fun h => ?_) (fun h => ?_) <;> subst h) | (refine VLd.is ?_; refine VLd.mk (.row aT (by rfl)) ?_) | (refine VSt.is ?_; refine VSt.row aT (by rfl) (by first | rfl | assumption) ?_) | (refine VNew.mk fun _ => ?_) | (refine VAr.is ?_; refine oA ?_) | (refine VIx.is ?_; refine VIx.mk rfl (by omega) (by omega) ?_) | (refine VKeep.is ?_; refine VKeep.mk aH ?_) | (refine VHs.mk _ (.refl _) ?_) | (refine VQ.is ?_; refine oQ ?_) | (refine VM.is ?_; refine oM ?_) | (refine And.intro ?_ ?_)
    all_goals (conv => whnf)
    exact VNext.mk (t + 1) (by omega) (by omega) aE aH

end Go.Proofs
