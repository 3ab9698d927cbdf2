/- VBounds: VerifyBounds walked. -/

import Derived.Test.YtephkjicokbckaaGreatDoorVerifyBoundsLf
import Derived.Test.YtephkjicokbckaaGreatDoorVerifyBoundsWf

set_option linter.unusedVariables false

set_option linter.unusedSimpArgs false

namespace Go.Proofs

open Go Go.Vx Go.Gm

theorem bnd_rows {N : Net} {sure may : List Evt} {ticks : Int} {D : List DRow} (h : D.map (·.l) = (bndRes N sure may ticks).1) : D.length ≤ 10000 ∧ (∀ d ∈ D, d.l.length = N.ps.length) := by
  unfold bndRes at h
  split at h
  · have : D = [] := by simpa using h
    subst this
    simp
  · rename_i h0
    have hz : bndErr N sure may ticks = 0 := by omega
    unfold bndErr at hz
    have hfacts : netchk N = 0 ∧ tmE ticks = 0 := by
      split at hz
      · omega
      · split at hz
        · omega
        · split at hz
          · omega
          · omega
    have htm : 0 ≤ ticks ∧ ticks ≤ 10000 := by
      have h := hfacts.2
      unfold tmE at h
      split at h
      · assumption
      · cases h
    have hNok : NetOk N := netchk_zero.1 hfacts.1
    have hB := bst_ok hNok.ps sure may ticks.toNat
    dsimp only at h
    refine ⟨?_, fun d hd => (hB.row d.l (by rw [← h]; exact List.mem_map_of_mem hd)).1⟩
    have := congrArg List.length h
    rw [List.length_map, hB.out] at this
    omega

theorem rows_own {w0 w : World} {H : HP} {D : List DRow} {q : Option Addr} {cq n : Nat} {u : Ent → HP} {r : HP} (hs : St w0 [] H w) (hat : At H (.vec q D.length cq 26 1 (flat drV D)) u r) (hle : HLe (D.map drowE) H) (hn : ∀ d ∈ D, d.l.length = n) : ∃ b, RowsAt w D q b 0 n := by
  obtain ⟨b, hb⟩ := Sl.own (f := drV) hs hat (fun _ => rfl) rfl
  have h2 := hs.le hle
  exact ⟨b, hb, fun d h => Sl.own' (f := intV) h2 (List.mem_map_of_mem h) (fun _ => rfl) rfl, hn⟩

set_option maxHeartbeats 2000000 in
theorem VerifyBounds_any (N : Net) (hN : N.wf) (sure : List Evt) (hsu : ∀ x ∈ sure, x.wf) (may : List Evt) (hma : ∀ x ∈ may, x.wf) (ticks : Int) (hti : I64 ticks) (pn : Option Addr) (cn bn on : Nat) (qs : Option Addr) (cs bs os : Nat) (ps : Option Addr) (ce be oe : Nat) (pm : Option Addr) (cm bm om : Nat) (w : World) (htab : PowTab w)
    (h1 : Sl w parV 8 N.ps pn N.ps.length bn on) (h2 : Sl w synV 4 N.syns qs N.syns.length bs os) (h3 : Sl w evtV 2 sure ps sure.length be oe) (hce : sure.length ≤ ce) (h4 : Sl w evtV 2 may pm may.length bm om) (hcm : may.length ≤ cm) :
    Calls Tryz.prog 4 #[.agg #[.slice pn N.ps.length cn, .int .i64 N.inputs, .slice qs N.syns.length cs], .slice ps sure.length ce, .slice pm may.length cm, .int .i64 ticks] w fun e w' => e = .returned (.bool true) ∧ St w [] [] w' := by
  unfold I64 at hti
  refine enter (C := Tryz.cx) (F := Tryz.fx4) (args := [_, _, _, _]) Tryz.func4 rfl rfl rfl Tryz.ok4 (St.start w []) ?_
  repeat' (conv => whnf); first | (refine VCall.isF 15 ?_; (refine VCall.genR (fun w' _ => vfew_any _ _ _ _ _ _ _ w') ?_; intro bf hbf)) | (refine VCall.isF 22 ?_; (refine VCall.genR (fun w' _ => vsome_any _ _ _ w') ?_; intro bs1 hbs1)) | (refine VCall.isF 17 ?_; (refine VCall.valR (fun w' hw' => vworks_any w' (Lib.tabBelow_of_tabIs htab w' hw'.below)) ?_)) | (refine VCall.isF 23 ?_; (refine VCall.genR (fun w' hw' => Bounds_any N hN sure may hsu hma ticks hti _ _ _ _ _ _ _ _ _ _ _ _ _ _ _ _ w' (h1.keep hw' (by simp)) (h2.keep hw' (by simp)) (h3.keep hw' (by simp)) (h4.keep hw' (by simp)) hce hcm) ?_; rintro ⟨⟨q, cq⟩, D⟩ ⟨hD, hq⟩; dsimp only at hD hq ⊢)) | (refine VCall.isF 24 ?_; (refine VCall.genR (fun w' hw' => refBounds_any N hN sure may hsu hma ticks hti _ _ _ _ _ _ _ _ _ _ _ _ _ _ _ _ w' (h1.keep hw' (by simp)) (h2.keep hw' (by simp)) (h3.keep hw' (by simp)) (h4.keep hw' (by simp))) ?_; rintro ⟨⟨r, cr⟩, E⟩ ⟨hE, hr⟩; dsimp only at hE hr ⊢)) | (refine VCall.isF 25 ?_; (refine VCall.valR (fun w' hw' => Exists.elim (rows_own hw' (D := D) (cq := cq) (q := q) aT aH (bnd_rows hD).2) fun b1 hb1 => Exists.elim (rows_own hw' (D := E) (cq := cr) (q := r) aT aH (bnd_rows hE).2) fun b2 hb2 => vsameRows_any D E (hD.trans hE.symm) (by have := (bnd_rows hD).1; omega) N.ps.length (by have := hbf rfl; omega) q cq b1 0 r cr b2 0 w' hb1 hb2) ?_)) | (refine VSeq.go ?_) | (refine VB.is ?_; refine VB.yes (by omega) fun _ => ?_) | (refine VB.is ?_; refine VB.no (by omega) fun _ => ?_) | (refine VB.split (fun _ => ?_) (fun _ => ?_)) | (refine boolE_split (fun h => ?_) (fun h => ?_) <;> subst h) | (refine VLd.is ?_; refine VLd.mk (.row aT (by rfl)) ?_) | (refine VSt.is ?_; refine VSt.row aT (by rfl) (by first | rfl | assumption) ?_) | (refine VNew.mk fun _ => ?_) | (refine VAr.is ?_; refine oA ?_) | (refine VIx.is ?_; refine VIx.mk rfl (by omega) (by omega) ?_) | (refine VKeep.is ?_; refine VKeep.mk aH ?_) | (refine VHs.mk _ (.refl _) ?_) | (refine VQ.is ?_; refine oQ ?_) | (refine VM.is ?_; refine oM ?_) | (refine And.intro ?_ ?_)
  all_goals (conv => whnf)
  all_goals exact ⟨fun w' hw' => ⟨rfl, hw'.le .nil⟩⟩

end Go.Proofs
