import Derived.Test.YtephkjicokbckaaGreatDoorVerifyCertainHd
import Derived.Test.YtephkjicokbckaaGreatDoorVerifyCertainHh
import Derived.Test.YtephkjicokbckaaGreatDoorVerifyCertainHe
import Derived.Test.YtephkjicokbckaaGreatDoorVerifyCertainCt
set_option linter.unusedVariables false

set_option linter.unusedSimpArgs false

namespace Go.Proofs

open Go Go.Vx Go.Gm

theorem cert_sound {N : Net} {sure may sub : List Evt} {ticks : Int} {c : Clm} (h : Given N sure may ticks) (hs : sub.Sublist may) (h1 : sure.length ≤ 1000) (h2 : may.length ≤ 1000) (hce : (certRes N sure may ticks c).2 = 0) :
    hldErr N c = 0 ∧ (-1 ≤ (certRes N sure may ticks c).1 ∧ (certRes N sure may ticks c).1 ≤ 1) ∧ ((certRes N sure may ticks c).1 = 1 → HoldsP c (outTo N (sortU (sure ++ sub)) ticks.toNat)) ∧ ((certRes N sure may ticks c).1 = -1 → ¬ HoldsP c (outTo N (sortU (sure ++ sub)) ticks.toNat)) := by
  unfold certRes at hce ⊢
  by_cases g1 : bndErr N sure may ticks ≠ 0
  · rw [if_pos g1] at hce
    exact absurd hce g1
  rw [if_neg g1] at hce ⊢
  by_cases g2 : clmErr N.ps.length c ≠ 0
  · rw [if_pos g2] at hce
    exact absurd hce g2
  rw [if_neg g2] at hce ⊢
  by_cases g3 : ticks < c.to
  · rw [if_pos g3] at hce
    cases hce
  rw [if_neg g3]
  have hc0 := Decidable.not_not.1 g2
  obtain ⟨_, _, ⟨hin, _⟩, hr⟩ := clmErr_zero hc0
  have hB := bst_ok h.net.ps sure may ticks.toNat
  have hlen : (bst N sure may ticks.toNat).out.length = ticks.toNat := hB.out
  have hsound := certV_sound (N := N) (L := sortU (sure ++ sub)) (c := c) (out := (bst N sure may ticks.toNat).out) hc0 (by have := h.ticks; omega) fun t row hrow i hi => by
    have hii := hin i hi
    have hrl := (hB.row row (List.mem_of_getElem? hrow)).1
    obtain ⟨v, hv⟩ : ∃ v, row[i.toNat]? = some v := ⟨row[i.toNat]'(by omega), List.getElem?_eq_getElem _⟩
    obtain ⟨⟨k1, k2⟩, k3, k4⟩ := sound h hs h1 h2 hrow hv
    have e : vAt row i = v := by unfold vAt; rw [hv]; rfl
    rw [Int.toNat_of_nonneg hii.1] at k3 k4
    rw [e]
    exact ⟨k3, k4, by omega⟩
  rw [hlen] at hsound
  exact ⟨by unfold hldErr; rw [if_neg (Decidable.not_not.2 (netchk_zero.2 h.net)), hc0], hsound⟩

set_option maxHeartbeats 2000000 in
theorem VerifyCertain_any (N : Net) (hN : N.wf) (sure : List Evt) (hsu : ∀ x ∈ sure, x.wf) (may : List Evt) (hma : ∀ x ∈ may, x.wf) (ticks : Int) (hti : I64 ticks) (c : Clm) (hc : c.wf) (z : Nat) (hz : z < 18446744073709551616) (pn : Option Addr) (cn bn on : Nat) (qs : Option Addr) (cs bs os : Nat) (ps : Option Addr) (ce be oe : Nat) (pm : Option Addr) (cm bm om : Nat) (pc : Option Addr) (cc bc oc : Nat) (w : World) (htab : PowTab w)
    (h1 : Sl w parV 8 N.ps pn N.ps.length bn on) (h2 : Sl w synV 4 N.syns qs N.syns.length bs os) (h3 : Sl w evtV 2 sure ps sure.length be oe) (hce : sure.length ≤ ce) (h4 : Sl w evtV 2 may pm may.length bm om) (hcm : may.length ≤ cm) (h5 : Sl w intV 1 c.ns pc c.ns.length bc oc) (hcc : c.ns.length ≤ cc) :
    Calls Tryz.prog 11 #[.agg #[.slice pn N.ps.length cn, .int .i64 N.inputs, .slice qs N.syns.length cs], .slice ps sure.length ce, .slice pm may.length cm, .int .i64 ticks, clmA c pc cc, .int .u64 (z : Int)] w fun e w' => e = .returned (.bool true) ∧ St w [] [] w' := by
  have hti' := hti
  unfold I64 at hti
  refine enter (C := Tryz.cx) (F := Tryz.fx11) (args := [_, _, _, _, _, _]) Tryz.func11 rfl rfl rfl Tryz.ok11 (St.start w []) ?_
  refine VSeq.go ?_
  repeat' (conv => whnf); first | (refine VNew.mk fun b10 => ?_)
  all_goals (conv => whnf)
  rename_i b6
  repeat' (conv => whnf); first | (refine VCall.isF 34 ?_; refine VCall.inl (F := Tryz.fx34) Tryz.func34 rfl rfl rfl Tryz.ok34 ?_) | (refine VNew.mk fun b99 => ?_) | (refine VCall.isF 15 ?_; (refine VCall.genR (fun w' _ => vfew_any _ _ _ _ _ _ _ w') ?_; intro bf hbf)) | (refine VCall.isF 17 ?_; (refine VCall.valR (fun w' hw' => vworks_any w' (Lib.tabBelow_of_tabIs htab w' hw'.below)) ?_)) | (refine VCall.isF 23 ?_; (refine VCall.genR (fun w' hw' => Bounds_any N hN sure may hsu hma ticks hti' _ _ _ _ _ _ _ _ _ _ _ _ _ _ _ _ w' (h1.keep hw' (by simp)) (h2.keep hw' (by simp)) (h3.keep hw' (by simp)) (h4.keep hw' (by simp)) hce hcm) ?_; rintro ⟨⟨q, cq⟩, D⟩ ⟨hD, hq⟩; dsimp only at hD hq ⊢)) | (refine VCall.isF 30 ?_; (refine VCall.genR (fun w' hw' => Run_any N hN sure hsu ticks _ _ _ _ _ _ _ _ _ _ _ _ w' (h1.keep hw' (by simp)) (h2.keep hw' (by simp)) (h3.keep hw' (by simp)) hce) ?_; rintro ⟨r, cr⟩ _; dsimp only)) | (refine VCall.isF 26 ?_; (refine VCall.valR (fun w' hw' => Certain_any N hN sure may hsu hma ticks hti' _ _ _ _ _ _ _ _ _ _ _ _ _ _ _ _ c hc (by omega) pc cc bc oc hcc (by have := hbf rfl; omega) w' (h1.keep hw' (by simp)) (h2.keep hw' (by simp)) (h3.keep hw' (by simp)) (h4.keep hw' (by simp)) hce hcm (h5.keep hw' (by simp))) ?_)) | (refine VSeq.go ?_) | (refine VB.split (fun _ => ?_) (fun _ => ?_)) | (refine boolE_split (fun h => ?_) (fun h => ?_) <;> subst h) | (refine VLd.is ?_; refine VLd.mk (.row aT (by rfl)) ?_) | (refine VHs.mk _ (.refl _) ?_)
  all_goals (conv => whnf)
  all_goals try exact ⟨fun w' hw' => ⟨rfl, hw'.le .nil⟩⟩
  have hb0 : (bndRes N sure may ticks).2 = 0 := by omega
  obtain ⟨hbe, hbo⟩ := bndRes_ok hb0
  have hG := given_of hbe
  have hfew := (hbf rfl).1
  have hns : c.ns.length ≤ 20 := by omega
  have hc0 : (certRes N sure may ticks c).2 = 0 := by omega
  refine VCall.genR (fun w' hw' => vhappened_any sure may hsu hma (by omega) (by omega) (z : Int) (by omega) ps ce be oe pm cm bm om w' (h3.keep hw' (by simp)) (h4.keep hw' (by simp))) ?_
  rintro ⟨⟨p1, c1⟩, sb⟩ hsub
  dsimp only at hsub ⊢
  have hrun := happened_run hG hsub (by omega) (by omega) hfew (by omega)
  obtain ⟨hh0, hXb, hX1, hX2⟩ := cert_sound hG hsub (by omega) (by omega) hc0
  have hLl := sortU_len (sure ++ sb)
  have hsl := hsub.length_le
  rw [List.length_append] at hLl
  have hLw : ∀ x ∈ sortU (sure ++ sb), x.wf := fun x hx => by
    rcases List.mem_append.1 (mem_sortU.1 hx) with h | h
    · exact hsu x h
    · exact hma x (hsub.mem h)
  have hOf := outTo_few hG.net (sortU (sure ++ sb)) ticks.toNat
  obtain ⟨L, hL⟩ : ∃ L, sortU (sure ++ sb) = L := ⟨_, rfl⟩
  rw [hL] at hrun hLl hLw hOf hX1 hX2 ⊢
  obtain ⟨T, hT⟩ : ∃ T : Nat, ticks = T := ⟨ticks.toNat, by omega⟩
  obtain ⟨X, hX⟩ : ∃ X, (certRes N sure may ticks c).1 = X := ⟨_, rfl⟩
  rw [hX] at hXb hX1 hX2 ⊢
  have hTn : ticks.toNat = T := by omega
  rw [hTn] at hrun hOf hX1 hX2
  have hOl : (outTo N L T).length ≤ 600 := Nat.le_trans hOf (by have : T * N.ps.length ≤ 60 * 10 := Nat.mul_le_mul (by omega) hfew; omega)
  obtain ⟨O, hO⟩ : ∃ O, outTo N L T = O := ⟨_, rfl⟩
  rw [hO] at hrun hOl hX1 hX2
  clear hc0 hbe hbo hb0 hX
  repeat' (conv => whnf); first | (refine VCall.isF 30 ?_; (refine VCall.genR (fun w' hw' => Exists.elim (Sl.own (f := evtV) (l := L) (cap := c1) (e := 64) (p := p1) (k := 2) hw' aT (fun _ => rfl) rfl) fun bq hbq => Run_any N hN L hLw ticks _ _ _ _ _ _ _ _ p1 c1 bq 0 w' (h1.keep hw' (by simp)) (h2.keep hw' (by simp)) hbq (vec_facts (hw'.own (.vec p1 L.length c1 64 2 (flat evtV L)) (by simp))).1) ?_; rintro ⟨r2, cr2⟩ _; rw [hrun]; dsimp only)) | (refine VCall.isF 37 ?_; (refine VCall.genR (fun w' hw' => Exists.elim (Sl.own (f := evtV) (l := O) (cap := cr2) (e := 64) (p := r2) (k := 2) hw' aT (fun _ => rfl) rfl) fun bq hbq => vholds_any N hN c hc (by omega) (by omega) O (by omega) pn cn bn on qs cs bs os pc cc bc oc hcc r2 cr2 bq 0 w' (h1.keep hw' (by simp)) (h2.keep hw' (by simp)) (h5.keep hw' (by simp)) hbq) ?_; rw [hh0]; intro hb hhb; have hx1 : X = 1 → hb = true := fun h => hhb.2 ⟨rfl, hX1 h⟩; have hx2 : X = -1 → hb = false := fun h => (by cases hb; rfl; exact absurd (hhb.1 rfl).2 (hX2 h)); clear hhb)) | (refine VCall.isF 17 ?_; (refine VCall.valR (fun w' hw' => vworks_any w' (Lib.tabBelow_of_tabIs htab w' hw'.below)) ?_)) | (refine VSeq.go ?_) | (refine VB.is ?_; refine VB.yes (by omega) fun _ => ?_) | (refine VB.split (fun _ => ?_) (fun _ => ?_)) | (refine boolE_split (fun h => ?_) (fun h => ?_) <;> subst h) | (refine VLd.is ?_; refine VLd.mk (.row aT (by rfl)) ?_) | (refine VKeep.is ?_; refine VKeep.mk aH ?_)
  all_goals (conv => whnf)
  all_goals first
    | exact ⟨fun w' hw' => ⟨rfl, hw'.le .nil⟩⟩
    | (exfalso; first | omega | (have := hx1 (by omega); cases this; done) | (have := hx2 (by omega); cases this; done))

end Go.Proofs
