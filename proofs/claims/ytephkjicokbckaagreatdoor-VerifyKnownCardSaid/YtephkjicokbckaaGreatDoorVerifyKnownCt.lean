import Derived.Test.YtephkjicokbckaaGreatDoorVerifyKnownCv
import Derived.Test.YtephkjicokbckaaGreatDoorVerifyKnownWd
set_option linter.unusedVariables false

set_option linter.unusedSimpArgs false

namespace Go.Proofs

open Go Go.Vx Go.Gm

def certRes (N : Net) (sure may : List Evt) (ticks : Int) (c : Clm) : Int × Int :=
  if bndErr N sure may ticks ≠ 0 then (0, bndErr N sure may ticks) else if clmErr N.ps.length c ≠ 0 then (0, clmErr N.ps.length c) else if ticks < c.to then (0, 3)
  else (certV c (bst N sure may ticks.toNat).out, 0)

theorem rowsAt_own {w0 w : World} {M : List Nat} {H r : HP} {D : List DRow} {q : Option Addr} {cq n : Nat} {u : Ent → HP} (hs : St w0 M H w) (hat : At H (.vec q D.length cq 26 1 (flat drV D)) u r) (hd : ∀ d ∈ D, drowE d ∈ H) (hn : ∀ d ∈ D, d.l.length = n) :
    ∃ b, RowsAt w D q b 0 n := by
  obtain ⟨b, hb⟩ := Sl.own (f := drV) hs hat (fun _ => rfl) rfl
  exact ⟨b, hb, fun d h => Sl.own' (f := intV) hs (by have := hd d h; unfold drowE at this; exact this) (fun _ => rfl) rfl, hn⟩

set_option maxHeartbeats 4000000 in
theorem Certain_any (N : Net) (hN : N.wf) (sure may : List Evt) (hsu : ∀ x ∈ sure, x.wf) (hma : ∀ x ∈ may, x.wf) (ticks : Int) (hti : I64 ticks) (pn : Option Addr) (cn bn on : Nat) (qs : Option Addr) (cs bs os : Nat) (ps : Option Addr) (ce be oe : Nat) (pm : Option Addr) (cm bm om : Nat)
    (c : Clm) (hc : c.wf) (hns : c.ns.length ≤ 100000) (pc : Option Addr) (cc bc oc : Nat) (hcc : c.ns.length ≤ cc) (hnl : N.ps.length ≤ 1000000000) (w : World)
    (h1 : Sl w parV 8 N.ps pn N.ps.length bn on) (h2 : Sl w synV 4 N.syns qs N.syns.length bs os) (h3 : Sl w evtV 2 sure ps sure.length be oe) (h4 : Sl w evtV 2 may pm may.length bm om) (hce : sure.length ≤ ce) (hcm : may.length ≤ cm) (h5 : Sl w intV 1 c.ns pc c.ns.length bc oc) :
    Calls Tryz.prog 26 #[.agg #[.slice pn N.ps.length cn, .int .i64 N.inputs, .slice qs N.syns.length cs], .slice ps sure.length ce, .slice pm may.length cm, .int .i64 ticks, clmA c pc cc] w fun e w' =>
      e = .returned (.tuple #[.int .i64 (certRes N sure may ticks c).1, .int .i64 (certRes N sure may ticks c).2]) ∧ St w [] [] w' := by
  have hti' := hti
  unfold I64 at hti'
  have hto := hc.to
  unfold I64 at hto
  refine enter (C := Tryz.cx) (F := Tryz.fx26) (args := [_, _, _, _, _]) Tryz.func26 rfl rfl rfl Tryz.ok26 (St.start w []) ?_
  have hB := fun (H : HP) (w' : World) (hw' : St w [] H w') => Bounds_any N hN sure may hsu hma ticks hti pn cn bn on qs cs bs os ps ce be oe pm cm bm om w' (h1.keep hw' (by simp)) (h2.keep hw' (by simp)) (h3.keep hw' (by simp)) (h4.keep hw' (by simp)) hce hcm
  by_cases hb : bndErr N sure may ticks = 0
  rotate_left
  · have hr : bndRes N sure may ticks = ([], bndErr N sure may ticks) := by unfold bndRes; rw [if_pos hb]
    have hcr : certRes N sure may ticks c = (0, bndErr N sure may ticks) := by unfold certRes; rw [if_pos hb]
    rw [hr] at hB
    rw [hcr]
    repeat' (conv => whnf); first | (refine VCall.isF 23 ?_; (refine VCall.genR (hB _) ?_; rintro ⟨⟨q, cq⟩, D⟩ ⟨hD, hq⟩; dsimp only)) | (refine VSeq.go ?_) | (refine VB.is ?_; refine VB.yes (by omega) fun _ => ?_) | (refine VB.is ?_; refine VB.no (by omega) fun _ => ?_) | (refine VLd.is ?_; refine VLd.mk (.row aT (by rfl)) ?_) | (refine VNew.mk fun _ => ?_)
    all_goals (conv => whnf)
    all_goals exact ⟨fun w' hw' => ⟨rfl, hw'.le .nil⟩⟩
  have hbe := hb
  unfold bndErr at hbe
  have hfacts : netchk N = 0 ∧ evEr N sure = 0 ∧ evEr N may = 0 ∧ tmE ticks = 0 := by
    split at hbe
    · omega
    · split at hbe
      · omega
      · split at hbe
        · omega
        · omega
  have htm : 0 ≤ ticks ∧ ticks ≤ 10000 := by
    have h := hfacts.2.2.2
    unfold tmE at h
    split at h
    · assumption
    · cases h
  have hNok : NetOk N := netchk_zero.1 hfacts.1
  have hBo := bst_ok hNok.ps sure may ticks.toNat
  have hr : bndRes N sure may ticks = ((bst N sure may ticks.toNat).out, 0) := by unfold bndRes; rw [if_neg (by omega)]
  rw [hr] at hB
  have hcr : certRes N sure may ticks c = if clmErr N.ps.length c ≠ 0 then (0, clmErr N.ps.length c) else if ticks < c.to then (0, 3) else (certV c (bst N sure may ticks.toNat).out, 0) := by unfold certRes; rw [if_neg (by omega)]
  obtain ⟨O, hO⟩ : ∃ O, (bst N sure may ticks.toNat).out = O := ⟨_, rfl⟩
  have hOl : O.length = ticks.toNat := by rw [← hO]; exact hBo.out
  have hOr : ∀ r ∈ O, r.length = N.ps.length := fun r hr => (hBo.row r (by rw [hO]; exact hr)).1
  rw [hO] at hB hcr
  clear hBo hr hbe hfacts
  repeat' (conv => whnf); first | (refine VCall.isF 23 ?_; (refine VCall.genR (hB _) ?_; rintro ⟨⟨q, cq⟩, D⟩ ⟨hD, hq⟩; dsimp only)) | (refine VSeq.is ?_; refine VSeq.isA 2 rfl ?_; refine VSeq.learn (fun w hw => vec_facts (hw (.vec q D.length cq 26 1 (flat drV D)) (by simp))) (fun hfc => ?_)) | (refine VCall.isF 47 ?_; refine VCall.inl (F := Tryz.fx47) Tryz.func47 rfl rfl rfl Tryz.ok47 ?_) | (refine VSeq.go ?_) | (refine VB.is ?_; refine VB.yes (by omega) fun _ => ?_) | (refine VLd.is ?_; refine VLd.mk (.row aT (by rfl)) ?_) | (refine VNew.mk fun _ => ?_)
  all_goals (conv => whnf)
  rename_i b5 b8 b9 _ gf
  dsimp only at hD hq
  have hcq := hfc.1
  have hDl : D.length = ticks.toNat := by rw [← hOl, ← hD, List.length_map]
  have hlD : ∀ d ∈ D, d.l.length = N.ps.length := fun d hd => hOr d.l (by rw [← hD]; exact List.mem_map.2 ⟨d, hd, rfl⟩)
  have hone : oneAll [.slice pn N.ps.length cn, .int .i64 N.inputs, .slice qs N.syns.length cs] = true := rfl
  refine VLoop.mk (α := Nat) (fun i => i ≤ 2 ∧ (1 ≤ i → clmErr N.ps.length c = 0) ∧ (2 ≤ i → c.to ≤ ticks))
    (fun i => [(1000000, .tuple #[]), (2, .int .i64 0), (6, .slice (some ⟨gf, 0, none⟩) 2 2), (7, .int .i64 2), (8, .int .i64 (i : Int))])
    (fun _ => .vec (some ⟨gf, 0, none⟩) 2 2 93 1 [.func (.func 83) #[] #[.pointer (some ⟨b9, 0, none⟩), .pointer (some ⟨b5, 0, none⟩)], .func (.func 85) #[] #[.pointer (some ⟨b9, 0, none⟩), .pointer (some ⟨b8, 0, none⟩)]] ::
      .row b5 25 [.slice pn N.ps.length cn, .int .i64 N.inputs, .slice qs N.syns.length cs] :: .row b8 3 [.int .i64 ticks] :: .row b9 50 (clmV c pc cc) :: .vec q D.length cq 26 1 (flat drV D) :: D.map drowE) (fun i => 2 - i) 0 (by omega) aE aH ?_
  rintro i ⟨hi, f1, f2⟩
  have hi3 : i = 0 ∨ i = 1 ∨ i = 2 := by omega
  rcases hi3 with rfl | rfl | rfl
  · repeat' (conv => whnf); first | (refine VLd.is ?_; refine VLd.mk (.vec aT rfl) ?_) | (refine VCall.isF 83 ?_; refine VCall.inl (F := Tryz.fx83) Tryz.func83 rfl rfl rfl Tryz.ok83 ?_) | (refine VCall.isF 84 ?_; refine VCall.valR (fun w' hw' => vcheck_any c hc (by omega) pc cc bc oc hcc N.ps.length hnl _ _ _ _ hone w' (h5.keep hw' (by simp))) ?_) | (refine VSeq.go ?_) | (refine VB.is ?_; refine VB.yes (by omega) fun _ => ?_) | (refine VB.split (fun _ => ?_) (fun _ => ?_)) | (refine VLd.is ?_; refine VLd.mk (.row aT (by rfl)) ?_) | (refine VAr.is ?_; refine oA ?_) | (refine VIx.is ?_; refine VIx.mk rfl (by omega) (by omega) ?_)
    all_goals (conv => whnf)
    all_goals first
      | exact VNext.mk 1 ⟨by omega, by omega, by omega⟩ (by omega) aE aH
      | (rw [if_pos (by omega)] at hcr
         rw [hcr]
         exact ⟨fun w' hw' => ⟨rfl, hw'.le .nil⟩⟩)
  · repeat' (conv => whnf); first | (refine VLd.is ?_; refine VLd.mk (.vec aT rfl) ?_) | (refine VCall.isF 85 ?_; refine VCall.inl (F := Tryz.fx85) Tryz.func85 rfl rfl rfl Tryz.ok85 ?_) | (refine VCall.isF 86 ?_; refine VCall.inl (F := Tryz.fx86) Tryz.func86 rfl rfl rfl Tryz.ok86 ?_) | (refine VSeq.go ?_) | (refine VB.is ?_; refine VB.yes (by omega) fun _ => ?_) | (refine VB.is ?_; refine VB.no (by omega) fun _ => ?_) | (refine VB.split (fun _ => ?_) (fun _ => ?_)) | (refine VLd.is ?_; refine VLd.mk (.row aT (by rfl)) ?_) | (refine VAr.is ?_; refine oA ?_) | (refine VIx.is ?_; refine VIx.mk rfl (by omega) (by omega) ?_)
    all_goals (conv => whnf)
    all_goals first
      | exact VNext.mk 2 ⟨by omega, by omega, by omega⟩ (by omega) aE aH
      | (rw [if_neg (by omega), if_pos (by omega)] at hcr
         rw [hcr]
         exact ⟨fun w' hw' => ⟨rfl, hw'.le .nil⟩⟩)
  · have hz := f1 (by omega)
    have hto2 := f2 (by omega)
    obtain ⟨g1, g2, ⟨g3, _⟩, g4⟩ := clmErr_zero hz
    rcases g1 with hkd | hkd
    · have hkA : kindA c.kind = kindA 1 := by rw [hkd]
      have hkb : decide (c.kind = 1 ∨ c.kind = 2) = true := decide_eq_true (by omega)
      have hk := kinds_any c.kind
      rw [hkA, hkb] at hk
      have hv : certV c O = certLead c ((O.drop c.frm.toNat).take (c.to.toNat - c.frm.toNat)) := by unfold certV; rw [if_pos hkd]
      rw [hcr, if_neg (by omega), if_neg (by omega), hv]
      repeat' (conv => whnf); first | (refine VCall.isF 87 ?_; refine VCall.val hk ?_) | (refine VCall.isF 147 ?_; (refine VCall.valR (fun w' hw' => by (obtain ⟨b1, hb1⟩ := rowsAt_own (n := N.ps.length) hw' aT (fun d hd => by simp only [List.mem_cons, List.mem_append]; first | exact .inr (.inr (List.mem_map.2 ⟨d, hd, rfl⟩)) | simp [List.mem_map_of_mem hd]) hlD; have h := surelyLeads_any c hc hns g2 pc cc bc oc hcc D q cq b1 0 N.ps.length hcq (by omega) (by omega) g3 w' (h5.keep hw' (by simp)) hb1; rw [hD] at h; exact h)) ?_)) | (refine VSeq.go ?_) | (refine VB.is ?_; refine VB.no (by omega) fun _ => ?_) | (refine VLd.is ?_; refine VLd.mk (.row aT (by rfl)) ?_) | (refine VSt.is ?_; refine VSt.row aT (by rfl) (by first | rfl | assumption) ?_) | (refine VNew.mk fun _ => ?_)
      all_goals (conv => whnf)
      all_goals exact ⟨fun w' hw' => ⟨rfl, hw'.le .nil⟩⟩
    · have hkA : kindA c.kind = kindA 2 := by rw [hkd]
      have hkb : decide (c.kind = 1 ∨ c.kind = 2) = true := decide_eq_true (by omega)
      have hk := kinds_any c.kind
      rw [hkA, hkb] at hk
      have hv : certV c O = certCount c ((O.drop c.frm.toNat).take (c.to.toNat - c.frm.toNat)) := by unfold certV; rw [if_neg (by omega)]
      rw [hcr, if_neg (by omega), if_neg (by omega), hv]
      repeat' (conv => whnf); first | (refine VCall.isF 87 ?_; refine VCall.val hk ?_) | (refine VCall.isF 149 ?_; (refine VCall.valR (fun w' hw' => by (obtain ⟨b1, hb1⟩ := rowsAt_own (n := N.ps.length) hw' aT (fun d hd => by simp only [List.mem_cons, List.mem_append]; first | exact .inr (.inr (List.mem_map.2 ⟨d, hd, rfl⟩)) | simp [List.mem_map_of_mem hd]) hlD; have h := surelyCounts_any c hc hns pc cc bc oc D q cq b1 0 N.ps.length hcq (by omega) (by omega) g3 w' (h5.keep hw' (by simp)) hb1; rw [hD] at h; exact h)) ?_)) | (refine VSeq.go ?_) | (refine VB.is ?_; refine VB.no (by omega) fun _ => ?_) | (refine VLd.is ?_; refine VLd.mk (.row aT (by rfl)) ?_) | (refine VSt.is ?_; refine VSt.row aT (by rfl) (by first | rfl | assumption) ?_) | (refine VNew.mk fun _ => ?_)
      all_goals (conv => whnf)
      all_goals exact ⟨fun w' hw' => ⟨rfl, hw'.le .nil⟩⟩

end Go.Proofs
