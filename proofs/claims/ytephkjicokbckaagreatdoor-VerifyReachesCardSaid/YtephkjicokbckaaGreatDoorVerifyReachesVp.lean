import Derived.Test.YtephkjicokbckaaGreatDoorVerifyReachesCv
import Derived.Test.YtephkjicokbckaaGreatDoorVerifyReachesWd
import Derived.Test.YtephkjicokbckaaGreatDoorVerifyReachesVb
section
set_option linter.unusedVariables false

set_option linter.unusedSimpArgs false

namespace Go.Proofs

open Go Go.Vx Go.Gm

def certRes (N : Net) (sure may : List Evt) (ticks : Int) (c : Clm) : Int × Int :=
  if bndErr N sure may ticks ≠ 0 then (0, bndErr N sure may ticks) else if clmErr N.ps.length c ≠ 0 then (0, clmErr N.ps.length c) else if ticks < c.to then (0, 3)
  else (certV c (bst N sure may ticks.toNat).out, 0)

theorem rowsAt_own {w0 w : World} {M : List Nat} {H r : HP} {D : List DRow} {q : Option Addr} {cq n : Nat} {u : Ent → HP} (hs : St w0 M H w) (hat : At H (.vec q D.length cq 26 1 (flat drV D)) u r) (hd : ∀ d ∈ D, drowE d ∈ H) (hn : ∀ d ∈ D, d.l.length = n) :
    ∃ b, RowsAt w D q b 0 n := by
  obtain ⟨b, hb⟩ := Sl.own (f := drV) hs hat (fun _ => rfl) rfl
  exact ⟨b, hb, fun d h => Sl.own' (f := intV) hs (by have := hd d h; unfold drowE at this; exact this) (fun _ => rfl) rfl, hn⟩

set_option maxHeartbeats 4000000 in
theorem Certain_any (N : Net) (hN : N.wf) (sure may : List Evt) (hsu : ∀ x ∈ sure, x.wf) (hma : ∀ x ∈ may, x.wf) (ticks : Int) (hti : I64 ticks) (pn : Option Addr) (cn bn on : Nat) (qs : Option Addr) (cs bs os : Nat) (ps : Option Addr) (ce be oe : Nat) (pm : Option Addr) (cm bm om : Nat)
    (c : Clm) (hc : c.wf) (hns : c.ns.length ≤ 100000) (pc : Option Addr) (cc bc oc : Nat) (hcc : c.ns.length ≤ cc) (hnl : N.ps.length ≤ 1000000000) (w : World)
    (h1 : Sl w parV 8 N.ps pn N.ps.length bn on) (h2 : Sl w synV 4 N.syns qs N.syns.length bs os) (h3 : Sl w evtV 2 sure ps sure.length be oe) (h4 : Sl w evtV 2 may pm may.length bm om) (hce : sure.length ≤ ce) (hcm : may.length ≤ cm) (h5 : Sl w intV 1 c.ns pc c.ns.length bc oc) :
    Calls Tryz.prog 26 #[.agg #[.slice pn N.ps.length cn, .int .i64 N.inputs, .slice qs N.syns.length cs], .slice ps sure.length ce, .slice pm may.length cm, .int .i64 ticks, clmA c pc cc] w fun e w' =>
      e = .returned (.tuple #[.int .i64 (certRes N sure may ticks c).1, .int .i64 (certRes N sure may ticks c).2]) ∧ St w [] [] w' := by
  have hti' := hti
  unfold I64 at hti'
  have hto := hc.to
  unfold I64 at hto
  refine enter (C := Tryz.cx) (F := Tryz.fx26) (args := [_, _, _, _, _]) Tryz.func26 rfl rfl rfl Tryz.ok26 (St.start w []) ?_
  have hB := fun (H : HP) (w' : World) (hw' : St w [] H w') => Bounds_any N hN sure may hsu hma ticks hti pn cn bn on qs cs bs os ps ce be oe pm cm bm om w' (h1.keep hw' (by simp)) (h2.keep hw' (by simp)) (h3.keep hw' (by simp)) (h4.keep hw' (by simp)) hce hcm
  by_cases hb : bndErr N sure may ticks = 0
  rotate_left
  · have hr : bndRes N sure may ticks = ([], bndErr N sure may ticks) := by unfold bndRes; rw [if_pos hb]
    have hcr : certRes N sure may ticks c = (0, bndErr N sure may ticks) := by unfold certRes; rw [if_pos hb]
    rw [hr] at hB
    rw [hcr]
    repeat' (conv => whnf); first | (refine VCall.isF 23 ?_; (refine VCall.genR (hB _) ?_; rintro ⟨⟨q, cq⟩, D⟩ ⟨hD, hq⟩; dsimp only)) | (refine VSeq.go ?_) | (refine VB.is ?_; refine VB.yes (by omega) fun _ => ?_) | (refine VB.is ?_; refine VB.no (by omega) fun _ => ?_) | (refine VLd.is ?_; refine VLd.mk (.row aT (by rfl)) ?_) | (refine VNew.mk fun _ => ?_)
    all_goals (conv => whnf)
    all_goals exact ⟨fun w' hw' => ⟨rfl, hw'.le .nil⟩⟩
  have hbe := hb
  unfold bndErr at hbe
  have hfacts : netchk N = 0 ∧ evEr N sure = 0 ∧ evEr N may = 0 ∧ tmE ticks = 0 := by
    split at hbe
    · omega
    · split at hbe
      · omega
      · split at hbe
        · omega
        · omega
  have htm : 0 ≤ ticks ∧ ticks ≤ 10000 := by
    have h := hfacts.2.2.2
    unfold tmE at h
    split at h
    · assumption
    · cases h
  have hNok : NetOk N := netchk_zero.1 hfacts.1
  have hBo := bst_ok hNok.ps sure may ticks.toNat
  have hr : bndRes N sure may ticks = ((bst N sure may ticks.toNat).out, 0) := by unfold bndRes; rw [if_neg (by omega)]
  rw [hr] at hB
  have hcr : certRes N sure may ticks c = if clmErr N.ps.length c ≠ 0 then (0, clmErr N.ps.length c) else if ticks < c.to then (0, 3) else (certV c (bst N sure may ticks.toNat).out, 0) := by unfold certRes; rw [if_neg (by omega)]
  obtain ⟨O, hO⟩ : ∃ O, (bst N sure may ticks.toNat).out = O := ⟨_, rfl⟩
  have hOl : O.length = ticks.toNat := by rw [← hO]; exact hBo.out
  have hOr : ∀ r ∈ O, r.length = N.ps.length := fun r hr => (hBo.row r (by rw [hO]; exact hr)).1
  rw [hO] at hB hcr
  clear hBo hr hbe hfacts
  repeat' (conv => whnf); first | (refine VCall.isF 23 ?_; (refine VCall.genR (hB _) ?_; rintro ⟨⟨q, cq⟩, D⟩ ⟨hD, hq⟩; dsimp only)) | (refine VSeq.is ?_; refine VSeq.isA 2 rfl ?_; refine VSeq.learn (fun w hw => vec_facts (hw (.vec q D.length cq 26 1 (flat drV D)) (by simp))) (fun hfc => ?_)) | (refine VCall.isF 47 ?_; refine VCall.inl (F := Tryz.fx47) Tryz.func47 rfl rfl rfl Tryz.ok47 ?_) | (refine VSeq.go ?_) | (refine VB.is ?_; refine VB.yes (by omega) fun _ => ?_) | (refine VLd.is ?_; refine VLd.mk (.row aT (by rfl)) ?_) | (refine VNew.mk fun _ => ?_)
  all_goals (conv => whnf)
  rename_i b5 b8 b9 _ gf
  dsimp only at hD hq
  have hcq := hfc.1
  have hDl : D.length = ticks.toNat := by rw [← hOl, ← hD, List.length_map]
  have hlD : ∀ d ∈ D, d.l.length = N.ps.length := fun d hd => hOr d.l (by rw [← hD]; exact List.mem_map.2 ⟨d, hd, rfl⟩)
  have hone : oneAll [.slice pn N.ps.length cn, .int .i64 N.inputs, .slice qs N.syns.length cs] = true := rfl
  refine VLoop.mk (α := Nat) (fun i => i ≤ 2 ∧ (1 ≤ i → clmErr N.ps.length c = 0) ∧ (2 ≤ i → c.to ≤ ticks))
    (fun i => [(1000000, .tuple #[]), (2, .int .i64 0), (6, .slice (some ⟨gf, 0, none⟩) 2 2), (7, .int .i64 2), (8, .int .i64 (i : Int))])
    (fun _ => .vec (some ⟨gf, 0, none⟩) 2 2 93 1 [.func (.func 83) #[] #[.pointer (some ⟨b9, 0, none⟩), .pointer (some ⟨b5, 0, none⟩)], .func (.func 85) #[] #[.pointer (some ⟨b9, 0, none⟩), .pointer (some ⟨b8, 0, none⟩)]] ::
      .row b5 25 [.slice pn N.ps.length cn, .int .i64 N.inputs, .slice qs N.syns.length cs] :: .row b8 3 [.int .i64 ticks] :: .row b9 50 (clmV c pc cc) :: .vec q D.length cq 26 1 (flat drV D) :: D.map drowE) (fun i => 2 - i) 0 (by omega) aE aH ?_
  rintro i ⟨hi, f1, f2⟩
  have hi3 : i = 0 ∨ i = 1 ∨ i = 2 := by omega
  rcases hi3 with rfl | rfl | rfl
  · repeat' (conv => whnf); first | (refine VLd.is ?_; refine VLd.mk (.vec aT rfl) ?_) | (refine VCall.isF 83 ?_; refine VCall.inl (F := Tryz.fx83) Tryz.func83 rfl rfl rfl Tryz.ok83 ?_) | (refine VCall.isF 84 ?_; refine VCall.valR (fun w' hw' => vcheck_any c hc (by omega) pc cc bc oc hcc N.ps.length hnl _ _ _ _ hone w' (h5.keep hw' (by simp))) ?_) | (refine VSeq.go ?_) | (refine VB.is ?_; refine VB.yes (by omega) fun _ => ?_) | (refine VB.split (fun _ => ?_) (fun _ => ?_)) | (refine VLd.is ?_; refine VLd.mk (.row aT (by rfl)) ?_) | (refine VAr.is ?_; refine oA ?_) | (refine VIx.is ?_; refine VIx.mk rfl (by omega) (by omega) ?_)
    all_goals (conv => whnf)
    all_goals first
      | exact VNext.mk 1 ⟨by omega, by omega, by omega⟩ (by omega) aE aH
      | (rw [if_pos (by omega)] at hcr
         rw [hcr]
         exact ⟨fun w' hw' => ⟨rfl, hw'.le .nil⟩⟩)
  · repeat' (conv => whnf); first | (refine VLd.is ?_; refine VLd.mk (.vec aT rfl) ?_) | (refine VCall.isF 85 ?_; refine VCall.inl (F := Tryz.fx85) Tryz.func85 rfl rfl rfl Tryz.ok85 ?_) | (refine VCall.isF 86 ?_; refine VCall.inl (F := Tryz.fx86) Tryz.func86 rfl rfl rfl Tryz.ok86 ?_) | (refine VSeq.go ?_) | (refine VB.is ?_; refine VB.yes (by omega) fun _ => ?_) | (refine VB.is ?_; refine VB.no (by omega) fun _ => ?_) | (refine VB.split (fun _ => ?_) (fun _ => ?_)) | (refine VLd.is ?_; refine VLd.mk (.row aT (by rfl)) ?_) | (refine VAr.is ?_; refine oA ?_) | (refine VIx.is ?_; refine VIx.mk rfl (by omega) (by omega) ?_)
    all_goals (conv => whnf)
    all_goals first
      | exact VNext.mk 2 ⟨by omega, by omega, by omega⟩ (by omega) aE aH
      | (rw [if_neg (by omega), if_pos (by omega)] at hcr
         rw [hcr]
         exact ⟨fun w' hw' => ⟨rfl, hw'.le .nil⟩⟩)
  · have hz := f1 (by omega)
    have hto2 := f2 (by omega)
    obtain ⟨g1, g2, ⟨g3, _⟩, g4⟩ := clmErr_zero hz
    rcases g1 with hkd | hkd
    · have hkA : kindA c.kind = kindA 1 := by rw [hkd]
      have hkb : decide (c.kind = 1 ∨ c.kind = 2) = true := decide_eq_true (by omega)
      have hk := kinds_any c.kind
      rw [hkA, hkb] at hk
      have hv : certV c O = certLead c ((O.drop c.frm.toNat).take (c.to.toNat - c.frm.toNat)) := by unfold certV; rw [if_pos hkd]
      rw [hcr, if_neg (by omega), if_neg (by omega), hv]
      repeat' (conv => whnf); first | (refine VCall.isF 87 ?_; refine VCall.val hk ?_) | (refine VCall.isF 147 ?_; (refine VCall.valR (fun w' hw' => by (obtain ⟨b1, hb1⟩ := rowsAt_own (n := N.ps.length) hw' aT (fun d hd => by simp only [List.mem_cons, List.mem_append]; first | exact .inr (.inr (List.mem_map.2 ⟨d, hd, rfl⟩)) | simp [List.mem_map_of_mem hd]) hlD; have h := surelyLeads_any c hc hns g2 pc cc bc oc hcc D q cq b1 0 N.ps.length hcq (by omega) (by omega) g3 w' (h5.keep hw' (by simp)) hb1; rw [hD] at h; exact h)) ?_)) | (refine VSeq.go ?_) | (refine VB.is ?_; refine VB.no (by omega) fun _ => ?_) | (refine VLd.is ?_; refine VLd.mk (.row aT (by rfl)) ?_) | (refine VSt.is ?_; refine VSt.row aT (by rfl) (by first | rfl | assumption) ?_) | (refine VNew.mk fun _ => ?_)
      all_goals (conv => whnf)
      all_goals exact ⟨fun w' hw' => ⟨rfl, hw'.le .nil⟩⟩
    · have hkA : kindA c.kind = kindA 2 := by rw [hkd]
      have hkb : decide (c.kind = 1 ∨ c.kind = 2) = true := decide_eq_true (by omega)
      have hk := kinds_any c.kind
      rw [hkA, hkb] at hk
      have hv : certV c O = certCount c ((O.drop c.frm.toNat).take (c.to.toNat - c.frm.toNat)) := by unfold certV; rw [if_neg (by omega)]
      rw [hcr, if_neg (by omega), if_neg (by omega), hv]
      repeat' (conv => whnf); first | (refine VCall.isF 87 ?_; refine VCall.val hk ?_) | (refine VCall.isF 149 ?_; (refine VCall.valR (fun w' hw' => by (obtain ⟨b1, hb1⟩ := rowsAt_own (n := N.ps.length) hw' aT (fun d hd => by simp only [List.mem_cons, List.mem_append]; first | exact .inr (.inr (List.mem_map.2 ⟨d, hd, rfl⟩)) | simp [List.mem_map_of_mem hd]) hlD; have h := surelyCounts_any c hc hns pc cc bc oc D q cq b1 0 N.ps.length hcq (by omega) (by omega) g3 w' (h5.keep hw' (by simp)) hb1; rw [hD] at h; exact h)) ?_)) | (refine VSeq.go ?_) | (refine VB.is ?_; refine VB.no (by omega) fun _ => ?_) | (refine VLd.is ?_; refine VLd.mk (.row aT (by rfl)) ?_) | (refine VSt.is ?_; refine VSt.row aT (by rfl) (by first | rfl | assumption) ?_) | (refine VNew.mk fun _ => ?_)
      all_goals (conv => whnf)
      all_goals exact ⟨fun w' hw' => ⟨rfl, hw'.le .nil⟩⟩

end Go.Proofs
end

section
set_option linter.unusedVariables false

set_option linter.unusedSimpArgs false

namespace Go.Gm

def optK (tick : Int) (k : Nat) : List Int := (if 0 ≤ tick - k then [tick - (k : Int)] else []) ++ (if tick + k < 10000 then [tick + (k : Int)] else [])

def opts (tick : Int) : Nat → List Int
  | 0 => [tick]
  | j + 1 => opts tick j ++ optK tick (j + 1)

theorem opts_ok {tick : Int} (h : 0 ≤ tick ∧ tick < 10000) : ∀ j, (∀ t ∈ opts tick j, 0 ≤ t ∧ t < 10000) ∧ 1 ≤ (opts tick j).length ∧ (opts tick j).length ≤ 2 * j + 1
  | 0 => by simp [opts]; exact h
  | j + 1 => by
    obtain ⟨h1, h2, h3⟩ := opts_ok h j
    have hk : (optK tick (j + 1)).length ≤ 2 := by
      unfold optK
      split <;> split <;> simp
    refine ⟨fun t ht => ?_, by simp only [opts, List.length_append]; omega, by simp only [opts, List.length_append]; omega⟩
    simp only [opts, List.mem_append] at ht
    rcases ht with ht | ht
    · exact h1 t ht
    · unfold optK at ht
      simp only [List.mem_append] at ht
      rcases ht with ht | ht
      · split at ht
        · simp only [List.mem_singleton] at ht; omega
        · simp at ht
      · split at ht
        · simp only [List.mem_singleton] at ht; omega
        · simp at ht

def lostN (x : List Int) : Nat := x.countP (fun t => decide (t < 0))

def extR (losses : Nat) (l : List Int) (x : List Int) : List (List Int) := (l.map fun t => x ++ [t]).filter fun y => decide (lostN y ≤ losses)

theorem lostN_snoc (x : List Int) (t : Int) : lostN (x ++ [t]) = lostN x + if t < 0 then 1 else 0 := by
  unfold lostN
  rw [List.countP_append]
  congr 1
  by_cases h : t < 0 <;> simp [h]

def cntR (out : List (List Int)) (i : Nat) : Nat := out.countP fun x => decide (lostN x = i)

theorem extR_cnt {losses : Nat} {o : List Int} (ho : ∀ t ∈ o, 0 ≤ t) (x : List Int) (hx : lostN x ≤ losses) (i : Nat) :
    cntR (extR losses (o ++ [-1]) x) i = (if lostN x = i then o.length else 0) + (if lostN x + 1 = i ∧ i ≤ losses then 1 else 0) := by
  unfold cntR extR
  rw [List.countP_filter, List.countP_map, List.countP_append]
  have e1 : List.countP ((fun a => decide (lostN a = i) && decide (lostN a ≤ losses)) ∘ fun t => x ++ [t]) o = if lostN x = i then o.length else 0 := by
    by_cases hi : lostN x = i
    · rw [if_pos hi, List.countP_eq_length]
      intro t ht
      have := ho t ht
      simp only [Function.comp, lostN_snoc, if_neg (show ¬ t < 0 by omega), Nat.add_zero, Bool.and_eq_true, decide_eq_true_eq]
      exact ⟨hi, hx⟩
    · rw [if_neg hi, List.countP_eq_zero]
      intro t ht
      have := ho t ht
      simp only [Function.comp, lostN_snoc, if_neg (show ¬ t < 0 by omega), Nat.add_zero, Bool.and_eq_true, decide_eq_true_eq]
      exact fun h => hi h.1
  rw [e1]
  congr 1
  simp only [List.countP_cons, List.countP_nil, Function.comp, lostN_snoc, Nat.zero_add, Bool.and_eq_true, decide_eq_true_eq]
  rw [if_pos (show (-1 : Int) < 0 by omega)]
  by_cases h : lostN x + 1 = i ∧ i ≤ losses
  · rw [if_pos h, if_pos ⟨h.1, by omega⟩]
  · rw [if_neg h, if_neg (fun hh => h ⟨hh.1, by omega⟩)]

theorem cnt_flat {losses : Nat} {o : List Int} (ho : ∀ t ∈ o, 0 ≤ t) (i : Nat) : ∀ (out : List (List Int)), (∀ x ∈ out, lostN x ≤ losses) →
    cntR (out.flatMap (extR losses (o ++ [-1]))) i = cntR out i * o.length + (if 1 ≤ i ∧ i ≤ losses then cntR out (i - 1) else 0)
  | [], _ => by simp [cntR]
  | x :: r, h => by
    have ih := cnt_flat ho i r fun y hy => h y (List.mem_cons_of_mem _ hy)
    have hx := extR_cnt ho x (h x List.mem_cons_self) i
    unfold cntR at ih hx ⊢
    rw [List.flatMap_cons, List.countP_append, ih, hx, List.countP_cons, List.countP_cons, Nat.add_mul]
    by_cases h1 : lostN x = i
    · have h2 : ¬ (lostN x + 1 = i ∧ i ≤ losses) := by omega
      have h3 : ¬ lostN x = i - 1 ∨ i = 0 := by omega
      simp only [h1, decide_true, if_true]
      rw [if_neg (by omega)]
      by_cases h4 : 1 ≤ i ∧ i ≤ losses
      · rw [if_pos h4, if_pos h4, if_neg (by simp; omega)]; omega
      · rw [if_neg h4, if_neg h4]; omega
    · simp only [h1, decide_false, Bool.false_eq_true, if_false, Nat.zero_mul, Nat.add_zero, Nat.zero_add]
      by_cases h2 : lostN x + 1 = i ∧ i ≤ losses
      · rw [if_pos h2, if_pos ⟨by omega, h2.2⟩, if_pos ⟨by omega, h2.2⟩, if_pos (by simp; omega)]; omega
      · rw [if_neg h2]
        by_cases h4 : 1 ≤ i ∧ i ≤ losses
        · rw [if_pos h4, if_pos h4, if_neg (by simp; omega)]; omega
        · rw [if_neg h4, if_neg h4]; omega

theorem flat_lost {losses : Nat} {l : List Int} {out : List (List Int)} : ∀ y ∈ out.flatMap (extR losses l), lostN y ≤ losses := by
  intro y hy
  obtain ⟨x, _, hx⟩ := List.mem_flatMap.1 hy
  unfold extR at hx
  simpa using (List.mem_filter.1 hx).2

def nextC (losses stays : Nat) (c : List Nat) : List Nat :=
  (List.range (min c.length losses + 1)).map fun i => (c[i]?.getD 0) * stays + (if 1 ≤ i ∧ i ≤ losses then c[i - 1]?.getD 0 else 0)

structure Counts (losses : Nat) (c : List Nat) (out : List (List Int)) : Prop where
  len : 1 ≤ c.length ∧ c.length ≤ losses + 1
  get : ∀ i, c[i]?.getD 0 = cntR out i
  lost : ∀ x ∈ out, lostN x ≤ losses

theorem Counts.next {losses : Nat} {c : List Nat} {out : List (List Int)} (h : Counts losses c out) {o : List Int} (ho : ∀ t ∈ o, 0 ≤ t) : Counts losses (nextC losses o.length c) (out.flatMap (extR losses (o ++ [-1]))) := by
  obtain ⟨⟨l1, l2⟩, hg, hl⟩ := h
  refine ⟨?_, fun i => ?_, flat_lost⟩
  · unfold nextC
    simp only [List.length_map, List.length_range]
    omega
  · rw [cnt_flat ho i out hl]
    unfold nextC
    by_cases hi : i < min c.length losses + 1
    · rw [List.getElem?_map, List.getElem?_range hi]
      simp only [Option.map_some, Option.getD_some]
      rw [hg i]
      by_cases h1 : 1 ≤ i ∧ i ≤ losses
      · rw [if_pos h1, if_pos h1, hg (i - 1)]
      · rw [if_neg h1, if_neg h1]
    · rw [List.getElem?_eq_none (by simp only [List.length_map, List.length_range]; omega)]
      have e1 : cntR out i = 0 := by
        rw [← hg i, List.getElem?_eq_none (by omega)]; rfl
      rw [e1, Nat.zero_mul]
      by_cases h1 : 1 ≤ i ∧ i ≤ losses
      · rw [if_pos h1, ← hg (i - 1), List.getElem?_eq_none (by omega)]; rfl
      · rw [if_neg h1]; rfl

theorem sum_counts {c : List Nat} {out : List (List Int)} (hg : ∀ i, c[i]?.getD 0 = cntR out i) (hb : ∀ x ∈ out, lostN x < c.length) : c.sum = out.length := by
  have key : ∀ (out : List (List Int)) (n : Nat), (∀ x ∈ out, lostN x < n) → ((List.range n).map (cntR out)).sum = out.length := by
    intro out n
    induction out with
    | nil =>
      intro _
      have : ∀ n, ((List.range n).map (cntR [])).sum = 0 := by
        intro n
        induction n with
        | zero => rfl
        | succ n ih => rw [List.range_succ, List.map_append, List.sum_append, ih]; simp [cntR]
      exact this n
    | cons x r ih =>
      intro h
      have h0 := ih fun y hy => h y (List.mem_cons_of_mem _ hy)
      have hx := h x List.mem_cons_self
      have e : ∀ m, ((List.range m).map (cntR (x :: r))).sum = ((List.range m).map (cntR r)).sum + if lostN x < m then 1 else 0 := by
        intro m
        induction m with
        | zero => simp
        | succ m ihm =>
          rw [List.range_succ, List.map_append, List.sum_append, ihm, List.map_append, List.sum_append]
          have : cntR (x :: r) m = cntR r m + if lostN x = m then 1 else 0 := by
            unfold cntR
            rw [List.countP_cons]
            simp
          simp only [List.map_cons, List.map_nil, List.sum_cons, List.sum_nil, Nat.add_zero, this]
          by_cases h1 : lostN x < m
          · rw [if_pos h1, if_neg (by omega), if_pos (by omega)]; omega
          · by_cases h2 : lostN x = m
            · rw [if_neg h1, if_pos h2, if_pos (by omega)]; omega
            · have h3 : ¬ lostN x < m + 1 := by omega
              simp only [h1, h2, h3, if_false, Nat.add_zero]
      rw [e, h0, if_pos hx, List.length_cons]
  have hc : c = (List.range c.length).map (cntR out) := by
    apply List.ext_getElem?
    intro i
    by_cases hi : i < c.length
    · rw [List.getElem?_map, List.getElem?_range hi, Option.map_some, ← hg i, List.getElem?_eq_getElem hi]; rfl
    · rw [List.getElem?_eq_none (by omega), List.getElem?_eq_none (by simp; omega)]
  rw [hc, key out _ hb]

theorem Counts.sum {losses : Nat} {c : List Nat} {out : List (List Int)} (h : Counts losses c out) : c.sum = out.length := by
  refine sum_counts h.get fun x hx => ?_
  have : 0 < cntR out (lostN x) := List.countP_pos_iff.2 ⟨x, hx, by simp⟩
  rw [← h.get] at this
  rcases Nat.lt_or_ge (lostN x) c.length with h1 | h1
  · exact h1
  · rw [List.getElem?_eq_none h1] at this; cases this

def runsC (losses j : Nat) : List Int → List Nat → Option Nat
  | [], c => some c.sum
  | t :: r, c => if 20000 < (nextC losses (opts t j).length c).sum then none else runsC losses j r (nextC losses (opts t j).length c)

end Go.Gm
end
