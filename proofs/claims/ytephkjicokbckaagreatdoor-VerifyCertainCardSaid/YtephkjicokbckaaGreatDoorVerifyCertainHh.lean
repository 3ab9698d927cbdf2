import Derived.Test.YtephkjicokbckaaGreatDoorVerifyCertainHd
import Derived.Test.YtephkjicokbckaaGreatDoorVerifyCertainNa
import Derived.Test.YtephkjicokbckaaGreatDoorVerifyCertainHc
import Derived.Test.YtephkjicokbckaaGreatDoorVerifyCertainMk
section
set_option linter.unusedVariables false

set_option linter.unusedSimpArgs false

namespace Go.Proofs

open Go Go.Vx Go.Gm

def hldErr (N : Net) (c : Clm) : Int := if netchk N ≠ 0 then netchk N else clmErr N.ps.length c

end Go.Proofs
end

section
set_option linter.unusedVariables false

set_option linter.unusedSimpArgs false

namespace Go.Proofs

open Go Go.Vx Go.Gm

set_option maxHeartbeats 1600000 in
theorem vchk_any (N : Net) (hN : N.wf) (c : Clm) (hc : c.wf) (hns : c.ns.length ≤ 100000) (hnl : N.ps.length ≤ 1000000000) (pn : Option Addr) (cn bn on : Nat) (qs : Option Addr) (cs bs os : Nat) (pc : Option Addr) (cc bc oc : Nat) (hcc : c.ns.length ≤ cc) (w : World)
    (h1 : Sl w parV 8 N.ps pn N.ps.length bn on) (h2 : Sl w synV 4 N.syns qs N.syns.length bs os) (h5 : Sl w intV 1 c.ns pc c.ns.length bc oc) :
    Calls Tryz.prog 39 #[.agg #[.slice pn N.ps.length cn, .int .i64 N.inputs, .slice qs N.syns.length cs], clmA c pc cc] w fun e w' => e = .returned (.int .i64 (hldErr N c)) ∧ St w [] [] w' := by
  have hone : oneAll [.slice pn N.ps.length cn, .int .i64 N.inputs, .slice qs N.syns.length cs] = true := rfl
  refine enter (C := Tryz.cx) (F := Tryz.fx39) (args := [_, _]) Tryz.func39 rfl rfl rfl Tryz.ok39 (St.start w []) ?_
  refine VSeq.go ?_
  repeat' (conv => whnf); first | (refine VNew.mk fun b3 => ?_)
  all_goals (conv => whnf)
  rename_i b2
  repeat' (conv => whnf); first | (refine VCall.isF 47 ?_; refine VCall.inl (F := Tryz.fx47) Tryz.func47 rfl rfl rfl Tryz.ok47 ?_) | (refine VSeq.go ?_) | (refine VNew.mk fun _ => ?_)
  all_goals (conv => whnf)
  rename_i gf
  refine VLoop.mk (α := Nat) (fun i => i ≤ 2 ∧ (1 ≤ i → netchk N = 0) ∧ (2 ≤ i → clmErr N.ps.length c = 0))
    (fun i => [(1000000, .tuple #[]), (2, .int .i64 0), (6, .slice (some ⟨gf, 0, none⟩) 2 2), (7, .int .i64 2), (8, .int .i64 (i : Int))])
    (fun _ => [.vec (some ⟨gf, 0, none⟩) 2 2 93 1 [.func (.func 101) #[] #[.pointer (some ⟨b2, 0, none⟩)], .func (.func 102) #[] #[.pointer (some ⟨b3, 0, none⟩), .pointer (some ⟨b2, 0, none⟩)]],
      .row b2 25 [.slice pn N.ps.length cn, .int .i64 N.inputs, .slice qs N.syns.length cs], .row b3 50 (clmV c pc cc)]) (fun i => 2 - i) 0 (by omega) aE aH ?_
  rintro i ⟨hi, f1, f2⟩
  have hi3 : i = 0 ∨ i = 1 ∨ i = 2 := by omega
  rcases hi3 with rfl | rfl | rfl
  · repeat' (conv => whnf); first | (refine VLd.is ?_; refine VLd.mk (.vec aT rfl) ?_) | (refine VCall.isF 101 ?_; refine VCall.inl (F := Tryz.fx101) Tryz.func101 rfl rfl rfl Tryz.ok101 ?_) | (refine VCall.isF 49 ?_; refine VCall.valR (fun w' hw' => Check_any N hN _ _ _ _ _ _ _ _ _ (h1.keep hw' (by simp)) (h2.keep hw' (by simp))) ?_) | (refine VSeq.go ?_) | (refine VB.is ?_; refine VB.yes (by omega) fun _ => ?_) | (refine VB.split (fun _ => ?_) (fun _ => ?_)) | (refine VLd.is ?_; refine VLd.mk (.row aT (by rfl)) ?_) | (refine VAr.is ?_; refine oA ?_) | (refine VIx.is ?_; refine VIx.mk rfl (by omega) (by omega) ?_)
    all_goals (conv => whnf)
    all_goals first
      | exact VNext.mk 1 (by omega) (by omega) aE aH
      | exact ⟨fun w' hw' => ⟨by unfold hldErr; rw [if_pos (by omega)]; rfl, hw'.le .nil⟩⟩
  · repeat' (conv => whnf); first | (refine VLd.is ?_; refine VLd.mk (.vec aT rfl) ?_) | (refine VCall.isF 102 ?_; refine VCall.inl (F := Tryz.fx102) Tryz.func102 rfl rfl rfl Tryz.ok102 ?_) | (refine VCall.isF 84 ?_; refine VCall.valR (fun w' hw' => vcheck_any c hc (by omega) pc cc bc oc hcc N.ps.length hnl pn cn _ _ hone w' (h5.keep hw' (by simp))) ?_) | (refine VSeq.go ?_) | (refine VB.is ?_; refine VB.yes (by omega) fun _ => ?_) | (refine VB.split (fun _ => ?_) (fun _ => ?_)) | (refine VLd.is ?_; refine VLd.mk (.row aT (by rfl)) ?_) | (refine VAr.is ?_; refine oA ?_) | (refine VIx.is ?_; refine VIx.mk rfl (by omega) (by omega) ?_)
    all_goals (conv => whnf)
    all_goals first
      | exact VNext.mk 2 (by omega) (by omega) aE aH
      | exact ⟨fun w' hw' => ⟨by unfold hldErr; rw [if_neg (by omega)]; rfl, hw'.le .nil⟩⟩
  · have g1 := f1 (by omega)
    have g2 := f2 (by omega)
    repeat' (conv => whnf); first | (refine VSeq.go ?_) | (refine VB.is ?_; refine VB.no (by omega) fun _ => ?_)
    all_goals (conv => whnf)
    exact ⟨fun w' hw' => ⟨by unfold hldErr; rw [if_neg (by omega), g2]; rfl, hw'.le .nil⟩⟩

theorem hldErr_zero {N : Net} {c : Clm} (h : hldErr N c = 0) : netchk N = 0 ∧ clmErr N.ps.length c = 0 := by
  unfold hldErr at h
  split at h
  · contradiction
  · exact ⟨by omega, h⟩

set_option maxHeartbeats 1600000 in
theorem vholds_any (N : Net) (hN : N.wf) (c : Clm) (hc : c.wf) (hns : c.ns.length ≤ 100000) (hnl : N.ps.length ≤ 1000000000) (l : List Evt) (hl : l.length ≤ 65536) (pn : Option Addr) (cn bn on : Nat) (qs : Option Addr) (cs bs os : Nat) (pc : Option Addr) (cc bc oc : Nat) (hcc : c.ns.length ≤ cc) (pe : Option Addr) (ce be oe : Nat) (w : World)
    (h1 : Sl w parV 8 N.ps pn N.ps.length bn on) (h2 : Sl w synV 4 N.syns qs N.syns.length bs os) (h5 : Sl w intV 1 c.ns pc c.ns.length bc oc) (h3 : Sl w evtV 2 l pe l.length be oe) :
    Calls Tryz.prog 37 #[.agg #[.slice pn N.ps.length cn, .int .i64 N.inputs, .slice qs N.syns.length cs], clmA c pc cc, .slice pe l.length ce] w fun e w' => ∃ b : Bool, e = .returned (.tuple #[.bool b, .int .i64 (hldErr N c)]) ∧ (b = true ↔ hldErr N c = 0 ∧ HoldsP c l) ∧ St w [] [] w' := by
  have hchk := fun (w' : World) H (hw' : St w [] H w') => vchk_any N hN c hc hns hnl pn cn bn on qs cs bs os pc cc bc oc hcc w' (h1.keep hw' (by simp)) (h2.keep hw' (by simp)) (h5.keep hw' (by simp))
  refine enter (C := Tryz.cx) (F := Tryz.fx37) (args := [_, _, _]) Tryz.func37 rfl rfl rfl Tryz.ok37 (St.start w []) ?_
  by_cases he : hldErr N c = 0
  rotate_left
  · repeat' (conv => whnf); first | (refine VNew.mk fun b3 => ?_) | (refine VCall.isF 39 ?_; refine VCall.valR (fun w' hw' => hchk w' _ hw') ?_) | (refine VSeq.go ?_) | (refine VB.is ?_; refine VB.yes (by omega) fun _ => ?_) | (refine VLd.is ?_; refine VLd.mk (.row aT (by rfl)) ?_)
    all_goals (conv => whnf)
    exact ⟨fun w' hw' => ⟨false, rfl, ⟨fun h => (by cases h), fun h => absurd h.1 he⟩, hw'.le .nil⟩⟩
  obtain ⟨hkind, hn0, _, _⟩ := clmErr_zero (hldErr_zero he).2
  obtain ⟨one, hone⟩ : ∃ one, c.ns[0]? = some one := ⟨c.ns[0]'(by omega), List.getElem?_eq_getElem _⟩
  rw [he] at hchk ⊢
  rcases hkind with hk1 | hk2
  · have hk := kinds_any c.kind
    have e1 : kindA c.kind = .agg #[.func (.func 146) #[] #[], .func (.func 147) #[] #[]] := by unfold kindA; rw [if_pos hk1]
    have e2 : decide (c.kind = 1 ∨ c.kind = 2) = true := decide_eq_true (.inl hk1)
    rw [e1, e2] at hk
    repeat' (conv => whnf); first | (refine VNew.mk fun b3 => ?_) | (refine VCall.isF 39 ?_; refine VCall.valR (fun w' hw' => hchk w' _ hw') ?_) | (refine VCall.isF 87 ?_; refine VCall.val hk ?_) | (refine VCall.isF 146 ?_; (refine VCall.genR (fun w' hw' => vleads_any c hc (by omega) hone l hl pc cc bc oc pe ce be oe w' (h5.keep hw' (by simp)) (h3.keep hw' (by simp))) ?_; intro b hb)) | (refine VSeq.go ?_) | (refine VB.is ?_; refine VB.no (by omega) fun _ => ?_) | (refine VLd.is ?_; refine VLd.mk (.row aT (by rfl)) ?_) | (refine VSt.is ?_; refine VSt.row aT (by rfl) (by first | rfl | assumption) ?_)
    all_goals (conv => whnf)
    exact ⟨fun w' hw' => ⟨_, rfl, by rw [hb]; unfold HoldsP; rw [if_pos hk1]; exact ⟨fun h => ⟨rfl, h⟩, fun h => h.2⟩, hw'.le .nil⟩⟩
  · have hk := kinds_any c.kind
    have hk1 : ¬ c.kind = 1 := by omega
    have e1 : kindA c.kind = .agg #[.func (.func 148) #[] #[], .func (.func 149) #[] #[]] := by unfold kindA; rw [if_neg hk1, if_pos hk2]
    have e2 : decide (c.kind = 1 ∨ c.kind = 2) = true := decide_eq_true (.inr hk2)
    rw [e1, e2] at hk
    repeat' (conv => whnf); first | (refine VNew.mk fun b3 => ?_) | (refine VCall.isF 39 ?_; refine VCall.valR (fun w' hw' => hchk w' _ hw') ?_) | (refine VCall.isF 87 ?_; refine VCall.val hk ?_) | (refine VCall.isF 148 ?_; (refine VCall.genR (fun w' hw' => vcounts_any c hc (by omega) l hl pc cc bc oc pe ce be oe w' (h5.keep hw' (by simp)) (h3.keep hw' (by simp))) ?_; intro b hb)) | (refine VSeq.go ?_) | (refine VB.is ?_; refine VB.no (by omega) fun _ => ?_) | (refine VLd.is ?_; refine VLd.mk (.row aT (by rfl)) ?_) | (refine VSt.is ?_; refine VSt.row aT (by rfl) (by first | rfl | assumption) ?_)
    all_goals (conv => whnf)
    exact ⟨fun w' hw' => ⟨_, rfl, by rw [hb]; unfold HoldsP; rw [if_neg hk1]; exact ⟨fun h => ⟨rfl, h⟩, fun h => h.2⟩, hw'.le .nil⟩⟩

end Go.Proofs
end
