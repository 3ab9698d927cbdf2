/- Law1: small functions of the laws: same, equal, E, works. -/

import Derived.Test.YtbnipfgbfnhibaaNetKnownDc
import Derived.Test.YtbnipfgbfnhibaaNetKnownNb
import Derived.Test.YtbnipfgbfnhibaaNetKnownGd

set_option linter.unusedVariables false

set_option linter.unusedSimpArgs false

namespace Go.Proofs

open Go Go.Vx Go.Gm

theorem _root_.Go.Vx.VCall.isA {P : Program} {w0 : World} {M : List Nat} {H : HP} {f : Nat} (x : Value) {xs : List Value} {K : Value → HP → Prop} (hh : VCall P w0 M H f (x :: xs) K) : VCall P w0 M H f (x :: xs) K := hh

theorem same_any (l m : List Evt) (hm : ∀ x ∈ m, x.wf) (hl : ∀ x ∈ l, x.wf) (p : Option Addr) (c b o : Nat) (q : Option Addr) (d b2 o2 : Nat) (w : World) (h1 : Sl w evtV 2 l p l.length b o) (h2 : Sl w evtV 2 m q m.length b2 o2) (hsz : l.length < 4611686018427387904) :
    Calls Try.prog 24 #[.slice p l.length c, .slice q m.length d] w fun e w' => ∃ r : Bool, e = .returned (.bool r) ∧ (r = true ↔ l = m) ∧ St w [] [] w' := by
  refine enter (C := Try.cx) (F := Try.fx24) (args := [_, _]) Try.func24 rfl rfl rfl Try.ok24 (St.start w []) ?_
  repeat' (conv => whnf); first | (refine VSeq.is ?_; refine VSeq.go ?_) | (refine VB.is ?_; refine VB.yes (by omega) fun _ => ?_) | (refine VB.is ?_; refine VB.no (by omega) fun _ => ?_) | (refine VB.is ?_; refine VB.split (fun _ => ?_) (fun _ => ?_)) | (refine boolE_split (fun h => ?_) (fun h => ?_) <;> subst h) | (refine VLd.is ?_; refine VLd.mk (.row aT (by rfl)) ?_) | (refine VSt.is ?_; refine VSt.row aT (by rfl) (by first | rfl | assumption) ?_) | (refine VNew.is ?_; refine VNew.mk fun _ => ?_) | (refine VAr.is ?_; refine VAr.i64 (by omega) (by omega) ?_) | (refine VIx.is ?_; refine VIx.mk rfl (by omega) (by omega) ?_) | (refine VKeep.is ?_; refine VKeep.mk aH ?_) | (refine VHs.is ?_; refine VHs.mk _ (HLe.refl _) ?_) | (refine VQ.is ?_; refine VQ.pos (by omega) (by omega) (by omega) ?_) | (refine VM.is ?_; refine VM.pos (by omega) (by omega) ?_) | (refine And.intro ?_ ?_)
  all_goals (conv => whnf)
  · exact ⟨fun w' hw' => ⟨_, rfl, ⟨fun h => by simp at h, fun h => by subst h; omega⟩, hw'.le .nil⟩⟩
  refine VLoop.mk (α := Nat) (fun i => i ≤ l.length ∧ l.take i = m.take i)
    (fun i => [(1000000, .tuple #[]), (0, .slice p l.length c), (1, .slice q m.length d), (4, .bool false), (5, .int .i64 (i : Int))])
    (fun _ => []) (fun i => l.length - i) 0 ⟨by omega, rfl⟩ aE aH ?_
  rintro i ⟨hi, ht⟩
  rcases Nat.lt_or_ge i l.length with hlt | hge
  · obtain ⟨x, hx⟩ := h1.get hlt
    obtain ⟨y, hy⟩ := h2.get (i := i) (by omega)
    have hwx := hl x (List.mem_of_getElem? hx)
    have hwy := hm y (List.mem_of_getElem? hy)
    unfold Evt.wf I64 at hwx hwy
    repeat' (conv => whnf); first | (refine VIx.is ?_; refine VIx.mk (h1.ptr (by omega)) (by omega) (by omega) ?_) | (refine VIx.is ?_; refine VIx.mk (h2.ptr (by omega)) (by omega) (by omega) ?_) | (refine VLd.is ?_; refine VLd.mk (h1.rd0 (by simp) (fun _ => rfl) hx rfl) ?_) | (refine VLd.is ?_; refine VLd.mk (h2.rd0 (by simp) (fun _ => rfl) hy rfl) ?_) | (refine VSeq.is ?_; refine VSeq.go ?_) | (refine VB.is ?_; refine VB.yes (by omega) fun _ => ?_) | (refine VB.is ?_; refine VB.no (by omega) fun _ => ?_) | (refine VB.is ?_; refine VB.split (fun _ => ?_) (fun _ => ?_)) | (refine boolE_split (fun h => ?_) (fun h => ?_) <;> subst h) | (refine VLd.is ?_; refine VLd.mk (.row aT (by rfl)) ?_) | (refine VSt.is ?_; refine VSt.row aT (by rfl) (by first | rfl | assumption) ?_) | (refine VNew.is ?_; refine VNew.mk fun _ => ?_) | (refine VAr.is ?_; refine VAr.i64 (by omega) (by omega) ?_) | (refine VIx.is ?_; refine VIx.mk rfl (by omega) (by omega) ?_) | (refine VKeep.is ?_; refine VKeep.mk aH ?_) | (refine VHs.is ?_; refine VHs.mk _ (HLe.refl _) ?_) | (refine VQ.is ?_; refine VQ.pos (by omega) (by omega) (by omega) ?_) | (refine VM.is ?_; refine VM.pos (by omega) (by omega) ?_) | (refine And.intro ?_ ?_)
    all_goals (conv => whnf)
    · have hne : ¬ (x.tick = y.tick ∧ x.id = y.id) := fun h => ‹¬ (x.tick = y.tick ∧ x.id = y.id ∧ True)› ⟨h.1, h.2, trivial⟩
      exact ⟨fun w' hw' => ⟨_, rfl, ⟨fun h => by simp at h, fun h => absurd (by rw [h, hy] at hx; cases hx; exact ⟨rfl, rfl⟩) hne⟩, hw'.le .nil⟩⟩
    · have he : x = y := by
        have h1 : x.tick = y.tick ∧ x.id = y.id := by simp only [and_true] at *; omega
        cases x; cases y; simp only [Evt.mk.injEq]; exact h1
      refine VNext.mk (i + 1) ⟨by omega, ?_⟩ (by omega) aE aH
      rw [List.take_add_one, List.take_add_one, ht, hx, hy, he]
  · repeat' (conv => whnf); first | (refine VSeq.is ?_; refine VSeq.go ?_) | (refine VB.is ?_; refine VB.yes (by omega) fun _ => ?_) | (refine VB.is ?_; refine VB.no (by omega) fun _ => ?_) | (refine VB.is ?_; refine VB.split (fun _ => ?_) (fun _ => ?_)) | (refine boolE_split (fun h => ?_) (fun h => ?_) <;> subst h) | (refine VLd.is ?_; refine VLd.mk (.row aT (by rfl)) ?_) | (refine VSt.is ?_; refine VSt.row aT (by rfl) (by first | rfl | assumption) ?_) | (refine VNew.is ?_; refine VNew.mk fun _ => ?_) | (refine VAr.is ?_; refine VAr.i64 (by omega) (by omega) ?_) | (refine VIx.is ?_; refine VIx.mk rfl (by omega) (by omega) ?_) | (refine VKeep.is ?_; refine VKeep.mk aH ?_) | (refine VHs.is ?_; refine VHs.mk _ (HLe.refl _) ?_) | (refine VQ.is ?_; refine VQ.pos (by omega) (by omega) (by omega) ?_) | (refine VM.is ?_; refine VM.pos (by omega) (by omega) ?_) | (refine And.intro ?_ ?_)
    all_goals (conv => whnf)
    refine ⟨fun w' hw' => ⟨_, rfl, ⟨fun _ => ?_, fun _ => rfl⟩, hw'.le .nil⟩⟩
    rw [List.take_of_length_le (by omega), List.take_of_length_le (by omega)] at ht
    exact ht

theorem netE_wf : netE.wf := by
  refine ⟨?_, ?_, ?_⟩
  · intro p hp
    simp only [netE, List.mem_cons, List.not_mem_nil, or_false, or_self] at hp
    subst hp
    constructor <;> simp [parA, I64]
  · simp [netE, I64]
  · simp [netE, Syn.wf, I64]

theorem drv_E : drvRes netE evE 1073741824 = (outD, 0) := by
  unfold drvRes
  have h : prepErr netE evE 1073741824 1073741824 = 0 := by kernel_rfl
  have e : (1073741824 : Int).toNat = 1073741824 := rfl
  rw [h, e, outTo_E]
  rfl

theorem evtWf (l : List (Int × Int)) (h : ∀ x ∈ l, 0 ≤ x.1 ∧ x.1 ≤ 2073741824 ∧ 0 ≤ x.2 ∧ x.2 ≤ 1024) : ∀ e ∈ l.map (fun x => (⟨x.1, x.2⟩ : Evt)), e.wf := by
  intro e he
  obtain ⟨x, hx, rfl⟩ := List.mem_map.1 he
  have := h x hx
  unfold Evt.wf I64
  dsimp only
  omega

theorem evR_wf : ∀ e ∈ evR, e.wf := evtWf [(0, 0), (2, 0)] (by simp)

theorem evE_wf : ∀ e ∈ evE, e.wf := evtWf [(1000000000, 0)] (by simp)

theorem outR_wf : ∀ e ∈ outR, e.wf := evtWf [(1, 0), (3, 0), (4, 1), (6, 1)] (by simp)

theorem outD_wf : ∀ e ∈ outD, e.wf := evtWf [(1000000001, 0), (1000000004, 1)] (by simp)

theorem works_any (w : World) : Calls Try.prog 18 #[] w fun e w' => e = .returned (.bool true) ∧ St w [] [] w' := by
  refine enter (C := Try.cx) (F := Try.fx18) (args := []) Try.func18 rfl rfl rfl Try.ok18 (St.start w []) ?_
  repeat' (conv => whnf); first | (refine VCall.isF 51 ?_; refine VCall.inl (F := Try.fx51) Try.func51 rfl rfl rfl Try.ok51 ?_) | (refine VCall.isF 93 ?_; refine VCall.inl (F := Try.fx93) Try.func93 rfl rfl rfl Try.ok93 ?_) | (refine VCall.isF 22 ?_; (refine VCall.genR (fun w' hw' => Run_any netE netE_wf evR evR_wf 10 _ _ _ _ _ _ _ _ _ _ _ _ w' (Sl.own' hw' (l := netE.ps) (f := parV) (k := 8) (by first | exact List.mem_cons_self | exact List.mem_cons_of_mem _ List.mem_cons_self | exact List.mem_cons_of_mem _ (List.mem_cons_of_mem _ List.mem_cons_self) | exact List.mem_cons_of_mem _ (List.mem_cons_of_mem _ (List.mem_cons_of_mem _ List.mem_cons_self)) | exact List.mem_cons_of_mem _ (List.mem_cons_of_mem _ (List.mem_cons_of_mem _ (List.mem_cons_of_mem _ List.mem_cons_self)))) (fun _ => rfl) rfl) (Sl.own' hw' (l := netE.syns) (f := synV) (k := 4) (by first | exact List.mem_cons_self | exact List.mem_cons_of_mem _ List.mem_cons_self | exact List.mem_cons_of_mem _ (List.mem_cons_of_mem _ List.mem_cons_self) | exact List.mem_cons_of_mem _ (List.mem_cons_of_mem _ (List.mem_cons_of_mem _ List.mem_cons_self)) | exact List.mem_cons_of_mem _ (List.mem_cons_of_mem _ (List.mem_cons_of_mem _ (List.mem_cons_of_mem _ List.mem_cons_self)))) (fun _ => rfl) rfl) (Sl.own' hw' (l := evR) (f := evtV) (k := 2) (by first | exact List.mem_cons_self | exact List.mem_cons_of_mem _ List.mem_cons_self | exact List.mem_cons_of_mem _ (List.mem_cons_of_mem _ List.mem_cons_self) | exact List.mem_cons_of_mem _ (List.mem_cons_of_mem _ (List.mem_cons_of_mem _ List.mem_cons_self)) | exact List.mem_cons_of_mem _ (List.mem_cons_of_mem _ (List.mem_cons_of_mem _ (List.mem_cons_of_mem _ List.mem_cons_self)))) (fun _ => rfl) rfl) (by decide)) ?_; rintro ⟨p1, c1⟩ _; rw [run_E]; dsimp only)) | (refine VCall.isF 26 ?_; (refine VCall.genR (fun w' hw' => Driven_any netE netE_wf evE evE_wf 1073741824 _ _ _ _ _ _ _ _ _ _ _ _ w' (Sl.own' hw' (l := netE.ps) (f := parV) (k := 8) (by first | exact List.mem_cons_self | exact List.mem_cons_of_mem _ List.mem_cons_self | exact List.mem_cons_of_mem _ (List.mem_cons_of_mem _ List.mem_cons_self) | exact List.mem_cons_of_mem _ (List.mem_cons_of_mem _ (List.mem_cons_of_mem _ List.mem_cons_self)) | exact List.mem_cons_of_mem _ (List.mem_cons_of_mem _ (List.mem_cons_of_mem _ (List.mem_cons_of_mem _ List.mem_cons_self)))) (fun _ => rfl) rfl) (Sl.own' hw' (l := netE.syns) (f := synV) (k := 4) (by first | exact List.mem_cons_self | exact List.mem_cons_of_mem _ List.mem_cons_self | exact List.mem_cons_of_mem _ (List.mem_cons_of_mem _ List.mem_cons_self) | exact List.mem_cons_of_mem _ (List.mem_cons_of_mem _ (List.mem_cons_of_mem _ List.mem_cons_self)) | exact List.mem_cons_of_mem _ (List.mem_cons_of_mem _ (List.mem_cons_of_mem _ (List.mem_cons_of_mem _ List.mem_cons_self)))) (fun _ => rfl) rfl) (Sl.own' hw' (l := evE) (f := evtV) (k := 2) (by first | exact List.mem_cons_self | exact List.mem_cons_of_mem _ List.mem_cons_self | exact List.mem_cons_of_mem _ (List.mem_cons_of_mem _ List.mem_cons_self) | exact List.mem_cons_of_mem _ (List.mem_cons_of_mem _ (List.mem_cons_of_mem _ List.mem_cons_self)) | exact List.mem_cons_of_mem _ (List.mem_cons_of_mem _ (List.mem_cons_of_mem _ (List.mem_cons_of_mem _ List.mem_cons_self)))) (fun _ => rfl) rfl) (by decide)) ?_; rintro ⟨p2, c2⟩ _; rw [drv_E]; dsimp only)) | (refine VCall.is ?_; refine VCall.isF 24 ?_; refine VCall.isA (.slice p1 outR.length c1) ?_; refine VCall.genR (v := fun r => .bool r) (p := fun r => (r = true ↔ outR = outR)) (G := fun _ => []) (fun w' hw' => by obtain ⟨b1, hb1⟩ := Sl.own hw' (f := evtV) (l := outR) (n := outR.length) (k := 2) (p := p1) aT (fun _ => rfl) rfl; exact same_any outR outR outR_wf outR_wf _ _ _ _ _ _ _ _ w' hb1 (Sl.own' hw' (l := outR) (f := evtV) (k := 2) (by first | exact List.mem_cons_self | exact List.mem_cons_of_mem _ List.mem_cons_self | exact List.mem_cons_of_mem _ (List.mem_cons_of_mem _ List.mem_cons_self) | exact List.mem_cons_of_mem _ (List.mem_cons_of_mem _ (List.mem_cons_of_mem _ List.mem_cons_self)) | exact List.mem_cons_of_mem _ (List.mem_cons_of_mem _ (List.mem_cons_of_mem _ (List.mem_cons_of_mem _ List.mem_cons_self)))) (fun _ => rfl) rfl) (by decide)) ?_; intro r hr; have hr := hr.2 rfl; subst hr) | (refine VCall.is ?_; refine VCall.isF 24 ?_; refine VCall.isA (.slice p2 outD.length c2) ?_; refine VCall.genR (v := fun r => .bool r) (p := fun r => (r = true ↔ outD = outD)) (G := fun _ => []) (fun w' hw' => by obtain ⟨b1, hb1⟩ := Sl.own hw' (f := evtV) (l := outD) (n := outD.length) (k := 2) (p := p2) aT (fun _ => rfl) rfl; exact same_any outD outD outD_wf outD_wf _ _ _ _ _ _ _ _ w' hb1 (Sl.own' hw' (l := outD) (f := evtV) (k := 2) (by first | exact List.mem_cons_self | exact List.mem_cons_of_mem _ List.mem_cons_self | exact List.mem_cons_of_mem _ (List.mem_cons_of_mem _ List.mem_cons_self) | exact List.mem_cons_of_mem _ (List.mem_cons_of_mem _ (List.mem_cons_of_mem _ List.mem_cons_self)) | exact List.mem_cons_of_mem _ (List.mem_cons_of_mem _ (List.mem_cons_of_mem _ (List.mem_cons_of_mem _ List.mem_cons_self)))) (fun _ => rfl) rfl) (by decide)) ?_; intro r hr; have hr := hr.2 rfl; subst hr) | (refine VSeq.is ?_; refine VSeq.go ?_) | (refine VB.is ?_; refine VB.yes (by omega) fun _ => ?_) | (refine VB.is ?_; refine VB.no (by omega) fun _ => ?_) | (refine VB.is ?_; refine VB.split (fun _ => ?_) (fun _ => ?_)) | (refine boolE_split (fun h => ?_) (fun h => ?_) <;> subst h) | (refine VLd.is ?_; refine VLd.mk (.row aT (by rfl)) ?_) | (refine VSt.is ?_; refine VSt.row aT (by rfl) (by first | rfl | assumption) ?_) | (refine VNew.is ?_; refine VNew.mk fun _ => ?_) | (refine VAr.is ?_; refine VAr.i64 (by omega) (by omega) ?_) | (refine VIx.is ?_; refine VIx.mk rfl (by omega) (by omega) ?_) | (refine VKeep.is ?_; refine VKeep.mk aH ?_) | (refine VHs.is ?_; refine VHs.mk _ (HLe.refl _) ?_) | (refine VQ.is ?_; refine VQ.pos (by omega) (by omega) (by omega) ?_) | (refine VM.is ?_; refine VM.pos (by omega) (by omega) ?_) | (refine And.intro ?_ ?_)
  all_goals (conv => whnf)
  exact ⟨fun w' hw' => ⟨rfl, hw'.le .nil⟩⟩

end Go.Proofs
