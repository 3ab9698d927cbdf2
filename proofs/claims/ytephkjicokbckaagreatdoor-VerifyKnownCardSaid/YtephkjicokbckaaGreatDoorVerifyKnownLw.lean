import Derived.Test.YtephkjicokbckaaGreatDoorVerifyKnownRl
import Derived.Test.YtephkjicokbckaaGreatDoorVerifyKnownCt
import Derived.Test.YtephkjicokbckaaGreatDoorVerifyKnownVr
set_option linter.unusedVariables false

set_option linter.unusedSimpArgs false

namespace Go.Proofs

open Go Go.Vx Go.Gm

theorem vsame_any (l m : List Evt) (hm : ∀ x ∈ m, x.wf) (hl : ∀ x ∈ l, x.wf) (p : Option Addr) (c b o : Nat) (q : Option Addr) (d b2 o2 : Nat) (w : World) (h1 : Sl w evtV 2 l p l.length b o) (h2 : Sl w evtV 2 m q m.length b2 o2) (hsz : l.length < 4611686018427387904) :
    Calls Tryz.prog 21 #[.slice p l.length c, .slice q m.length d] w fun e w' => ∃ r : Bool, e = .returned (.bool r) ∧ (r = true ↔ l = m) ∧ St w [] [] w' := by
  refine enter (C := Tryz.cx) (F := Tryz.fx21) (args := [_, _]) Tryz.func21 rfl rfl rfl Tryz.ok21 (St.start w []) ?_
  repeat' (conv => whnf); first | (refine VSeq.go ?_) | (refine VB.split (fun _ => ?_) (fun _ => ?_))
  all_goals (conv => whnf)
  · exact ⟨fun w' hw' => ⟨_, rfl, ⟨fun h => by simp at h, fun h => by subst h; omega⟩, hw'.le .nil⟩⟩
  refine VLoop.mk (α := Nat) (fun i => i ≤ l.length ∧ l.take i = m.take i)
    (fun i => [(1000000, .tuple #[]), (0, .slice p l.length c), (1, .slice q m.length d), (4, .bool false), (5, .int .i64 (i : Int))])
    (fun _ => []) (fun i => l.length - i) 0 ⟨by omega, rfl⟩ aE aH ?_
  rintro i ⟨hi, ht⟩
  rcases Nat.lt_or_ge i l.length with hlt | hge
  · obtain ⟨x, hx⟩ := h1.get hlt
    obtain ⟨y, hy⟩ := h2.get (i := i) (by omega)
    have hwx := hl x (List.mem_of_getElem? hx)
    have hwy := hm y (List.mem_of_getElem? hy)
    unfold Evt.wf I64 at hwx hwy
    repeat' (conv => whnf); first | (refine VIx.is ?_; refine VIx.mk (h1.ptr (by omega)) (by omega) (by omega) ?_) | (refine VIx.is ?_; refine VIx.mk (h2.ptr (by omega)) (by omega) (by omega) ?_) | (refine VLd.is ?_; refine VLd.mk (h1.rd0 (by simp) (fun _ => rfl) hx rfl) ?_) | (refine VLd.is ?_; refine VLd.mk (h2.rd0 (by simp) (fun _ => rfl) hy rfl) ?_) | (refine VSeq.go ?_) | (refine VB.is ?_; refine VB.yes (by omega) fun _ => ?_) | (refine VB.split (fun _ => ?_) (fun _ => ?_)) | (refine VAr.is ?_; refine oA ?_) | (refine VHs.mk _ (.refl _) ?_)
    all_goals (conv => whnf)
    · have hne : ¬ (x.tick = y.tick ∧ x.id = y.id) := fun h => ‹¬ (x.tick = y.tick ∧ x.id = y.id ∧ True)› ⟨h.1, h.2, trivial⟩
      exact ⟨fun w' hw' => ⟨_, rfl, ⟨fun h => by simp at h, fun h => absurd (by rw [h, hy] at hx; cases hx; exact ⟨rfl, rfl⟩) hne⟩, hw'.le .nil⟩⟩
    · have he : x = y := by
        have h1 : x.tick = y.tick ∧ x.id = y.id := by simp only [and_true] at *; omega
        cases x; cases y; simp only [Evt.mk.injEq]; exact h1
      refine VNext.mk (i + 1) ⟨by omega, ?_⟩ (by omega) aE aH
      rw [List.take_add_one, List.take_add_one, ht, hx, hy, he]
  · repeat' (conv => whnf); first | (refine VSeq.go ?_) | (refine VB.is ?_; refine VB.no (by omega) fun _ => ?_)
    all_goals (conv => whnf)
    refine ⟨fun w' hw' => ⟨_, rfl, ⟨fun _ => ?_, fun _ => rfl⟩, hw'.le .nil⟩⟩
    rw [List.take_of_length_le (by omega), List.take_of_length_le (by omega)] at ht
    exact ht

theorem vsame_call {w0 : World} {M : List Nat} {H r1 r2 : HP} {u1 u2 : Ent → HP} {K : Value → HP → Prop} (l m : List Evt) (hl : ∀ x ∈ l, x.wf) (hm : ∀ x ∈ m, x.wf) (hsz : l.length ≤ 140737488355328) (p q : Option Addr) (n c k d e1 e2 : Nat) (hn : n = l.length) (hk : k = m.length)
    (h1 : At H (.vec p n c e1 2 (flat evtV l)) u1 r1) (h2 : At H (.vec q k d e2 2 (flat evtV m)) u2 r2) (hK : ∀ r : Bool, (r = true ↔ l = m) → K (.bool r) H) :
    VCall Tryz.cx.P w0 M H 21 [.slice p n c, .slice q k d] K := by
  subst hn hk
  refine VCall.genR (v := fun r => .bool r) (p := fun r => (r = true ↔ l = m)) (G := fun _ => []) (fun w' hw' => ?_) hK
  obtain ⟨b1, hb1⟩ := Sl.own hw' (f := evtV) (l := l) (n := l.length) (k := 2) (p := p) h1 (fun _ => rfl) rfl
  obtain ⟨b2, hb2⟩ := Sl.own hw' (f := evtV) (l := m) (n := m.length) (k := 2) (p := q) h2 (fun _ => rfl) rfl
  exact vsame_any l m hm hl _ _ _ _ _ _ _ _ w' hb1 hb2 (by omega)

theorem netE_wfV : netE.wf := by
  refine ⟨?_, ?_, ?_⟩
  · intro p hp
    simp only [netE, List.mem_cons, List.not_mem_nil, or_false, or_self] at hp
    subst hp
    constructor <;> simp [parA, I64]
  · simp [netE, I64]
  · simp [netE, Syn.wf, I64]

theorem evtWfV (l : List (Int × Int)) (h : ∀ x ∈ l, 0 ≤ x.1 ∧ x.1 ≤ 2073741824 ∧ 0 ≤ x.2 ∧ x.2 ≤ 1024) : ∀ e ∈ l.map (fun x => (⟨x.1, x.2⟩ : Evt)), e.wf := by
  intro e he
  obtain ⟨x, hx, rfl⟩ := List.mem_map.1 he
  have := h x hx
  unfold Evt.wf I64
  dsimp only
  omega

def surW : Sur := ⟨[0], [], 1⟩

def momW : List Mom := [⟨[1], []⟩]

def ev0 : List Evt := [⟨0, 0⟩]

def ev2 : List Evt := [⟨2, 0⟩]

def ev5 : List Evt := [⟨5, 0⟩]

def clmW : Clm := ⟨2, [1], 0, 7, 1, 2⟩

theorem rch_W : rchRes netE surW momW 10 = (ev0, 4, true, 0) := by kernel_rfl

theorem cert_W : certRes netE ev0 ev2 7 clmW = (1, 0) := by kernel_rfl

theorem runs_W : runsRes ev5 2 1 = (6, 0) := by kernel_rfl

theorem ev0_wf : ∀ e ∈ ev0, e.wf := evtWfV [(0, 0)] (by simp)

theorem ev2_wf : ∀ e ∈ ev2, e.wf := evtWfV [(2, 0)] (by simp)

theorem ev5_wf : ∀ e ∈ ev5, e.wf := evtWfV [(5, 0)] (by simp)

set_option maxHeartbeats 4000000 in
theorem vworks_any (w : World) (htab : PowTab w) : Calls Tryz.prog 17 #[] w fun e w' => e = .returned (.bool true) ∧ St w [] [] w' := by
  refine enter (C := Tryz.cx) (F := Tryz.fx17) (args := []) Tryz.func17 rfl rfl rfl Tryz.ok17 (St.start w []) ?_
  repeat' (conv => whnf); first | (refine VCall.isF 44 ?_; refine VCall.inl (F := Tryz.fx44) Tryz.func44 rfl rfl rfl Tryz.ok44 ?_) | (refine VCall.isF 112 ?_; refine VCall.inl (F := Tryz.fx112) Tryz.func112 rfl rfl rfl Tryz.ok112 ?_) | (refine VSeq.go ?_) | (refine VLd.is ?_; refine VLd.mk (.row aT (by rfl)) ?_) | (refine VSt.is ?_; refine VSt.row aT (by rfl) (by first | rfl | assumption) ?_) | (refine VNew.mk fun _ => ?_)
  all_goals (conv => whnf)
  rename_i g12 g14 g16
  have hW : rchRes netE surW (([⟨⟨some ⟨g14, 0, none⟩, 1, [1]⟩, ⟨none, 0, []⟩⟩] : List MomD).map (·.mom)) 10 = (ev0, 4, true, 0) := rch_W
  refine VCall.genR (fun w' hw' => vReach_any netE netE_wfV surW (by simp [surW]) (by simp [surW, I64]) [⟨⟨some ⟨g14, 0, none⟩, 1, [1]⟩, ⟨none, 0, []⟩⟩] 10 (by simp [I64]) _ _ _ _ _ _ _ _ _ _ _ _ _ _ 0 0 _ _ _ _ w' (Sl.own' hw' (l := netE.ps) (f := parV) (k := 8) (by repeat (first | exact List.mem_cons_self | apply List.mem_cons_of_mem)) (fun _ => rfl) rfl) (Sl.own' hw' (l := netE.syns) (f := synV) (k := 4) (by repeat (first | exact List.mem_cons_self | apply List.mem_cons_of_mem)) (fun _ => rfl) rfl) (Sl.own' hw' (l := surW.free) (f := intV) (k := 1) (by repeat (first | exact List.mem_cons_self | apply List.mem_cons_of_mem)) (fun _ => rfl) rfl) (Sl.nil (.inl rfl)) (by simp [surW]) (Sl.own' hw' (l := ([⟨⟨some ⟨g14, 0, none⟩, 1, [1]⟩, ⟨none, 0, []⟩⟩] : List MomD)) (f := momV) (k := 2) (by repeat (first | exact List.mem_cons_self | apply List.mem_cons_of_mem)) (fun _ => rfl) rfl) (fun x hx => ?_) (by decide) (Lib.tabBelow_of_tabIs htab w' hw'.below)) ?_
  · rw [List.mem_singleton.1 hx]
    exact ⟨⟨g14, 0, Sl.own' hw' (l := [1]) (f := intV) (k := 1) (by repeat (first | exact List.mem_cons_self | apply List.mem_cons_of_mem)) (fun _ => rfl) rfl⟩, ⟨0, 0, Sl.nil (.inl rfl)⟩, by simp, by simp⟩
  rintro ⟨p1, c1⟩ hp1
  rw [hW]
  dsimp only
  repeat' (conv => whnf); first | (refine VCall.isF 44 ?_; refine VCall.inl (F := Tryz.fx44) Tryz.func44 rfl rfl rfl Tryz.ok44 ?_) | (refine VCall.isF 112 ?_; refine VCall.inl (F := Tryz.fx112) Tryz.func112 rfl rfl rfl Tryz.ok112 ?_) | (refine VNew.mk fun b5 => ?_) | (refine VCall.isF 26 ?_; (refine VCall.valR (fun w' hw' => Certain_any netE netE_wfV ev0 ev2 ev0_wf ev2_wf 7 (by simp [I64]) _ _ _ _ _ _ _ _ _ _ _ _ _ _ _ _ clmW ⟨by simp [clmW, I64], by simp [clmW, I64], by simp [clmW, I64], by simp [clmW, I64], by simp [clmW, I64], by simp [clmW, I64]⟩ (by decide) _ _ _ _ (by decide) (by decide) w' (Sl.own' hw' (l := netE.ps) (f := parV) (k := 8) (by repeat (first | exact List.mem_cons_self | apply List.mem_cons_of_mem)) (fun _ => rfl) rfl) (Sl.own' hw' (l := netE.syns) (f := synV) (k := 4) (by repeat (first | exact List.mem_cons_self | apply List.mem_cons_of_mem)) (fun _ => rfl) rfl) (Sl.own' hw' (l := ev0) (f := evtV) (k := 2) (by repeat (first | exact List.mem_cons_self | apply List.mem_cons_of_mem)) (fun _ => rfl) rfl) (Sl.own' hw' (l := ev2) (f := evtV) (k := 2) (by repeat (first | exact List.mem_cons_self | apply List.mem_cons_of_mem)) (fun _ => rfl) rfl) (by decide) (by decide) (Sl.own' hw' (l := clmW.ns) (f := intV) (k := 1) (by repeat (first | exact List.mem_cons_self | apply List.mem_cons_of_mem)) (fun _ => rfl) rfl)) ?_; rw [cert_W])) | (refine VSeq.is ?_; refine VSeq.isA 4 rfl ?_; refine VSeq.cut (at_ := 4) (α := Unit) (fun _ => True) (fun _ => [(1000000, .tuple #[]), (1, .slice p1 1 c1), (2, .int .i64 4), (3, .bool true), (4, .int .i64 0), (6, .int .i64 1), (7, .int .i64 0)]) (fun _ => [.vec p1 1 c1 64 2 (flat evtV ev0)]) ?_ ?_) | (refine VSeq.go ?_) | (refine VLd.is ?_; refine VLd.mk (.row aT (by rfl)) ?_) | (refine VSt.is ?_; refine VSt.row aT (by rfl) (by first | rfl | assumption) ?_) | (refine VKeep.is ?_; refine VKeep.mk aH ?_) | (refine VHs.mk _ (.refl _) ?_) | (refine And.intro ?_ ?_)
  all_goals (conv => whnf)
  any_goals (exact VMid.mk () trivial aE aH)
  rintro _ _
  repeat' (conv => whnf); first | (refine VCall.isF 28 ?_; (refine VCall.valR (fun w' hw' => Runs_any ev5 ev5_wf 2 1 (by simp [I64]) (by simp [I64]) _ _ _ _ w' (Sl.own' hw' (l := ev5) (f := evtV) (k := 2) (by repeat (first | exact List.mem_cons_self | apply List.mem_cons_of_mem)) (fun _ => rfl) rfl)) ?_; rw [runs_W])) | (refine VCall.isF 21 ?_; (refine vsame_call ev0 ev0 ev0_wf ev0_wf (by decide) _ _ _ _ _ _ _ _ rfl rfl aT aT ?_; intro r hr; have hr := hr.2 rfl; subst hr)) | (refine VSeq.go ?_) | (refine VB.is ?_; refine VB.yes (by omega) fun _ => ?_) | (refine VNew.mk fun _ => ?_)
  all_goals (conv => whnf)
  all_goals exact ⟨fun w' hw' => ⟨rfl, hw'.le .nil⟩⟩

end Go.Proofs
