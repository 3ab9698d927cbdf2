/- Law6: NetSame, walked. -/
import Derived.Test.YtbnipfgbfnhibaaLaw3
import Derived.Test.YtbnipfgbfnhibaaSo
set_option linter.unusedVariables false
set_option linter.unusedSimpArgs false
namespace Go.Proofs
open Go Go.Vx Go.Gm

theorem _root_.Go.Gm.NetOk.wf {N : Net} (h : NetOk N) : N.wf := by
  refine ⟨fun p hp => (h.ps p hp).wf, ?_, fun s hs => ?_⟩
  · have := h.inputs; unfold I64; omega
  · have h1 := h.syns s hs
    have h2 := h.inputs
    have h3 := h.few
    unfold synOk srcOk at h1
    unfold Syn.wf I64
    omega

theorem renOk_of {N : Net} {to : List Int} (h : (renRes N to).2 = 0) : RenOk N to ∧ renRes N to = (renNet N to, 0) := by
  unfold renRes at h
  by_cases he : renErr N to ≠ 0
  · rw [if_pos he] at h; exact absurd h he
  · have h0 : renErr N to = 0 := by omega
    have hz : netchk N = 0 := by unfold renErr at h0; split at h0 <;> omega
    have hp : permErr N.ps.length to = 0 := by unfold renErr at h0; rw [if_neg (by omega)] at h0; exact h0
    obtain ⟨a, b, c⟩ := perm_ok hp
    exact ⟨⟨netchk_zero.1 hz, c, a, b⟩, ren_ok hz hp⟩

theorem renEvt_take {to : List Int} {l : List Evt} {i : Nat} {e : Evt} (h : l[i]? = some e) : (l.take (i + 1)).map (renEvt to) = (l.take i).map (renEvt to) ++ [⟨e.tick, toAt to e.id⟩] := by
  rw [List.take_add_one, h, Option.toList_some, List.map_append]
  rfl

/-- A list of our own, sorted. -/
theorem sorted_call {w0 : World} {M : List Nat} {H r1 : HP} {u1 : Ent → HP} {K : Value → HP → Prop} (l : List Evt) (hl : ∀ x ∈ l, x.wf) (hlen : l.length ≤ 1000000) (p : Option Addr) (n c e1 : Nat) (hn : n = l.length)
    (h1 : At H (.vec p n c e1 2 (flat evtV l)) u1 r1) (hK : ∀ q d, K (.slice q (insSort l).length d) (.vec q (insSort l).length d 44 2 (flat evtV (insSort l)) :: H)) :
    VCall Try.cx.P w0 M H 31 [.slice p n c] K := by
  subst hn
  refine VCall.genR (α := Option Addr × Nat) (v := fun y => .slice y.1 (insSort l).length y.2) (p := fun _ => True) (G := fun y => [.vec y.1 (insSort l).length y.2 44 2 (flat evtV (insSort l))]) (fun w' hw' => ?_) (fun y _ => hK y.1 y.2)
  obtain ⟨b1, hb1⟩ := Sl.own hw' (f := evtV) (l := l) (n := l.length) (k := 2) (p := p) h1 (fun _ => rfl) rfl
  exact sorted_any l hl hlen _ _ _ _ w' hb1

theorem NetSame_any (N : Net) (hN : N.wf) (to : List Int) (hto : ∀ k ∈ to, I64 k) (l : List Evt) (hl : ∀ x ∈ l, x.wf) (ticks : Int) (pn : Option Addr) (cn bn on : Nat) (qs : Option Addr) (cs bs os : Nat) (pt : Option Addr) (ct bt ot : Nat) (pe : Option Addr) (ce be oe : Nat) (w : World)
    (h1 : Sl w parV 8 N.ps pn N.ps.length bn on) (h2 : Sl w synV 4 N.syns qs N.syns.length bs os) (h4 : Sl w intV 1 to pt to.length bt ot) (hct : to.length ≤ ct) (h3 : Sl w evtV 2 l pe l.length be oe) (hce : l.length ≤ ce) :
    Calls Try.prog 8 #[.agg #[.slice pn N.ps.length cn, .int .i64 N.inputs, .slice qs N.syns.length cs], .slice pt to.length ct, .slice pe l.length ce, .int .i64 ticks] w fun e w' => e = .returned (.bool true) ∧ St w [] [] w' := by
  obtain ⟨hr1, hr2⟩ := runRes_ok N l ticks
  refine enter (C := Try.cx) (F := Try.fx8) (args := [_, _, _, _]) Try.func8 rfl rfl rfl Try.ok8 (St.start w []) ?_
  repeat' (conv => whnf); first | (refine VNew.is ?_; refine VNew.mk fun b4 => ?_) | (refine VCall.isF 27 ?_; (refine VCall.genR (fun w' hw' => run_any N hN l hl ticks _ _ _ _ _ _ _ _ _ _ _ _ w' (h1.keep hw' (by simp)) (h2.keep hw' (by simp)) (h3.keep hw' (by simp)) hce) ?_; rintro ⟨p1, c1, b⟩ hb; dsimp only at hb)) | (refine VCall.isF 28 ?_; (refine VCall.genR (fun w' hw' => Renumber_any N hN to hto _ _ _ _ _ _ _ _ _ _ _ _ w' (h1.keep hw' (by simp)) (h2.keep hw' (by simp)) (h4.keep hw' (by simp))) ?_; rintro ⟨⟨p2, c2⟩, q2, d2⟩ _)) | (refine VCall.isF 18 ?_; refine VCall.val (fun w' => works_any _) ?_) | (refine VSeq.is ?_; refine VSeq.go ?_) | (refine VB.is ?_; refine VB.yes (by omega) fun _ => ?_) | (refine VB.is ?_; refine VB.no (by omega) fun _ => ?_) | (refine VB.is ?_; refine VB.split (fun _ => ?_) (fun _ => ?_)) | (refine boolE_split (fun h => ?_) (fun h => ?_) <;> subst h) | (refine VLd.is ?_; refine VLd.mk (.row (by repeat (first | exact aT0 | apply aT1 | with_reducible apply aT2 | with_reducible apply aT3)) (by rfl)) ?_) | (refine VSt.is ?_; refine VSt.row (by repeat (first | exact aT0 | apply aT1 | with_reducible apply aT2 | with_reducible apply aT3)) (by rfl) (by first | rfl | assumption) ?_) | (refine VNew.is ?_; refine VNew.mk fun _ => ?_) | (refine VAr.is ?_; refine VAr.i64 (by omega) (by omega) ?_) | (refine VIx.is ?_; refine VIx.mk rfl (by omega) (by omega) ?_) | (refine VKeep.is ?_; refine VKeep.mk (by repeat (first | exact HLe.nil | exact HLe.refl _ | refine HLe.nilv ?_ | (with_reducible refine HLe.seg ?_ ?_; (focus (repeat (first | with_reducible exact sT0 | with_reducible exact sT1 | exact sT2 | apply sT3 | with_reducible apply sT4 | with_reducible apply sT5)))) | refine HLe.cons (by repeat (first | exact aT0 | apply aT1 | with_reducible apply aT2 | with_reducible apply aT3)) ?_ | refine HLe.seg (by repeat (first | with_reducible exact sT0 | with_reducible exact sT1 | exact sT2 | apply sT3 | with_reducible apply sT4 | with_reducible apply sT5)) ?_ | exact HLe.last (by repeat (first | with_reducible exact sT0 | with_reducible exact sT1 | exact sT2 | apply sT3 | with_reducible apply sT4 | with_reducible apply sT5)))) ?_) | (refine VHs.is ?_; refine VHs.mk _ (HLe.refl _) ?_) | (refine VQ.is ?_; refine VQ.pos (by omega) (by omega) (by omega) ?_) | (refine VM.is ?_; refine VM.pos (by omega) (by omega) ?_) | (refine And.intro ?_ ?_)
  all_goals (conv => whnf)
  all_goals first
    | exact ⟨fun w' hw' => ⟨rfl, hw'.le .nil⟩⟩
    | skip
  obtain ⟨hb, hp1⟩ := hb
  obtain ⟨hres0, hl300, ht0, ht1⟩ := hb rfl
  obtain ⟨hRk, hRe⟩ := renOk_of (N := N) (to := to) (by omega)
  have hruns := ren_runs (l := l) (ticks := ticks) hRk hres0
  have hMok := renNet_ok hRk
  have hMw := hMok.wf
  have h0 : prepErr N l ticks 10000 = 0 := by
    unfold runRes at hres0
    by_cases hp : prepErr N l ticks 10000 = 0
    · exact hp
    · rw [if_pos hp] at hres0; exact absurd hres0 hp
  have hNok := hRk.net
  have hfew := hNok.few
  have htl := hRk.len
  obtain ⟨m, hm⟩ : ∃ m, (runRes N l ticks).1 = m := ⟨_, rfl⟩
  have hmr : ∀ e ∈ m, (0 ≤ e.tick ∧ e.tick < ticks) ∧ (0 ≤ e.id ∧ e.id < N.ps.length) := by
    rw [← hm, runRes_eq h0]
    split
    · simp
    · have := outTo_range hNok l ticks.toNat
      rw [show (ticks.toNat : Int) = ticks by omega] at this
      exact this
  have hrl : runL N l ticks true = m := hm
  rw [hm] at hr1 hr2 hruns
  rw [hrl] at hp1
  obtain ⟨M, hM⟩ : ∃ M, renNet N to = M := ⟨_, rfl⟩
  dsimp only
  rw [hrl, hRe]
  rw [hM] at hruns hMok hMw ⊢
  dsimp only at hp1 ⊢
  repeat' (conv => whnf); first | (refine VCall.isF 22 ?_; (refine VCall.genR (fun w' hw' => by obtain ⟨g1, e1⟩ := Sl.own hw' (f := parV) (l := M.ps) (n := M.ps.length) (k := 8) (p := p2) (by repeat (first | exact aT0 | apply aT1 | with_reducible apply aT2 | with_reducible apply aT3)) (fun _ => rfl) rfl; obtain ⟨g2, e2⟩ := Sl.own hw' (f := synV) (l := M.syns) (n := M.syns.length) (k := 4) (p := q2) (by repeat (first | exact aT0 | apply aT1 | with_reducible apply aT2 | with_reducible apply aT3)) (fun _ => rfl) rfl; exact Run_any M hMw l hl ticks _ _ _ _ _ _ _ _ _ _ _ _ w' e1 e2 (h3.keep hw' (by simp)) hce) ?_; rintro ⟨p4, c4⟩ _; rw [hruns]; dsimp only)) | (refine VSeq.is ?_; refine VSeq.go ?_) | (refine VB.is ?_; refine VB.yes (by omega) fun _ => ?_) | (refine VB.is ?_; refine VB.no (by omega) fun _ => ?_) | (refine VB.is ?_; refine VB.split (fun _ => ?_) (fun _ => ?_)) | (refine boolE_split (fun h => ?_) (fun h => ?_) <;> subst h) | (refine VLd.is ?_; refine VLd.mk (.row (by repeat (first | exact aT0 | apply aT1 | with_reducible apply aT2 | with_reducible apply aT3)) (by rfl)) ?_) | (refine VSt.is ?_; refine VSt.row (by repeat (first | exact aT0 | apply aT1 | with_reducible apply aT2 | with_reducible apply aT3)) (by rfl) (by first | rfl | assumption) ?_) | (refine VNew.is ?_; refine VNew.mk fun _ => ?_) | (refine VAr.is ?_; refine VAr.i64 (by omega) (by omega) ?_) | (refine VIx.is ?_; refine VIx.mk rfl (by omega) (by omega) ?_) | (refine VKeep.is ?_; refine VKeep.mk (by repeat (first | exact HLe.nil | exact HLe.refl _ | refine HLe.nilv ?_ | (with_reducible refine HLe.seg ?_ ?_; (focus (repeat (first | with_reducible exact sT0 | with_reducible exact sT1 | exact sT2 | apply sT3 | with_reducible apply sT4 | with_reducible apply sT5)))) | refine HLe.cons (by repeat (first | exact aT0 | apply aT1 | with_reducible apply aT2 | with_reducible apply aT3)) ?_ | refine HLe.seg (by repeat (first | with_reducible exact sT0 | with_reducible exact sT1 | exact sT2 | apply sT3 | with_reducible apply sT4 | with_reducible apply sT5)) ?_ | exact HLe.last (by repeat (first | with_reducible exact sT0 | with_reducible exact sT1 | exact sT2 | apply sT3 | with_reducible apply sT4 | with_reducible apply sT5)))) ?_) | (refine VHs.is ?_; refine VHs.mk _ (HLe.refl _) ?_) | (refine VQ.is ?_; refine VQ.pos (by omega) (by omega) (by omega) ?_) | (refine VM.is ?_; refine VM.pos (by omega) (by omega) ?_) | (refine And.intro ?_ ?_)
  all_goals (conv => whnf)
  have hwl : (m.map (renEvt to)).length = m.length := List.length_map _
  have hsl : (insSort (m.map (renEvt to))).length = m.length := by rw [insSort_length, hwl]
  refine VLoop.kr (α := Nat × Option Addr × Nat) [1000000, 1, 8, 9, 12, 13] rfl (fun y => y.1 ≤ m.length) (fun y K => (15, .int .i64 (y.1 : Int)) :: (14, .slice y.2.1 y.1 y.2.2) :: K)
    (fun y => [.vec y.2.1 y.1 y.2.2 44 2 (flat evtV ((m.take y.1).map (renEvt to))), .vec p4 (insSort (m.map (renEvt to))).length c4 44 2 (flat evtV (insSort (m.map (renEvt to)))), .vec p1 m.length c1 44 2 (flat evtV m)]) (fun y => m.length - y.1) (0, none, 0) (by simp) (by repeat (first | exact trivial | refine ⟨rfl, ?_⟩)) (by repeat (first | exact HLe.nil | exact HLe.refl _ | refine HLe.nilv ?_ | (with_reducible refine HLe.seg ?_ ?_; (focus (repeat (first | with_reducible exact sT0 | with_reducible exact sT1 | exact sT2 | apply sT3 | with_reducible apply sT4 | with_reducible apply sT5)))) | refine HLe.cons (by repeat (first | exact aT0 | apply aT1 | with_reducible apply aT2 | with_reducible apply aT3)) ?_ | refine HLe.seg (by repeat (first | with_reducible exact sT0 | with_reducible exact sT1 | exact sT2 | apply sT3 | with_reducible apply sT4 | with_reducible apply sT5)) ?_ | exact HLe.last (by repeat (first | with_reducible exact sT0 | with_reducible exact sT1 | exact sT2 | apply sT3 | with_reducible apply sT4 | with_reducible apply sT5)))) ?_
  rintro ⟨j, p3, c3⟩ hj
  dsimp only at hj ⊢
  rcases Nat.lt_or_ge j m.length with hltj | hgej
  · obtain ⟨e, he⟩ : ∃ e, m[j]? = some e := ⟨m[j], List.getElem?_eq_getElem _⟩
    have her := hmr e (List.mem_of_getElem? he)
    obtain ⟨g1, hg1⟩ := hp1 (by omega)
    subst hg1
    obtain ⟨u, hu, _⟩ := hRk.get (i := e.id.toNat) (by omega)
    have hu' : toAt to e.id = u := by unfold toAt; rw [hu]; rfl
    repeat' (conv => whnf); first | (refine VIx.is ?_; refine VIx.mk rfl (by omega) (by omega) ?_) | (refine VIx.is ?_; refine VIx.mk (h4.ptr (by omega)) (by omega) (by omega) ?_) | (refine VLd.is ?_; refine VLd.mk (Rd.cast (h4.rd0 (by simp) (fun _ => rfl) hu rfl) (by first | omega | (dsimp only; omega) | rfl)) ?_) | (refine VLd.is ?_; refine VLd.mk (Rd.cast (.vec (by repeat (first | exact aT0 | apply aT1 | with_reducible apply aT2 | with_reducible apply aT3)) (sub_flat (f := evtV) (k := 2) (o := 0) (s := 1) (fun _ => rfl) he rfl)) (by first | omega | (dsimp only; omega) | rfl)) ?_) | (refine VLd.is ?_; refine VLd.mk (Rd.cast (.vec (by repeat (first | exact aT0 | apply aT1 | with_reducible apply aT2 | with_reducible apply aT3)) (sub_flat (f := evtV) (k := 2) (o := 1) (s := 1) (fun _ => rfl) he rfl)) (by first | omega | (dsimp only; omega) | rfl)) ?_) | (refine VAp.is ?_; refine VAp.own (p := p3) (by repeat (first | exact aT0 | apply aT1 | with_reducible apply aT2 | with_reducible apply aT3)) (.at_ (.vec (by repeat (first | exact aT0 | apply aT1 | with_reducible apply aT2 | with_reducible apply aT3)) rfl)) (by simp [Value.oneCell']) (by (try dsimp only); omega) (by simp only [maxLen]; omega) fun p' cap' hp' => ?_) | (refine VSeq.is ?_; refine VSeq.go ?_) | (refine VB.is ?_; refine VB.yes (by omega) fun _ => ?_) | (refine VB.is ?_; refine VB.no (by omega) fun _ => ?_) | (refine VB.is ?_; refine VB.split (fun _ => ?_) (fun _ => ?_)) | (refine boolE_split (fun h => ?_) (fun h => ?_) <;> subst h) | (refine VLd.is ?_; refine VLd.mk (.row (by repeat (first | exact aT0 | apply aT1 | with_reducible apply aT2 | with_reducible apply aT3)) (by rfl)) ?_) | (refine VSt.is ?_; refine VSt.row (by repeat (first | exact aT0 | apply aT1 | with_reducible apply aT2 | with_reducible apply aT3)) (by rfl) (by first | rfl | assumption) ?_) | (refine VNew.is ?_; refine VNew.mk fun _ => ?_) | (refine VAr.is ?_; refine VAr.i64 (by omega) (by omega) ?_) | (refine VIx.is ?_; refine VIx.mk rfl (by omega) (by omega) ?_) | (refine VKeep.is ?_; refine VKeep.mk (by repeat (first | exact HLe.nil | exact HLe.refl _ | refine HLe.nilv ?_ | (with_reducible refine HLe.seg ?_ ?_; (focus (repeat (first | with_reducible exact sT0 | with_reducible exact sT1 | exact sT2 | apply sT3 | with_reducible apply sT4 | with_reducible apply sT5)))) | refine HLe.cons (by repeat (first | exact aT0 | apply aT1 | with_reducible apply aT2 | with_reducible apply aT3)) ?_ | refine HLe.seg (by repeat (first | with_reducible exact sT0 | with_reducible exact sT1 | exact sT2 | apply sT3 | with_reducible apply sT4 | with_reducible apply sT5)) ?_ | exact HLe.last (by repeat (first | with_reducible exact sT0 | with_reducible exact sT1 | exact sT2 | apply sT3 | with_reducible apply sT4 | with_reducible apply sT5)))) ?_) | (refine VHs.is ?_; refine VHs.mk _ (HLe.refl _) ?_) | (refine VQ.is ?_; refine VQ.pos (by omega) (by omega) (by omega) ?_) | (refine VM.is ?_; refine VM.pos (by omega) (by omega) ?_) | (refine And.intro ?_ ?_)
    all_goals (conv => whnf)
    all_goals refine VNext.mk (j + 1, p', cap') (by dsimp only; omega) (by dsimp only; omega) (by dsimp only; repeat (first | exact trivial | refine ⟨rfl, ?_⟩)) (by dsimp only; rw [renEvt_take he, hu', flat_append]; repeat (first | exact HLe.nil | exact HLe.refl _ | refine HLe.nilv ?_ | (with_reducible refine HLe.seg ?_ ?_; (focus (repeat (first | with_reducible exact sT0 | with_reducible exact sT1 | exact sT2 | apply sT3 | with_reducible apply sT4 | with_reducible apply sT5)))) | refine HLe.cons (by repeat (first | exact aT0 | apply aT1 | with_reducible apply aT2 | with_reducible apply aT3)) ?_ | refine HLe.seg (by repeat (first | with_reducible exact sT0 | with_reducible exact sT1 | exact sT2 | apply sT3 | with_reducible apply sT4 | with_reducible apply sT5)) ?_ | exact HLe.last (by repeat (first | with_reducible exact sT0 | with_reducible exact sT1 | exact sT2 | apply sT3 | with_reducible apply sT4 | with_reducible apply sT5))))
  have hmj : m.take j = m := List.take_of_length_le hgej
  have hjm : j = m.length := by omega
  rw [hmj]
  subst hjm
  have hww : ∀ x ∈ m.map (renEvt to), x.wf := evt_wf_of (t := 10000) (n := 1024) (by omega) (by omega) (fun e he => by
    obtain ⟨e0, h00, rfl⟩ := List.mem_map.1 he
    have := hmr e0 h00
    obtain ⟨u, hu, hur⟩ := hRk.get (i := e0.id.toNat) (by omega)
    have hu' : toAt to e0.id = u := by unfold toAt; rw [hu]; rfl
    unfold renEvt
    dsimp only
    rw [hu']
    omega)
  have hsw : ∀ x ∈ insSort (m.map (renEvt to)), x.wf := fun x hx => by
    have := (insSort_perm (m.map (renEvt to)) []).mem_iff.1 hx
    rw [List.append_nil] at this
    exact hww x this
  repeat' (conv => whnf); first | (refine VCall.isF 18 ?_; refine VCall.val (fun w' => works_any _) ?_) | (refine VCall.isF 31 ?_; (refine sorted_call (m.map (renEvt to)) hww (by omega) _ _ _ _ hwl.symm (by repeat (first | exact aT0 | apply aT1 | with_reducible apply aT2 | with_reducible apply aT3)) ?_; intro q5 d5)) | (refine VCall.isF 24 ?_; (refine same_call (insSort (m.map (renEvt to))) (insSort (m.map (renEvt to))) hsw hsw (by omega) _ _ _ _ _ _ _ _ rfl rfl (by repeat (first | exact aT0 | apply aT1 | with_reducible apply aT2 | with_reducible apply aT3)) (by repeat (first | exact aT0 | apply aT1 | with_reducible apply aT2 | with_reducible apply aT3)) ?_; intro r hr; have hr := hr.2 rfl; subst hr)) | (refine VSeq.is ?_; refine VSeq.go ?_) | (refine VB.is ?_; refine VB.yes (by omega) fun _ => ?_) | (refine VB.is ?_; refine VB.no (by omega) fun _ => ?_) | (refine VB.is ?_; refine VB.split (fun _ => ?_) (fun _ => ?_)) | (refine boolE_split (fun h => ?_) (fun h => ?_) <;> subst h) | (refine VLd.is ?_; refine VLd.mk (.row (by repeat (first | exact aT0 | apply aT1 | with_reducible apply aT2 | with_reducible apply aT3)) (by rfl)) ?_) | (refine VSt.is ?_; refine VSt.row (by repeat (first | exact aT0 | apply aT1 | with_reducible apply aT2 | with_reducible apply aT3)) (by rfl) (by first | rfl | assumption) ?_) | (refine VNew.is ?_; refine VNew.mk fun _ => ?_) | (refine VAr.is ?_; refine VAr.i64 (by omega) (by omega) ?_) | (refine VIx.is ?_; refine VIx.mk rfl (by omega) (by omega) ?_) | (refine VKeep.is ?_; refine VKeep.mk (by repeat (first | exact HLe.nil | exact HLe.refl _ | refine HLe.nilv ?_ | (with_reducible refine HLe.seg ?_ ?_; (focus (repeat (first | with_reducible exact sT0 | with_reducible exact sT1 | exact sT2 | apply sT3 | with_reducible apply sT4 | with_reducible apply sT5)))) | refine HLe.cons (by repeat (first | exact aT0 | apply aT1 | with_reducible apply aT2 | with_reducible apply aT3)) ?_ | refine HLe.seg (by repeat (first | with_reducible exact sT0 | with_reducible exact sT1 | exact sT2 | apply sT3 | with_reducible apply sT4 | with_reducible apply sT5)) ?_ | exact HLe.last (by repeat (first | with_reducible exact sT0 | with_reducible exact sT1 | exact sT2 | apply sT3 | with_reducible apply sT4 | with_reducible apply sT5)))) ?_) | (refine VHs.is ?_; refine VHs.mk _ (HLe.refl _) ?_) | (refine VQ.is ?_; refine VQ.pos (by omega) (by omega) (by omega) ?_) | (refine VM.is ?_; refine VM.pos (by omega) (by omega) ?_) | (refine And.intro ?_ ?_)
  all_goals (conv => whnf)
  all_goals exact ⟨fun w' hw' => ⟨rfl, hw'.le .nil⟩⟩

end Go.Proofs
