/- LawT: NetSims, walked. -/

import Derived.Test.YtbnipfgbfnhibaaNetSimsLawR
import Derived.Test.YtbnipfgbfnhibaaNetSimsCpy

set_option linter.unusedVariables false

set_option linter.unusedSimpArgs false

namespace Go.Proofs

open Go Go.Vx Go.Gm

/-- A pair whose cells are not great. -/
structure PairB (N : Net) (pn qs : Option Addr) (x : SimM) (r : RSim) : Prop where
  p : Pair N pn qs x r
  b : DueB (dueN N) (r.D.map (·.l))

theorem PairB.step {N : Net} {pn qs : Option Addr} {x : SimM} {r z : RSim} (h : PairB N pn qs x r) (ins : List Int) (hz : RStepTo r ins z) (hp : Pair N pn qs (stepSim x ins) z) : PairB N pn qs (stepSim x ins) z := by
  refine ⟨hp, ?_⟩
  have hN : r.N = N := h.p.tw.net.trans h.p.net
  unfold RStepTo at hz
  split at hz
  · have e : z.D.map (·.l) = (refStep r.N (smR r) ins).D := congrArg Sm.D hz.2.2.2.2
    rw [e, hN]
    refine DueB.step (x := smR r) (hN ▸ h.p.tw.rrun.ok.net) ?_ h.b ins
    show (r.D.map (·.l)).length = 16
    rw [List.length_map]
    exact h.p.tw.rrun.ok.due
  · subst hz; exact h.b

theorem PairB.start {N : Net} (hN : NetOk N) {pn qs : Option Addr} {x : SimM} {r : RSim} (hx : SimOk x) (hxN : x.N = N) (hxt : x.tick = 0) (hxs : x.sts = List.replicate N.ps.length ⟨0, 0⟩) (hxD : x.D.map (·.l) = List.replicate 16 (List.replicate N.ps.length 0))
    (hrN : r.N = N) (hrt : r.tick = 0) (hrs : r.sts = List.replicate N.ps.length ⟨0, 0⟩) (hrD : r.D.map (·.l) = List.replicate 16 (List.replicate N.ps.length 0)) (hpn : r.pn = pn) (hqs : r.qs = qs) (hdp : ∃ g, r.dp = some ⟨g, 0, none⟩) : PairB N pn qs x r := by
  have hsta : StaAll N (List.replicate N.ps.length ⟨0, 0⟩) := by
    intro i p s g1 g2
    rw [List.getElem?_replicate] at g2
    split at g2
    · cases g2
      have := (hN.ps p (List.mem_of_getElem? g1))
      have h1 := this.fl
      have h2 := this.rest
      unfold staOk
      dsimp only
      omega
    · cases g2
  have hl16 : r.D.length = 16 := by have := congrArg List.length hrD; simpa using this
  have hrow : ∀ l ∈ r.D.map (·.l), l = List.replicate N.ps.length 0 := by
    intro l hl
    rw [hrD] at hl
    exact (List.mem_replicate.1 hl).2
  have hrot : ∀ t : Nat, rot t (List.replicate 16 (List.replicate N.ps.length (0 : Int))) = List.replicate 16 (List.replicate N.ps.length 0) := by
    intro t
    apply List.ext_getElem?
    intro i
    rw [rot_get, List.getElem?_replicate, List.getElem?_replicate]
    split
    · rw [if_pos (Nat.mod_lt _ (by omega))]; rfl
    · rfl
  refine ⟨⟨⟨⟨hx, by rw [hxN, hxs]; exact hsta, by omega⟩, ⟨⟨by rw [hrN]; exact hN, by rw [hrs, hrN]; simp, hl16, fun d hd => ?_, hdp⟩, by rw [hrN, hrs]; exact hsta, by omega⟩, hrN.trans hxN.symm, hrt.trans hxt.symm, ?_⟩, hxN, hpn, hqs, fun l hl v hv => ?_⟩, fun d l j v hl hv => ?_⟩
  · rw [hrow d.l (List.mem_map_of_mem hd), hrN]; simp
  · unfold smR smRot smOf
    rw [hrs, hrD, hxs, hxD, hrot]
  · rw [hrow l hl] at hv
    rw [(List.mem_replicate.1 hv).2]
    unfold I64; omega
  · rw [hrow l (List.mem_of_getElem? hl)] at hv
    rw [(List.mem_replicate.1 (List.mem_of_getElem? hv)).2]
    omega

theorem PairB.other {N : Net} {pn qs : Option Addr} {x y : SimM} {r : RSim} (h : PairB N pn qs x r) (hy : SimRun y) (hN : y.N = x.N) (ht : y.tick = x.tick) (hs : y.sts = x.sts) (hD : rot y.tick (y.D.map (·.l)) = rot x.tick (x.D.map (·.l))) : PairB N pn qs y r := by
  obtain ⟨⟨⟨h1, h2, h3, h4, h5⟩, h6, h7, h8, h9⟩, h10⟩ := h
  refine ⟨⟨⟨hy, h2, h3.trans hN.symm, h4.trans ht.symm, ?_⟩, hN.trans h6, h7, h8, h9⟩, h10⟩
  rw [h5]
  unfold smRot smOf
  dsimp only
  rw [hs, hD]

theorem PairB.res {N : Net} {pn qs : Option Addr} {x : SimM} {r : RSim} (h : PairB N pn qs x r) (im : ImgM) (h1 : im.tick = x.tick) (h2 : im.sts = x.sts) (h3 : im.D.map (·.l) = rot x.tick (x.D.map (·.l))) : resErr N im.tick im.sts (im.D.map (·.l)) = 0 := by
  have hr := h.p.tw.rrun
  have hN : r.N = N := h.p.tw.net.trans h.p.net
  have hNk := hr.ok.net
  rw [hN] at hNk
  have ht := hr.tick
  have hxt := h.p.tw.tick
  obtain ⟨e1, e2⟩ := h.p.rows
  have e3 : im.D.map (·.l) = r.D.map (·.l) := h3.trans e2.symm
  have e4 : im.sts = r.sts := h2.trans e1.symm
  rw [resErr_zero, e3, e4]
  refine ⟨hNk, by omega, by rw [hr.ok.sts, hN], by rw [List.length_map]; exact hr.ok.due, fun l hl => ?_, hN ▸ hr.sta, DueB.few hNk h.b⟩
  obtain ⟨d, hd, rfl⟩ := List.mem_map.1 hl
  rw [hr.ok.cells d hd, hN]

def simsH (x : SimM) (r : RSim) : HP := ownH x ++ (shrH x ++ rsimH r)

/-- A call: what, and its inputs. -/
structure ActD where
  what : Nat
  d : SlD Int

def actV (a : ActD) : List Value := [.int .u8 (a.what : Int), slV a.d]

theorem act_any {pn qs : Option Addr} (N : Net) (hN : N.wf) (x : SimM) (r : RSim) (hp : PairB N pn qs x r) (cn bn on cs bs os : Nat) (a : ActD) (ha : a.what < 256) (hal : a.d.l.length ≤ 300) (w : World)
    (hs : St w (ids (simsH x r)) (simsH x r) w) (h1 : Sl w parV 8 N.ps pn N.ps.length bn on) (m1 : bn ∉ ids (simsH x r)) (h2 : Sl w synV 4 N.syns qs N.syns.length bs os) (m2 : bs ∉ ids (simsH x r)) (bi oi : Nat) (h3 : Sl w intV 1 a.d.l a.d.p a.d.l.length bi oi) (m3 : bi ∉ ids (simsH x r)) :
    Calls Try.prog 49 #[.agg #[.slice pn N.ps.length cn, .int .i64 N.inputs, .slice qs N.syns.length cs], .pointer (some ⟨x.b, 0, none⟩), .pointer (some ⟨r.b, 0, none⟩), .agg #[.int .u8 (a.what : Int), slV a.d]] w fun e w' => ∃ y : SimM × RSim, e = .returned (.pointer (some ⟨y.1.b, 0, none⟩)) ∧
      (PairB N pn qs y.1 y.2 ∧ y.2.b = r.b) ∧ St w (ids (simsH x r)) (simsH y.1 y.2) w' := by
  obtain ⟨what, d⟩ := a
  dsimp only at ha hal h3 m3 ⊢
  obtain ⟨Mx, hMx⟩ : ∃ Mx, ids (simsH x r) = Mx := ⟨_, rfl⟩
  rw [hMx] at hs m1 m2 m3 ⊢
  refine enter (C := Try.cx) (F := Try.fx49) (args := [_, _, _, _]) Try.func49 rfl rfl rfl Try.ok49 hs ?_
  unfold simsH at hs ⊢
  refine VSeq.go ?_
  repeat' (conv => whnf); first | (refine VB.is ?_; refine VB.yes (by omega) fun _ => ?_) | (refine VB.is ?_; refine VB.no (by omega) fun _ => ?_) | (refine VB.is ?_; refine VB.split (fun _ => ?_) (fun _ => ?_)) | (refine boolE_split (fun h => ?_) (fun h => ?_) <;> subst h) | (refine VLd.is ?_; refine VLd.mk (.row aT (by rfl)) ?_) | (refine VSt.is ?_; refine VSt.row aT (by rfl) (by first | rfl | assumption) ?_) | (refine VNew.is ?_; refine VNew.mk fun _ => ?_) | (refine VAr.is ?_; refine VAr.i64 (by omega) (by omega) ?_) | (refine VIx.is ?_; refine VIx.mk rfl (by omega) (by omega) ?_) | (refine VKeep.is ?_; refine VKeep.mk aH ?_) | (refine VHs.is ?_; refine VHs.mk _ (HLe.refl _) ?_) | (refine VQ.is ?_; refine VQ.pos (by omega) (by omega) (by omega) ?_) | (refine VM.is ?_; refine VM.pos (by omega) (by omega) ?_) | (refine And.intro ?_ ?_)
  all_goals (conv => whnf)
  repeat' (conv => whnf); first | (refine VSeq.is ?_; refine VSeq.go ?_) | (refine VB.is ?_; refine VB.yes (by omega) fun _ => ?_) | (refine VB.is ?_; refine VB.no (by omega) fun _ => ?_) | (refine VB.is ?_; refine VB.split (fun _ => ?_) (fun _ => ?_)) | (refine boolE_split (fun h => ?_) (fun h => ?_) <;> subst h) | (refine VLd.is ?_; refine VLd.mk (.row aT (by rfl)) ?_) | (refine VSt.is ?_; refine VSt.row aT (by rfl) (by first | rfl | assumption) ?_) | (refine VNew.is ?_; refine VNew.mk fun _ => ?_) | (refine VAr.is ?_; refine VAr.i64 (by omega) (by omega) ?_) | (refine VIx.is ?_; refine VIx.mk rfl (by omega) (by omega) ?_) | (refine VKeep.is ?_; refine VKeep.mk aH ?_) | (refine VHs.is ?_; refine VHs.mk _ (HLe.refl _) ?_) | (refine VQ.is ?_; refine VQ.pos (by omega) (by omega) (by omega) ?_) | (refine VM.is ?_; refine VM.pos (by omega) (by omega) ?_) | (refine And.intro ?_ ?_)
  all_goals (conv => whnf)
  · repeat' (conv => whnf); first | (refine VCall.isF 52 ?_; (refine VCall.genR (fun w' hw' => Copy_any x hp.p.tw.run w' (SimRd.of hw' aH)) ?_; rintro y ⟨hy1, hyN, hyt, hys, hyD, hyS⟩)) | (refine VCall.isF 40 ?_; (refine Step_pair x r hp.p [] (by simp) _ _ _ rfl aS aH (fun w hw => nil_in hw aH) ?_; intro q c)) | (refine VSeq.is ?_; refine VSeq.go ?_) | (refine VB.is ?_; refine VB.yes (by omega) fun _ => ?_) | (refine VB.is ?_; refine VB.no (by omega) fun _ => ?_) | (refine VB.is ?_; refine VB.split (fun _ => ?_) (fun _ => ?_)) | (refine boolE_split (fun h => ?_) (fun h => ?_) <;> subst h) | (refine VLd.is ?_; refine VLd.mk (.row aT (by rfl)) ?_) | (refine VSt.is ?_; refine VSt.row aT (by rfl) (by first | rfl | assumption) ?_) | (refine VNew.is ?_; refine VNew.mk fun _ => ?_) | (refine VAr.is ?_; refine VAr.i64 (by omega) (by omega) ?_) | (refine VIx.is ?_; refine VIx.mk rfl (by omega) (by omega) ?_) | (refine VKeep.is ?_; refine VKeep.mk aH ?_) | (refine VHs.is ?_; refine VHs.mk _ (HLe.refl _) ?_) | (refine VQ.is ?_; refine VQ.pos (by omega) (by omega) (by omega) ?_) | (refine VM.is ?_; refine VM.pos (by omega) (by omega) ?_) | (refine And.intro ?_ ?_)
    all_goals (conv => whnf)
    refine ⟨fun w' hw' => ⟨(y, r), rfl, ⟨hp.other hy1 hyN hyt hys (by rw [hyt, hyD]), rfl⟩, hw'.le ?_⟩⟩
    dsimp only
    rw [hyS]
    exact aH
  · repeat' (conv => whnf); first | (refine VCall.isF 42 ?_; (refine VCall.genR (fun w' hw' => Image_any x hp.p.tw.run w' (SimRd.of hw' aH)) ?_; rintro im ⟨hm1, hm2, hm3⟩; have hfit := hp.p.fit im (hm1.trans hp.p.tw.tick.symm) (hm2.trans hp.p.rows.1.symm) (hm3.trans hp.p.rows.2.symm); have he0 := hp.res im hm1 hm2 hm3)) | (refine VCall.is ?_; refine VCall.isF 38 ?_; refine VCall.genR (fun w' hw' => resume_img N hN im hfit.tick hfit.sts.1 (by have := hfit.sts.2; omega) (by have := hfit.len; omega) (fun d hd => ⟨(hfit.due d hd).1, by have := (hfit.due d hd).2; omega⟩) _ _ _ _ _ _ _ _ w' hw' aH (h1.keep hw' m1) (h2.keep hw' m2)) ?_; intro z hz; obtain ⟨y2, rfl, hy2⟩ := res_some he0 hz; rw [he0, show resG (some y2) = ownH y2 ++ shrH y2 from rfl, List.append_assoc]; dsimp only [resV]) | (refine VCall.isF 40 ?_; (refine Step_pair x r hp.p [] (by simp) _ _ _ rfl aS aH (fun w hw => nil_in hw aH) ?_; intro q c)) | (refine VSeq.is ?_; refine VSeq.go ?_) | (refine VB.is ?_; refine VB.yes (by omega) fun _ => ?_) | (refine VB.is ?_; refine VB.no (by omega) fun _ => ?_) | (refine VB.is ?_; refine VB.split (fun _ => ?_) (fun _ => ?_)) | (refine boolE_split (fun h => ?_) (fun h => ?_) <;> subst h) | (refine VLd.is ?_; refine VLd.mk (.row aT (by rfl)) ?_) | (refine VSt.is ?_; refine VSt.row aT (by rfl) (by first | rfl | assumption) ?_) | (refine VNew.is ?_; refine VNew.mk fun _ => ?_) | (refine VAr.is ?_; refine VAr.i64 (by omega) (by omega) ?_) | (refine VIx.is ?_; refine VIx.mk rfl (by omega) (by omega) ?_) | (refine VKeep.is ?_; refine VKeep.mk aH ?_) | (refine VHs.is ?_; refine VHs.mk _ (HLe.refl _) ?_) | (refine VQ.is ?_; refine VQ.pos (by omega) (by omega) (by omega) ?_) | (refine VM.is ?_; refine VM.pos (by omega) (by omega) ?_) | (refine And.intro ?_ ?_)
    all_goals (conv => whnf)
    exact ⟨fun w' hw' => ⟨(y2, r), rfl, ⟨hp.other hy2.run (hy2.net.trans hp.p.net.symm) (by show y2.tick = x.tick; have := hy2.tick; omega) (hy2.sts.trans hm2) (hy2.due.trans hm3), rfl⟩, hw'.le aH⟩⟩
  · obtain ⟨g1, g2⟩ := hp.p.spk_i64 d.l
    repeat' (conv => whnf); first | (refine VCall.isF 40 ?_; (refine Step_pair x r hp.p d.l (by omega) _ _ _ rfl aS aH (fun w1 hw1 => h3.oldOut m3 hw1 aH (fun _ => rfl) (by omega)) ?_; intro q1 c1)) | (refine VCall.isF 41 ?_; (refine RStep_pair x r hp.p d.l (by omega) _ _ _ rfl _ _ _ _ h1 m1 h2 m2 aS (fun w1 hw1 => h3.oldOut m3 hw1 aH (fun _ => rfl) (by omega)) ?_; intro q2 c2 z hzr hz hzb)) | (refine VCall.isF 43 ?_; (refine equal_call (stepSpk x d.l) (stepSpk x d.l) g1 g1 g2 g2 _ _ _ _ _ _ _ _ rfl rfl aT aT ?_; intro rr hrr; have hrr := hrr.2 rfl; subst hrr)) | (refine VSeq.is ?_; refine VSeq.go ?_) | (refine VB.is ?_; refine VB.yes (by omega) fun _ => ?_) | (refine VB.is ?_; refine VB.no (by omega) fun _ => ?_) | (refine VB.is ?_; refine VB.split (fun _ => ?_) (fun _ => ?_)) | (refine boolE_split (fun h => ?_) (fun h => ?_) <;> subst h) | (refine VLd.is ?_; refine VLd.mk (.row aT (by rfl)) ?_) | (refine VSt.is ?_; refine VSt.row aT (by rfl) (by first | rfl | assumption) ?_) | (refine VNew.is ?_; refine VNew.mk fun _ => ?_) | (refine VAr.is ?_; refine VAr.i64 (by omega) (by omega) ?_) | (refine VIx.is ?_; refine VIx.mk rfl (by omega) (by omega) ?_) | (refine VKeep.is ?_; refine VKeep.mk aH ?_) | (refine VHs.is ?_; refine VHs.mk _ (HLe.refl _) ?_) | (refine VQ.is ?_; refine VQ.pos (by omega) (by omega) (by omega) ?_) | (refine VM.is ?_; refine VM.pos (by omega) (by omega) ?_) | (refine And.intro ?_ ?_)
    all_goals (conv => whnf)
    refine ⟨fun w' hw' => ⟨(stepSim x d.l, z), ?_, ⟨hp.step d.l hzr hz, hzb⟩, hw'.le ?_⟩⟩
    · rw [(stepSim_b x d.l).1]; rfl
    · dsimp only; rw [(stepSim_b x d.l).2.2]; exact aH

theorem act_call {w0 : World} {M : List Nat} {H R : HP} {K : Value → HP → Prop} {pn qs : Option Addr} (N : Net) (hN : N.wf) (x : SimM) (r : RSim) (hp : PairB N pn qs x r) (cn bn on cs bs os : Nat) (a : ActD) (ha : a.what < 256) (hal : a.d.l.length ≤ 300) (bi oi : Nat)
    (h1 : Sl w0 parV 8 N.ps pn N.ps.length bn on) (m1 : bn ∉ M) (h2 : Sl w0 synV 4 N.syns qs N.syns.length bs os) (m2 : bs ∉ M) (h3 : Sl w0 intV 1 a.d.l a.d.p a.d.l.length bi oi) (m3 : bi ∉ M) (htk : Take H (simsH x r) R)
    (hk : ∀ y z, PairB N pn qs y z → z.b = r.b → K (.pointer (some ⟨y.b, 0, none⟩)) (simsH y z ++ R)) :
    VCall Try.cx.P w0 M H 49 [.agg #[.slice pn N.ps.length cn, .int .i64 N.inputs, .slice qs N.syns.length cs], .pointer (some ⟨x.b, 0, none⟩), .pointer (some ⟨r.b, 0, none⟩), .agg #[.int .u8 (a.what : Int), slV a.d]] K := by
  refine VCall.turnT (α := SimM × RSim) (fun z => .pointer (some ⟨z.1.b, 0, none⟩)) (fun z => PairB N pn qs z.1 z.2 ∧ z.2.b = r.b) (fun z => simsH z.1 z.2) htk (fun w' hw' hs' => ?_) (fun z hz => hk z.1 z.2 hz.1 hz.2)
  have hle : HLe (simsH x r) H := HLe.of_perm htk.perm
  obtain ⟨b1, o1, g1, n1⟩ := h1.oldOut m1 hw' hle (fun _ => rfl) (by omega)
  obtain ⟨b2, o2, g2, n2⟩ := h2.oldOut m2 hw' hle (fun _ => rfl) (by omega)
  obtain ⟨b3, o3, g3, n3⟩ := h3.oldOut m3 hw' hle (fun _ => rfl) (by omega)
  exact act_any N hN x r hp cn b1 o1 cs b2 o2 a ha hal w' hs' g1 n1 g2 n2 b3 o3 g3 n3

theorem NetSims_any (N : Net) (hN : N.wf) (l : List ActD) (hl : ∀ a ∈ l, a.what < 256 ∧ a.d.l.length ≤ 9223372036854775807) (pn : Option Addr) (cn bn on : Nat) (qs : Option Addr) (cs bs os : Nat) (pl : Option Addr) (cl bl ol : Nat) (w : World)
    (h1 : Sl w parV 8 N.ps pn N.ps.length bn on) (h2 : Sl w synV 4 N.syns qs N.syns.length bs os) (h3 : Sl w actV 2 l pl l.length bl ol) (h4 : ∀ a ∈ l, ∃ b off, Sl w intV 1 a.d.l a.d.p a.d.l.length b off) :
    Calls Try.prog 15 #[.agg #[.slice pn N.ps.length cn, .int .i64 N.inputs, .slice qs N.syns.length cs], .slice pl l.length cl] w fun e w' => e = .returned (.bool true) ∧ St w [] [] w' := by
  refine enter (C := Try.cx) (F := Try.fx15) (args := [_, _]) Try.func15 rfl rfl rfl Try.ok15 (St.start w []) ?_
  refine VSeq.go ?_
  repeat' (conv => whnf); first | (refine VB.is ?_; refine VB.yes (by omega) fun _ => ?_) | (refine VB.is ?_; refine VB.no (by omega) fun _ => ?_) | (refine VB.is ?_; refine VB.split (fun _ => ?_) (fun _ => ?_)) | (refine boolE_split (fun h => ?_) (fun h => ?_) <;> subst h) | (refine VLd.is ?_; refine VLd.mk (.row aT (by rfl)) ?_) | (refine VSt.is ?_; refine VSt.row aT (by rfl) (by first | rfl | assumption) ?_) | (refine VNew.is ?_; refine VNew.mk fun _ => ?_) | (refine VAr.is ?_; refine VAr.i64 (by omega) (by omega) ?_) | (refine VIx.is ?_; refine VIx.mk rfl (by omega) (by omega) ?_) | (refine VKeep.is ?_; refine VKeep.mk aH ?_) | (refine VHs.is ?_; refine VHs.mk _ (HLe.refl _) ?_) | (refine VQ.is ?_; refine VQ.pos (by omega) (by omega) (by omega) ?_) | (refine VM.is ?_; refine VM.pos (by omega) (by omega) ?_) | (refine And.intro ?_ ?_)
  all_goals (conv => whnf)
  rename_i b2
  repeat' (conv => whnf); first | (refine VCall.isF 17 ?_; (refine VCall.ex (fun w' => few_any _ _ _ _ _ _ _ _) ?_; intro b _)) | (refine VCall.isF 18 ?_; refine VCall.val (fun w' => works_any _) ?_) | (refine VSeq.is ?_; refine VSeq.go ?_) | (refine VB.is ?_; refine VB.yes (by omega) fun _ => ?_) | (refine VB.is ?_; refine VB.no (by omega) fun _ => ?_) | (refine VB.is ?_; refine VB.split (fun _ => ?_) (fun _ => ?_)) | (refine boolE_split (fun h => ?_) (fun h => ?_) <;> subst h) | (refine VLd.is ?_; refine VLd.mk (.row aT (by rfl)) ?_) | (refine VSt.is ?_; refine VSt.row aT (by rfl) (by first | rfl | assumption) ?_) | (refine VNew.is ?_; refine VNew.mk fun _ => ?_) | (refine VAr.is ?_; refine VAr.i64 (by omega) (by omega) ?_) | (refine VIx.is ?_; refine VIx.mk rfl (by omega) (by omega) ?_) | (refine VKeep.is ?_; refine VKeep.mk aH ?_) | (refine VHs.is ?_; refine VHs.mk _ (HLe.refl _) ?_) | (refine VQ.is ?_; refine VQ.pos (by omega) (by omega) (by omega) ?_) | (refine VM.is ?_; refine VM.pos (by omega) (by omega) ?_) | (refine And.intro ?_ ?_)
  all_goals (conv => whnf)
  all_goals try exact ⟨fun w' hw' => ⟨rfl, hw'.le .nil⟩⟩
  refine VLoop.kr (α := Nat) [1000000, 1, 2, 4] rfl (fun i => i ≤ l.length ∧ ∀ a ∈ l.take i, a.d.l.length ≤ 300) (fun i K => (5, .int .i64 (i : Int)) :: K)
    (fun _ => [.row b2 25 [.slice pn N.ps.length cn, .int .i64 N.inputs, .slice qs N.syns.length cs]]) (fun i => l.length - i) 0 ⟨by omega, by simp⟩ aE aH ?_
  rintro i ⟨hi, hall⟩
  rcases Nat.lt_or_ge i l.length with hlt | hge
  · obtain ⟨a, ha⟩ := h3.get hlt
    have hal := (hl a (List.mem_of_getElem? ha)).2
    repeat' (conv => whnf); first | (refine VIx.is ?_; refine VIx.mk (h3.ptr (by omega)) (by omega) (by omega) ?_) | (refine VLd.is ?_; refine VLd.mk (Rd.cast (h3.rd (o := 1) (s := 1) (by simp) (fun _ => rfl) ha rfl) (by first | omega | (dsimp only; omega) | rfl)) ?_) | (refine VCall.isF 18 ?_; refine VCall.val (fun w' => works_any _) ?_) | (refine VSeq.is ?_; refine VSeq.go ?_) | (refine VB.is ?_; refine VB.yes (by omega) fun _ => ?_) | (refine VB.is ?_; refine VB.no (by omega) fun _ => ?_) | (refine VB.is ?_; refine VB.split (fun _ => ?_) (fun _ => ?_)) | (refine boolE_split (fun h => ?_) (fun h => ?_) <;> subst h) | (refine VLd.is ?_; refine VLd.mk (.row aT (by rfl)) ?_) | (refine VSt.is ?_; refine VSt.row aT (by rfl) (by first | rfl | assumption) ?_) | (refine VNew.is ?_; refine VNew.mk fun _ => ?_) | (refine VAr.is ?_; refine VAr.i64 (by omega) (by omega) ?_) | (refine VIx.is ?_; refine VIx.mk rfl (by omega) (by omega) ?_) | (refine VKeep.is ?_; refine VKeep.mk aH ?_) | (refine VHs.is ?_; refine VHs.mk _ (HLe.refl _) ?_) | (refine VQ.is ?_; refine VQ.pos (by omega) (by omega) (by omega) ?_) | (refine VM.is ?_; refine VM.pos (by omega) (by omega) ?_) | (refine And.intro ?_ ?_)
    all_goals (conv => whnf)
    · exact ⟨fun w' hw' => ⟨rfl, hw'.le .nil⟩⟩
    · refine VNext.mk (i + 1) ⟨by omega, ?_⟩ (by omega) aE aH
      rw [List.take_add_one, ha, Option.toList_some]
      intro f hf
      rcases List.mem_append.1 hf with h | h
      · exact hall f h
      · simp only [List.mem_singleton] at h; subst h; omega
  rw [List.take_of_length_le hge] at hall
  have hz := @netchk_zero N
  repeat' (conv => whnf); first | (refine VCall.isF 46 ?_; refine VCall.inl (F := Try.fx46) Try.func46 rfl rfl rfl Try.ok46 ?_) | (refine VCall.isF 48 ?_; refine VCall.inl (F := Try.fx48) Try.func48 rfl rfl rfl Try.ok48 ?_) | (refine VCall.isF 19 ?_; refine VCall.valR (fun w' hw' => Check_any N hN _ _ _ _ _ _ _ _ _ (h1.keep hw' (by simp)) (h2.keep hw' (by simp))) ?_) | (refine VCall.isF 20 ?_; refine VCall.valR (fun w' hw' => refNetCheck_any N hN _ _ _ _ _ _ _ _ _ (h1.keep hw' (by simp)) (h2.keep hw' (by simp))) ?_) | (refine VCall.is ?_; refine VCall.isF 59 ?_; refine VCall.genR (fun w' hw' => start_any N (hz.1 (by omega)) _ _ _ _ _ _ _ _ _ (h1.keep hw' (by simp)) (h2.keep hw' (by simp))) ?_; rintro x ⟨hx, hxN, hxt, hxs, hxD⟩) | (refine VCall.is ?_; refine VCall.isF 63 ?_; refine VCall.genR (fun w' hw' => refBegin_any N (hz.1 (by omega)) _ _ _ _ _) ?_; rintro y ⟨hyN, hyt, hys, hyD, ⟨hypn, _, hyqs, _⟩, hydp⟩) | (refine VCall.isF 18 ?_; refine VCall.val (fun w' => works_any _) ?_) | (refine VSeq.is ?_; refine VSeq.go ?_) | (refine VB.is ?_; refine VB.yes (by omega) fun _ => ?_) | (refine VB.is ?_; refine VB.no (by omega) fun _ => ?_) | (refine VB.is ?_; refine VB.split (fun _ => ?_) (fun _ => ?_)) | (refine boolE_split (fun h => ?_) (fun h => ?_) <;> subst h) | (refine VLd.is ?_; refine VLd.mk (.row aT (by rfl)) ?_) | (refine VSt.is ?_; refine VSt.row aT (by rfl) (by first | rfl | assumption) ?_) | (refine VNew.is ?_; refine VNew.mk fun _ => ?_) | (refine VAr.is ?_; refine VAr.i64 (by omega) (by omega) ?_) | (refine VIx.is ?_; refine VIx.mk rfl (by omega) (by omega) ?_) | (refine VKeep.is ?_; refine VKeep.mk aH ?_) | (refine VHs.is ?_; refine VHs.mk _ (HLe.refl _) ?_) | (refine VQ.is ?_; refine VQ.pos (by omega) (by omega) (by omega) ?_) | (refine VM.is ?_; refine VM.pos (by omega) (by omega) ?_) | (refine And.intro ?_ ?_)
  all_goals (conv => whnf)
  all_goals try exact ⟨fun w' hw' => ⟨rfl, hw'.le .nil⟩⟩
  all_goals try (exfalso; rename_i hh; exact hh rfl)
  have hNok : NetOk N := hz.1 (by omega)
  have hp0 : PairB N pn qs x y := PairB.start hNok hx hxN hxt hxs hxD hyN hyt hys hyD hypn hyqs hydp
  refine VLoop.mk (α := Nat × SimM × RSim) (fun z => z.1 ≤ l.length ∧ PairB N pn qs z.2.1 z.2.2)
    (fun z => [(1000000, .tuple #[]), (1, .slice pl l.length cl), (2, .pointer (some ⟨b2, 0, none⟩)), (4, .bool false), (6, .pointer (some ⟨z.2.1.b, 0, none⟩)), (8, .pointer (some ⟨z.2.2.b, 0, none⟩)), (10, .int .i64 (z.1 : Int))])
    (fun z => .row b2 25 [.slice pn N.ps.length cn, .int .i64 N.inputs, .slice qs N.syns.length cs] :: (simsH z.2.1 z.2.2)) (fun z => l.length - z.1) (0, x, y) ⟨by omega, hp0⟩ aE ?_ ?_
  · unfold simsH simH
    dsimp only
    rw [List.append_assoc]
    exact aH
  rintro ⟨k, x, y⟩ ⟨hk, hp⟩
  dsimp only at hk hp ⊢
  rcases Nat.lt_or_ge k l.length with hlt | hge
  · obtain ⟨a, ha⟩ := h3.get hlt
    have ham := List.mem_of_getElem? ha
    have ha2 := hl a ham
    have ha3 := hall a ham
    obtain ⟨bi, oi, hin⟩ := h4 a ham
    repeat' (conv => whnf); first | (refine VHs.is ?_; refine VHs.mk [.row b2 25 [.slice pn N.ps.length cn, .int .i64 N.inputs, .slice qs N.syns.length cs]] aH ?_) | (refine VIx.is ?_; refine VIx.mk (h3.ptr (by omega)) (by omega) (by omega) ?_) | (refine VLd.is ?_; refine VLd.mk (Rd.cast (h3.rd0 (by simp) (fun _ => rfl) ha rfl) (by first | omega | (dsimp only; omega) | rfl)) ?_) | (refine VCall.isF 49 ?_; (refine act_call N hN x y hp cn bn on cs bs os a ha2.1 ha3 bi oi h1 (by simp) h2 (by simp) hin (by simp) (by repeat (first | exact Take.nil | (with_reducible apply Take.seg; (focus (exact aS))) | (apply Take.cons; (focus (exact aT))) | (apply Take.last; (focus (exact aS))))) ?_; intro x2 y2 hp2 hb2)) | (refine VSeq.is ?_; refine VSeq.cut (at_ := 18) (α := SimM × RSim) (fun z => PairB N pn qs z.1 z.2 ∧ z.2.b = y.b) (fun z => [(1000000, .tuple #[]), (1, .slice pl l.length cl), (2, .pointer (some ⟨b2, 0, none⟩)), (4, .bool false), (6, .pointer (some ⟨z.1.b, 0, none⟩)), (8, .pointer (some ⟨y.b, 0, none⟩)), (10, .int .i64 (k : Int))]) (fun z => .row b2 25 [.slice pn N.ps.length cn, .int .i64 N.inputs, .slice qs N.syns.length cs] :: (simsH z.1 z.2)) ?_ ?_) | (refine VSeq.is ?_; refine VSeq.go ?_) | (refine VB.is ?_; refine VB.yes (by omega) fun _ => ?_) | (refine VB.is ?_; refine VB.no (by omega) fun _ => ?_) | (refine VB.is ?_; refine VB.split (fun _ => ?_) (fun _ => ?_)) | (refine boolE_split (fun h => ?_) (fun h => ?_) <;> subst h) | (refine VLd.is ?_; refine VLd.mk (.row aT (by rfl)) ?_) | (refine VSt.is ?_; refine VSt.row aT (by rfl) (by first | rfl | assumption) ?_) | (refine VNew.is ?_; refine VNew.mk fun _ => ?_) | (refine VAr.is ?_; refine VAr.i64 (by omega) (by omega) ?_) | (refine VIx.is ?_; refine VIx.mk rfl (by omega) (by omega) ?_) | (refine VKeep.is ?_; refine VKeep.mk aH ?_) | (refine VHs.is ?_; refine VHs.mk _ (HLe.refl _) ?_) | (refine VQ.is ?_; refine VQ.pos (by omega) (by omega) (by omega) ?_) | (refine VM.is ?_; refine VM.pos (by omega) (by omega) ?_) | (refine And.intro ?_ ?_)
    all_goals (conv => whnf)
    · exact VMid.mk (x2, y2) ⟨hp2, hb2⟩ aE (HLe.of_perm (C := []) (by rw [List.append_nil]; exact List.perm_append_singleton _ _))
    rintro ⟨x3, y3⟩ ⟨hp3, hb3⟩
    dsimp only at hp3 hb3 ⊢
    rw [← hb3]
    unfold simsH
    have c4 : sub (simC x3) 4 1 = some [.int .i64 (x3.tick : Int)] := rfl
    have c5 : sub (simC x3) 5 1 = some [.slice (some ⟨x3.sb, 0, none⟩) x3.sts.length x3.sc] := by rw [sub_mk _ _ _ (by simp [simC])]; rfl
    have cr : sub (rsimC y3) 3 1 = some [.int .i64 (y3.tick : Int)] := rfl
    have hpos := hp3.p.tw.run.ok.net.some
    have hsl := hp3.p.tw.run.ok.sts
    have htt := hp3.p.tw.tick
    repeat' (conv => whnf); first | (refine VCall.isF 50 ?_; refine VCall.inl (F := Try.fx50) Try.func50 rfl rfl rfl Try.ok50 ?_) | (refine VCall.isF 89 ?_; refine VCall.inl (F := Try.fx89) Try.func89 rfl rfl rfl Try.ok89 ?_) | (refine VLd.is ?_; refine VLd.mk (Rd.cast (.row aT (c4)) (by first | omega | (dsimp only; omega) | rfl)) ?_) | (refine VLd.is ?_; refine VLd.mk (Rd.cast (.row aT (c5)) (by first | omega | (dsimp only; omega) | rfl)) ?_) | (refine VLd.is ?_; refine VLd.mk (Rd.cast (.row aT (cr)) (by first | omega | (dsimp only; omega) | rfl)) ?_) | (refine VCall.isF 42 ?_; (refine VCall.genR (fun w' hw' => Image_any x3 hp3.p.tw.run w' (SimRd.of hw' aH)) ?_; rintro im ⟨hm1, hm2, hm3⟩)) | (refine VCall.isF 45 ?_; (refine VCall.genR (fun w' hw' => RImage_any y3 hp3.p.tw.rrun w' (RSimRd.of hw' aH)) ?_; rintro rm ⟨hn1, hn2, hn3⟩)) | (refine VCall.isF 44 ?_; (refine sameImage_call im rm (hp3.p.fit im (hm1.trans hp3.p.tw.tick.symm) (hm2.trans hp3.p.rows.1.symm) (hm3.trans hp3.p.rows.2.symm)) (hp3.p.fit rm hn1 hn2 hn3) aH aH ⟨(hm1.trans hp3.p.tw.tick.symm).trans hn1.symm, (hm2.trans hp3.p.rows.1.symm).trans hn2.symm, (hm3.trans hp3.p.rows.2.symm).trans hn3.symm⟩ ?_)) | (refine VSeq.is ?_; refine VSeq.go ?_) | (refine VB.is ?_; refine VB.yes (by omega) fun _ => ?_) | (refine VB.is ?_; refine VB.no (by omega) fun _ => ?_) | (refine VB.is ?_; refine VB.split (fun _ => ?_) (fun _ => ?_)) | (refine boolE_split (fun h => ?_) (fun h => ?_) <;> subst h) | (refine VLd.is ?_; refine VLd.mk (.row aT (by rfl)) ?_) | (refine VSt.is ?_; refine VSt.row aT (by rfl) (by first | rfl | assumption) ?_) | (refine VNew.is ?_; refine VNew.mk fun _ => ?_) | (refine VAr.is ?_; refine VAr.i64 (by omega) (by omega) ?_) | (refine VIx.is ?_; refine VIx.mk rfl (by omega) (by omega) ?_) | (refine VKeep.is ?_; refine VKeep.mk aH ?_) | (refine VHs.is ?_; refine VHs.mk _ (HLe.refl _) ?_) | (refine VQ.is ?_; refine VQ.pos (by omega) (by omega) (by omega) ?_) | (refine VM.is ?_; refine VM.pos (by omega) (by omega) ?_) | (refine And.intro ?_ ?_)
    all_goals (conv => whnf)
    all_goals
      refine VNext.mk (k + 1, x3, y3) ⟨by dsimp only; omega, hp3⟩ (by dsimp only; omega) aE aH
  repeat' (conv => whnf); first | (refine VCall.isF 18 ?_; refine VCall.val (fun w' => works_any _) ?_) | (refine VSeq.is ?_; refine VSeq.go ?_) | (refine VB.is ?_; refine VB.yes (by omega) fun _ => ?_) | (refine VB.is ?_; refine VB.no (by omega) fun _ => ?_) | (refine VB.is ?_; refine VB.split (fun _ => ?_) (fun _ => ?_)) | (refine boolE_split (fun h => ?_) (fun h => ?_) <;> subst h) | (refine VLd.is ?_; refine VLd.mk (.row aT (by rfl)) ?_) | (refine VSt.is ?_; refine VSt.row aT (by rfl) (by first | rfl | assumption) ?_) | (refine VNew.is ?_; refine VNew.mk fun _ => ?_) | (refine VAr.is ?_; refine VAr.i64 (by omega) (by omega) ?_) | (refine VIx.is ?_; refine VIx.mk rfl (by omega) (by omega) ?_) | (refine VKeep.is ?_; refine VKeep.mk aH ?_) | (refine VHs.is ?_; refine VHs.mk _ (HLe.refl _) ?_) | (refine VQ.is ?_; refine VQ.pos (by omega) (by omega) (by omega) ?_) | (refine VM.is ?_; refine VM.pos (by omega) (by omega) ?_) | (refine And.intro ?_ ?_)
  all_goals (conv => whnf)
  exact ⟨fun w' hw' => ⟨rfl, hw'.le .nil⟩⟩

end Go.Proofs
