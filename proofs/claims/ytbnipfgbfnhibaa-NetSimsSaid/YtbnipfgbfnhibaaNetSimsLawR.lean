/- LawR: NetResumes, walked. -/

import Derived.Test.YtbnipfgbfnhibaaNetSimsLawH
import Derived.Test.YtbnipfgbfnhibaaNetSimsRrs
import Derived.Test.YtbnipfgbfnhibaaNetSimsEq
import Derived.Test.YtbnipfgbfnhibaaNetSimsLawO

set_option linter.unusedVariables false

set_option linter.unusedSimpArgs false

namespace Go.Proofs

open Go Go.Vx Go.Gm

theorem smOf_ok {x : SimM} (h : SimRun x) : SmOk x.N (smOf x) := by
  refine ⟨h.ok.sts, h.sta, by show (x.D.map (·.l)).length = 16; rw [List.length_map]; exact h.ok.due, fun r hr => ?_⟩
  obtain ⟨d, hd, rfl⟩ := List.mem_map.1 hr
  exact h.ok.cells d hd

/-- A simulation and the reference's one do alike. -/
structure Twin (x : SimM) (r : RSim) : Prop where
  run : SimRun x
  rrun : RRun r
  net : r.N = x.N
  tick : r.tick = x.tick
  st : smR r = smRot x.tick (smOf x)

theorem Twin.err {x : SimM} {r : RSim} (h : Twin x r) (ins : List Int) : rstepErr r ins = stepErr x ins := by
  unfold rstepErr stepErr
  rw [h.tick, h.net]

theorem Twin.spk {x : SimM} {r : RSim} (h : Twin x r) (ins : List Int) : rstepSpk r ins = stepSpk x ins := by
  unfold rstepSpk stepSpk
  rw [h.err ins]
  split
  · have e := goFire_rot h.net h.st
    rw [e]
    simp only [ringSpk, simFire, smOf, List.getElem?_map]
  · rfl

theorem pw_nodup {l : List Int} (h : l.Pairwise (· < ·)) : l.Nodup := h.imp (fun h => by omega)

theorem asc_pw {m : Int} : ∀ {l : List Int} {p : Option Int}, ascErr m p l = 0 → l.Pairwise (· < ·) ∧ ∀ q, p = some q → ∀ k ∈ l, q < k
  | [], _, _ => by simp
  | k :: r, p, h => by
    unfold ascErr at h
    by_cases hb : inBad m k
    · rw [if_pos hb] at h; cases h
    · rw [if_neg hb] at h
      by_cases hl : inBehind k p
      · rw [if_pos hl] at h; cases h
      · rw [if_neg hl] at h
        obtain ⟨g1, g2⟩ := asc_pw h
        have g3 := g2 k rfl
        refine ⟨List.pairwise_cons.2 ⟨g3, g1⟩, fun q hq x hx => ?_⟩
        subst hq
        unfold inBehind at hl
        rcases List.mem_cons.1 hx with rfl | hx
        · omega
        · have := g3 x hx; omega

theorem Twin.step {x : SimM} {r z : RSim} (h : Twin x r) (ins : List Int) (hz : RStepTo r ins z) : Twin (stepSim x ins) z := by
  have he := h.err ins
  have hrun := h.run.step ins
  unfold RStepTo at hz
  by_cases h0 : stepErr x ins = 0
  · rw [he, if_pos h0] at hz
    obtain ⟨z1, z2, z3, z4, z5⟩ := hz
    have hsim : stepSim x ins = simStep x ins := by unfold stepSim; rw [if_pos h0]
    rw [hsim] at hrun ⊢
    have ht : x.tick < 10000 := by
      unfold stepErr at h0
      split at h0
      · cases h0
      · omega
    have hasc : ascErr x.N.inputs none ins = 0 := by unfold stepErr at h0; rw [if_neg (by omega)] at h0; exact h0
    have hnn := asc_zero (by have := h.run.ok.net.inputs; omega) hasc
    have hst : smR z = smRot (simStep x ins).tick (smOf (simStep x ins)) := by
      rw [z5, h.st, h.net, smOf_step]
      exact (ref_step h.run.ok.net (smOf_ok h.run) x.tick (refSrcs_nodup x.N (smRot x.tick (smOf x)) (fun k hk => (hnn.1 k hk).1) (pw_nodup (asc_pw hasc).1))).symm
    have hsts : z.sts = (simStep x ins).sts := congrArg Sm.sts hst
    refine ⟨hrun, ⟨z1, ?_, by rw [z4, h.tick]; omega⟩, z2.trans h.net, by rw [z4, h.tick]; rfl, hst⟩
    rw [hsts, z2.trans h.net]
    exact hrun.sta
  · rw [he, if_neg h0] at hz
    subst hz
    have hsim : stepSim x ins = x := by unfold stepSim; rw [if_neg h0]
    rw [hsim]
    exact h

theorem RStep_call {w0 : World} {M : List Nat} {H : HP} {Z : HP → HP} {K : Value → HP → Prop} (x : RSim) (hx : RRun x) (ins : List Int) (hil : ins.length < 9223372036854775807) (p : Option Addr) (n c : Nat) (hn : n = ins.length) (bn on bs os : Nat)
    (hpar : Sl w0 parV 8 x.N.ps x.pn x.N.ps.length bn on) (hparM : bn ∉ M) (hsyn : Sl w0 synV 4 x.N.syns x.qs x.N.syns.length bs os) (hsynM : bs ∉ M)
    (hat : AtS H (rsimH x) Z) (hin : ∀ w, St w0 M H w → ∃ bi oi, Sl w intV 1 ins p ins.length bi oi ∧ bi ∉ ids (rsimH x))
    (hk : ∀ q cap z, (0 < (rstepSpk x ins).length → ∃ g, q = some ⟨g, 0, none⟩) → RStepTo x ins z → K (.tuple #[.slice q (rstepSpk x ins).length cap, .int .i64 (rstepErr x ins)]) (.vec q (rstepSpk x ins).length cap 3 1 (flat intV (rstepSpk x ins)) :: Z (rsimH z))) :
    VCall Try.cx.P w0 M H 41 [.pointer (some ⟨x.b, 0, none⟩), .slice p n c] K := by
  subst hn
  refine VCall.turnV (α := (Option Addr × Nat) × RSim) (fun z => .tuple #[.slice z.1.1 (rstepSpk x ins).length z.1.2, .int .i64 (rstepErr x ins)]) (fun z => (0 < (rstepSpk x ins).length → ∃ g, z.1.1 = some ⟨g, 0, none⟩) ∧ RStepTo x ins z.2) (fun z => rsimH z.2) (fun z => [.vec z.1.1 (rstepSpk x ins).length z.1.2 3 1 (flat intV (rstepSpk x ins))]) hat (fun w hw hs => ?_) (fun z hz => hk z.1.1 z.1.2 z.2 hz.1 hz.2)
  have hl : HLe (rsimH x) H := HLe.last hat
  obtain ⟨b1, o1, g1, m1⟩ := hpar.oldOut hparM hw hl (fun _ => rfl) (by omega)
  obtain ⟨b2, o2, g2, m2⟩ := hsyn.oldOut hsynM hw hl (fun _ => rfl) (by omega)
  obtain ⟨bi, oi, h1, h2⟩ := hin w hw
  exact RStep_any x hx ins hil p c bi oi b1 o1 b2 o2 w hs g1 m1 g2 m2 h1 h2

def D64 (D : List (List Int)) : Prop := ∀ r ∈ D, ∀ v ∈ r, I64 v

theorem D64.add {D : List (List Int)} (h : D64 D) (s : Syn) : D64 (refAdd D s) := by
  intro r hr v hv
  unfold refAdd at hr
  obtain ⟨i, hi⟩ := List.getElem?_of_mem hr
  rw [List.getElem?_modify] at hi
  cases h0 : D[i]? with
  | none => rw [h0] at hi; simp at hi
  | some r0 =>
    have h1 := h r0 (List.mem_of_getElem? h0)
    rw [h0] at hi
    simp only [Option.map_eq_map, Option.map_some, Option.some.injEq] at hi
    subst hi
    split at hv
    · obtain ⟨j, hj⟩ := List.getElem?_of_mem hv
      rw [List.getElem?_modify] at hj
      cases h2 : r0[j]? with
      | none => rw [h2] at hj; simp at hj
      | some v0 =>
        rw [h2] at hj
        simp only [Option.map_eq_map, Option.map_some, Option.some.injEq] at hj
        subst hj
        split
        · unfold wadd I64; omega
        · exact h1 v0 (List.mem_of_getElem? h2)
    · exact h1 v hv

theorem D64.fold : ∀ (L : List Syn) {D : List (List Int)}, D64 D → D64 (L.foldl refAdd D)
  | [], _, h => h
  | s :: L, _, h => D64.fold L (h.add s)

theorem D64.step {N : Net} {x : Sm} (h : D64 x.D) (ins : List Int) : D64 (refStep N x ins).D := by
  refine D64.fold _ fun r hr v hv => ?_
  rcases List.mem_append.1 hr with hr | hr
  · exact h r (List.mem_of_mem_tail hr) v hv
  · rw [List.mem_singleton.1 hr] at hv
    rw [(List.mem_replicate.1 hv).2]
    unfold I64; omega

theorem sta_wf {N : Net} (hN : NetOk N) {sts : List Sta} (hl : sts.length = N.ps.length) (hs : StaAll N sts) : ∀ s ∈ sts, s.wf := by
  intro s hm
  obtain ⟨i, hi⟩ := List.getElem?_of_mem hm
  have hlt := (List.getElem?_eq_some_iff.1 hi).1
  have hp : N.ps[i]? = some N.ps[i] := List.getElem?_eq_getElem (by omega)
  have h1 := hs i _ s hp hi
  have h2 := hN.ps _ (List.mem_of_getElem? hp)
  have h3 := h2.fl
  have h4 := h2.rest
  unfold staOk at h1
  unfold Sta.wf I64
  omega

theorem spk_i64 {F : List (Sta × Bool)} (h : F.length ≤ 4611686018427387904) : (∀ k ∈ spk F, I64 k) ∧ (spk F).length ≤ F.length := by
  refine ⟨fun k hk => ?_, spkFrom_length F 0⟩
  obtain ⟨j, hj, s, hs⟩ := (spkFrom_mem _ 0 k).1 hk
  have := (List.getElem?_eq_some_iff.1 hs).1
  unfold I64
  omega

theorem equal_call {w0 : World} {M : List Nat} {H r1 r2 : HP} {u1 u2 : Ent → HP} {K : Value → HP → Prop} (l m : List Int) (hl : ∀ x ∈ l, I64 x) (hm : ∀ x ∈ m, I64 x) (hsz : l.length < 4611686018427387904) (hsz2 : m.length < 4611686018427387904) (p q : Option Addr) (n c k d e1 e2 : Nat) (hn : n = l.length) (hk : k = m.length)
    (h1 : At H (.vec p n c e1 1 (flat intV l)) u1 r1) (h2 : At H (.vec q k d e2 1 (flat intV m)) u2 r2) (hK : ∀ r : Bool, (r = true ↔ l = m) → K (.bool r) H) :
    VCall Try.cx.P w0 M H 43 [.slice p n c, .slice q k d] K := by
  subst hn hk
  refine VCall.genR (v := fun r => .bool r) (p := fun r => (r = true ↔ l = m)) (G := fun _ => []) (fun w' hw' => ?_) hK
  obtain ⟨b1, hb1⟩ := Sl.own hw' (f := intV) (l := l) (n := l.length) (k := 1) (p := p) h1 (fun _ => rfl) rfl
  obtain ⟨b2, hb2⟩ := Sl.own hw' (f := intV) (l := m) (n := m.length) (k := 1) (p := q) h2 (fun _ => rfl) rfl
  exact equal_any l m _ _ _ _ _ _ _ _ w' hl hm hb1 hb2 hsz hsz2

structure ImgFit (y : ImgM) : Prop where
  tick : I64 y.tick
  sts : (∀ s ∈ y.sts, s.wf) ∧ y.sts.length < 4611686018427387904
  len : y.D.length < 4611686018427387904
  due : ∀ d ∈ y.D, (∀ k ∈ d.l, I64 k) ∧ d.l.length < 4611686018427387904

theorem img_reads {w0 w : World} {M : List Nat} {H : HP} (hw : St w0 M H w) (im : ImgM) (hle : HLe (imgH im) H) : (∃ b, Sl w staV 2 im.sts im.sp im.sts.length b 0) ∧ (∃ b, Sl w slVs 1 (imgL im) im.dp im.D.length b 0) ∧ ∀ d ∈ imgL im, ∃ b off, Sl w intV 1 d.l d.p d.l.length b off := by
  have hs := hw.le hle
  have hL : (imgL im).length = im.D.length := List.length_map _
  obtain ⟨b3, h3⟩ := Sl.own hs (f := staV) (l := im.sts) (n := im.sts.length) (k := 2) (p := im.sp) .here (fun _ => rfl) rfl
  obtain ⟨b4, h4⟩ := Sl.own hs (f := slVs) (l := imgL im) (n := im.D.length) (k := 1) (p := im.dp) (cap := im.dc) (e := 46) (by unfold imgL; rw [imgL_flat]; exact .there .here) (fun _ => rfl) hL
  refine ⟨⟨b3, h3⟩, ⟨b4, h4⟩, fun d hd => ?_⟩
  obtain ⟨d0, h0, rfl⟩ := List.mem_map.1 hd
  exact ⟨d0.g, 0, Sl.own' (cap := d0.cap) (e := 3) hs (by simp only [imgH, List.mem_cons]; exact .inr (.inr (List.mem_map_of_mem h0))) (fun _ => rfl) rfl⟩

theorem sameImage_call {w0 : World} {M : List Nat} {H : HP} {K : Value → HP → Prop} (x y : ImgM) (hx : ImgFit x) (hy : ImgFit y) (hlx : HLe (imgH x) H) (hly : HLe (imgH y) H)
    (heq : x.tick = y.tick ∧ x.sts = y.sts ∧ x.D.map (·.l) = y.D.map (·.l)) (hK : K (.bool true) H) :
    VCall Try.cx.P w0 M H 44 [imgV x, imgV y] K := by
  have hxL : (imgL x).length = x.D.length := List.length_map _
  have hyL : (imgL y).length = y.D.length := List.length_map _
  have hxR : (imgL x).map (·.l) = x.D.map (·.l) := by unfold imgL; rw [List.map_map]; rfl
  have hyR : (imgL y).map (·.l) = y.D.map (·.l) := by unfold imgL; rw [List.map_map]; rfl
  have fitL : ∀ z, ImgFit z → ∀ d ∈ imgL z, (∀ k ∈ d.l, I64 k) ∧ d.l.length < 4611686018427387904 := by
    intro z hz d hd
    obtain ⟨d0, h0, rfl⟩ := List.mem_map.1 hd
    exact hz.due d0 h0
  refine VCall.genR (v := fun r => .bool r) (p := fun r => (r = true ↔ (x.tick : Int) = y.tick ∧ x.sts = y.sts ∧ (imgL x).map (·.l) = (imgL y).map (·.l))) (G := fun _ => []) (fun w' hw' => ?_) (fun r hr => ?_)
  · obtain ⟨⟨b1, g1⟩, ⟨b2, g2⟩, g3⟩ := img_reads hw' x hlx
    obtain ⟨⟨b3, g4⟩, ⟨b4, g5⟩, g6⟩ := img_reads hw' y hly
    have h := sameImage_any x.tick y.tick hx.tick hy.tick x.sts y.sts hx.sts.1 hy.sts.1 (imgL x) (imgL y) (fitL x hx) (fitL y hy) ⟨hx.sts.2, hy.sts.2, by rw [hxL]; exact hx.len, by rw [hyL]; exact hy.len⟩ x.sp x.sc b1 0 y.sp y.sc b3 0 x.dp x.dc b2 0 y.dp y.dc b4 0 w' g1 g4 (by rw [hxL]; exact g2) (by rw [hyL]; exact g5) g3 g6
    rw [hxL, hyL] at h
    exact h
  · have : r = true := hr.2 ⟨by rw [heq.1], heq.2.1, by rw [hxR, hyR]; exact heq.2.2⟩
    rw [this]
    exact hK

/-- A simulation and the reference's one, of the network that lies with the caller. -/
structure Pair (N : Net) (pn qs : Option Addr) (x : SimM) (r : RSim) : Prop where
  tw : Twin x r
  net : x.N = N
  pn : r.pn = pn
  qs : r.qs = qs
  d64 : D64 (r.D.map (·.l))

theorem stepSim_b (x : SimM) (ins : List Int) : (stepSim x ins).b = x.b ∧ (stepSim x ins).N = x.N ∧ shrH (stepSim x ins) = shrH x := by
  unfold stepSim
  split <;> exact ⟨rfl, rfl, rfl⟩

theorem RStepTo.same {r z : RSim} {ins : List Int} (h : RStepTo r ins z) : z.pn = r.pn ∧ z.qs = r.qs ∧ z.b = r.b := by
  unfold RStepTo at h
  split at h
  · exact h.2.2.1
  · subst h; exact ⟨rfl, rfl, rfl⟩

theorem Pair.step {N : Net} {pn qs : Option Addr} {x : SimM} {r z : RSim} (h : Pair N pn qs x r) (ins : List Int) (hz : RStepTo r ins z) : Pair N pn qs (stepSim x ins) z := by
  obtain ⟨h1, h2, h3⟩ := hz.same
  refine ⟨h.tw.step ins hz, (stepSim_b x ins).2.1.trans h.net, h1.trans h.pn, h2.trans h.qs, ?_⟩
  unfold RStepTo at hz
  split at hz
  · have e : z.D.map (·.l) = (refStep r.N (smR r) ins).D := congrArg Sm.D hz.2.2.2.2
    rw [e]
    exact D64.step (x := smR r) h.d64 ins
  · subst hz; exact h.d64

theorem Pair.rows {N : Net} {pn qs : Option Addr} {x : SimM} {r : RSim} (h : Pair N pn qs x r) : r.sts = x.sts ∧ r.D.map (·.l) = rot x.tick (x.D.map (·.l)) := ⟨congrArg Sm.sts h.tw.st, congrArg Sm.D h.tw.st⟩

theorem Pair.fit {N : Net} {pn qs : Option Addr} {x : SimM} {r : RSim} (h : Pair N pn qs x r) (y : ImgM) (h1 : y.tick = r.tick) (h2 : y.sts = r.sts) (h3 : y.D.map (·.l) = r.D.map (·.l)) : ImgFit y := by
  have hr := h.tw.rrun
  have hNk := hr.ok.net
  have hfew := hNk.few
  have ht := hr.tick
  have hl := hr.ok.sts
  have hlen : y.D.length = r.D.length := by have := congrArg List.length h3; simpa using this
  have hd := hr.ok.due
  refine ⟨by unfold I64; omega, ?_, by omega, fun d hd' => ?_⟩
  · rw [h2]
    exact ⟨sta_wf hNk hl hr.sta, by omega⟩
  · have hm : d.l ∈ r.D.map (·.l) := by rw [← h3]; exact List.mem_map_of_mem hd'
    refine ⟨fun k hk => h.d64 _ hm k hk, ?_⟩
    obtain ⟨d0, h0, h00⟩ := List.mem_map.1 hm
    have := hr.ok.cells d0 h0
    rw [← h00]; omega

theorem nil_in {w0 w : World} {M : List Nat} {H S : HP} (hw : St w0 M H w) (hle : HLe S H) : ∃ bi oi, Sl w intV 1 [] none ([] : List Int).length bi oi ∧ bi ∉ ids S :=
  ⟨w.heap.size, 0, .nil (.inl rfl), fun hb => Nat.lt_irrefl _ (ids_lt (hw.le hle) hb)⟩

theorem Step_pair {w0 : World} {M : List Nat} {H : HP} {Z : HP → HP} {K : Value → HP → Prop} {N : Net} {pn qs : Option Addr} (x : SimM) (r : RSim) (h : Pair N pn qs x r) (ins : List Int) (hil : ins.length < 9223372036854775807) (p : Option Addr) (n c : Nat) (hn : n = ins.length)
    (hat : AtS H (ownH x) Z) (hle : HLe (ownH x ++ shrH x) H) (hin : ∀ w, St w0 M H w → ∃ bi oi, Sl w intV 1 ins p ins.length bi oi ∧ bi ∉ ids (ownH x))
    (hk : ∀ q cap, K (.tuple #[.slice q (stepSpk x ins).length cap, .int .i64 (stepErr x ins)]) (.vec q (stepSpk x ins).length cap 3 1 (flat intV (stepSpk x ins)) :: Z (ownH (stepSim x ins)))) :
    VCall Try.cx.P w0 M H 40 [.pointer (some ⟨x.b, 0, none⟩), .slice p n c] K := by
  subst hn
  refine VCall.turnV (α := Option Addr × Nat) (fun z => .tuple #[.slice z.1 (stepSpk x ins).length z.2, .int .i64 (stepErr x ins)]) (fun z => 0 < (stepSpk x ins).length → ∃ g, z.1 = some ⟨g, 0, none⟩) (fun z => ownH (stepSim x ins)) (fun z => [.vec z.1 (stepSpk x ins).length z.2 3 1 (flat intV (stepSpk x ins))]) hat (fun w hw hs => ?_) (fun z hz => hk z.1 z.2)
  obtain ⟨bi, oi, h1, h2⟩ := hin w hw
  exact Step_any x h.tw.run ins hil p c bi oi w hs (ShOk.of (hw.le hle) .here h.tw.run.ok.rows (fun y hy => by simpa using hy)) h1 h2

theorem RStep_pair {w0 : World} {M : List Nat} {H : HP} {Z : HP → HP} {K : Value → HP → Prop} {N : Net} {pn qs : Option Addr} (x : SimM) (r : RSim) (h : Pair N pn qs x r) (ins : List Int) (hil : ins.length < 9223372036854775807) (p : Option Addr) (n c : Nat) (hn : n = ins.length) (bn on bs os : Nat)
    (hpar : Sl w0 parV 8 N.ps pn N.ps.length bn on) (hparM : bn ∉ M) (hsyn : Sl w0 synV 4 N.syns qs N.syns.length bs os) (hsynM : bs ∉ M)
    (hat : AtS H (rsimH r) Z) (hin : ∀ w, St w0 M H w → ∃ bi oi, Sl w intV 1 ins p ins.length bi oi ∧ bi ∉ ids (rsimH r))
    (hk : ∀ q cap z, RStepTo r ins z → Pair N pn qs (stepSim x ins) z → z.b = r.b → K (.tuple #[.slice q (stepSpk x ins).length cap, .int .i64 (stepErr x ins)]) (.vec q (stepSpk x ins).length cap 3 1 (flat intV (stepSpk x ins)) :: Z (rsimH z))) :
    VCall Try.cx.P w0 M H 41 [.pointer (some ⟨r.b, 0, none⟩), .slice p n c] K := by
  have e1 := h.tw.net.trans h.net
  refine RStep_call r h.tw.rrun ins hil p n c hn bn on bs os (by rw [e1, h.pn]; exact hpar) hparM (by rw [e1, h.qs]; exact hsyn) hsynM hat hin (fun q cap z _ hz => ?_)
  rw [h.tw.spk, h.tw.err]
  exact hk q cap z hz (h.step ins hz) hz.same.2.2

theorem fire_len : ∀ (ps : List Par) (ss : List Sta) (xs : List Int), (fire ps ss xs).length ≤ ps.length
  | [], _, _ => by simp [fire]
  | _ :: _, [], _ => by simp [fire]
  | _ :: _, _ :: _, [] => by simp [fire]
  | p :: ps, s :: ss, x :: xs => by simp only [fire, List.length_cons]; have := fire_len ps ss xs; omega

theorem Pair.spk_i64 {N : Net} {pn qs : Option Addr} {x : SimM} {r : RSim} (h : Pair N pn qs x r) (ins : List Int) : (∀ k ∈ stepSpk x ins, I64 k) ∧ (stepSpk x ins).length < 4611686018427387904 := by
  have hfew := h.tw.run.ok.net.few
  have hl : (simFire x).length ≤ 65536 := by
    unfold simFire
    refine Nat.le_trans (fire_len _ _ _) (by omega)
  unfold stepSpk
  split
  · obtain ⟨g1, g2⟩ := Go.Proofs.spk_i64 (F := simFire x) (by omega)
    exact ⟨g1, by omega⟩
  · simp

end Go.Proofs
