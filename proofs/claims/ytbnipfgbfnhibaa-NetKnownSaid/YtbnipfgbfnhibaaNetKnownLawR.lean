/- LawR: NetResumes, walked. -/

import Derived.Test.YtbnipfgbfnhibaaNetKnownLawH
import Derived.Test.YtbnipfgbfnhibaaNetKnownRrs
import Derived.Test.YtbnipfgbfnhibaaNetKnownEq
import Derived.Test.YtbnipfgbfnhibaaNetKnownLawO

set_option linter.unusedVariables false

set_option linter.unusedSimpArgs false

namespace Go.Proofs

open Go Go.Vx Go.Gm

theorem smOf_ok {x : SimM} (h : SimRun x) : SmOk x.N (smOf x) := by
  refine ⟨h.ok.sts, h.sta, by show (x.D.map (·.l)).length = 16; rw [List.length_map]; exact h.ok.due, fun r hr => ?_⟩
  obtain ⟨d, hd, rfl⟩ := List.mem_map.1 hr
  exact h.ok.cells d hd

/-- A simulation and the reference's one do alike. -/
structure Twin (x : SimM) (r : RSim) : Prop where
  run : SimRun x
  rrun : RRun r
  net : r.N = x.N
  tick : r.tick = x.tick
  st : smR r = smRot x.tick (smOf x)

theorem Twin.err {x : SimM} {r : RSim} (h : Twin x r) (ins : List Int) : rstepErr r ins = stepErr x ins := by
  unfold rstepErr stepErr
  rw [h.tick, h.net]

theorem Twin.spk {x : SimM} {r : RSim} (h : Twin x r) (ins : List Int) : rstepSpk r ins = stepSpk x ins := by
  unfold rstepSpk stepSpk
  rw [h.err ins]
  split
  · have e := goFire_rot h.net h.st
    rw [e]
    simp only [ringSpk, simFire, smOf, List.getElem?_map]
  · rfl

theorem pw_nodup {l : List Int} (h : l.Pairwise (· < ·)) : l.Nodup := h.imp (fun h => by omega)

theorem asc_pw {m : Int} : ∀ {l : List Int} {p : Option Int}, ascErr m p l = 0 → l.Pairwise (· < ·) ∧ ∀ q, p = some q → ∀ k ∈ l, q < k
  | [], _, _ => by simp
  | k :: r, p, h => by
    unfold ascErr at h
    by_cases hb : inBad m k
    · rw [if_pos hb] at h; cases h
    · rw [if_neg hb] at h
      by_cases hl : inBehind k p
      · rw [if_pos hl] at h; cases h
      · rw [if_neg hl] at h
        obtain ⟨g1, g2⟩ := asc_pw h
        have g3 := g2 k rfl
        refine ⟨List.pairwise_cons.2 ⟨g3, g1⟩, fun q hq x hx => ?_⟩
        subst hq
        unfold inBehind at hl
        rcases List.mem_cons.1 hx with rfl | hx
        · omega
        · have := g3 x hx; omega

theorem Twin.step {x : SimM} {r z : RSim} (h : Twin x r) (ins : List Int) (hz : RStepTo r ins z) : Twin (stepSim x ins) z := by
  have he := h.err ins
  have hrun := h.run.step ins
  unfold RStepTo at hz
  by_cases h0 : stepErr x ins = 0
  · rw [he, if_pos h0] at hz
    obtain ⟨z1, z2, z3, z4, z5⟩ := hz
    have hsim : stepSim x ins = simStep x ins := by unfold stepSim; rw [if_pos h0]
    rw [hsim] at hrun ⊢
    have ht : x.tick < 10000 := by
      unfold stepErr at h0
      split at h0
      · cases h0
      · omega
    have hasc : ascErr x.N.inputs none ins = 0 := by unfold stepErr at h0; rw [if_neg (by omega)] at h0; exact h0
    have hnn := asc_zero (by have := h.run.ok.net.inputs; omega) hasc
    have hst : smR z = smRot (simStep x ins).tick (smOf (simStep x ins)) := by
      rw [z5, h.st, h.net, smOf_step]
      exact (ref_step h.run.ok.net (smOf_ok h.run) x.tick (refSrcs_nodup x.N (smRot x.tick (smOf x)) (fun k hk => (hnn.1 k hk).1) (pw_nodup (asc_pw hasc).1))).symm
    have hsts : z.sts = (simStep x ins).sts := congrArg Sm.sts hst
    refine ⟨hrun, ⟨z1, ?_, by rw [z4, h.tick]; omega⟩, z2.trans h.net, by rw [z4, h.tick]; rfl, hst⟩
    rw [hsts, z2.trans h.net]
    exact hrun.sta
  · rw [he, if_neg h0] at hz
    subst hz
    have hsim : stepSim x ins = x := by unfold stepSim; rw [if_neg h0]
    rw [hsim]
    exact h

def D64 (D : List (List Int)) : Prop := ∀ r ∈ D, ∀ v ∈ r, I64 v

theorem D64.add {D : List (List Int)} (h : D64 D) (s : Syn) : D64 (refAdd D s) := by
  intro r hr v hv
  unfold refAdd at hr
  obtain ⟨i, hi⟩ := List.getElem?_of_mem hr
  rw [List.getElem?_modify] at hi
  cases h0 : D[i]? with
  | none => rw [h0] at hi; simp at hi
  | some r0 =>
    have h1 := h r0 (List.mem_of_getElem? h0)
    rw [h0] at hi
    simp only [Option.map_eq_map, Option.map_some, Option.some.injEq] at hi
    subst hi
    split at hv
    · obtain ⟨j, hj⟩ := List.getElem?_of_mem hv
      rw [List.getElem?_modify] at hj
      cases h2 : r0[j]? with
      | none => rw [h2] at hj; simp at hj
      | some v0 =>
        rw [h2] at hj
        simp only [Option.map_eq_map, Option.map_some, Option.some.injEq] at hj
        subst hj
        split
        · unfold wadd I64; omega
        · exact h1 v0 (List.mem_of_getElem? h2)
    · exact h1 v hv

theorem D64.fold : ∀ (L : List Syn) {D : List (List Int)}, D64 D → D64 (L.foldl refAdd D)
  | [], _, h => h
  | s :: L, _, h => D64.fold L (h.add s)

theorem D64.step {N : Net} {x : Sm} (h : D64 x.D) (ins : List Int) : D64 (refStep N x ins).D := by
  refine D64.fold _ fun r hr v hv => ?_
  rcases List.mem_append.1 hr with hr | hr
  · exact h r (List.mem_of_mem_tail hr) v hv
  · rw [List.mem_singleton.1 hr] at hv
    rw [(List.mem_replicate.1 hv).2]
    unfold I64; omega

theorem equal_call {w0 : World} {M : List Nat} {H r1 r2 : HP} {u1 u2 : Ent → HP} {K : Value → HP → Prop} (l m : List Int) (hl : ∀ x ∈ l, I64 x) (hm : ∀ x ∈ m, I64 x) (hsz : l.length < 4611686018427387904) (hsz2 : m.length < 4611686018427387904) (p q : Option Addr) (n c k d e1 e2 : Nat) (hn : n = l.length) (hk : k = m.length)
    (h1 : At H (.vec p n c e1 1 (flat intV l)) u1 r1) (h2 : At H (.vec q k d e2 1 (flat intV m)) u2 r2) (hK : ∀ r : Bool, (r = true ↔ l = m) → K (.bool r) H) :
    VCall Try.cx.P w0 M H 43 [.slice p n c, .slice q k d] K := by
  subst hn hk
  refine VCall.genR (v := fun r => .bool r) (p := fun r => (r = true ↔ l = m)) (G := fun _ => []) (fun w' hw' => ?_) hK
  obtain ⟨b1, hb1⟩ := Sl.own hw' (f := intV) (l := l) (n := l.length) (k := 1) (p := p) h1 (fun _ => rfl) rfl
  obtain ⟨b2, hb2⟩ := Sl.own hw' (f := intV) (l := m) (n := m.length) (k := 1) (p := q) h2 (fun _ => rfl) rfl
  exact equal_any l m _ _ _ _ _ _ _ _ w' hl hm hb1 hb2 hsz hsz2

/-- A simulation and the reference's one, of the network that lies with the caller. -/
structure Pair (N : Net) (pn qs : Option Addr) (x : SimM) (r : RSim) : Prop where
  tw : Twin x r
  net : x.N = N
  pn : r.pn = pn
  qs : r.qs = qs
  d64 : D64 (r.D.map (·.l))

theorem stepSim_b (x : SimM) (ins : List Int) : (stepSim x ins).b = x.b ∧ (stepSim x ins).N = x.N ∧ shrH (stepSim x ins) = shrH x := by
  unfold stepSim
  split <;> exact ⟨rfl, rfl, rfl⟩

theorem RStepTo.same {r z : RSim} {ins : List Int} (h : RStepTo r ins z) : z.pn = r.pn ∧ z.qs = r.qs ∧ z.b = r.b := by
  unfold RStepTo at h
  split at h
  · exact h.2.2.1
  · subst h; exact ⟨rfl, rfl, rfl⟩

theorem Pair.step {N : Net} {pn qs : Option Addr} {x : SimM} {r z : RSim} (h : Pair N pn qs x r) (ins : List Int) (hz : RStepTo r ins z) : Pair N pn qs (stepSim x ins) z := by
  obtain ⟨h1, h2, h3⟩ := hz.same
  refine ⟨h.tw.step ins hz, (stepSim_b x ins).2.1.trans h.net, h1.trans h.pn, h2.trans h.qs, ?_⟩
  unfold RStepTo at hz
  split at hz
  · have e : z.D.map (·.l) = (refStep r.N (smR r) ins).D := congrArg Sm.D hz.2.2.2.2
    rw [e]
    exact D64.step (x := smR r) h.d64 ins
  · subst hz; exact h.d64

theorem Pair.rows {N : Net} {pn qs : Option Addr} {x : SimM} {r : RSim} (h : Pair N pn qs x r) : r.sts = x.sts ∧ r.D.map (·.l) = rot x.tick (x.D.map (·.l)) := ⟨congrArg Sm.sts h.tw.st, congrArg Sm.D h.tw.st⟩

theorem nil_in {w0 w : World} {M : List Nat} {H S : HP} (hw : St w0 M H w) (hle : HLe S H) : ∃ bi oi, Sl w intV 1 [] none ([] : List Int).length bi oi ∧ bi ∉ ids S :=
  ⟨w.heap.size, 0, .nil (.inl rfl), fun hb => Nat.lt_irrefl _ (ids_lt (hw.le hle) hb)⟩

end Go.Proofs
