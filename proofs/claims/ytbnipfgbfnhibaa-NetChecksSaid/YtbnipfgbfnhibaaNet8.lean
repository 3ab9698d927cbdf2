/- Net8: Run, walked. -/
import Derived.Test.YtbnipfgbfnhibaaNet7
set_option linter.unusedVariables false
set_option linter.unusedSimpArgs false
namespace Go.Proofs
open Go Go.Vx Go.Gm

theorem simStep_V (x : SimM) (ins : List Int) : (simStep x ins).D.map drowV = x.D.map drowV := by
  refine (dupds_V _ _ _).trans ?_
  apply List.ext_getElem?
  intro i
  simp only [List.getElem?_map, List.getElem?_modify]
  split <;> cases x.D[i]? <;> simp [drowV]

theorem SimOk.row {x : SimM} (hx : SimOk x) : ∃ d, x.D[x.tick % 16]? = some d ∧ d.l.length = x.N.ps.length := by
  have h := hx.due
  refine ⟨x.D[x.tick % 16]'(by omega), List.getElem?_eq_getElem _, hx.cells _ (List.getElem_mem _)⟩

theorem SimOk.fire {x : SimM} (hx : SimOk x) : (simFire x).length = x.N.ps.length := by
  obtain ⟨d, h1, h2⟩ := hx.row
  unfold simFire
  rw [h1]
  exact fire_length hx.sts h2

theorem SimOk.step {x : SimM} (hx : SimOk x) (ins : List Int) : SimOk (simStep x ins) := by
  have hV := simStep_V x ins
  have hl : (simStep x ins).D.length = x.D.length := by simpa using congrArg List.length hV
  refine ⟨hx.net, hx.rows, hx.wired, ?_, hl.trans hx.due, fun d hd => ?_⟩
  · show ((simFire x).map (·.1)).length = x.N.ps.length
    rw [List.length_map, hx.fire]
  · obtain ⟨i, hi⟩ := List.getElem?_of_mem hd
    obtain ⟨d0, h1, h2⟩ := drowV_len hV hi
    rw [← h2]
    exact hx.cells d0 (List.mem_of_getElem? h1)

theorem StaAll.step {x : SimM} (hx : SimOk x) (hs : StaAll x.N x.sts) (ins : List Int) : StaAll (simStep x ins).N (simStep x ins).sts := by
  intro i p s h1 h2
  change x.N.ps[i]? = some p at h1
  change ((simFire x).map (·.1))[i]? = some s at h2
  obtain ⟨d, g1, g2⟩ := hx.row
  have hlt : i < x.N.ps.length := (List.getElem?_eq_some_iff.1 h1).1
  have hsl := hx.sts
  have e1 : x.sts[i]? = some (x.sts[i]'(by omega)) := List.getElem?_eq_getElem _
  have e2 : d.l[i]? = some (d.l[i]'(by omega)) := List.getElem?_eq_getElem _
  have e3 := fire_get h1 e1 e2
  unfold simFire at h2
  rw [g1] at h2
  rw [Option.map_some, Option.getD_some, List.getElem?_map, e3] at h2
  simp only [Option.map_some, Option.some.injEq] at h2
  subst h2
  exact tick_ok (hx.net.ps p (List.mem_of_getElem? h1)) (hs i p _ h1 e1) _

/-- Run's rounds: from tick t on, n of them; l are the events to come, out those that happened. -/
def runFrom (N : Net) : Nat → Nat → Sm → List Evt → List Evt → Option (List Evt)
  | 0, _, _, _, out => some out
  | n + 1, t, x, l, out =>
    let out' := out ++ (ringSpk N t x).map fun i => ⟨t, i⟩
    if 65536 < out'.length then none
    else runFrom N n (t + 1) (ringStep N t x ((l.take (atLen t l)).map fun e => e.id)) (l.drop (atLen t l)) out'

def sm0 (N : Net) : Sm := ⟨List.replicate N.ps.length ⟨0, 0⟩, List.replicate 16 (List.replicate N.ps.length 0)⟩

/-- What Run returns. -/
def runRes (N : Net) (l : List Evt) (ticks : Int) : List Evt × Int :=
  if prepErr N l ticks 10000 ≠ 0 then ([], prepErr N l ticks 10000)
  else match runFrom N ticks.toNat 0 (sm0 N) l [] with
    | none => ([], 8)
    | some out => (out, 0)

theorem prep_zero {N : Net} {l : List Evt} {ticks limit : Int} : prepErr N l ticks limit = 0 ↔ NetOk N ∧ (0 ≤ ticks ∧ ticks ≤ limit) ∧ EvOk N.inputs limit l := by
  unfold prepErr
  rw [← netchk_zero, ← evErr_zero]
  constructor
  · intro h
    split at h
    · contradiction
    · split at h
      · cases h
      · exact ⟨by omega, by omega, h⟩
  · rintro ⟨h1, h2, h3⟩
    rw [if_neg (by omega), if_neg (by omega)]
    exact h3

/-- A simulation's own parts put in place. -/
def SimM.put (x : SimM) (t : Nat) (sts : List Sta) (D : List DRow) : SimM := { x with tick := t, sts := sts, D := D }

/-- Run's state at the head of a tick. -/
structure RunS where
  t : Nat
  sts : List Sta
  D : List DRow
  k : Nat
  out : List Evt
  p : Option Addr
  cap : Nat

theorem Run_any (N : Net) (hN : N.wf) (l : List Evt) (hl : ∀ x ∈ l, x.wf) (ticks : Int) (pn : Option Addr) (cn bn on : Nat) (qs : Option Addr) (cs bs os : Nat) (pe : Option Addr) (ce be oe : Nat) (w : World)
    (h1 : Sl w parV 8 N.ps pn N.ps.length bn on) (h2 : Sl w synV 4 N.syns qs N.syns.length bs os) (h3 : Sl w evtV 2 l pe l.length be oe) (hce : l.length ≤ ce) :
    Calls Try.prog 22 #[.agg #[.slice pn N.ps.length cn, .int .i64 N.inputs, .slice qs N.syns.length cs], .slice pe l.length ce, .int .i64 ticks] w fun e w' => ∃ y : Option Addr × Nat,
      e = .returned (.tuple #[.slice y.1 (runRes N l ticks).1.length y.2, .int .i64 (runRes N l ticks).2]) ∧ True ∧ St w [] [.vec y.1 (runRes N l ticks).1.length y.2 44 2 (flat evtV (runRes N l ticks).1)] w' := by
  refine enter (C := Try.cx) (args := [_, _, _]) (F := Try.fx22) Try.func22 rfl rfl rfl Try.ok22 (St.start w []) ?_
  have hpz := @prep_zero N l ticks 10000
  repeat' (conv => whnf); first
    | (refine VCall.isF 58 ?_; refine VCall.valR (fun w' hw' => prepared_any N hN l hl ticks 10000 (by omega) _ _ _ _ _ _ _ _ _ _ _ _ _ (h1.keep hw' (by simp)) (h2.keep hw' (by simp)) (h3.keep hw' (by simp))) ?_)
    | (refine VCall.is ?_; refine VCall.isF 59 ?_; refine VCall.genR (fun w' hw' => start_any N (hpz.1 (by omega)).1 _ _ _ _ _ _ _ _ _ (h1.keep hw' (by simp)) (h2.keep hw' (by simp))) ?_; rintro x ⟨hx, hxN, hxt, hxs, hxD⟩)
    | (refine VSeq.is ?_; refine VSeq.go ?_)
    | (refine VB.is ?_; refine VB.split (fun _ => ?_) (fun h => absurd (by omega) h))
    | (refine VB.is ?_; refine VB.split (fun h => absurd h (by omega)) (fun _ => ?_))
    | (refine VB.is ?_; refine VB.split (fun _ => ?_) (fun _ => ?_))
    | (refine boolE_split (fun h => ?_) (fun h => ?_) <;> subst h)
    | (refine VLd.is ?_; refine VLd.mk (.row (by repeat (first | exact At.here | apply At.there | with_reducible apply At.app | with_reducible apply At.app2)) (by rfl)) ?_)
    | (refine VSt.is ?_; refine VSt.row (by repeat (first | exact At.here | apply At.there | with_reducible apply At.app | with_reducible apply At.app2)) (by rfl) (by first | rfl | assumption) ?_)
    | (refine VNew.is ?_; refine VNew.mk fun _ => ?_)
    | (refine VAr.is ?_; refine VAr.i64 (by omega) (by omega) ?_)
    | (refine VIx.is ?_; refine VIx.mk rfl (by omega) (by omega) ?_)
    | (refine VKeep.is ?_; refine VKeep.mk (by repeat (first | exact HLe.nil | exact HLe.refl _ | refine HLe.nilv ?_ | (with_reducible refine HLe.seg ?_ ?_; (focus (repeat (first | with_reducible exact AtS.here | with_reducible exact AtS.here2 | exact AtS.last | apply AtS.there | with_reducible apply AtS.app | with_reducible apply AtS.app2)))) | refine HLe.cons (by repeat (first | exact At.here | apply At.there | with_reducible apply At.app | with_reducible apply At.app2)) ?_ | refine HLe.seg (by repeat (first | with_reducible exact AtS.here | with_reducible exact AtS.here2 | exact AtS.last | apply AtS.there | with_reducible apply AtS.app | with_reducible apply AtS.app2)) ?_ | exact HLe.last (by repeat (first | with_reducible exact AtS.here | with_reducible exact AtS.here2 | exact AtS.last | apply AtS.there | with_reducible apply AtS.app | with_reducible apply AtS.app2)))) ?_)
    | (refine VHs.is ?_; refine VHs.mk _ (HLe.refl _) ?_)
    | (refine VQ.is ?_; refine VQ.pos (by omega) (by omega) (by omega) ?_)
    | (refine VM.is ?_; refine VM.pos (by omega) (by omega) ?_)
    | (refine And.intro ?_ ?_)
  all_goals (conv => whnf)
  · refine ⟨fun w' hw' => ⟨(none, 0), ?_, trivial, ?_⟩⟩
    · unfold runRes; rw [if_pos ‹_›]; rfl
    · unfold runRes; rw [if_pos ‹_›]; exact hw'.le (by repeat (first | exact HLe.nil | exact HLe.refl _ | refine HLe.nilv ?_ | (with_reducible refine HLe.seg ?_ ?_; (focus (repeat (first | with_reducible exact AtS.here | with_reducible exact AtS.here2 | exact AtS.last | apply AtS.there | with_reducible apply AtS.app | with_reducible apply AtS.app2)))) | refine HLe.cons (by repeat (first | exact At.here | apply At.there | with_reducible apply At.app | with_reducible apply At.app2)) ?_ | refine HLe.seg (by repeat (first | with_reducible exact AtS.here | with_reducible exact AtS.here2 | exact AtS.last | apply AtS.there | with_reducible apply AtS.app | with_reducible apply AtS.app2)) ?_ | exact HLe.last (by repeat (first | with_reducible exact AtS.here | with_reducible exact AtS.here2 | exact AtS.last | apply AtS.there | with_reducible apply AtS.app | with_reducible apply AtS.app2))))
  have h0 : prepErr N l ticks 10000 = 0 := by omega
  obtain ⟨hNok, hticks, hev⟩ := hpz.1 h0
  have hres : runRes N l ticks = match runFrom N ticks.toNat 0 (sm0 N) l [] with | none => ([], 8) | some out => (out, 0) := by
    unfold runRes; rw [if_neg (by omega)]
  rename_i b3 bt
  have hput : x.put 0 x.sts x.D = x := by cases x; dsimp only at hxt; subst hxt; rfl
  have hst0 : StaAll x.N x.sts := by
    intro i p s g1 g2
    rw [hxs, List.getElem?_replicate] at g2
    split at g2
    · cases g2
      have := (hx.net.ps p (List.mem_of_getElem? g1))
      have h1 := this.fl
      have h2 := this.rest
      unfold staOk
      dsimp only
      omega
    · cases g2
  have hsm0 : smOf x = sm0 N := by unfold smOf sm0; rw [hxs, hxD]
  refine VLoop.kr (α := RunS) [1000000, 6, 7, 9, 10, 27] rfl
    (fun y => y.t ≤ ticks.toNat ∧ SimOk (x.put y.t y.sts y.D) ∧ StaAll x.N y.sts ∧ y.k ≤ l.length ∧ y.out.length ≤ 65536 ∧ runFrom N ticks.toNat 0 (sm0 N) l [] = runFrom N (ticks.toNat - y.t) y.t ⟨y.sts, y.D.map (·.l)⟩ (l.drop y.k) y.out)
    (fun y K => (28, .int .i64 (y.t : Int)) :: (11, .slice y.p y.out.length y.cap) :: K)
    (fun y => .vec y.p y.out.length y.cap 44 2 (flat evtV y.out) :: .row bt 113 [.slice (advs 2 y.k (pe, ce)).1 (l.drop y.k).length (advs 2 y.k (pe, ce)).2] :: (ownH (x.put y.t y.sts y.D) ++ shrH x))
    (fun y => ticks.toNat - y.t) ⟨0, x.sts, x.D, 0, [], none, 0⟩ ⟨by simp, by rw [hput]; exact hx, hst0, by simp, by simp, by rw [← hsm0]; rfl⟩ (by repeat (first | exact trivial | refine ⟨rfl, ?_⟩)) ?_ ?_
  · dsimp only
    rw [hput]
    unfold simH
    rw [List.append_assoc]
    repeat (first | exact HLe.nil | exact HLe.refl _ | refine HLe.nilv ?_ | (with_reducible refine HLe.seg ?_ ?_; (focus (repeat (first | with_reducible exact AtS.here | with_reducible exact AtS.here2 | exact AtS.last | apply AtS.there | with_reducible apply AtS.app | with_reducible apply AtS.app2)))) | refine HLe.cons (by repeat (first | exact At.here | apply At.there | with_reducible apply At.app | with_reducible apply At.app2)) ?_ | refine HLe.seg (by repeat (first | with_reducible exact AtS.here | with_reducible exact AtS.here2 | exact AtS.last | apply AtS.there | with_reducible apply AtS.app | with_reducible apply AtS.app2)) ?_ | exact HLe.last (by repeat (first | with_reducible exact AtS.here | with_reducible exact AtS.here2 | exact AtS.last | apply AtS.there | with_reducible apply AtS.app | with_reducible apply AtS.app2)))
  · rintro ⟨t, sts, D, k, out, p, cap⟩ ⟨g1, g2, g3, g4, g5, g6⟩
    dsimp only at *
    rcases Nat.lt_or_ge t ticks.toNat with hlt | hge
    · obtain ⟨⟨qk, ck⟩, hxa⟩ : ∃ x, advs 2 k (pe, ce) = x := ⟨_, rfl⟩
      have hck : ck = ce - k := by have := advs_cap 2 k (pe, ce); rw [hxa] at this; exact this
      rw [hxa]
      obtain ⟨off', hsl⟩ := h3.advs (fun _ => rfl) hce k g4
      rw [hxa] at hsl
      dsimp only at hsl
      obtain ⟨l', hl'⟩ : ∃ l', l.drop k = l' := ⟨_, rfl⟩
      have hl'n : l'.length = l.length - k := by rw [← hl', List.length_drop]
      have hfew := hev.few
      rw [hl'] at hsl g6 ⊢
      obtain ⟨ins, hins⟩ : ∃ ins : List Int, (l'.take (atLen t l')).map (fun e => e.id) = ins := ⟨_, rfl⟩
      have hal := atLen_le t l'
      have hinl : atLen t l' = ins.length := by rw [← hins, List.length_map, List.length_take]; omega
      have hinr : ∀ k ∈ ins, 0 ≤ k ∧ k ≤ 256 := by
        intro i hi
        rw [← hins] at hi
        obtain ⟨e, he, rfl⟩ := List.mem_map.1 hi
        have := hev.range e (List.mem_of_mem_drop (by rw [hl']; exact List.mem_of_mem_take he))
        have := hNok.inputs
        omega
      repeat' (conv => whnf); first
        | (refine VCall.isF 61 ?_; (refine at_call bt l' t qk ck be off' (by repeat (first | exact At.here | apply At.there | with_reducible apply At.app | with_reducible apply At.app2)) hsl (by simp) (by omega) (by omega) fun p1 cap1 hp1 => ?_; rw [hins]))
        | (refine VCall.isF 60 ?_; refine step_call (x.put t sts D) g2 (by dsimp only [SimM.put]; omega) g3 ins hinr (by omega) p1 _ cap1 hinl (by repeat (first | with_reducible exact AtS.here | with_reducible exact AtS.here2 | exact AtS.last | apply AtS.there | with_reducible apply AtS.app | with_reducible apply AtS.app2)) (by repeat (first | exact HLe.nil | exact HLe.refl _ | refine HLe.nilv ?_ | (with_reducible refine HLe.seg ?_ ?_; (focus (repeat (first | with_reducible exact AtS.here | with_reducible exact AtS.here2 | exact AtS.last | apply AtS.there | with_reducible apply AtS.app | with_reducible apply AtS.app2)))) | refine HLe.cons (by repeat (first | exact At.here | apply At.there | with_reducible apply At.app | with_reducible apply At.app2)) ?_ | refine HLe.seg (by repeat (first | with_reducible exact AtS.here | with_reducible exact AtS.here2 | exact AtS.last | apply AtS.there | with_reducible apply AtS.app | with_reducible apply AtS.app2)) ?_ | exact HLe.last (by repeat (first | with_reducible exact AtS.here | with_reducible exact AtS.here2 | exact AtS.last | apply AtS.there | with_reducible apply AtS.app | with_reducible apply AtS.app2)))) (by repeat (first | exact HLe.nil | exact HLe.refl _ | refine HLe.nilv ?_ | (with_reducible refine HLe.seg ?_ ?_; (focus (repeat (first | with_reducible exact AtS.here | with_reducible exact AtS.here2 | exact AtS.last | apply AtS.there | with_reducible apply AtS.app | with_reducible apply AtS.app2)))) | refine HLe.cons (by repeat (first | exact At.here | apply At.there | with_reducible apply At.app | with_reducible apply At.app2)) ?_ | refine HLe.seg (by repeat (first | with_reducible exact AtS.here | with_reducible exact AtS.here2 | exact AtS.last | apply AtS.there | with_reducible apply AtS.app | with_reducible apply AtS.app2)) ?_ | exact HLe.last (by repeat (first | with_reducible exact AtS.here | with_reducible exact AtS.here2 | exact AtS.last | apply AtS.there | with_reducible apply AtS.app | with_reducible apply AtS.app2)))) fun q cap' hq => ?_)
        | (refine VSeq.is ?_; refine VSeq.go ?_)
        | (refine VB.is ?_; refine VB.split (fun _ => ?_) (fun h => absurd (by omega) h))
        | (refine VB.is ?_; refine VB.split (fun h => absurd h (by omega)) (fun _ => ?_))
        | (refine VB.is ?_; refine VB.split (fun _ => ?_) (fun _ => ?_))
        | (refine boolE_split (fun h => ?_) (fun h => ?_) <;> subst h)
        | (refine VLd.is ?_; refine VLd.mk (.row (by repeat (first | exact At.here | apply At.there | with_reducible apply At.app | with_reducible apply At.app2)) (by rfl)) ?_)
        | (refine VSt.is ?_; refine VSt.row (by repeat (first | exact At.here | apply At.there | with_reducible apply At.app | with_reducible apply At.app2)) (by rfl) (by first | rfl | assumption) ?_)
        | (refine VNew.is ?_; refine VNew.mk fun _ => ?_)
        | (refine VAr.is ?_; refine VAr.i64 (by omega) (by omega) ?_)
        | (refine VIx.is ?_; refine VIx.mk rfl (by omega) (by omega) ?_)
        | (refine VKeep.is ?_; refine VKeep.mk (by repeat (first | exact HLe.nil | exact HLe.refl _ | refine HLe.nilv ?_ | (with_reducible refine HLe.seg ?_ ?_; (focus (repeat (first | with_reducible exact AtS.here | with_reducible exact AtS.here2 | exact AtS.last | apply AtS.there | with_reducible apply AtS.app | with_reducible apply AtS.app2)))) | refine HLe.cons (by repeat (first | exact At.here | apply At.there | with_reducible apply At.app | with_reducible apply At.app2)) ?_ | refine HLe.seg (by repeat (first | with_reducible exact AtS.here | with_reducible exact AtS.here2 | exact AtS.last | apply AtS.there | with_reducible apply AtS.app | with_reducible apply AtS.app2)) ?_ | exact HLe.last (by repeat (first | with_reducible exact AtS.here | with_reducible exact AtS.here2 | exact AtS.last | apply AtS.there | with_reducible apply AtS.app | with_reducible apply AtS.app2)))) ?_)
        | (refine VHs.is ?_; refine VHs.mk _ (HLe.refl _) ?_)
        | (refine VQ.is ?_; refine VQ.pos (by omega) (by omega) (by omega) ?_)
        | (refine VM.is ?_; refine VM.pos (by omega) (by omega) ?_)
        | (refine And.intro ?_ ?_)
      all_goals (conv => whnf)
      obtain ⟨sp, hsp⟩ : ∃ sp, spk (simFire (x.put t sts D)) = sp := ⟨_, rfl⟩
      have hspl : sp.length ≤ 1024 := by
        have := spk_length (simFire (x.put t sts D)) (simFire (x.put t sts D)).length
        rw [List.take_length, hsp, g2.fire] at this
        have := g2.net.few
        omega
      have hring : ringSpk N t ⟨sts, D.map (·.l)⟩ = sp := by
        rw [← hsp, ← hxN]
        simp only [ringSpk, simFire, SimM.put, List.getElem?_map]
      have hringS : ringStep N t ⟨sts, D.map (·.l)⟩ ins = smOf (simStep (x.put t sts D) ins) := by
        rw [smOf_step, ← hxN]; rfl
      rw [hsp] at hq
      rw [hsp]
      refine VLoop.kr (α := Nat × Option Addr × Nat) [1000000, 6, 7, 9, 10, 12, 27, 28, 35, 36] rfl (fun y => y.1 ≤ sp.length)
        (fun y K => (37, .int .i64 (y.1 : Int)) :: (11, .slice y.2.1 (out ++ (sp.take y.1).map fun i => (⟨t, i⟩ : Evt)).length y.2.2) :: K)
        (fun y => .vec y.2.1 (out ++ (sp.take y.1).map fun i => (⟨t, i⟩ : Evt)).length y.2.2 44 2 (flat evtV (out ++ (sp.take y.1).map fun i => (⟨t, i⟩ : Evt))) :: .vec q sp.length cap' 3 1 (flat intV sp) ::
          .row bt 113 [.slice (advs 2 (atLen t l') (qk, ck)).1 (l'.length - atLen t l') (advs 2 (atLen t l') (qk, ck)).2] :: (ownH (simStep (x.put t sts D) ins) ++ shrH x))
        (fun y => sp.length - y.1) (0, p, cap) (by simp) (by dsimp only; simp only [List.take_zero, List.map_nil, List.append_nil]; repeat (first | exact trivial | refine ⟨rfl, ?_⟩)) (by dsimp only; simp only [List.take_zero, List.map_nil, List.append_nil]; repeat (first | exact HLe.nil | exact HLe.refl _ | refine HLe.nilv ?_ | (with_reducible refine HLe.seg ?_ ?_; (focus (repeat (first | with_reducible exact AtS.here | with_reducible exact AtS.here2 | exact AtS.last | apply AtS.there | with_reducible apply AtS.app | with_reducible apply AtS.app2)))) | refine HLe.cons (by repeat (first | exact At.here | apply At.there | with_reducible apply At.app | with_reducible apply At.app2)) ?_ | refine HLe.seg (by repeat (first | with_reducible exact AtS.here | with_reducible exact AtS.here2 | exact AtS.last | apply AtS.there | with_reducible apply AtS.app | with_reducible apply AtS.app2)) ?_ | exact HLe.last (by repeat (first | with_reducible exact AtS.here | with_reducible exact AtS.here2 | exact AtS.last | apply AtS.there | with_reducible apply AtS.app | with_reducible apply AtS.app2)))) ?_
      rintro ⟨j, pj, capj⟩ hj
      dsimp only at *
      obtain ⟨oj, hoj⟩ : ∃ oj, out ++ (sp.take j).map (fun i => (⟨t, i⟩ : Evt)) = oj := ⟨_, rfl⟩
      have hojl : oj.length = out.length + j := by rw [← hoj]; simp; omega
      rw [hoj]
      rcases Nat.lt_or_ge j sp.length with hltj | hgej
      · obtain ⟨i, hi⟩ : ∃ i, sp[j]? = some i := ⟨sp[j], List.getElem?_eq_getElem _⟩
        obtain ⟨gq, hgq⟩ := hq (by omega)
        subst hgq
        have hon : out ++ (sp.take (j + 1)).map (fun i => (⟨t, i⟩ : Evt)) = oj ++ [⟨t, i⟩] := by
          rw [List.take_add_one, hi, Option.toList_some, List.map_append, ← List.append_assoc, hoj]; rfl
        repeat' (conv => whnf); first
          | (refine VIx.is ?_; refine VIx.mk rfl (by omega) (by omega) ?_)
          | (refine VLd.is ?_; refine VLd.mk (Rd.cast (.vec (by repeat (first | exact At.here | apply At.there | with_reducible apply At.app | with_reducible apply At.app2)) (sub_flat0 (f := intV) (k := 1) (fun _ => rfl) hi rfl)) (by first | omega | (dsimp only; omega) | rfl)) ?_)
          | (refine VAp.is ?_; refine VAp.own (by repeat (first | exact At.here | apply At.there | with_reducible apply At.app | with_reducible apply At.app2)) (.at_ (.vec (by repeat (first | exact At.here | apply At.there | with_reducible apply At.app | with_reducible apply At.app2)) rfl)) (by simp [Value.oneCell']) (by (try dsimp only); omega) (by simp only [maxLen]; omega) fun p' cap' hp' => ?_)
          | (refine VSeq.is ?_; refine VSeq.go ?_)
          | (refine VB.is ?_; refine VB.split (fun _ => ?_) (fun h => absurd (by omega) h))
          | (refine VB.is ?_; refine VB.split (fun h => absurd h (by omega)) (fun _ => ?_))
          | (refine VB.is ?_; refine VB.split (fun _ => ?_) (fun _ => ?_))
          | (refine boolE_split (fun h => ?_) (fun h => ?_) <;> subst h)
          | (refine VLd.is ?_; refine VLd.mk (.row (by repeat (first | exact At.here | apply At.there | with_reducible apply At.app | with_reducible apply At.app2)) (by rfl)) ?_)
          | (refine VSt.is ?_; refine VSt.row (by repeat (first | exact At.here | apply At.there | with_reducible apply At.app | with_reducible apply At.app2)) (by rfl) (by first | rfl | assumption) ?_)
          | (refine VNew.is ?_; refine VNew.mk fun _ => ?_)
          | (refine VAr.is ?_; refine VAr.i64 (by omega) (by omega) ?_)
          | (refine VIx.is ?_; refine VIx.mk rfl (by omega) (by omega) ?_)
          | (refine VKeep.is ?_; refine VKeep.mk (by repeat (first | exact HLe.nil | exact HLe.refl _ | refine HLe.nilv ?_ | (with_reducible refine HLe.seg ?_ ?_; (focus (repeat (first | with_reducible exact AtS.here | with_reducible exact AtS.here2 | exact AtS.last | apply AtS.there | with_reducible apply AtS.app | with_reducible apply AtS.app2)))) | refine HLe.cons (by repeat (first | exact At.here | apply At.there | with_reducible apply At.app | with_reducible apply At.app2)) ?_ | refine HLe.seg (by repeat (first | with_reducible exact AtS.here | with_reducible exact AtS.here2 | exact AtS.last | apply AtS.there | with_reducible apply AtS.app | with_reducible apply AtS.app2)) ?_ | exact HLe.last (by repeat (first | with_reducible exact AtS.here | with_reducible exact AtS.here2 | exact AtS.last | apply AtS.there | with_reducible apply AtS.app | with_reducible apply AtS.app2)))) ?_)
          | (refine VHs.is ?_; refine VHs.mk _ (HLe.refl _) ?_)
          | (refine VQ.is ?_; refine VQ.pos (by omega) (by omega) (by omega) ?_)
          | (refine VM.is ?_; refine VM.pos (by omega) (by omega) ?_)
          | (refine And.intro ?_ ?_)
        all_goals (conv => whnf)
        refine VNext.mk (j + 1, p', cap') (by dsimp only; omega) (by dsimp only; omega) ?_ ?_
        · dsimp only; rw [hon, List.length_append]; repeat (first | exact trivial | refine ⟨rfl, ?_⟩)
        · dsimp only; rw [hon, List.length_append, flat_append]; repeat (first | exact HLe.nil | exact HLe.refl _ | refine HLe.nilv ?_ | (with_reducible refine HLe.seg ?_ ?_; (focus (repeat (first | with_reducible exact AtS.here | with_reducible exact AtS.here2 | exact AtS.last | apply AtS.there | with_reducible apply AtS.app | with_reducible apply AtS.app2)))) | refine HLe.cons (by repeat (first | exact At.here | apply At.there | with_reducible apply At.app | with_reducible apply At.app2)) ?_ | refine HLe.seg (by repeat (first | with_reducible exact AtS.here | with_reducible exact AtS.here2 | exact AtS.last | apply AtS.there | with_reducible apply AtS.app | with_reducible apply AtS.app2)) ?_ | exact HLe.last (by repeat (first | with_reducible exact AtS.here | with_reducible exact AtS.here2 | exact AtS.last | apply AtS.there | with_reducible apply AtS.app | with_reducible apply AtS.app2)))
      · have hfull : out ++ sp.map (fun i => (⟨t, i⟩ : Evt)) = oj := by rw [← hoj, List.take_of_length_le hgej]
        have hrun : runFrom N ticks.toNat 0 (sm0 N) l [] = if 65536 < oj.length then none else runFrom N (ticks.toNat - (t + 1)) (t + 1) (smOf (simStep (x.put t sts D) ins)) (l'.drop (atLen t l')) oj := by
          rw [g6]
          obtain ⟨n, hn⟩ : ∃ n, ticks.toNat - t = n + 1 := ⟨ticks.toNat - t - 1, by omega⟩
          rw [hn, show ticks.toNat - (t + 1) = n by omega]
          simp only [runFrom, hring, hfull, hins, hringS]
        repeat' (conv => whnf); first
          | (refine VSeq.is ?_; refine VSeq.go ?_)
          | (refine VB.is ?_; refine VB.split (fun _ => ?_) (fun h => absurd (by omega) h))
          | (refine VB.is ?_; refine VB.split (fun h => absurd h (by omega)) (fun _ => ?_))
          | (refine VB.is ?_; refine VB.split (fun _ => ?_) (fun _ => ?_))
          | (refine boolE_split (fun h => ?_) (fun h => ?_) <;> subst h)
          | (refine VLd.is ?_; refine VLd.mk (.row (by repeat (first | exact At.here | apply At.there | with_reducible apply At.app | with_reducible apply At.app2)) (by rfl)) ?_)
          | (refine VSt.is ?_; refine VSt.row (by repeat (first | exact At.here | apply At.there | with_reducible apply At.app | with_reducible apply At.app2)) (by rfl) (by first | rfl | assumption) ?_)
          | (refine VNew.is ?_; refine VNew.mk fun _ => ?_)
          | (refine VAr.is ?_; refine VAr.i64 (by omega) (by omega) ?_)
          | (refine VIx.is ?_; refine VIx.mk rfl (by omega) (by omega) ?_)
          | (refine VKeep.is ?_; refine VKeep.mk (by repeat (first | exact HLe.nil | exact HLe.refl _ | refine HLe.nilv ?_ | (with_reducible refine HLe.seg ?_ ?_; (focus (repeat (first | with_reducible exact AtS.here | with_reducible exact AtS.here2 | exact AtS.last | apply AtS.there | with_reducible apply AtS.app | with_reducible apply AtS.app2)))) | refine HLe.cons (by repeat (first | exact At.here | apply At.there | with_reducible apply At.app | with_reducible apply At.app2)) ?_ | refine HLe.seg (by repeat (first | with_reducible exact AtS.here | with_reducible exact AtS.here2 | exact AtS.last | apply AtS.there | with_reducible apply AtS.app | with_reducible apply AtS.app2)) ?_ | exact HLe.last (by repeat (first | with_reducible exact AtS.here | with_reducible exact AtS.here2 | exact AtS.last | apply AtS.there | with_reducible apply AtS.app | with_reducible apply AtS.app2)))) ?_)
          | (refine VHs.is ?_; refine VHs.mk _ (HLe.refl _) ?_)
          | (refine VQ.is ?_; refine VQ.pos (by omega) (by omega) (by omega) ?_)
          | (refine VM.is ?_; refine VM.pos (by omega) (by omega) ?_)
          | (refine And.intro ?_ ?_)
        all_goals (conv => whnf)
        · have hr : runRes N l ticks = ([], 8) := by rw [hres, hrun, if_pos (by omega)]
          rw [hr]
          exact ⟨fun w' hw' => ⟨(none, 0), rfl, trivial, hw'.le (by repeat (first | exact HLe.nil | exact HLe.refl _ | refine HLe.nilv ?_ | (with_reducible refine HLe.seg ?_ ?_; (focus (repeat (first | with_reducible exact AtS.here | with_reducible exact AtS.here2 | exact AtS.last | apply AtS.there | with_reducible apply AtS.app | with_reducible apply AtS.app2)))) | refine HLe.cons (by repeat (first | exact At.here | apply At.there | with_reducible apply At.app | with_reducible apply At.app2)) ?_ | refine HLe.seg (by repeat (first | with_reducible exact AtS.here | with_reducible exact AtS.here2 | exact AtS.last | apply AtS.there | with_reducible apply AtS.app | with_reducible apply AtS.app2)) ?_ | exact HLe.last (by repeat (first | with_reducible exact AtS.here | with_reducible exact AtS.here2 | exact AtS.last | apply AtS.there | with_reducible apply AtS.app | with_reducible apply AtS.app2))))⟩⟩
        · rw [if_neg (by omega)] at hrun
          refine VNext.mk ⟨t + 1, (simStep (x.put t sts D) ins).sts, (simStep (x.put t sts D) ins).D, k + atLen t l', oj, pj, capj⟩ ⟨by dsimp only; omega, SimOk.step g2 ins, StaAll.step g2 g3 ins, by dsimp only; omega, by dsimp only; omega, ?_⟩ (by dsimp only; omega) (by repeat (first | exact trivial | refine ⟨rfl, ?_⟩)) ?_
          · rw [hrun, ← hl', List.drop_drop]; rfl
          · dsimp only
            have e : (l.drop (k + atLen t l')).length = l'.length - atLen t l' := by rw [List.length_drop]; omega
            have ePut : x.put (t + 1) (simStep (x.put t sts D) ins).sts (simStep (x.put t sts D) ins).D = simStep (x.put t sts D) ins := rfl
            rw [e, advs_add, hxa, ePut]
            repeat (first | exact HLe.nil | exact HLe.refl _ | refine HLe.nilv ?_ | (with_reducible refine HLe.seg ?_ ?_; (focus (repeat (first | with_reducible exact AtS.here | with_reducible exact AtS.here2 | exact AtS.last | apply AtS.there | with_reducible apply AtS.app | with_reducible apply AtS.app2)))) | refine HLe.cons (by repeat (first | exact At.here | apply At.there | with_reducible apply At.app | with_reducible apply At.app2)) ?_ | refine HLe.seg (by repeat (first | with_reducible exact AtS.here | with_reducible exact AtS.here2 | exact AtS.last | apply AtS.there | with_reducible apply AtS.app | with_reducible apply AtS.app2)) ?_ | exact HLe.last (by repeat (first | with_reducible exact AtS.here | with_reducible exact AtS.here2 | exact AtS.last | apply AtS.there | with_reducible apply AtS.app | with_reducible apply AtS.app2)))
    · repeat' (conv => whnf); first
        | (refine VSeq.is ?_; refine VSeq.go ?_)
        | (refine VB.is ?_; refine VB.split (fun _ => ?_) (fun h => absurd (by omega) h))
        | (refine VB.is ?_; refine VB.split (fun h => absurd h (by omega)) (fun _ => ?_))
        | (refine VB.is ?_; refine VB.split (fun _ => ?_) (fun _ => ?_))
        | (refine boolE_split (fun h => ?_) (fun h => ?_) <;> subst h)
        | (refine VLd.is ?_; refine VLd.mk (.row (by repeat (first | exact At.here | apply At.there | with_reducible apply At.app | with_reducible apply At.app2)) (by rfl)) ?_)
        | (refine VSt.is ?_; refine VSt.row (by repeat (first | exact At.here | apply At.there | with_reducible apply At.app | with_reducible apply At.app2)) (by rfl) (by first | rfl | assumption) ?_)
        | (refine VNew.is ?_; refine VNew.mk fun _ => ?_)
        | (refine VAr.is ?_; refine VAr.i64 (by omega) (by omega) ?_)
        | (refine VIx.is ?_; refine VIx.mk rfl (by omega) (by omega) ?_)
        | (refine VKeep.is ?_; refine VKeep.mk (by repeat (first | exact HLe.nil | exact HLe.refl _ | refine HLe.nilv ?_ | (with_reducible refine HLe.seg ?_ ?_; (focus (repeat (first | with_reducible exact AtS.here | with_reducible exact AtS.here2 | exact AtS.last | apply AtS.there | with_reducible apply AtS.app | with_reducible apply AtS.app2)))) | refine HLe.cons (by repeat (first | exact At.here | apply At.there | with_reducible apply At.app | with_reducible apply At.app2)) ?_ | refine HLe.seg (by repeat (first | with_reducible exact AtS.here | with_reducible exact AtS.here2 | exact AtS.last | apply AtS.there | with_reducible apply AtS.app | with_reducible apply AtS.app2)) ?_ | exact HLe.last (by repeat (first | with_reducible exact AtS.here | with_reducible exact AtS.here2 | exact AtS.last | apply AtS.there | with_reducible apply AtS.app | with_reducible apply AtS.app2)))) ?_)
        | (refine VHs.is ?_; refine VHs.mk _ (HLe.refl _) ?_)
        | (refine VQ.is ?_; refine VQ.pos (by omega) (by omega) (by omega) ?_)
        | (refine VM.is ?_; refine VM.pos (by omega) (by omega) ?_)
        | (refine And.intro ?_ ?_)
      all_goals (conv => whnf)
      have hrun : runRes N l ticks = (out, 0) := by
        rw [hres, g6, show ticks.toNat - t = 0 by omega]; rfl
      rw [hrun]
      exact ⟨fun w' hw' => ⟨(p, cap), rfl, trivial, hw'.le (by repeat (first | exact HLe.nil | exact HLe.refl _ | refine HLe.nilv ?_ | (with_reducible refine HLe.seg ?_ ?_; (focus (repeat (first | with_reducible exact AtS.here | with_reducible exact AtS.here2 | exact AtS.last | apply AtS.there | with_reducible apply AtS.app | with_reducible apply AtS.app2)))) | refine HLe.cons (by repeat (first | exact At.here | apply At.there | with_reducible apply At.app | with_reducible apply At.app2)) ?_ | refine HLe.seg (by repeat (first | with_reducible exact AtS.here | with_reducible exact AtS.here2 | exact AtS.last | apply AtS.there | with_reducible apply AtS.app | with_reducible apply AtS.app2)) ?_ | exact HLe.last (by repeat (first | with_reducible exact AtS.here | with_reducible exact AtS.here2 | exact AtS.last | apply AtS.there | with_reducible apply AtS.app | with_reducible apply AtS.app2))))⟩⟩

end Go.Proofs
