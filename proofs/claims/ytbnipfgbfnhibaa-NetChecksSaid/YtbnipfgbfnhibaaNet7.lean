/- Net7: Run, walked. -/
import Derived.Test.YtbnipfgbfnhibaaNet6
set_option linter.unusedVariables false
set_option linter.unusedSimpArgs false
namespace Go.Proofs
open Go Go.Vx Go.Gm

/-- How many events at the head are of this tick. -/
def atLen (t : Int) : List Evt → Nat
  | [] => 0
  | x :: r => if x.tick = t then atLen t r + 1 else 0

theorem atLen_le (t : Int) (l : List Evt) : atLen t l ≤ l.length := by
  induction l with
  | nil => simp [atLen]
  | cons x r ih => simp only [atLen]; split <;> simp <;> omega

theorem atLen_get (t : Int) {l : List Evt} {k : Nat} {x : Evt} (hk : k ≤ atLen t l) (h : l[k]? = some x) : k < atLen t l ↔ x.tick = t := by
  induction l generalizing k with
  | nil => simp at h
  | cons y r ih =>
    simp only [atLen] at hk ⊢
    cases k with
    | zero =>
      simp only [List.getElem?_cons_zero, Option.some.injEq] at h
      subst h
      split <;> simp_all
    | succ k =>
      simp only [List.getElem?_cons_succ] at h
      split at hk
      · rename_i hy
        simp only [hy, if_true]
        have := ih (k := k) (by omega) h
        omega
      · omega

theorem at_any (bt : Nat) (l : List Evt) (t : Int) (q : Option Addr) (c b off : Nat) (w : World) (h1 : Sl w evtV 2 l q l.length b off) (hc : l.length ≤ c) (hl : l.length ≤ 65536) (hb : b ∉ [bt])
    (hs : St w [bt] [.row bt 113 [.slice q l.length c]] w) :
    Calls Try.prog 61 #[.pointer (some ⟨bt, 0, none⟩), .int .i64 t] w fun e w' => ∃ y : Option Addr × Nat, e = .returned (.slice y.1 (atLen t l) y.2) ∧ (0 < atLen t l → ∃ g, y.1 = some ⟨g, 0, none⟩) ∧
      St w [bt] [.row bt 113 [.slice (advs 2 (atLen t l) (q, c)).1 (l.length - atLen t l) (advs 2 (atLen t l) (q, c)).2], .vec y.1 (atLen t l) y.2 3 1 (flat intV ((l.take (atLen t l)).map (·.id)))] w' := by
  refine enter (C := Try.cx) (args := [_, _]) (F := Try.fx61) Try.func61 rfl rfl rfl Try.ok61 hs ?_
  have hle := atLen_le t l
  repeat' (conv => whnf); first
    | (refine VSeq.is ?_; refine VSeq.go ?_)
    | (refine VB.is ?_; refine VB.split (fun _ => ?_) (fun h => absurd (by omega) h))
    | (refine VB.is ?_; refine VB.split (fun h => absurd h (by omega)) (fun _ => ?_))
    | (refine VB.is ?_; refine VB.split (fun _ => ?_) (fun _ => ?_))
    | (refine boolE_split (fun h => ?_) (fun h => ?_) <;> subst h)
    | (refine VLd.is ?_; refine VLd.mk (.row (by repeat (first | exact At.here | apply At.there | with_reducible apply At.app | with_reducible apply At.app2)) (by rfl)) ?_)
    | (refine VSt.is ?_; refine VSt.row (by repeat (first | exact At.here | apply At.there | with_reducible apply At.app | with_reducible apply At.app2)) (by rfl) (by first | rfl | assumption) ?_)
    | (refine VNew.is ?_; refine VNew.mk fun _ => ?_)
    | (refine VAr.is ?_; refine VAr.i64 (by omega) (by omega) ?_)
    | (refine VIx.is ?_; refine VIx.mk rfl (by omega) (by omega) ?_)
    | (refine VKeep.is ?_; refine VKeep.mk (by repeat (first | exact HLe.nil | exact HLe.refl _ | refine HLe.nilv ?_ | (with_reducible refine HLe.seg ?_ ?_; (focus (repeat (first | with_reducible exact AtS.here | with_reducible exact AtS.here2 | exact AtS.last | apply AtS.there | with_reducible apply AtS.app | with_reducible apply AtS.app2)))) | refine HLe.cons (by repeat (first | exact At.here | apply At.there | with_reducible apply At.app | with_reducible apply At.app2)) ?_ | refine HLe.seg (by repeat (first | with_reducible exact AtS.here | with_reducible exact AtS.here2 | exact AtS.last | apply AtS.there | with_reducible apply AtS.app | with_reducible apply AtS.app2)) ?_ | exact HLe.last (by repeat (first | with_reducible exact AtS.here | with_reducible exact AtS.here2 | exact AtS.last | apply AtS.there | with_reducible apply AtS.app | with_reducible apply AtS.app2)))) ?_)
    | (refine VHs.is ?_; refine VHs.mk _ (HLe.refl _) ?_)
    | (refine VQ.is ?_; refine VQ.pos (by omega) (by omega) (by omega) ?_)
    | (refine VM.is ?_; refine VM.pos (by omega) (by omega) ?_)
    | (refine And.intro ?_ ?_)
  all_goals (conv => whnf)
  refine VLoop.kr (α := Nat × Option Addr × Nat) [1000000, 0, 1, 4] rfl (fun x => x.1 ≤ atLen t l ∧ (0 < x.1 → ∃ g, x.2.1 = some ⟨g, 0, none⟩)) (fun x K => (5, .slice x.2.1 x.1 x.2.2) :: K)
    (fun x => [.row bt 113 [.slice (advs 2 x.1 (q, c)).1 (l.length - x.1) (advs 2 x.1 (q, c)).2], .vec x.2.1 x.1 x.2.2 3 1 (flat intV ((l.take x.1).map (·.id)))]) (fun x => l.length - x.1) (0, none, 0) ⟨by simp, by simp⟩ (by repeat (first | exact trivial | refine ⟨rfl, ?_⟩)) (by repeat (first | exact HLe.nil | exact HLe.refl _ | refine HLe.nilv ?_ | (with_reducible refine HLe.seg ?_ ?_; (focus (repeat (first | with_reducible exact AtS.here | with_reducible exact AtS.here2 | exact AtS.last | apply AtS.there | with_reducible apply AtS.app | with_reducible apply AtS.app2)))) | refine HLe.cons (by repeat (first | exact At.here | apply At.there | with_reducible apply At.app | with_reducible apply At.app2)) ?_ | refine HLe.seg (by repeat (first | with_reducible exact AtS.here | with_reducible exact AtS.here2 | exact AtS.last | apply AtS.there | with_reducible apply AtS.app | with_reducible apply AtS.app2)) ?_ | exact HLe.last (by repeat (first | with_reducible exact AtS.here | with_reducible exact AtS.here2 | exact AtS.last | apply AtS.there | with_reducible apply AtS.app | with_reducible apply AtS.app2)))) ?_
  rintro ⟨k, p, cap⟩ ⟨hk, hp⟩
  dsimp only at *
  obtain ⟨⟨qk, ck⟩, hx⟩ : ∃ x, advs 2 k (q, c) = x := ⟨_, rfl⟩
  have hck : ck = c - k := by have := advs_cap 2 k (q, c); rw [hx] at this; exact this
  rw [hx]
  obtain ⟨off', hsl⟩ := h1.advs (fun _ => rfl) hc k (by omega)
  rw [hx] at hsl
  dsimp only at hsl
  rcases Nat.lt_or_ge k l.length with hlt | hge
  · obtain ⟨x, hxk⟩ := h1.get hlt
    have hx0 : (l.drop k)[0]? = some x := by rw [List.getElem?_drop]; exact hxk
    have hat := atLen_get t hk hxk
    have hptr := hsl.ptr (by simp; omega)
    repeat' (conv => whnf); first
      | (refine VIx.is ?_; refine VIx.mk hptr (by omega) (by omega) ?_)
      | (refine VLd.is ?_; refine VLd.mk (Rd.cast (hsl.rd (o := 0) (s := 1) hb (fun _ => rfl) hx0 rfl) (by first | omega | (dsimp only; omega) | rfl)) ?_)
      | (refine VLd.is ?_; refine VLd.mk (Rd.cast (hsl.rd (o := 1) (s := 1) hb (fun _ => rfl) hx0 rfl) (by first | omega | (dsimp only; omega) | rfl)) ?_)
      | (refine VAp.is ?_; refine VAp.own (by repeat (first | exact At.here | apply At.there | with_reducible apply At.app | with_reducible apply At.app2)) (.at_ (.vec (by repeat (first | exact At.here | apply At.there | with_reducible apply At.app | with_reducible apply At.app2)) rfl)) (by simp [Value.oneCell']) (by (try dsimp only); omega) (by simp only [maxLen]; omega) fun p' cap' hp' => ?_)
      | (refine VSl.is ?_; refine VSl.adv1 (by omega) (by omega) ?_)
      | (refine VSeq.is ?_; refine VSeq.go ?_)
      | (refine VB.is ?_; refine VB.split (fun _ => ?_) (fun h => absurd (by omega) h))
      | (refine VB.is ?_; refine VB.split (fun h => absurd h (by omega)) (fun _ => ?_))
      | (refine VB.is ?_; refine VB.split (fun _ => ?_) (fun _ => ?_))
      | (refine boolE_split (fun h => ?_) (fun h => ?_) <;> subst h)
      | (refine VLd.is ?_; refine VLd.mk (.row (by repeat (first | exact At.here | apply At.there | with_reducible apply At.app | with_reducible apply At.app2)) (by rfl)) ?_)
      | (refine VSt.is ?_; refine VSt.row (by repeat (first | exact At.here | apply At.there | with_reducible apply At.app | with_reducible apply At.app2)) (by rfl) (by first | rfl | assumption) ?_)
      | (refine VNew.is ?_; refine VNew.mk fun _ => ?_)
      | (refine VAr.is ?_; refine VAr.i64 (by omega) (by omega) ?_)
      | (refine VIx.is ?_; refine VIx.mk rfl (by omega) (by omega) ?_)
      | (refine VKeep.is ?_; refine VKeep.mk (by repeat (first | exact HLe.nil | exact HLe.refl _ | refine HLe.nilv ?_ | (with_reducible refine HLe.seg ?_ ?_; (focus (repeat (first | with_reducible exact AtS.here | with_reducible exact AtS.here2 | exact AtS.last | apply AtS.there | with_reducible apply AtS.app | with_reducible apply AtS.app2)))) | refine HLe.cons (by repeat (first | exact At.here | apply At.there | with_reducible apply At.app | with_reducible apply At.app2)) ?_ | refine HLe.seg (by repeat (first | with_reducible exact AtS.here | with_reducible exact AtS.here2 | exact AtS.last | apply AtS.there | with_reducible apply AtS.app | with_reducible apply AtS.app2)) ?_ | exact HLe.last (by repeat (first | with_reducible exact AtS.here | with_reducible exact AtS.here2 | exact AtS.last | apply AtS.there | with_reducible apply AtS.app | with_reducible apply AtS.app2)))) ?_)
      | (refine VHs.is ?_; refine VHs.mk _ (HLe.refl _) ?_)
      | (refine VQ.is ?_; refine VQ.pos (by omega) (by omega) (by omega) ?_)
      | (refine VM.is ?_; refine VM.pos (by omega) (by omega) ?_)
      | (refine And.intro ?_ ?_)
    all_goals (conv => whnf)
    · have hk1 : k + 1 ≤ atLen t l := hat.2 ‹_›
      refine VNext.mk (k + 1, p', cap') ⟨hk1, fun _ => hp' (by omega)⟩ (by dsimp only; omega) (by repeat (first | exact trivial | refine ⟨rfl, ?_⟩)) ?_
      dsimp only
      rw [advs_succ, hx, List.take_add_one, hxk, Option.toList_some, List.map_append, flat_append]
      repeat (first | exact HLe.nil | exact HLe.refl _ | refine HLe.nilv ?_ | (with_reducible refine HLe.seg ?_ ?_; (focus (repeat (first | with_reducible exact AtS.here | with_reducible exact AtS.here2 | exact AtS.last | apply AtS.there | with_reducible apply AtS.app | with_reducible apply AtS.app2)))) | refine HLe.cons (by repeat (first | exact At.here | apply At.there | with_reducible apply At.app | with_reducible apply At.app2)) ?_ | refine HLe.seg (by repeat (first | with_reducible exact AtS.here | with_reducible exact AtS.here2 | exact AtS.last | apply AtS.there | with_reducible apply AtS.app | with_reducible apply AtS.app2)) ?_ | exact HLe.last (by repeat (first | with_reducible exact AtS.here | with_reducible exact AtS.here2 | exact AtS.last | apply AtS.there | with_reducible apply AtS.app | with_reducible apply AtS.app2)))
    · have hke : k = atLen t l := by have : ¬ k < atLen t l := fun h => absurd (hat.1 h) ‹_›; omega
      rw [← hke, hx]
      exact ⟨fun w' hw' => ⟨(p, cap), rfl, hp, hw'⟩⟩
  · have hke : k = atLen t l := by omega
    repeat' (conv => whnf); first
      | (refine VSeq.is ?_; refine VSeq.go ?_)
      | (refine VB.is ?_; refine VB.split (fun _ => ?_) (fun h => absurd (by omega) h))
      | (refine VB.is ?_; refine VB.split (fun h => absurd h (by omega)) (fun _ => ?_))
      | (refine VB.is ?_; refine VB.split (fun _ => ?_) (fun _ => ?_))
      | (refine boolE_split (fun h => ?_) (fun h => ?_) <;> subst h)
      | (refine VLd.is ?_; refine VLd.mk (.row (by repeat (first | exact At.here | apply At.there | with_reducible apply At.app | with_reducible apply At.app2)) (by rfl)) ?_)
      | (refine VSt.is ?_; refine VSt.row (by repeat (first | exact At.here | apply At.there | with_reducible apply At.app | with_reducible apply At.app2)) (by rfl) (by first | rfl | assumption) ?_)
      | (refine VNew.is ?_; refine VNew.mk fun _ => ?_)
      | (refine VAr.is ?_; refine VAr.i64 (by omega) (by omega) ?_)
      | (refine VIx.is ?_; refine VIx.mk rfl (by omega) (by omega) ?_)
      | (refine VKeep.is ?_; refine VKeep.mk (by repeat (first | exact HLe.nil | exact HLe.refl _ | refine HLe.nilv ?_ | (with_reducible refine HLe.seg ?_ ?_; (focus (repeat (first | with_reducible exact AtS.here | with_reducible exact AtS.here2 | exact AtS.last | apply AtS.there | with_reducible apply AtS.app | with_reducible apply AtS.app2)))) | refine HLe.cons (by repeat (first | exact At.here | apply At.there | with_reducible apply At.app | with_reducible apply At.app2)) ?_ | refine HLe.seg (by repeat (first | with_reducible exact AtS.here | with_reducible exact AtS.here2 | exact AtS.last | apply AtS.there | with_reducible apply AtS.app | with_reducible apply AtS.app2)) ?_ | exact HLe.last (by repeat (first | with_reducible exact AtS.here | with_reducible exact AtS.here2 | exact AtS.last | apply AtS.there | with_reducible apply AtS.app | with_reducible apply AtS.app2)))) ?_)
      | (refine VHs.is ?_; refine VHs.mk _ (HLe.refl _) ?_)
      | (refine VQ.is ?_; refine VQ.pos (by omega) (by omega) (by omega) ?_)
      | (refine VM.is ?_; refine VM.pos (by omega) (by omega) ?_)
      | (refine And.intro ?_ ?_)
    all_goals (conv => whnf)
    rw [← hke, hx]
    exact ⟨fun w' hw' => ⟨(p, cap), rfl, hp, hw'⟩⟩

/-! ### Run -/

/-- What is left of a simulation's parts in plain Lean. -/
structure Sm where
  sts : List Sta
  D : List (List Int)

/-- A tick, the rows of what is due in a ring. -/
def ringStep (N : Net) (t : Nat) (x : Sm) (ins : List Int) : Sm :=
  let F := fire N.ps x.sts ((x.D[t % 16]?).getD [])
  ⟨F.map (·.1), (yields (wire N.syns) (spk F ++ ins.map fun k => -1 - k)).foldl (due1 t) (x.D.modify (t % 16) fun l => List.replicate l.length 0)⟩

def ringSpk (N : Net) (t : Nat) (x : Sm) : List Int := spk (fire N.ps x.sts ((x.D[t % 16]?).getD []))

def smOf (x : SimM) : Sm := ⟨x.sts, x.D.map (·.l)⟩

theorem smOf_step (x : SimM) (ins : List Int) : smOf (simStep x ins) = ringStep x.N x.tick (smOf x) ins := by
  unfold smOf simStep ringStep simFire simSrcs
  simp only [dupds_l, List.getElem?_map]
  congr 2
  apply List.ext_getElem?
  intro i
  simp only [List.getElem?_map, List.getElem?_modify]
  split <;> cases x.D[i]? <;> simp

theorem at_call {w0 : World} {M : List Nat} {H r : HP} {K : Value → HP → Prop} {u : Ent → HP} (bt : Nat) (l : List Evt) (t : Int) (q : Option Addr) (c b off : Nat) (hat : At H (.row bt 113 [.slice q l.length c]) u r)
    (h1 : Sl w0 evtV 2 l q l.length b off) (hM : b ∉ M) (hc : l.length ≤ c) (hl : l.length ≤ 65536)
    (hk : ∀ p cap, (0 < atLen t l → ∃ g, p = some ⟨g, 0, none⟩) →
      K (.slice p (atLen t l) cap) (.row bt 113 [.slice (advs 2 (atLen t l) (q, c)).1 (l.length - atLen t l) (advs 2 (atLen t l) (q, c)).2] :: .vec p (atLen t l) cap 3 1 (flat intV ((l.take (atLen t l)).map (·.id))) :: r)) :
    VCall Try.cx.P w0 M H 61 [.pointer (some ⟨bt, 0, none⟩), .int .i64 t] K := by
  refine VCall.turn1 (α := Option Addr × Nat) (p := fun y => 0 < atLen t l → ∃ g, y.1 = some ⟨g, 0, none⟩) (v := fun y => .slice y.1 (atLen t l) y.2) (G := fun y => [.row bt 113 [.slice (advs 2 (atLen t l) (q, c)).1 (l.length - atLen t l) (advs 2 (atLen t l) (q, c)).2], .vec y.1 (atLen t l) y.2 3 1 (flat intV ((l.take (atLen t l)).map fun e : Evt => e.id))]) hat (fun w hw hs => ?_) (fun y hy => hk y.1 y.2 hy)
  obtain ⟨b', off', h2, hb⟩ := h1.oldOut hM hw (S := [.row bt 113 [.slice q l.length c]]) (.cons hat .nil) (fun _ => rfl) (by omega)
  exact at_any bt l t q c b' off' w h2 hc hl hb hs

/-- All states are valid. -/
def StaAll (N : Net) (sts : List Sta) : Prop := ∀ (i : Nat) p s, N.ps[i]? = some p → sts[i]? = some s → staOk p s

theorem step_call {w0 : World} {M : List Nat} {H : HP} {Z : HP → HP} {K : Value → HP → Prop} (x : SimM) (hx : SimOk x) (ht : x.tick < 10000) (hst : StaAll x.N x.sts) (ins : List Int) (hins : ∀ k ∈ ins, 0 ≤ k ∧ k ≤ 256) (hil : ins.length ≤ 65536)
    (p : Option Addr) (n c : Nat) (hn : n = ins.length) (hat : AtS H (ownH x) Z) (hl : HLe (ownH x ++ shrH x) H) (hin : HLe (.vec p n c 3 1 (flat intV ins) :: ownH x) H)
    (hk : ∀ q cap, (0 < (spk (simFire x)).length → ∃ g, q = some ⟨g, 0, none⟩) → K (.slice q (spk (simFire x)).length cap) (.vec q (spk (simFire x)).length cap 3 1 (flat intV (spk (simFire x))) :: Z (ownH (simStep x ins)))) :
    VCall Try.cx.P w0 M H 60 [.pointer (some ⟨x.b, 0, none⟩), .slice p n c] K := by
  subst hn
  refine VCall.turnV (α := Option Addr × Nat) (fun y => .slice y.1 (spk (simFire x)).length y.2) (fun y => 0 < (spk (simFire x)).length → ∃ g, y.1 = some ⟨g, 0, none⟩) (fun y => ownH (simStep x ins)) (fun y => [.vec y.1 (spk (simFire x)).length y.2 3 1 (flat intV (spk (simFire x)))]) hat (fun w hw hs => ?_) (fun y hy => hk y.1 y.2 hy)
  obtain ⟨bi, h2, hb⟩ := Sl.vecOut hw hin (fun _ => rfl) rfl
  have hsh : ShOk w (ids (ownH x)) x := ShOk.of (hw.le hl) .here hx.rows (fun y hy => by simpa using hy)
  exact step_any x hx ht hst ins hins hil p c bi 0 w hs hsh h2 hb

end Go.Proofs
