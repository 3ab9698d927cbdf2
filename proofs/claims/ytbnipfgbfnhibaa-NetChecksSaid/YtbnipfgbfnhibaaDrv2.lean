/- Drv2: cells of a simulation by events, walked. -/
import Derived.Test.YtbnipfgbfnhibaaDrv1
import Derived.Test.YtbnipfgbfnhibaaNeu2
set_option linter.unusedVariables false
set_option linter.unusedSimpArgs false
namespace Go.Proofs
open Go Go.Vx Go.Gm

/-- A cell: a neuron, its state before a tick, that tick, the tick of its next spike in silence. -/
structure CellM where
  p : Par
  s : Sta
  tick : Nat
  next : Int

def ccV (c : CellM) : List Value :=
  [.int .i64 c.p.lk, .int .i64 c.p.lv, .int .i64 c.p.bias, .int .i64 c.p.th, .int .i64 c.p.rk, .int .i64 c.p.rs, .int .i64 c.p.fl, .int .i64 c.p.rest, .int .i64 c.s.v, .int .i64 c.s.rest, .int .i64 (c.tick : Int), .int .i64 c.next]

def cellsE (g n cap : Nat) (cs : List CellM) : Ent := .vec (some ⟨g, 0, none⟩) n cap 131 12 (flat ccV cs)

theorem set_get {α : Type} {l : List α} {i : Nat} {y : α} (h : i < l.length) : (l.set i y)[i]? = some y := by simp [h]



theorem set_self {α : Type} {l : List α} {k : Nat} {a : α} (h : l[k]? = some a) : l.set k a = l := by
  obtain ⟨hlt, rfl⟩ := List.getElem?_eq_some_iff.1 h
  simp

theorem rest_any (g n cap : Nat) (cs : List CellM) (i : Nat) (c : CellM) (hi : cs[i]? = some c) (hl : cs.length ≤ 1024) (hp : ParOk c.p) (hso : staOk c.p c.s) (T : Nat) (hT : T ≤ 1073741824) (hct : c.tick ≤ T) (hq : quiet c.p c.s (T - c.tick)) (w : World)
    (hs : St w (ids [cellsE g n cap cs]) [cellsE g n cap cs] w) :
    Calls Try.prog 103 #[.pointer (some ⟨g, i * 12, none⟩), .int .i64 (T : Int)] w fun e w' => ∃ _ : Unit, e = .returned (.tuple #[]) ∧ True ∧
      St w (ids [cellsE g n cap cs]) [cellsE g n cap (cs.set i ⟨c.p, silN c.p c.s (T - c.tick), T, c.next⟩)] w' := by
  obtain ⟨Mx, hMx⟩ : ∃ Mx, ids [cellsE g n cap cs] = Mx := ⟨_, rfl⟩
  rw [hMx] at hs ⊢
  unfold cellsE at hs
  have hlt : i < cs.length := (List.getElem?_eq_some_iff.1 hi).1
  refine enter (C := Try.cx) (args := [_, _]) (F := Try.fx103) Try.func103 rfl rfl rfl Try.ok103 hs ?_
  repeat' (conv => whnf); first
    | (refine VSeq.is ?_; refine VSeq.go ?_)
    | (refine VB.is ?_; refine VB.split (fun _ => ?_) (fun h => absurd (by omega) h))
    | (refine VB.is ?_; refine VB.split (fun h => absurd h (by omega)) (fun _ => ?_))
    | (refine VB.is ?_; refine VB.split (fun _ => ?_) (fun _ => ?_))
    | (refine boolE_split (fun h => ?_) (fun h => ?_) <;> subst h)
    | (refine VLd.is ?_; refine VLd.mk (.row (by repeat (first | exact At.here | apply At.there | with_reducible apply At.app | with_reducible apply At.app2)) (by rfl)) ?_)
    | (refine VSt.is ?_; refine VSt.row (by repeat (first | exact At.here | apply At.there | with_reducible apply At.app | with_reducible apply At.app2)) (by rfl) (by first | rfl | assumption) ?_)
    | (refine VNew.is ?_; refine VNew.mk fun _ => ?_)
    | (refine VAr.is ?_; refine VAr.i64 (by omega) (by omega) ?_)
    | (refine VIx.is ?_; refine VIx.mk rfl (by omega) (by omega) ?_)
    | (refine VKeep.is ?_; refine VKeep.mk (by repeat (first | exact HLe.nil | exact HLe.refl _ | refine HLe.nilv ?_ | (with_reducible refine HLe.seg ?_ ?_; (focus (repeat (first | with_reducible exact AtS.here | with_reducible exact AtS.here2 | exact AtS.last | apply AtS.there | with_reducible apply AtS.app | with_reducible apply AtS.app2)))) | refine HLe.cons (by repeat (first | exact At.here | apply At.there | with_reducible apply At.app | with_reducible apply At.app2)) ?_ | refine HLe.seg (by repeat (first | with_reducible exact AtS.here | with_reducible exact AtS.here2 | exact AtS.last | apply AtS.there | with_reducible apply AtS.app | with_reducible apply AtS.app2)) ?_ | exact HLe.last (by repeat (first | with_reducible exact AtS.here | with_reducible exact AtS.here2 | exact AtS.last | apply AtS.there | with_reducible apply AtS.app | with_reducible apply AtS.app2)))) ?_)
    | (refine VHs.is ?_; refine VHs.mk _ (HLe.refl _) ?_)
    | (refine VQ.is ?_; refine VQ.pos (by omega) (by omega) (by omega) ?_)
    | (refine VM.is ?_; refine VM.pos (by omega) (by omega) ?_)
    | (refine And.intro ?_ ?_)
  all_goals (conv => whnf)
  refine VLoop.kr (α := Nat) [1000000, 0, 1] rfl (fun t => c.tick ≤ t ∧ t ≤ T) (fun t K => K) (fun t => [.vec (some ⟨g, 0, none⟩) n cap 131 12 (flat ccV (cs.set i ⟨c.p, silN c.p c.s (t - c.tick), t, c.next⟩))])
    (fun t => T - t) c.tick ⟨by omega, hct⟩ (by repeat (first | exact trivial | refine ⟨rfl, ?_⟩)) ?_ ?_
  · have : cs.set i ⟨c.p, silN c.p c.s (c.tick - c.tick), c.tick, c.next⟩ = cs := by
      rw [Nat.sub_self]
      exact set_self hi
    rw [this]
    repeat (first | exact HLe.nil | exact HLe.refl _ | refine HLe.nilv ?_ | (with_reducible refine HLe.seg ?_ ?_; (focus (repeat (first | with_reducible exact AtS.here | with_reducible exact AtS.here2 | exact AtS.last | apply AtS.there | with_reducible apply AtS.app | with_reducible apply AtS.app2)))) | refine HLe.cons (by repeat (first | exact At.here | apply At.there | with_reducible apply At.app | with_reducible apply At.app2)) ?_ | refine HLe.seg (by repeat (first | with_reducible exact AtS.here | with_reducible exact AtS.here2 | exact AtS.last | apply AtS.there | with_reducible apply AtS.app | with_reducible apply AtS.app2)) ?_ | exact HLe.last (by repeat (first | with_reducible exact AtS.here | with_reducible exact AtS.here2 | exact AtS.last | apply AtS.there | with_reducible apply AtS.app | with_reducible apply AtS.app2)))
  intro t ⟨ht1, ht2⟩
  rcases Nat.lt_or_ge t T with hlt' | hge
  · obtain ⟨m, hm⟩ : ∃ m, min (T - t) 64 = m := ⟨_, rfl⟩
    have em : min ((T : Int) - (t : Int)) 64 = (m : Int) := by omega
    obtain ⟨q, hqq⟩ : ∃ q, silN c.p c.s (t - c.tick) = q := ⟨_, rfl⟩
    have hqo : staOk c.p q := by rw [← hqq]; exact silN_ok hp hso _
    have hS := Silent_any c.p q hp hqo m (by omega)
    obtain ⟨q', hq'⟩ : ∃ q', silN c.p q m = q' := ⟨_, rfl⟩
    have hq1 : silN c.p c.s (t + m - c.tick) = q' := by rw [← hq', ← hqq, ← silN_add]; congr 1; omega
    have hqm : quiet c.p q (T - t) := by
      rw [← hqq]; exact quiet_add (by rw [show t - c.tick + (T - t) = T - c.tick by omega]; exact hq)
    rw [hq'] at hS
    rw [hqq]
    repeat' (conv => whnf); first
      | (refine VLd.is ?_; refine VLd.is ?_; refine VLd.atS (i * 12 + 0) 8 ?_; refine VLd.mk (.vec (by repeat (first | exact At.here | apply At.there | with_reducible apply At.app | with_reducible apply At.app2)) (sub_flat (f := ccV) (k := 12) (o := 0) (s := 8) (vs := parV c.p) (fun _ => rfl) (set_get (y := (⟨c.p, q, t, c.next⟩ : CellM)) hlt) rfl)) ?_)
      | (refine VLd.is ?_; refine VLd.is ?_; refine VLd.atS (i * 12 + 8) 2 ?_; refine VLd.mk (.vec (by repeat (first | exact At.here | apply At.there | with_reducible apply At.app | with_reducible apply At.app2)) (sub_flat (f := ccV) (k := 12) (o := 8) (s := 2) (vs := staV q) (fun _ => rfl) (set_get (y := (⟨c.p, q, t, c.next⟩ : CellM)) hlt) rfl)) ?_)
      | (refine VLd.is ?_; refine VLd.is ?_; refine VLd.atS (i * 12 + 10) 1 ?_; refine VLd.mk (.vec (by repeat (first | exact At.here | apply At.there | with_reducible apply At.app | with_reducible apply At.app2)) (sub_flat (f := ccV) (k := 12) (o := 10) (s := 1) (vs := [.int .i64 (t : Int)]) (fun _ => rfl) (set_get (y := (⟨c.p, q, t, c.next⟩ : CellM)) hlt) rfl)) ?_)
      | (refine VLd.is ?_; refine VLd.is ?_; refine VLd.atS (i * 12 + 11) 1 ?_; refine VLd.mk (.vec (by repeat (first | exact At.here | apply At.there | with_reducible apply At.app | with_reducible apply At.app2)) (sub_flat (f := ccV) (k := 12) (o := 11) (s := 1) (vs := [.int .i64 c.next]) (fun _ => rfl) (set_get (y := (⟨c.p, q, t, c.next⟩ : CellM)) hlt) rfl)) ?_)
      | (refine VLd.is ?_; refine VLd.is ?_; refine VLd.atS (i * 12 + 2) 1 ?_; refine VLd.mk (.vec (by repeat (first | exact At.here | apply At.there | with_reducible apply At.app | with_reducible apply At.app2)) (sub_flat (f := ccV) (k := 12) (o := 2) (s := 1) (vs := [.int .i64 (Par.bias c.p)]) (fun _ => rfl) (set_get (y := (⟨c.p, q, t, c.next⟩ : CellM)) hlt) rfl)) ?_)
      | (refine VLd.is ?_; refine VLd.is ?_; refine VLd.atS (i * 12 + 3) 1 ?_; refine VLd.mk (.vec (by repeat (first | exact At.here | apply At.there | with_reducible apply At.app | with_reducible apply At.app2)) (sub_flat (f := ccV) (k := 12) (o := 3) (s := 1) (vs := [.int .i64 (Par.th c.p)]) (fun _ => rfl) (set_get (y := (⟨c.p, q, t, c.next⟩ : CellM)) hlt) rfl)) ?_)
      | (refine VLd.is ?_; refine VLd.is ?_; refine VLd.atS (i * 12 + 8) 1 ?_; refine VLd.mk (.vec (by repeat (first | exact At.here | apply At.there | with_reducible apply At.app | with_reducible apply At.app2)) (sub_flat (f := ccV) (k := 12) (o := 8) (s := 1) (vs := [.int .i64 (Sta.v q)]) (fun _ => rfl) (set_get (y := (⟨c.p, q, t, c.next⟩ : CellM)) hlt) rfl)) ?_)
      | (refine VLd.is ?_; refine VLd.mk (Rd.cast (.vec (by repeat (first | exact At.here | apply At.there | with_reducible apply At.app | with_reducible apply At.app2)) (sub_flat (f := ccV) (k := 12) (o := 10) (s := 1) (vs := [.int .i64 (t : Int)]) (fun _ => rfl) (set_get (y := (⟨c.p, q', t, c.next⟩ : CellM)) hlt) rfl)) (by first | omega | (dsimp only; omega) | rfl)) ?_)
      | (refine VCall.is ?_; refine VCall.isF 120 ?_; rw [em]; refine VCall.ex hS fun y _ => ?_)
      | (refine VSt.is ?_; refine VSt.is ?_; refine VSt.atS (i * 12 + 8) ?_; apply VSt.vec; (focus (repeat (first | exact At.here | apply At.there | with_reducible apply At.app | with_reducible apply At.app2))); exact upd_flat (f := ccV) (k := 12) (o := 8) (y := ⟨c.p, q', t, c.next⟩) (fun _ => rfl) (set_get hlt) rfl; rfl; rw [List.set_set])
      | (refine VSt.is ?_; refine VSt.is ?_; refine VSt.atS (i * 12 + 10) ?_; apply VSt.vec; (focus (repeat (first | exact At.here | apply At.there | with_reducible apply At.app | with_reducible apply At.app2))); exact upd_flat (f := ccV) (k := 12) (o := 10) (y := ⟨c.p, q', t + m, c.next⟩) (fun _ => rfl) (set_get hlt) rfl; rfl; rw [List.set_set])
      | (refine VSt.is ?_; refine VSt.is ?_; refine VSt.atS (i * 12 + 10) ?_; apply VSt.vec; (focus (repeat (first | exact At.here | apply At.there | with_reducible apply At.app | with_reducible apply At.app2))); exact upd_flat (f := ccV) (k := 12) (o := 10) (y := ⟨c.p, q, T, c.next⟩) (fun _ => rfl) (set_get hlt) rfl; rfl; rw [List.set_set])
      | (refine VSeq.is ?_; refine VSeq.go ?_)
      | (refine VB.is ?_; refine VB.split (fun _ => ?_) (fun h => absurd (by omega) h))
      | (refine VB.is ?_; refine VB.split (fun h => absurd h (by omega)) (fun _ => ?_))
      | (refine VB.is ?_; refine VB.split (fun _ => ?_) (fun _ => ?_))
      | (refine boolE_split (fun h => ?_) (fun h => ?_) <;> subst h)
      | (refine VLd.is ?_; refine VLd.mk (.row (by repeat (first | exact At.here | apply At.there | with_reducible apply At.app | with_reducible apply At.app2)) (by rfl)) ?_)
      | (refine VSt.is ?_; refine VSt.row (by repeat (first | exact At.here | apply At.there | with_reducible apply At.app | with_reducible apply At.app2)) (by rfl) (by first | rfl | assumption) ?_)
      | (refine VNew.is ?_; refine VNew.mk fun _ => ?_)
      | (refine VAr.is ?_; refine VAr.i64 (by omega) (by omega) ?_)
      | (refine VIx.is ?_; refine VIx.mk rfl (by omega) (by omega) ?_)
      | (refine VKeep.is ?_; refine VKeep.mk (by repeat (first | exact HLe.nil | exact HLe.refl _ | refine HLe.nilv ?_ | (with_reducible refine HLe.seg ?_ ?_; (focus (repeat (first | with_reducible exact AtS.here | with_reducible exact AtS.here2 | exact AtS.last | apply AtS.there | with_reducible apply AtS.app | with_reducible apply AtS.app2)))) | refine HLe.cons (by repeat (first | exact At.here | apply At.there | with_reducible apply At.app | with_reducible apply At.app2)) ?_ | refine HLe.seg (by repeat (first | with_reducible exact AtS.here | with_reducible exact AtS.here2 | exact AtS.last | apply AtS.there | with_reducible apply AtS.app | with_reducible apply AtS.app2)) ?_ | exact HLe.last (by repeat (first | with_reducible exact AtS.here | with_reducible exact AtS.here2 | exact AtS.last | apply AtS.there | with_reducible apply AtS.app | with_reducible apply AtS.app2)))) ?_)
      | (refine VHs.is ?_; refine VHs.mk _ (HLe.refl _) ?_)
      | (refine VQ.is ?_; refine VQ.pos (by omega) (by omega) (by omega) ?_)
      | (refine VM.is ?_; refine VM.pos (by omega) (by omega) ?_)
      | (refine And.intro ?_ ?_)
    all_goals (conv => whnf)
    all_goals first
      | (have he : q' = q := by cases q; cases q'; simp_all
         have hfx := silN_same hp hqo (n := m) (by omega) (quiet_mono hqm (by omega)) (by rw [hq', he])
         have hfin : silN c.p c.s (T - c.tick) = q := by
           rw [show T - c.tick = (t - c.tick) + (T - t) by omega, silN_add, hqq, silN_fix hfx.1]
         refine ⟨fun w' hw' => ⟨(), rfl, trivial, ?_⟩⟩
         rw [hfin]
         exact hw'.le (by unfold cellsE; repeat (first | exact HLe.nil | exact HLe.refl _ | refine HLe.nilv ?_ | (with_reducible refine HLe.seg ?_ ?_; (focus (repeat (first | with_reducible exact AtS.here | with_reducible exact AtS.here2 | exact AtS.last | apply AtS.there | with_reducible apply AtS.app | with_reducible apply AtS.app2)))) | refine HLe.cons (by repeat (first | exact At.here | apply At.there | with_reducible apply At.app | with_reducible apply At.app2)) ?_ | refine HLe.seg (by repeat (first | with_reducible exact AtS.here | with_reducible exact AtS.here2 | exact AtS.last | apply AtS.there | with_reducible apply AtS.app | with_reducible apply AtS.app2)) ?_ | exact HLe.last (by repeat (first | with_reducible exact AtS.here | with_reducible exact AtS.here2 | exact AtS.last | apply AtS.there | with_reducible apply AtS.app | with_reducible apply AtS.app2)))))
      | (refine VNext.mk (t + m) (by omega) (by omega) (by repeat (first | exact trivial | refine ⟨rfl, ?_⟩)) ?_
         rw [hq1]
         repeat (first | exact HLe.nil | exact HLe.refl _ | refine HLe.nilv ?_ | (with_reducible refine HLe.seg ?_ ?_; (focus (repeat (first | with_reducible exact AtS.here | with_reducible exact AtS.here2 | exact AtS.last | apply AtS.there | with_reducible apply AtS.app | with_reducible apply AtS.app2)))) | refine HLe.cons (by repeat (first | exact At.here | apply At.there | with_reducible apply At.app | with_reducible apply At.app2)) ?_ | refine HLe.seg (by repeat (first | with_reducible exact AtS.here | with_reducible exact AtS.here2 | exact AtS.last | apply AtS.there | with_reducible apply AtS.app | with_reducible apply AtS.app2)) ?_ | exact HLe.last (by repeat (first | with_reducible exact AtS.here | with_reducible exact AtS.here2 | exact AtS.last | apply AtS.there | with_reducible apply AtS.app | with_reducible apply AtS.app2))))
  · obtain rfl : t = T := by omega
    repeat' (conv => whnf); first
      | (refine VLd.is ?_; refine VLd.is ?_; refine VLd.atS (i * 12 + 0) 8 ?_; refine VLd.mk (.vec (by repeat (first | exact At.here | apply At.there | with_reducible apply At.app | with_reducible apply At.app2)) (sub_flat (f := ccV) (k := 12) (o := 0) (s := 8) (vs := parV c.p) (fun _ => rfl) (set_get (y := (⟨c.p, silN c.p c.s (t - c.tick), t, c.next⟩ : CellM)) hlt) rfl)) ?_)
      | (refine VLd.is ?_; refine VLd.is ?_; refine VLd.atS (i * 12 + 8) 2 ?_; refine VLd.mk (.vec (by repeat (first | exact At.here | apply At.there | with_reducible apply At.app | with_reducible apply At.app2)) (sub_flat (f := ccV) (k := 12) (o := 8) (s := 2) (vs := staV silN c.p c.s (t - c.tick)) (fun _ => rfl) (set_get (y := (⟨c.p, silN c.p c.s (t - c.tick), t, c.next⟩ : CellM)) hlt) rfl)) ?_)
      | (refine VLd.is ?_; refine VLd.is ?_; refine VLd.atS (i * 12 + 10) 1 ?_; refine VLd.mk (.vec (by repeat (first | exact At.here | apply At.there | with_reducible apply At.app | with_reducible apply At.app2)) (sub_flat (f := ccV) (k := 12) (o := 10) (s := 1) (vs := [.int .i64 (t : Int)]) (fun _ => rfl) (set_get (y := (⟨c.p, silN c.p c.s (t - c.tick), t, c.next⟩ : CellM)) hlt) rfl)) ?_)
      | (refine VLd.is ?_; refine VLd.is ?_; refine VLd.atS (i * 12 + 11) 1 ?_; refine VLd.mk (.vec (by repeat (first | exact At.here | apply At.there | with_reducible apply At.app | with_reducible apply At.app2)) (sub_flat (f := ccV) (k := 12) (o := 11) (s := 1) (vs := [.int .i64 c.next]) (fun _ => rfl) (set_get (y := (⟨c.p, silN c.p c.s (t - c.tick), t, c.next⟩ : CellM)) hlt) rfl)) ?_)
      | (refine VLd.is ?_; refine VLd.is ?_; refine VLd.atS (i * 12 + 2) 1 ?_; refine VLd.mk (.vec (by repeat (first | exact At.here | apply At.there | with_reducible apply At.app | with_reducible apply At.app2)) (sub_flat (f := ccV) (k := 12) (o := 2) (s := 1) (vs := [.int .i64 (Par.bias c.p)]) (fun _ => rfl) (set_get (y := (⟨c.p, silN c.p c.s (t - c.tick), t, c.next⟩ : CellM)) hlt) rfl)) ?_)
      | (refine VLd.is ?_; refine VLd.is ?_; refine VLd.atS (i * 12 + 3) 1 ?_; refine VLd.mk (.vec (by repeat (first | exact At.here | apply At.there | with_reducible apply At.app | with_reducible apply At.app2)) (sub_flat (f := ccV) (k := 12) (o := 3) (s := 1) (vs := [.int .i64 (Par.th c.p)]) (fun _ => rfl) (set_get (y := (⟨c.p, silN c.p c.s (t - c.tick), t, c.next⟩ : CellM)) hlt) rfl)) ?_)
      | (refine VLd.is ?_; refine VLd.is ?_; refine VLd.atS (i * 12 + 8) 1 ?_; refine VLd.mk (.vec (by repeat (first | exact At.here | apply At.there | with_reducible apply At.app | with_reducible apply At.app2)) (sub_flat (f := ccV) (k := 12) (o := 8) (s := 1) (vs := [.int .i64 (Sta.v silN c.p c.s (t - c.tick))]) (fun _ => rfl) (set_get (y := (⟨c.p, silN c.p c.s (t - c.tick), t, c.next⟩ : CellM)) hlt) rfl)) ?_)
      | (refine VSeq.is ?_; refine VSeq.go ?_)
      | (refine VB.is ?_; refine VB.split (fun _ => ?_) (fun h => absurd (by omega) h))
      | (refine VB.is ?_; refine VB.split (fun h => absurd h (by omega)) (fun _ => ?_))
      | (refine VB.is ?_; refine VB.split (fun _ => ?_) (fun _ => ?_))
      | (refine boolE_split (fun h => ?_) (fun h => ?_) <;> subst h)
      | (refine VLd.is ?_; refine VLd.mk (.row (by repeat (first | exact At.here | apply At.there | with_reducible apply At.app | with_reducible apply At.app2)) (by rfl)) ?_)
      | (refine VSt.is ?_; refine VSt.row (by repeat (first | exact At.here | apply At.there | with_reducible apply At.app | with_reducible apply At.app2)) (by rfl) (by first | rfl | assumption) ?_)
      | (refine VNew.is ?_; refine VNew.mk fun _ => ?_)
      | (refine VAr.is ?_; refine VAr.i64 (by omega) (by omega) ?_)
      | (refine VIx.is ?_; refine VIx.mk rfl (by omega) (by omega) ?_)
      | (refine VKeep.is ?_; refine VKeep.mk (by repeat (first | exact HLe.nil | exact HLe.refl _ | refine HLe.nilv ?_ | (with_reducible refine HLe.seg ?_ ?_; (focus (repeat (first | with_reducible exact AtS.here | with_reducible exact AtS.here2 | exact AtS.last | apply AtS.there | with_reducible apply AtS.app | with_reducible apply AtS.app2)))) | refine HLe.cons (by repeat (first | exact At.here | apply At.there | with_reducible apply At.app | with_reducible apply At.app2)) ?_ | refine HLe.seg (by repeat (first | with_reducible exact AtS.here | with_reducible exact AtS.here2 | exact AtS.last | apply AtS.there | with_reducible apply AtS.app | with_reducible apply AtS.app2)) ?_ | exact HLe.last (by repeat (first | with_reducible exact AtS.here | with_reducible exact AtS.here2 | exact AtS.last | apply AtS.there | with_reducible apply AtS.app | with_reducible apply AtS.app2)))) ?_)
      | (refine VHs.is ?_; refine VHs.mk _ (HLe.refl _) ?_)
      | (refine VQ.is ?_; refine VQ.pos (by omega) (by omega) (by omega) ?_)
      | (refine VM.is ?_; refine VM.pos (by omega) (by omega) ?_)
      | (refine And.intro ?_ ?_)
    all_goals (conv => whnf)
    exact ⟨fun w' hw' => ⟨(), rfl, trivial, hw'⟩⟩

theorem rest_call {w0 : World} {M : List Nat} {H R : HP} {K : Value → HP → Prop} (g n cap : Nat) (cs : List CellM) (i : Nat) (c : CellM) (hi : cs[i]? = some c) (hl : cs.length ≤ 1024) (hp : ParOk c.p) (hso : staOk c.p c.s) (T : Nat) (hT : T ≤ 1073741824) (hct : c.tick ≤ T) (hq : quiet c.p c.s (T - c.tick))
    (htk : Take H [cellsE g n cap cs] R) (hk : K (.tuple #[]) (cellsE g n cap (cs.set i ⟨c.p, silN c.p c.s (T - c.tick), T, c.next⟩) :: R)) :
    VCall Try.cx.P w0 M H 103 [.pointer (some ⟨g, i * 12, none⟩), .int .i64 (T : Int)] K :=
  VCall.turnT (α := Unit) (fun _ => .tuple #[]) (fun _ => True) (fun _ => [cellsE g n cap (cs.set i ⟨c.p, silN c.p c.s (T - c.tick), T, c.next⟩)]) htk
    (fun w _ hs => rest_any g n cap cs i c hi hl hp hso T hT hct hq w hs) (fun _ _ => hk)

end Go.Proofs
