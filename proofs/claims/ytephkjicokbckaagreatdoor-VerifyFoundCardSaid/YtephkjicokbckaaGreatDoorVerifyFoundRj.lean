import Derived.Test.YtephkjicokbckaaGreatDoorVerifyFoundLw
import Derived.Test.YtephkjicokbckaaGreatDoorVerifyFoundCt
import Derived.Test.YtephkjicokbckaaGreatDoorVerifyFoundSx
import Derived.Test.YtephkjicokbckaaGreatDoorVerifyFoundCl
import Derived.Test.YtephkjicokbckaaGreatDoorVerifyFoundWe
import Derived.Test.YtephkjicokbckaaGreatDoorVerifyFoundStp
import Derived.Test.YtephkjicokbckaaGreatDoorVerifyFoundImg
import Derived.Test.YtephkjicokbckaaGreatDoorVerifyFoundTo2
import Derived.Test.YtephkjicokbckaaGreatDoorVerifyFoundKy
import Derived.Test.YtephkjicokbckaaGreatDoorVerifyFoundRk
import Derived.Test.YtephkjicokbckaaGreatDoorVerifyFoundEb
section
set_option linter.unusedVariables false

set_option linter.unusedSimpArgs false

namespace Go.Proofs

open Go Go.Vx Go.Gm

theorem vfew_any (pn qs : Option Addr) (n m cn cs : Nat) (x : Value) (w : World) : Calls Tryz.prog 15 #[.agg #[.slice pn n cn, x, .slice qs m cs]] w fun e w' => ∃ b : Bool, e = .returned (.bool b) ∧ (b = true → n ≤ 10 ∧ m ≤ 40) ∧ St w [] [] w' := by
  refine enter (C := Tryz.cx) (F := Tryz.fx15) (args := [_]) Tryz.func15 rfl rfl rfl Tryz.ok15 (St.start w []) ?_
  repeat' (conv => whnf); first | (refine VSeq.go ?_) | (refine VB.is ?_; refine VB.no (by omega) fun _ => ?_) | (refine VB.split (fun _ => ?_) (fun _ => ?_)) | (refine VLd.is ?_; refine VLd.mk (.row aT (by rfl)) ?_) | (refine VNew.mk fun _ => ?_)
  all_goals (conv => whnf)
  all_goals exact ⟨fun w' hw' => ⟨_, rfl, by first | (intro h; cases h; done) | (intro _; omega), hw'.le .nil⟩⟩

end Go.Proofs
end

section
set_option linter.unusedVariables false

set_option linter.unusedSimpArgs false

namespace Go.Proofs

open Go Go.Vx Go.Gm

theorem vsome2_any (p : Option Addr) (n c : Nat) (w : World) : Calls Tryz.prog 22 #[.slice p n c] w fun e w' => ∃ b : Bool, e = .returned (.bool b) ∧ (b = true → n ≤ 60 ∨ (65536 < n ∧ n ≤ 65546)) ∧ St w [] [] w' := by
  refine enter (C := Tryz.cx) (F := Tryz.fx22) (args := [_]) Tryz.func22 rfl rfl rfl Tryz.ok22 (St.start w []) ?_
  repeat' (conv => whnf); first | (refine VSeq.go ?_) | (refine VB.is ?_; refine VB.yes (by omega) fun _ => ?_) | (refine VB.is ?_; refine VB.no (by omega) fun _ => ?_) | (refine VB.split (fun _ => ?_) (fun _ => ?_)) | (refine VLd.is ?_; refine VLd.mk (.row aT (by rfl)) ?_)
  all_goals (conv => whnf)
  all_goals exact ⟨fun w' hw' => ⟨_, rfl, by first | (intro h; cases h; done) | (intro _; omega), hw'.le .nil⟩⟩

structure Searched (v : Sur) (Ls : List MomD) (ticks : Int) : Prop where
  pat : Ls.length ≤ 12
  free : v.free.length ≤ 10
  fixed : v.fixed.length ≤ 60 ∨ (65536 < v.fixed.length ∧ v.fixed.length ≤ 65546)
  ticks : ticks ≤ 100 ∨ 10000 < ticks
  mom : ∀ x ∈ Ls, x.m.l.length ≤ 20 ∧ x.n.l.length ≤ 20

set_option maxHeartbeats 1600000 in
theorem vsearched_any (v : Sur) (Ls : List MomD) (ticks : Int) (pf : Option Addr) (cf : Nat) (px : Option Addr) (cx : Nat) (pl : Option Addr) (cl bl ol : Nat) (w : World) (h5 : Sl w momV 2 Ls pl Ls.length bl ol) :
    Calls Tryz.prog 16 #[.agg (envC pf cf px cx v).toArray, .slice pl Ls.length cl, .int .i64 ticks] w fun e w' => ∃ b : Bool, e = .returned (.bool b) ∧ (b = true → Searched v Ls ticks) ∧ St w [] [] w' := by
  unfold envC
  have hno : ∀ w' H, St w [] H w' → ∃ b : Bool, Ending.returned (.bool false) = .returned (.bool b) ∧ (b = true → Searched v Ls ticks) ∧ St w [] [] w' := by
    intro w' H hw'
    exact ⟨false, rfl, fun h => (by cases h), hw'.le .nil⟩
  refine enter (C := Tryz.cx) (F := Tryz.fx16) (args := [_, _, _]) Tryz.func16 rfl rfl rfl Tryz.ok16 (St.start w []) ?_
  repeat' (conv => whnf); first | (refine VNew.mk fun b3 => ?_) | (refine VCall.isF 22 ?_; (refine VCall.genR (fun w' _ => vsome2_any _ _ _ w') ?_; intro bs1 hbs1)) | (refine VSeq.go ?_) | (refine VB.split (fun _ => ?_) (fun _ => ?_)) | (refine boolE_split (fun h => ?_) (fun h => ?_) <;> subst h) | (refine VLd.is ?_; refine VLd.mk (.row aT (by rfl)) ?_)
  all_goals (conv => whnf)
  all_goals try exact ⟨fun w' hw' => hno w' _ hw'⟩
  all_goals (have hsm := hbs1 rfl)
  all_goals (have h1 : Ls.length ≤ 12 := by omega)
  all_goals (have h2 : v.free.length ≤ 10 := by omega)
  all_goals (have h3 : ticks ≤ 100 ∨ 10000 < ticks := by omega)
  all_goals (refine VLoop.mk (α := Nat) (fun k => k ≤ Ls.length ∧ ∀ x ∈ Ls.take k, x.m.l.length ≤ 20 ∧ x.n.l.length ≤ 20) (fun k => [(1000000, .tuple #[]), (1, .slice pl Ls.length cl), (2, .int .i64 ticks), (3, .pointer (some ⟨b3, 0, none⟩)), (6, .bool false), (7, .int .i64 (k : Int))]) (fun _ => [.row b3 29 [.slice pf v.free.length cf, .slice px v.fixed.length cx, .int .i64 v.most]]) (fun k => Ls.length - k) 0 ⟨by omega, by simp⟩ aE aH ?_)
  all_goals (rintro k ⟨hk, hall⟩)
  all_goals (rcases Nat.lt_or_ge k Ls.length with hlt | hge)
  all_goals first
    | (have hlt2 : k < Ls.length := hlt
       obtain ⟨x, hx⟩ := h5.get hlt
       have s0 : sub (momV x) 0 1 = some [.slice x.m.p x.m.l.length x.m.c] := rfl
       have s1 : sub (momV x) 1 1 = some [.slice x.n.p x.n.l.length x.n.c] := rfl
       repeat' (conv => whnf); first | (refine VIx.is ?_; refine VIx.mk (h5.ptr (by omega)) (by omega) (by omega) ?_) | (refine VLd.is ?_; refine VLd.mk (Rd.cast (h5.rd (o := 0) (by simp) (fun _ => rfl) hx s0) (by first | omega | (dsimp only; omega) | rfl)) ?_) | (refine VLd.is ?_; refine VLd.mk (Rd.cast (h5.rd (o := 1) (by simp) (fun _ => rfl) hx s1) (by first | omega | (dsimp only; omega) | rfl)) ?_) | (refine VSeq.go ?_) | (refine VB.is ?_; refine VB.yes (by omega) fun _ => ?_) | (refine VB.split (fun _ => ?_) (fun _ => ?_)) | (refine VAr.is ?_; refine oA ?_)
       all_goals (conv => whnf)
       all_goals first
         | exact ⟨fun w' hw' => hno w' _ hw'⟩
         | (refine VNext.mk (k + 1) ⟨by omega, ?_⟩ (by omega) aE aH
            rw [List.take_add_one, hx, Option.toList_some]
            intro y hy
            rcases List.mem_append.1 hy with hy | hy
            · exact hall y hy
            · simp only [List.mem_singleton] at hy; subst hy; exact ⟨by omega, by omega⟩))
    | (have hge2 : Ls.length ≤ k := hge
       rw [List.take_of_length_le hge2] at hall
       repeat' (conv => whnf); first | (refine VSeq.go ?_) | (refine VB.is ?_; refine VB.yes (by omega) fun _ => ?_) | (refine VB.is ?_; refine VB.no (by omega) fun _ => ?_) | (refine VB.split (fun _ => ?_) (fun _ => ?_)) | (refine VLd.is ?_; refine VLd.mk (.row aT (by rfl)) ?_)
       all_goals (conv => whnf)
       all_goals exact ⟨fun w' hw' => ⟨_, rfl, fun _ => ⟨h1, h2, hsm, h3, hall⟩, hw'.le .nil⟩⟩)

end Go.Proofs
end

section
set_option linter.unusedVariables false

set_option linter.unusedSimpArgs false

namespace Go.Proofs

open Go Go.Vx Go.Gm

end Go.Proofs
end

section
set_option linter.unusedVariables false

set_option linter.unusedSimpArgs false

namespace Go.Proofs

open Go Go.Vx Go.Gm

structure RRun (x : RSim) : Prop where
  ok : RSimOk x
  sta : StaAll x.N x.sts
  tick : x.tick ≤ 10000

end Go.Proofs
end

section
set_option linter.unusedVariables false

set_option linter.unusedSimpArgs false

namespace Go.Proofs

open Go Go.Vx Go.Gm

structure RSimRd (w : World) (x : RSim) : Prop where
  cells : Cells w x.b 0 (rsimC x)
  st : Sl w staV 2 x.sts (some ⟨x.sb, 0, none⟩) x.sts.length x.sb 0
  rows : ∃ bd od, Sl w slVs 1 (x.D.map fun d => (⟨some ⟨d.g, 0, none⟩, d.cap, d.l⟩ : SlD Int)) x.dp x.D.length bd od
  due : ∀ d ∈ x.D, Sl w intV 1 d.l (some ⟨d.g, 0, none⟩) d.l.length d.g 0

theorem drows_flat (D : List DRow) : flat slVs (D.map fun d => (⟨some ⟨d.g, 0, none⟩, d.cap, d.l⟩ : SlD Int)) = D.map drowV := by
  induction D with
  | nil => rfl
  | cons d D ih =>
    have h1 : flat slVs ((d :: D).map fun d => (⟨some ⟨d.g, 0, none⟩, d.cap, d.l⟩ : SlD Int)) = [drowV d] ++ flat slVs (D.map fun d => (⟨some ⟨d.g, 0, none⟩, d.cap, d.l⟩ : SlD Int)) := by simp [flat, slVs, slV, drowV]
    rw [h1, ih]
    rfl

theorem RSimRd.of {w0 w : World} {M : List Nat} {H : HP} {x : RSim} (hs : St w0 M H w) (hl : HLe (rsimH x) H) : RSimRd w x := by
  have h := hs.le hl
  obtain ⟨bd, hbd⟩ := Sl.own h (f := slVs) (l := x.D.map fun d => (⟨some ⟨d.g, 0, none⟩, d.cap, d.l⟩ : SlD Int)) (n := x.D.length) (k := 1) (p := x.dp) (cap := x.dc) (e := 26) (by rw [drows_flat]; exact .there (.there .here)) (fun _ => rfl) (List.length_map _)
  refine ⟨?_, Sl.own' (cap := x.sc) (e := 194) h (by simp only [rsimH, List.mem_cons, true_or, or_true]) (fun _ => rfl) rfl, ⟨bd, 0, hbd⟩, fun d hd => Sl.own' (cap := d.cap) (e := 3) h (by simp only [rsimH, List.mem_cons]; exact .inr (.inr (.inr (List.mem_map_of_mem hd)))) (fun _ => rfl) rfl⟩
  have hb := h.own (.row x.b 206 (rsimC x)) (by simp only [rsimH, List.mem_cons, true_or])
  have hb' : w.heap[x.b]? = some (.cells (rsimC x).toArray 206 (0, 0)) := hb
  intro j v hj
  simpa [World.cell?, hb'] using hj

end Go.Proofs
end

section
set_option linter.unusedVariables false

set_option linter.unusedSimpArgs false

namespace Go.Proofs

open Go Go.Vx Go.Gm

structure RSameNet (x y : RSim) : Prop where
  N : y.N = x.N
  pn : y.pn = x.pn
  cn : y.cn = x.cn
  qs : y.qs = x.qs
  cs : y.cs = x.cs

theorem RSameNet.trans {x y z : RSim} (h : RSameNet x y) (h2 : RSameNet y z) : RSameNet x z := ⟨h2.N.trans h.N, h2.pn.trans h.pn, h2.cn.trans h.cn, h2.qs.trans h.qs, h2.cs.trans h.cs⟩

structure RNd where
  sim : RSim
  left : Int
  shown : SlD Bool
  run : SlD Evt

def rndH (x : RNd) : HP := .vec x.shown.p x.shown.l.length x.shown.c 4 1 (flat boolV x.shown.l) :: .vec x.run.p x.run.l.length x.run.c 64 2 (flat evtV x.run.l) :: rsimH x.sim

structure RNdRd (w : World) (x : RNd) : Prop where
  sim : RSimRd w x.sim
  shown : ∃ b o, Sl w boolV 1 x.shown.l x.shown.p x.shown.l.length b o
  run : ∃ b o, Sl w evtV 2 x.run.l x.run.p x.run.l.length b o

theorem RNdRd.of {w0 w : World} {M : List Nat} {H : HP} {x : RNd} (hs : St w0 M H w) (hl : HLe (rndH x) H) : RNdRd w x := by
  have h := hs.le hl
  obtain ⟨b1, h1⟩ := Sl.own (f := boolV) (l := x.shown.l) (cap := x.shown.c) (e := 4) (p := x.shown.p) (k := 1) h .here (fun _ => rfl) rfl
  obtain ⟨b2, h2⟩ := Sl.own (f := evtV) (l := x.run.l) (cap := x.run.c) (e := 64) (p := x.run.p) (k := 2) h (.there .here) (fun _ => rfl) rfl
  exact ⟨RSimRd.of h (by unfold rndH; exact aH), ⟨b1, 0, h1⟩, ⟨b2, 0, h2⟩⟩

theorem RSimRd.keep {w0 w : World} {H : HP} {x : RSim} (h : RSimRd w0 x) (hs : St w0 [] H w) : RSimRd w x := by
  obtain ⟨h1, h2, ⟨bd, od, h3⟩, h4⟩ := h
  exact ⟨h1.keep hs (by simp), h2.keep hs (by simp), ⟨bd, od, h3.keep hs (by simp)⟩, fun d hd => (h4 d hd).keep hs (by simp)⟩

theorem RSimOk.row {x : RSim} (hx : RSimOk x) : ∃ d, x.D[0]? = some d ∧ d.l.length = x.N.ps.length := by
  have h := hx.due
  exact ⟨x.D[0]'(by omega), List.getElem?_eq_getElem _, hx.cells _ (List.getElem_mem _)⟩

theorem RRun.next {x : RSim} (hx : RRun x) (ht : x.tick < 10000) {y : RGoY} (hy : RSimOk (x.next y)) : RRun (x.next y) := by
  refine ⟨hy, ?_, by show x.tick + 1 ≤ 10000; omega⟩
  intro i p s h1 h2
  change x.N.ps[i]? = some p at h1
  change ((goFire x).map (·.1))[i]? = some s at h2
  obtain ⟨d, g1, g2⟩ := hx.ok.row
  have hlt : i < x.N.ps.length := (List.getElem?_eq_some_iff.1 h1).1
  have hsl := hx.ok.sts
  have e1 : x.sts[i]? = some (x.sts[i]'(by omega)) := List.getElem?_eq_getElem _
  have e2 : d.l[i]? = some (d.l[i]'(by omega)) := List.getElem?_eq_getElem _
  have e3 := fire_get h1 e1 e2
  unfold goFire at h2
  rw [g1] at h2
  rw [Option.map_some, Option.getD_some, List.getElem?_map, e3] at h2
  simp only [Option.map_some, Option.some.injEq] at h2
  subst h2
  exact tick_ok (hx.ok.net.ps p (List.mem_of_getElem? h1)) (hx.sta i p _ h1 e1) _

end Go.Proofs
end

section
set_option linter.unusedVariables false

set_option linter.unusedSimpArgs false

namespace Go.Proofs

open Go Go.Vx Go.Gm

end Go.Proofs
end

section
set_option linter.unusedVariables false

set_option linter.unusedSimpArgs false

namespace Go.Proofs

open Go Go.Vx Go.Gm

theorem _root_.Go.Vx.Src.mem {w0 : World} {M : List Nat} {H : HP} {q : Option Addr} {m cap e size : Nat} {xs : List Value} (h : Ent.vec q m cap e size xs ∈ H) (hq : 0 < m → ∃ g, q = some ⟨g, 0, none⟩) (hl : xs.length = m * size) : Src w0 M H q m size xs := by
  obtain ⟨u, r, hat⟩ := At.of_mem h
  exact Src.own hat hq hl

def RNd.sit (x : RNd) : Sit := ⟨smR x.sim, x.left, x.shown.l, x.run.l⟩

end Go.Proofs
end
