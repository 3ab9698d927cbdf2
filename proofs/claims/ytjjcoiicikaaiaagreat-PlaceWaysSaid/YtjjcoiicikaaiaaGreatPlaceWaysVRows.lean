import Derived.Test.YtjjcoiicikaaiaaGreatPlaceWaysPz
import Derived.Test.YtjjcoiicikaaiaaGreatPlaceWaysMm
import Derived.Test.YtjjcoiicikaaiaaGreatPlaceWaysTo
import Derived.Test.YtjjcoiicikaaiaaGreatPlaceWaysMc
import Derived.Test.YtjjcoiicikaaiaaGreatPlaceWaysQw
import Derived.Test.YtjjcoiicikaaiaaGreatPlaceWaysKt
import Derived.Test.YtjjcoiicikaaiaaGreatPlaceWaysRr
set_option linter.unusedVariables false
set_option linter.unusedSimpArgs false
set_option maxHeartbeats 4000000
section

namespace Go.Gm

end Go.Gm

namespace Go.Proofs

open Go Go.Vx Go.Gm

end Go.Proofs
end

section

namespace Go.Proofs

open Go Go.Vx Go.Gm

theorem equal7_any (l m : List Int) (hll : l.length ≤ 1000000) (p : Option Addr) (c b o : Nat) (q : Option Addr) (d b2 o2 : Nat) (w : World) (hl : ∀ k ∈ l, I64 k) (hm : ∀ k ∈ m, I64 k) (h1 : Sl w intV 1 l p l.length b o) (h2 : Sl w intV 1 m q m.length b2 o2) :
  Calls Tryz.prog 25 #[.slice p l.length c, .slice q m.length d] w fun e w' => ∃ r : Bool, e = .returned (.bool r) ∧ (r = true ↔ l = m) ∧ St w [] [] w' := by
 refine enter (C := Tryz.cx) (F := Tryz.fx25) (args := [_, _]) Tryz.func25 rfl rfl rfl Tryz.ok25 (St.start w []) ?_
 by_cases hlen : l.length ≠ m.length
 ·repeat' (conv => whnf); first | (refine VSeq.go ?_) | (refine VB.is ?_; refine VB.yes (by omega) fun _ => ?_)
  all_goals (conv => whnf)
  exact ⟨fun w' hw' => ⟨false, rfl, by simp only [Bool.false_eq_true, false_iff]; exact fun h => hlen (by rw [h]), hw'.le .nil⟩⟩
 have hlen := Decidable.not_not.1 hlen
 repeat' (conv => whnf); first | (refine VSeq.go ?_) | (refine VB.is ?_; refine VB.yes (by omega) fun _ => ?_) | (refine VB.is ?_; refine VB.no (by omega) fun _ => ?_) | (refine VB.split (fun _ => ?_) (fun _ => ?_)) | (refine VLd.is ?_; refine VLd.mk (.row aT (by rfl)) ?_) | (refine VSt.is ?_; refine VSt.row aT (by rfl) (by first | rfl | assumption) ?_) | (refine VNew.mk fun _ => ?_)
 all_goals (conv => whnf)
 refine VLoop.mk (α := Nat) (fun j => j ≤ l.length ∧ l.take j = m.take j) (fun j => [(1000000, .tuple #[]), (0, .slice p l.length c), (1, .slice q m.length d), (4, .bool false), (5, .int .i64 (j : Int))])
  (fun _ => []) (fun j => l.length - j) 0 ⟨Nat.zero_le _, by simp⟩ aE aH ?_
 rintro j ⟨hj, ht⟩
 rcases Nat.lt_or_ge j l.length with hlt | hge
 ·obtain ⟨x, hx⟩ := h1.get hlt
  obtain ⟨y, hy⟩ := h2.get (by omega : j < m.length)
  have hxw := hl x (List.mem_of_getElem? hx)
  have hyw := hm y (List.mem_of_getElem? hy)
  unfold I64 at hxw hyw
  repeat' (conv => whnf); first | (refine VIx.is ?_; refine VIx.mk (h1.ptr (by omega)) (by omega) (by omega) ?_) | (refine VIx.is ?_; refine VIx.mk (h2.ptr (by omega)) (by omega) (by omega) ?_) | (refine VLd.is ?_; refine VLd.mk (Rd.cast (h1.rd0 (by simp) (fun _ => rfl) hx rfl) (by first | omega | (dsimp only; omega) | rfl)) ?_) | (refine VLd.is ?_; refine VLd.mk (Rd.cast (h2.rd0 (by simp) (fun _ => rfl) hy rfl) (by first | omega | (dsimp only; omega) | rfl)) ?_) | (refine VSeq.go ?_) | (refine VB.is ?_; refine VB.yes (by omega) fun _ => ?_) | (refine VB.split (fun _ => ?_) (fun _ => ?_)) | (refine VAr.is ?_; refine oA ?_) | (refine VHs.mk _ (.refl _) ?_)
  all_goals (conv => whnf)
  all_goals first
   | (have e : x ≠ y := by omega
      exact ⟨fun w' hw' => ⟨false, rfl, by simp only [Bool.false_eq_true, false_iff]; exact fun h => e (by rw [h, hy] at hx; exact (Option.some.inj hx).symm), hw'.le .nil⟩⟩)
   | (have e : x = y := by omega
      refine VNext.mk (j + 1) ⟨by omega, ?_⟩ (by omega) aE aH
      rw [List.take_add_one, List.take_add_one, hx, hy, ht, e])
 rw [List.take_of_length_le hge, List.take_of_length_le (by omega)] at ht
 repeat' (conv => whnf); first | (refine VSeq.go ?_) | (refine VB.is ?_; refine VB.yes (by omega) fun _ => ?_) | (refine VB.is ?_; refine VB.no (by omega) fun _ => ?_) | (refine VB.split (fun _ => ?_) (fun _ => ?_)) | (refine VLd.is ?_; refine VLd.mk (.row aT (by rfl)) ?_) | (refine VSt.is ?_; refine VSt.row aT (by rfl) (by first | rfl | assumption) ?_) | (refine VNew.mk fun _ => ?_)
 all_goals (conv => whnf)
 exact ⟨fun w' hw' => ⟨true, rfl, by simp [ht], hw'.le .nil⟩⟩

theorem few7_any (X : PlnX) (w : World) :
  Calls Tryz.prog 19 #[.agg X.net.toArray, .agg (chpC X.C X.pd X.cd).toArray] w fun e w' => ∃ r : Bool, e = .returned (.bool r) ∧ (r = true ↔ (X.N.ps.length ≤ 24 ∨ (250 < X.N.ps.length ∧ X.N.ps.length ≤ 270 ∧ X.N.syns.length ≤ 10)) ∧ X.N.syns.length ≤ 80 ∧ X.C.dead.length ≤ 20) ∧ St w [] [] w' := by
 unfold PlnX.net chpC
 refine enter (C := Tryz.cx) (F := Tryz.fx19) (args := [_, _]) Tryz.func19 rfl rfl rfl Tryz.ok19 (St.start w []) ?_
 repeat' (conv => whnf); first | (refine VSeq.go ?_) | (refine VB.is ?_; refine VB.yes (by omega) fun _ => ?_) | (refine VB.is ?_; refine VB.no (by omega) fun _ => ?_) | (refine VB.split (fun _ => ?_) (fun _ => ?_)) | (refine VLd.is ?_; refine VLd.mk (.row aT (by rfl)) ?_) | (refine VSt.is ?_; refine VSt.row aT (by rfl) (by first | rfl | assumption) ?_) | (refine VNew.mk fun _ => ?_)
 all_goals (conv => whnf)
 all_goals first
  | exact ⟨fun w' hw' => ⟨true, rfl, by simp only [true_iff]; omega, hw'.le .nil⟩⟩
  | exact ⟨fun w' hw' => ⟨false, rfl, by simp only [Bool.false_eq_true, false_iff]; omega, hw'.le .nil⟩⟩

end Go.Proofs
end

section

namespace Go.Gm

def parW : Par := ⟨1, 1, 0, 5, 0, 0, -4, 1⟩

def netW : Net := ⟨[parW, parW], 1, [⟨-1, 0, 6, 1⟩, ⟨0, 1, 6, 3⟩]⟩

def chpW : Chp := ⟨⟨2, 1, 1⟩, 1, 4, 4, 3, []⟩

def qW : QR := ⟨[parW, parW], 1, (quantRes netW 2).syns, [4, 4], [1, 1], [2, 2], (quantRes netW 2).exact⟩

theorem qW_is : quantRes netW 2 = qW := by kernel_rfl

theorem qW_zero : qErr netW 2 = 0 := by kernel_rfl

theorem plW_zero : Gm.planE netW chpW = 0 := by kernel_rfl

theorem placeW : placeR netW chpW = ([0, 1], 0) := by kernel_rfl

theorem mapW_zero : mapErr netW chpW [0, 1] = 0 := by kernel_rfl

theorem mapW_rows : (mapRes netW chpW [0, 1]).rows = [[⟨2, 0, 3, 1⟩], [⟨0, 0, 3, 3⟩]] := by kernel_rfl

theorem mapW_cost : (mapRes netW chpW [0, 1]).cost = 1 := by kernel_rfl

theorem mapW_steps : (mapRes netW chpW [0, 1]).steps = 2 := by kernel_rfl

end Go.Gm

namespace Go.Proofs

open Go Go.Vx Go.Gm

theorem netW_wf : netW.wf := by
 refine ⟨?_, ?_, ?_⟩
 ·intro p hp
  simp only [netW, List.mem_cons, List.not_mem_nil, or_false, or_self] at hp
  subst hp
  constructor <;> simp [parW, I64]
 ·simp [netW, I64]
 ·simp [netW, Syn.wf, I64]

theorem chpW_wf : chpW.wf := by
 refine ⟨⟨?_, ?_, ?_⟩, ?_, ?_, ?_, ?_, ?_, ?_⟩ <;> simp [chpW, I64]

theorem works7_any (w : World) : Calls Tryz.prog 15 #[] w fun e w' => e = .returned (.bool true) ∧ St w [] [] w' := by
 have hq := fun pn cn bn on qs cs bs os (w' : World) h1 h2 => Quantise_any netW netW_wf 2 (by simp [I64]) pn cn bn on qs cs bs os w' h1 h2
 rw [qW_is, qW_zero] at hq
 have hp := fun pn cn qs cs (w' : World) h => placePlace_any ⟨chpW, none, 0, netW, pn, cn, qs, cs⟩ w' h plW_zero
 dsimp only at hp
 rw [placeW] at hp
 have hm := fun pn cn qs cs (w' : World) h p c b o h1 => placeMap_any ⟨chpW, none, 0, netW, pn, cn, qs, cs⟩ w' h [0, 1] (by simp [I64]) (by simp) p c b o h1
 dsimp only at hm
 rw [mapW_zero] at hm
 obtain ⟨R, hR⟩ : ∃ R, mapRes netW chpW [0, 1] = R := ⟨_, rfl⟩
 have hRc := mapW_cost
 have hRs := mapW_steps
 have hRr := mapW_rows
 rw [hR] at hm hRc hRs hRr
 have hm : ∀ pn cn qs cs (w' : World), PlnRd ⟨chpW, none, 0, netW, pn, cn, qs, cs⟩ w' → ∀ p c b o, Sl w' intV 1 [0, 1] p 2 b o → Calls Tryz.prog 26 #[.agg #[.slice pn 2 cn, .int .i64 1, .slice qs 2 cs], .agg #[.int .i64 2, .int .i64 1, .int .i64 1, .int .i64 1, .int .i64 4, .int .i64 4, .int .i64 3, .slice none 0 0], .slice p 2 c] w' fun e w'' => ∃ z : MapP × Nat × RRow × Nat × Nat, e = .returned (.tuple #[.agg ([.slice z.1.pc R.cores.length z.1.cc, .slice z.1.ps R.slots.length z.1.cs, .slice z.1.y.pp R.quant.ps.length z.1.y.cp, .int .i64 R.quant.inp, .slice z.1.y.ps R.quant.syns.length z.1.y.cs, .slice z.1.y.pz R.quant.scales.length z.1.y.cz, .slice z.1.y.pq R.quant.quots.length z.1.y.cq, .slice z.1.y.pe R.quant.errs.length z.1.y.ce, .bool R.quant.exact, .slice (some ⟨z.2.1, 0, none⟩) 2 z.1.cr, .slice z.1.pt z.1.tt.length z.1.ct, .slice z.1.pw R.waves.length z.1.cw, .int .i64 1, .int .i64 R.load, .int .i64 2] : List Value).toArray, .int .i64 0]) ∧ True ∧
   St w' [] [.vec (some ⟨z.2.1, 0, none⟩) 2 z.1.cr 80 1 [.slice z.2.2.1.p z.2.2.1.l.length z.2.2.1.c, .slice (some ⟨z.2.2.2.1, 0, none⟩) 1 z.2.2.2.2], .vec (some ⟨z.2.2.2.1, 0, none⟩) 1 z.2.2.2.2 82 4 [.int .i64 0, .int .i64 0, .int .i64 3, .int .i64 3]] w'' := fun pn cn qs cs w' hX p c b o h1 => (hm pn cn qs cs w' hX p c b o h1).mono fun e w'' ⟨z, g1, g2, g3⟩ => by
  have h2 := g2.rows
  rw [hRr] at h2
  have hl2 : z.rr.length = 2 := by simpa using congrArg List.length h2
  obtain ⟨r0, r1, hrr⟩ : ∃ r0 r1, z.rr = [r0, r1] := by
   generalize z.rr = L at hl2
   cases L with
   | nil => simp at hl2
   | cons a L =>
    cases L with
    | nil => simp at hl2
    | cons b L =>
     cases L with
     | nil => exact ⟨a, b, rfl⟩
     | cons c L => simp at hl2
  rw [hrr] at h2
  simp only [List.map_cons, List.map_nil, List.cons.injEq, and_true] at h2
  have h3 := g2.okR r1 (by rw [hrr]; simp)
  obtain ⟨g, hg⟩ := h3 (by rw [h2.2]; simp)
  have hl : z.rr.length = 2 := by rw [hrr]; rfl
  have h4 := (vec_facts (g3.own (.vec z.pr z.rr.length z.cr 80 1 (flat rrV z.rr)) (by simp [mapH]))).2.1 (by omega)
  obtain ⟨gp, hgp⟩ := h4
  refine ⟨⟨z, gp, r0, g, r1.c⟩, ?_, trivial, g3.le ?_⟩
  ·rw [g1]
   unfold mapV quantC
   rw [hl, hgp, hRc, hRs]
   rfl
  ·have e1 : rrE r1 = .vec (some ⟨g, 0, none⟩) 1 r1.c 82 4 [.int .i64 0, .int .i64 0, .int .i64 3, .int .i64 3] := by
    unfold rrE
    rw [hg, h2.2]; rfl
   have e2 : flat rrV [r0, r1] = [.slice r0.p r0.l.length r0.c, .slice (some ⟨g, 0, none⟩) 1 r1.c] := by
    have : rrV r1 = [.slice (some ⟨g, 0, none⟩) 1 r1.c] := by unfold rrV; rw [hg, h2.2]; rfl
    show rrV r0 ++ (rrV r1 ++ []) = _
    rw [this]; rfl
   unfold mapH quantH
   rw [hgp, hl, hrr, e2]
   simp only [List.map_cons, List.map_nil, List.cons_append, List.nil_append]
   rw [e1]
   exact aH
 refine enter (C := Tryz.cx) (F := Tryz.fx15) (args := []) Tryz.func15 rfl rfl rfl Tryz.ok15 (St.start w []) ?_
 repeat' (conv => whnf); first | (refine VCall.isF 41 ?_; refine VCall.inl (F := Tryz.fx41) Tryz.func41 rfl rfl rfl Tryz.ok41 ?_) | (refine VCall.isF 94 ?_; refine VCall.inl (F := Tryz.fx94) Tryz.func94 rfl rfl rfl Tryz.ok94 ?_) | (refine VCall.isF 42 ?_; refine VCall.inl (F := Tryz.fx42) Tryz.func42 rfl rfl rfl Tryz.ok42 ?_) | (refine VCall.isF 20 ?_; (refine VCall.genR (fun w' hw' => hq _ _ _ _ _ _ _ _ w' (Sl.own' hw' (l := netW.ps) (f := parV) (k := 8) (by repeat (first | exact List.mem_cons_self | apply List.mem_cons_of_mem)) (fun _ => rfl) rfl) (Sl.own' hw' (l := netW.syns) (f := synV) (k := 4) (by repeat (first | exact List.mem_cons_self | apply List.mem_cons_of_mem)) (fun _ => rfl) rfl)) ?_; rintro y _)) | (refine VCall.isF 23 ?_; (refine VCall.genR (fun w' hw' => hp _ _ _ _ w' ⟨netW_wf, chpW_wf, Nat.zero_le _, ⟨0, 0, Sl.nil (.inl rfl)⟩, ⟨_, 0, Sl.own' hw' (l := netW.ps) (f := parV) (k := 8) (by repeat (first | exact List.mem_cons_self | apply List.mem_cons_of_mem)) (fun _ => rfl) rfl⟩, ⟨_, 0, Sl.own' hw' (l := netW.syns) (f := synV) (k := 4) (by repeat (first | exact List.mem_cons_self | apply List.mem_cons_of_mem)) (fun _ => rfl) rfl⟩⟩) ?_; rintro ⟨z1, z2⟩ _; dsimp only)) | (refine VCall.isF 26 ?_; (refine VCall.genR (fun w' hw' => hm _ _ _ _ w' ⟨netW_wf, chpW_wf, Nat.zero_le _, ⟨0, 0, Sl.nil (.inl rfl)⟩, ⟨_, 0, Sl.own' hw' (l := netW.ps) (f := parV) (k := 8) (by repeat (first | exact List.mem_cons_self | apply List.mem_cons_of_mem)) (fun _ => rfl) rfl⟩, ⟨_, 0, Sl.own' hw' (l := netW.syns) (f := synV) (k := 4) (by repeat (first | exact List.mem_cons_self | apply List.mem_cons_of_mem)) (fun _ => rfl) rfl⟩⟩ _ _ _ _ (Sl.own' hw' (l := [0, 1]) (f := intV) (k := 1) (by repeat (first | exact List.mem_cons_self | apply List.mem_cons_of_mem)) (fun _ => rfl) rfl)) ?_; rintro ⟨m, gp, r0, g1, c1⟩ _; dsimp only)) | (refine VNew.mk fun b5 => ?_) | (refine VLd.is ?_; refine VLd.mk (Rd.cast (.vec aT ((show sub [.slice r0.p r0.l.length r0.c, .slice (some ⟨g1, 0, none⟩) 1 c1] 1 1 = some [.slice (some ⟨g1, 0, none⟩) 1 c1] from rfl))) (by first | omega | (dsimp only; omega) | rfl)) ?_) | (refine VLd.is ?_; refine VLd.mk (Rd.cast (.vec aT ((show sub [Value.int .i64 0, .int .i64 0, .int .i64 3, .int .i64 3] 0 4 = some [.int .i64 0, .int .i64 0, .int .i64 3, .int .i64 3] from rfl))) (by first | omega | (dsimp only; omega) | rfl)) ?_) | (refine VCall.isF 25 ?_; (refine VCall.genR (v := fun r => .bool r) (p := fun r => (r = true ↔ ([4, 4] : List Int) = [4, 4])) (G := fun _ => []) (fun w' hw' => by obtain ⟨bb, hbb⟩ := Sl.own hw' (f := intV) (l := [4, 4]) (n := 2) (k := 1) (p := y.pz) aT (fun _ => rfl) rfl; exact equal7_any [4, 4] [4, 4] (by simp) _ _ bb 0 _ _ _ _ w' (by simp [I64]) (by simp [I64]) hbb (Sl.own' hw' (l := [4, 4]) (f := intV) (k := 1) (by repeat (first | exact List.mem_cons_self | apply List.mem_cons_of_mem)) (fun _ => rfl) rfl)) ?_; intro r hr; have hr := hr.2 rfl; subst hr)) | (refine VCall.isF 25 ?_; (refine VCall.genR (v := fun r => .bool r) (p := fun r => (r = true ↔ ([2, 2] : List Int) = [2, 2])) (G := fun _ => []) (fun w' hw' => by obtain ⟨bb, hbb⟩ := Sl.own hw' (f := intV) (l := [2, 2]) (n := 2) (k := 1) (p := y.pe) aT (fun _ => rfl) rfl; exact equal7_any [2, 2] [2, 2] (by simp) _ _ bb 0 _ _ _ _ w' (by simp [I64]) (by simp [I64]) hbb (Sl.own' hw' (l := [2, 2]) (f := intV) (k := 1) (by repeat (first | exact List.mem_cons_self | apply List.mem_cons_of_mem)) (fun _ => rfl) rfl)) ?_; intro r hr; have hr := hr.2 rfl; subst hr)) | (refine VCall.isF 25 ?_; (refine VCall.genR (v := fun r => .bool r) (p := fun r => (r = true ↔ ([0, 1] : List Int) = [0, 1])) (G := fun _ => []) (fun w' hw' => by obtain ⟨bb, hbb⟩ := Sl.own hw' (f := intV) (l := [0, 1]) (n := 2) (k := 1) (p := z1) aT (fun _ => rfl) rfl; exact equal7_any [0, 1] [0, 1] (by simp) _ _ bb 0 _ _ _ _ w' (by simp [I64]) (by simp [I64]) hbb (Sl.own' hw' (l := [0, 1]) (f := intV) (k := 1) (by repeat (first | exact List.mem_cons_self | apply List.mem_cons_of_mem)) (fun _ => rfl) rfl)) ?_; intro r hr; have hr := hr.2 rfl; subst hr)) | (refine VSeq.go ?_) | (refine VB.is ?_; refine VB.yes (by omega) fun _ => ?_) | (refine VB.split (fun _ => ?_) (fun _ => ?_)) | (refine VLd.is ?_; refine VLd.mk (.row aT (by rfl)) ?_) | (refine VSt.is ?_; refine VSt.row aT (by rfl) (by first | rfl | assumption) ?_) | (refine VIx.is ?_; refine VIx.mk rfl (by omega) (by omega) ?_)
 all_goals (conv => whnf)
 all_goals first
  | exact ⟨fun w' hw' => ⟨rfl, hw'.le .nil⟩⟩
  | (rename_i h; exact absurd ⟨rfl, rfl, rfl, rfl, trivial⟩ h)

end Go.Proofs
end

section

namespace Go.Proofs

open Go Go.Vx Go.Gm Go.RowKit Go.WideShapes Go.ChangeShapes Go.Deep Go.Joins

section

variable {H : Type} {enc : TypeId × Value → H} {P : Program} {w : World} {base : Nat} {spare : Nat → Bool} {held : Bool}

theorem trod_flds {t : TypeId} {fs : Array Field} {n : Nat} {cells : List Value} {y : DataW H × List MemPlace} (hs : P.underlying t = some (.struct fs)) (h : DataW.trod enc P w base spare held n t cells = some y) :
  ∃ m, ∀ (i : Nat) (f : Field), fs[i]? = some f → ∃ z, DataW.trod enc P w base spare held m f.type ((cells.drop f.offset).take (P.cellsOf f.type)) = some z := by
 obtain ⟨d, p⟩ := y
 obtain ⟨xs, m, e, hx, hl, hxl, hall⟩ := DataW.trod_struct hs h
 refine ⟨m, fun i f h1 => ?_⟩
 have h3 := hall i f h1
 have hxi : i < xs.length := by rw [hxl]; exact (Array.getElem?_eq_some_iff.1 h1).1
 rw [List.getElem?_eq_getElem hxi] at h3
 exact ⟨_, h3⟩

theorem arr8 {cs : Array Value} (h : cs.size = 8) : ∃ a0 a1 a2 a3 a4 a5 a6 a7, cs = #[a0, a1, a2, a3, a4, a5, a6, a7] := by
 obtain ⟨l⟩ := cs
 match l, h with
 | [a0, a1, a2, a3, a4, a5, a6, a7], _ => exact ⟨a0, a1, a2, a3, a4, a5, a6, a7, rfl⟩

end

structure _root_.Go.Gm.Chp.int (C : Chp) : Prop where
 mesh : C.mesh.wf
 nr : I64 C.nr
 sy : I64 C.sy
 en : I64 C.en
 bits : I64 C.bits
 dead : ∀ x ∈ C.dead, I64 x

theorem _root_.Go.Gm.Chp.int.wf {C : Chp} (h : C.int) (hf : C.dead.length ≤ 1000000) : C.wf := ⟨h.mesh, h.nr, h.sy, h.en, h.bits, h.dead, hf⟩

section

variable {H : Type} {enc : TypeId × Value → H} {W : World} {base : Nat} {spare : Nat → Bool} {held : Bool} {r : Reach} {b0 : Nat}

theorem int_at {n : Nat} {v : Value} {y : DataW H × List MemPlace} (h : DataW.trod enc Tryz.prog W base spare held n 3 [v] = some y) : ∃ i : Int, v = .int .i64 i ∧ I64 i := by
 obtain ⟨i, hi, _, hw⟩ := DataW.trod_int Tryz.underlying3 h
 simp only [List.cons.injEq, and_true] at hi
 exact ⟨i, hi, i64_of_wf hw⟩

set_option maxRecDepth 100000 in
theorem open_chp {v : Value} {d : DataW H} {p : List MemPlace} (hv : Value.okWide Tryz.prog W r b0 26 v) (h : DataW.Trod enc Tryz.prog W base spare held 26 v d p) :
  ∃ (C : Chp) (pd : Option Addr) (cd bd od : Nat), v = .agg (chpC C pd cd).toArray ∧ C.int ∧ C.dead.length ≤ cd ∧ C.dead.length ≤ maxLen ∧ Sl W intV 1 C.dead pd C.dead.length bd od := by
 obtain ⟨cs, rfl, hsz⟩ := okWide_struct Tryz.underlying26 hv
 have hc8 : Tryz.prog.cellsOf 26 = 8 := by kernel_rfl
 obtain ⟨a0, a1, a2, a3, a4, a5, a6, a7, rfl⟩ := arr8 (hsz.trans hc8)
 obtain ⟨fuel, hf⟩ := h
 obtain ⟨m, hall⟩ := trod_flds Tryz.underlying26 hf
 have hg0 : ∃ z, DataW.trod enc Tryz.prog W base spare held m 23 [a0, a1, a2] = some z := by
  obtain ⟨z, g⟩ := hall 0 _ rfl
  change DataW.trod enc Tryz.prog W base spare held m 23 (List.take (Tryz.prog.cellsOf 23) (List.drop 0 [a0, a1, a2, a3, a4, a5, a6, a7])) = some z at g
  rw [show Tryz.prog.cellsOf 23 = 3 by kernel_rfl] at g
  exact ⟨z, g⟩
 have hg1 : ∃ z, DataW.trod enc Tryz.prog W base spare held m 3 [a3] = some z := by
  obtain ⟨z, g⟩ := hall 1 _ rfl
  change DataW.trod enc Tryz.prog W base spare held m 3 (List.take (Tryz.prog.cellsOf 3) (List.drop 3 [a0, a1, a2, a3, a4, a5, a6, a7])) = some z at g
  rw [show Tryz.prog.cellsOf 3 = 1 by kernel_rfl] at g
  exact ⟨z, g⟩
 have hg2 : ∃ z, DataW.trod enc Tryz.prog W base spare held m 3 [a4] = some z := by
  obtain ⟨z, g⟩ := hall 2 _ rfl
  change DataW.trod enc Tryz.prog W base spare held m 3 (List.take (Tryz.prog.cellsOf 3) (List.drop 4 [a0, a1, a2, a3, a4, a5, a6, a7])) = some z at g
  rw [show Tryz.prog.cellsOf 3 = 1 by kernel_rfl] at g
  exact ⟨z, g⟩
 have hg3 : ∃ z, DataW.trod enc Tryz.prog W base spare held m 3 [a5] = some z := by
  obtain ⟨z, g⟩ := hall 3 _ rfl
  change DataW.trod enc Tryz.prog W base spare held m 3 (List.take (Tryz.prog.cellsOf 3) (List.drop 5 [a0, a1, a2, a3, a4, a5, a6, a7])) = some z at g
  rw [show Tryz.prog.cellsOf 3 = 1 by kernel_rfl] at g
  exact ⟨z, g⟩
 have hg4 : ∃ z, DataW.trod enc Tryz.prog W base spare held m 3 [a6] = some z := by
  obtain ⟨z, g⟩ := hall 4 _ rfl
  change DataW.trod enc Tryz.prog W base spare held m 3 (List.take (Tryz.prog.cellsOf 3) (List.drop 6 [a0, a1, a2, a3, a4, a5, a6, a7])) = some z at g
  rw [show Tryz.prog.cellsOf 3 = 1 by kernel_rfl] at g
  exact ⟨z, g⟩
 have hg5 : ∃ z, DataW.trod enc Tryz.prog W base spare held m 24 [a7] = some z := by
  obtain ⟨z, g⟩ := hall 5 _ rfl
  change DataW.trod enc Tryz.prog W base spare held m 24 (List.take (Tryz.prog.cellsOf 24) (List.drop 7 [a0, a1, a2, a3, a4, a5, a6, a7])) = some z at g
  rw [show Tryz.prog.cellsOf 24 = 1 by kernel_rfl] at g
  exact ⟨z, g⟩
 obtain ⟨zn, hn⟩ := hg0
 obtain ⟨mn, halln⟩ := trod_flds Tryz.underlying23 hn
 have n0 : ∃ z, DataW.trod enc Tryz.prog W base spare held mn 3 [a0] = some z := by
  obtain ⟨z, g⟩ := halln 0 _ rfl
  change DataW.trod enc Tryz.prog W base spare held mn 3 (List.take (Tryz.prog.cellsOf 3) (List.drop 0 [a0, a1, a2])) = some z at g
  rw [show Tryz.prog.cellsOf 3 = 1 by kernel_rfl] at g
  exact ⟨z, g⟩
 have n1 : ∃ z, DataW.trod enc Tryz.prog W base spare held mn 3 [a1] = some z := by
  obtain ⟨z, g⟩ := halln 1 _ rfl
  change DataW.trod enc Tryz.prog W base spare held mn 3 (List.take (Tryz.prog.cellsOf 3) (List.drop 1 [a0, a1, a2])) = some z at g
  rw [show Tryz.prog.cellsOf 3 = 1 by kernel_rfl] at g
  exact ⟨z, g⟩
 have n2 : ∃ z, DataW.trod enc Tryz.prog W base spare held mn 3 [a2] = some z := by
  obtain ⟨z, g⟩ := halln 2 _ rfl
  change DataW.trod enc Tryz.prog W base spare held mn 3 (List.take (Tryz.prog.cellsOf 3) (List.drop 2 [a0, a1, a2])) = some z at g
  rw [show Tryz.prog.cellsOf 3 = 1 by kernel_rfl] at g
  exact ⟨z, g⟩
 clear hall halln hf
 obtain ⟨y, g⟩ := n0; obtain ⟨wide, rfl, hw⟩ := int_at g; clear g y
 obtain ⟨y, g⟩ := n1; obtain ⟨high, rfl, hh⟩ := int_at g; clear g y
 obtain ⟨y, g⟩ := n2; obtain ⟨room, rfl, hr⟩ := int_at g; clear g y
 obtain ⟨y, g⟩ := hg1; obtain ⟨nr, rfl, h1⟩ := int_at g; clear g y
 obtain ⟨y, g⟩ := hg2; obtain ⟨sy, rfl, h2⟩ := int_at g; clear g y
 obtain ⟨y, g⟩ := hg3; obtain ⟨en, rfl, h3⟩ := int_at g; clear g y
 obtain ⟨y, g⟩ := hg4; obtain ⟨bits, rfl, h4⟩ := int_at g; clear g y
 have hts : Tryz.prog.cellTypes Tryz.prog.depth 26 = some [3, 3, 3, 3, 3, 3, 3, 24] := by kernel_rfl
 have k7 := cell_of_row Tryz.underlying26 hts hv 7 rfl rfl (by simp)
 obtain ⟨y7, g7⟩ := hg5
 obtain ⟨pd, cd, bd, od, l, rfl, d1, d2, d3, d4⟩ := open_nums Tryz.underlying24 Tryz.underlying3 (by kernel_rfl) g7 k7
 exact ⟨⟨⟨wide, high, room⟩, nr, sy, en, bits, l⟩, pd, cd, bd, od, rfl, ⟨⟨hw, hh, hr⟩, h1, h2, h3, h4, d4⟩, d1, d2, d3⟩

end

end Go.Proofs
end

section

namespace Go.Proofs

open Go Go.Vx Go.Gm

end Go.Proofs
end

section

namespace Go.Gm

theorem mem_coresM {N : Net} {C : Chp} {cores : List Int} {key k : Int} : k ∈ coresM N C cores key ↔ (0 ≤ k ∧ k < nCores C) ∧ ∃ s ∈ N.syns, keyM N s.frm = key ∧ cores[s.to.toNat]? = some k := by
 unfold coresM
 rw [List.mem_filter, decide_eq_true_eq]
 have := mem_allC (C := C) (k := k)
 unfold allC at this
 rw [this]

theorem core_of {N : Net} {C : Chp} {cores : List Int} (h : AsgOk N C cores) {s : Syn} (hs : s ∈ N.syns) : ∃ d, cores[s.to.toNat]? = some d ∧ (0 ≤ d ∧ d < nCores C) := by
 have ht := (h.plan.net.syns s hs).2.1
 have hl := h.len
 have hlt : s.to.toNat < cores.length := by omega
 refine ⟨cores[s.to.toNat], List.getElem?_eq_getElem hlt, ?_⟩
 have := (h.core _ (List.getElem_mem hlt)).1
 have := (nCores_ok h.plan.chip).1
 omega

theorem home_range {N : Net} {C : Chp} {cores : List Int} (h : AsgOk N C cores) (key : Int) (hk : 0 ≤ key) : 0 ≤ homeM N cores key ∧ homeM N cores key < nCores C := by
 have hn := nCores_ok h.plan.chip
 unfold homeM
 split
 ·have hlt : key.toNat < cores.length := by have := h.len; omega
  rw [List.getElem?_eq_getElem hlt, Option.getD_some]
  have := (h.core _ (List.getElem_mem hlt)).1
  omega
 ·omega

end Go.Gm
end

section

namespace Go.Gm

end Go.Gm
end

section

namespace Go.Gm

end Go.Gm

namespace Go.Proofs

open Go Go.Vx Go.Gm

end Go.Proofs
end

section

namespace Go.Gm

end Go.Gm

namespace Go.Proofs

open Go Go.Vx Go.Gm

end Go.Proofs
end

section

namespace Go.Proofs

open Go Go.Vx Go.Gm

end Go.Proofs
end

section

namespace Go.Gm

end Go.Gm

namespace Go.Proofs

open Go Go.Vx Go.Gm

end Go.Proofs
end

section

namespace Go.Proofs

open Go Go.Vx Go.Gm

end Go.Proofs
end

section

namespace Go.Gm

end Go.Gm

namespace Go.Proofs

open Go Go.Vx Go.Gm

structure PlnRi (X : PlnX) (w : World) : Prop where
 net : X.N.wf
 chip : X.C.int
 cap : X.C.dead.length ≤ X.cd
 dead : ∃ b o, Sl w intV 1 X.C.dead X.pd X.C.dead.length b o
 ps : ∃ b o, Sl w parV 8 X.N.ps X.pn X.N.ps.length b o
 syns : ∃ b o, Sl w synV 4 X.N.syns X.qs X.N.syns.length b o

theorem PlnRi.rd {X : PlnX} {w w' : World} {H : HP} (h : PlnRi X w) (hw' : St w [] H w') (hf : X.C.dead.length ≤ 1000000) : PlnRd X w' :=
 PlnRd.keep ⟨h.net, h.chip.wf hf, h.cap, h.dead, h.ps, h.syns⟩ hw'

end Go.Proofs
end

section

namespace Go.Proofs

open Go Go.Vx Go.Gm

theorem lkey_any (N : Net) (hl : N.ps.length ≤ 1024) (pn : Option Addr) (cn : Nat) (iv sv : Value) (hone : oneAll [iv, sv] = true) (f : Int) (hf : -1000000 ≤ f ∧ f ≤ 1000000000) (w : World) :
  Calls Tryz.prog 32 #[.agg #[.slice pn N.ps.length cn, iv, sv], .int .i64 f] w fun e w' => e = .returned (.int .i64 (keyM N f)) ∧ St w [] [] w' := by
 refine enter (C := Tryz.cx) (F := Tryz.fx32) (args := [_, _]) Tryz.func32 rfl rfl rfl Tryz.ok32 (St.start w []) ?_
 unfold keyM
 repeat' (conv => whnf); first | (refine VSeq.go ?_) | (refine VB.is ?_; refine VB.no (by omega) fun _ => ?_) | (refine VB.split (fun _ => ?_) (fun _ => ?_)) | (refine VLd.is ?_; refine VLd.mk (.row aT (by rfl)) ?_) | (refine VNew.mk fun _ => ?_) | (refine VAr.is ?_; refine oA ?_)
 all_goals (conv => whnf)
 all_goals first
  | exact ⟨fun w' hw' => ⟨by rw [if_pos (by omega)]; rfl, hw'.le .nil⟩⟩
  | exact ⟨fun w' hw' => ⟨by rw [if_neg (by omega)]; rfl, hw'.le .nil⟩⟩

end Go.Proofs
end
