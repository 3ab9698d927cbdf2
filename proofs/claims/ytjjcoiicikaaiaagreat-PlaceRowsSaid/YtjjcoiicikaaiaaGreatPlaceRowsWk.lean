import Derived.Test.YtjjcoiicikaaiaaGreatPlaceRowsPz
import Derived.Test.YtjjcoiicikaaiaaGreatPlaceRowsMm
set_option linter.unusedVariables false
set_option linter.unusedSimpArgs false
set_option maxHeartbeats 4000000
section

namespace Go.Gm

end Go.Gm

namespace Go.Proofs

open Go Go.Vx Go.Gm

end Go.Proofs
end

section

namespace Go.Proofs

open Go Go.Vx Go.Gm

theorem equal7_any (l m : List Int) (hll : l.length ≤ 1000000) (p : Option Addr) (c b o : Nat) (q : Option Addr) (d b2 o2 : Nat) (w : World) (hl : ∀ k ∈ l, I64 k) (hm : ∀ k ∈ m, I64 k) (h1 : Sl w intV 1 l p l.length b o) (h2 : Sl w intV 1 m q m.length b2 o2) :
  Calls Tryz.prog 25 #[.slice p l.length c, .slice q m.length d] w fun e w' => ∃ r : Bool, e = .returned (.bool r) ∧ (r = true ↔ l = m) ∧ St w [] [] w' := by
 refine enter (C := Tryz.cx) (F := Tryz.fx25) (args := [_, _]) Tryz.func25 rfl rfl rfl Tryz.ok25 (St.start w []) ?_
 by_cases hlen : l.length ≠ m.length
 ·repeat' (conv => whnf); first | (refine VSeq.go ?_) | (refine VB.is ?_; refine VB.yes (by omega) fun _ => ?_)
  all_goals (conv => whnf)
  exact ⟨fun w' hw' => ⟨false, rfl, by simp only [Bool.false_eq_true, false_iff]; exact fun h => hlen (by rw [h]), hw'.le .nil⟩⟩
 have hlen := Decidable.not_not.1 hlen
 repeat' (conv => whnf); first | (refine VSeq.go ?_) | (refine VB.is ?_; refine VB.yes (by omega) fun _ => ?_) | (refine VB.is ?_; refine VB.no (by omega) fun _ => ?_) | (refine VB.split (fun _ => ?_) (fun _ => ?_)) | (refine VLd.is ?_; refine VLd.mk (.row aT (by rfl)) ?_) | (refine VSt.is ?_; refine VSt.row aT (by rfl) (by first | rfl | assumption) ?_) | (refine VNew.mk fun _ => ?_)
 all_goals (conv => whnf)
 refine VLoop.mk (α := Nat) (fun j => j ≤ l.length ∧ l.take j = m.take j) (fun j => [(1000000, .tuple #[]), (0, .slice p l.length c), (1, .slice q m.length d), (4, .bool false), (5, .int .i64 (j : Int))])
  (fun _ => []) (fun j => l.length - j) 0 ⟨Nat.zero_le _, by simp⟩ aE aH ?_
 rintro j ⟨hj, ht⟩
 rcases Nat.lt_or_ge j l.length with hlt | hge
 ·obtain ⟨x, hx⟩ := h1.get hlt
  obtain ⟨y, hy⟩ := h2.get (by omega : j < m.length)
  have hxw := hl x (List.mem_of_getElem? hx)
  have hyw := hm y (List.mem_of_getElem? hy)
  unfold I64 at hxw hyw
  repeat' (conv => whnf); first | (refine VIx.is ?_; refine VIx.mk (h1.ptr (by omega)) (by omega) (by omega) ?_) | (refine VIx.is ?_; refine VIx.mk (h2.ptr (by omega)) (by omega) (by omega) ?_) | (refine VLd.is ?_; refine VLd.mk (Rd.cast (h1.rd0 (by simp) (fun _ => rfl) hx rfl) (by first | omega | (dsimp only; omega) | rfl)) ?_) | (refine VLd.is ?_; refine VLd.mk (Rd.cast (h2.rd0 (by simp) (fun _ => rfl) hy rfl) (by first | omega | (dsimp only; omega) | rfl)) ?_) | (refine VSeq.go ?_) | (refine VB.is ?_; refine VB.yes (by omega) fun _ => ?_) | (refine VB.split (fun _ => ?_) (fun _ => ?_)) | (refine VAr.is ?_; refine oA ?_) | (refine VHs.mk _ (.refl _) ?_)
  all_goals (conv => whnf)
  all_goals first
   | (have e : x ≠ y := by omega
      exact ⟨fun w' hw' => ⟨false, rfl, by simp only [Bool.false_eq_true, false_iff]; exact fun h => e (by rw [h, hy] at hx; exact (Option.some.inj hx).symm), hw'.le .nil⟩⟩)
   | (have e : x = y := by omega
      refine VNext.mk (j + 1) ⟨by omega, ?_⟩ (by omega) aE aH
      rw [List.take_add_one, List.take_add_one, hx, hy, ht, e])
 rw [List.take_of_length_le hge, List.take_of_length_le (by omega)] at ht
 repeat' (conv => whnf); first | (refine VSeq.go ?_) | (refine VB.is ?_; refine VB.yes (by omega) fun _ => ?_) | (refine VB.is ?_; refine VB.no (by omega) fun _ => ?_) | (refine VB.split (fun _ => ?_) (fun _ => ?_)) | (refine VLd.is ?_; refine VLd.mk (.row aT (by rfl)) ?_) | (refine VSt.is ?_; refine VSt.row aT (by rfl) (by first | rfl | assumption) ?_) | (refine VNew.mk fun _ => ?_)
 all_goals (conv => whnf)
 exact ⟨fun w' hw' => ⟨true, rfl, by simp [ht], hw'.le .nil⟩⟩

theorem few7_any (X : PlnX) (w : World) :
  Calls Tryz.prog 19 #[.agg X.net.toArray, .agg (chpC X.C X.pd X.cd).toArray] w fun e w' => ∃ r : Bool, e = .returned (.bool r) ∧ (r = true ↔ (X.N.ps.length ≤ 24 ∨ (250 < X.N.ps.length ∧ X.N.ps.length ≤ 270 ∧ X.N.syns.length ≤ 10)) ∧ X.N.syns.length ≤ 80 ∧ X.C.dead.length ≤ 20) ∧ St w [] [] w' := by
 unfold PlnX.net chpC
 refine enter (C := Tryz.cx) (F := Tryz.fx19) (args := [_, _]) Tryz.func19 rfl rfl rfl Tryz.ok19 (St.start w []) ?_
 repeat' (conv => whnf); first | (refine VSeq.go ?_) | (refine VB.is ?_; refine VB.yes (by omega) fun _ => ?_) | (refine VB.is ?_; refine VB.no (by omega) fun _ => ?_) | (refine VB.split (fun _ => ?_) (fun _ => ?_)) | (refine VLd.is ?_; refine VLd.mk (.row aT (by rfl)) ?_) | (refine VSt.is ?_; refine VSt.row aT (by rfl) (by first | rfl | assumption) ?_) | (refine VNew.mk fun _ => ?_)
 all_goals (conv => whnf)
 all_goals first
  | exact ⟨fun w' hw' => ⟨true, rfl, by simp only [true_iff]; omega, hw'.le .nil⟩⟩
  | exact ⟨fun w' hw' => ⟨false, rfl, by simp only [Bool.false_eq_true, false_iff]; omega, hw'.le .nil⟩⟩

end Go.Proofs
end

section

namespace Go.Gm

def parW : Par := ⟨1, 1, 0, 5, 0, 0, -4, 1⟩

def netW : Net := ⟨[parW, parW], 1, [⟨-1, 0, 6, 1⟩, ⟨0, 1, 6, 3⟩]⟩

def chpW : Chp := ⟨⟨2, 1, 1⟩, 1, 4, 4, 3, []⟩

def qW : QR := ⟨[parW, parW], 1, (quantRes netW 2).syns, [4, 4], [1, 1], [2, 2], (quantRes netW 2).exact⟩

theorem qW_is : quantRes netW 2 = qW := by kernel_rfl

theorem qW_zero : qErr netW 2 = 0 := by kernel_rfl

theorem plW_zero : Gm.planE netW chpW = 0 := by kernel_rfl

theorem placeW : placeR netW chpW = ([0, 1], 0) := by kernel_rfl

theorem mapW_zero : mapErr netW chpW [0, 1] = 0 := by kernel_rfl

theorem mapW_rows : (mapRes netW chpW [0, 1]).rows = [[⟨2, 0, 3, 1⟩], [⟨0, 0, 3, 3⟩]] := by kernel_rfl

theorem mapW_cost : (mapRes netW chpW [0, 1]).cost = 1 := by kernel_rfl

theorem mapW_steps : (mapRes netW chpW [0, 1]).steps = 2 := by kernel_rfl

end Go.Gm

namespace Go.Proofs

open Go Go.Vx Go.Gm

theorem netW_wf : netW.wf := by
 refine ⟨?_, ?_, ?_⟩
 ·intro p hp
  simp only [netW, List.mem_cons, List.not_mem_nil, or_false, or_self] at hp
  subst hp
  constructor <;> simp [parW, I64]
 ·simp [netW, I64]
 ·simp [netW, Syn.wf, I64]

theorem chpW_wf : chpW.wf := by
 refine ⟨⟨?_, ?_, ?_⟩, ?_, ?_, ?_, ?_, ?_, ?_⟩ <;> simp [chpW, I64]

theorem works7_any (w : World) : Calls Tryz.prog 15 #[] w fun e w' => e = .returned (.bool true) ∧ St w [] [] w' := by
 have hq := fun pn cn bn on qs cs bs os (w' : World) h1 h2 => Quantise_any netW netW_wf 2 (by simp [I64]) pn cn bn on qs cs bs os w' h1 h2
 rw [qW_is, qW_zero] at hq
 have hp := fun pn cn qs cs (w' : World) h => placePlace_any ⟨chpW, none, 0, netW, pn, cn, qs, cs⟩ w' h plW_zero
 dsimp only at hp
 rw [placeW] at hp
 have hm := fun pn cn qs cs (w' : World) h p c b o h1 => placeMap_any ⟨chpW, none, 0, netW, pn, cn, qs, cs⟩ w' h [0, 1] (by simp [I64]) (by simp) p c b o h1
 dsimp only at hm
 rw [mapW_zero] at hm
 obtain ⟨R, hR⟩ : ∃ R, mapRes netW chpW [0, 1] = R := ⟨_, rfl⟩
 have hRc := mapW_cost
 have hRs := mapW_steps
 have hRr := mapW_rows
 rw [hR] at hm hRc hRs hRr
 have hm : ∀ pn cn qs cs (w' : World), PlnRd ⟨chpW, none, 0, netW, pn, cn, qs, cs⟩ w' → ∀ p c b o, Sl w' intV 1 [0, 1] p 2 b o → Calls Tryz.prog 26 #[.agg #[.slice pn 2 cn, .int .i64 1, .slice qs 2 cs], .agg #[.int .i64 2, .int .i64 1, .int .i64 1, .int .i64 1, .int .i64 4, .int .i64 4, .int .i64 3, .slice none 0 0], .slice p 2 c] w' fun e w'' => ∃ z : MapP × Nat × RRow × Nat × Nat, e = .returned (.tuple #[.agg ([.slice z.1.pc R.cores.length z.1.cc, .slice z.1.ps R.slots.length z.1.cs, .slice z.1.y.pp R.quant.ps.length z.1.y.cp, .int .i64 R.quant.inp, .slice z.1.y.ps R.quant.syns.length z.1.y.cs, .slice z.1.y.pz R.quant.scales.length z.1.y.cz, .slice z.1.y.pq R.quant.quots.length z.1.y.cq, .slice z.1.y.pe R.quant.errs.length z.1.y.ce, .bool R.quant.exact, .slice (some ⟨z.2.1, 0, none⟩) 2 z.1.cr, .slice z.1.pt z.1.tt.length z.1.ct, .slice z.1.pw R.waves.length z.1.cw, .int .i64 1, .int .i64 R.load, .int .i64 2] : List Value).toArray, .int .i64 0]) ∧ True ∧
   St w' [] [.vec (some ⟨z.2.1, 0, none⟩) 2 z.1.cr 80 1 [.slice z.2.2.1.p z.2.2.1.l.length z.2.2.1.c, .slice (some ⟨z.2.2.2.1, 0, none⟩) 1 z.2.2.2.2], .vec (some ⟨z.2.2.2.1, 0, none⟩) 1 z.2.2.2.2 82 4 [.int .i64 0, .int .i64 0, .int .i64 3, .int .i64 3]] w'' := fun pn cn qs cs w' hX p c b o h1 => (hm pn cn qs cs w' hX p c b o h1).mono fun e w'' ⟨z, g1, g2, g3⟩ => by
  have h2 := g2.rows
  rw [hRr] at h2
  have hl2 : z.rr.length = 2 := by simpa using congrArg List.length h2
  obtain ⟨r0, r1, hrr⟩ : ∃ r0 r1, z.rr = [r0, r1] := by
   generalize z.rr = L at hl2
   cases L with
   | nil => simp at hl2
   | cons a L =>
    cases L with
    | nil => simp at hl2
    | cons b L =>
     cases L with
     | nil => exact ⟨a, b, rfl⟩
     | cons c L => simp at hl2
  rw [hrr] at h2
  simp only [List.map_cons, List.map_nil, List.cons.injEq, and_true] at h2
  have h3 := g2.okR r1 (by rw [hrr]; simp)
  obtain ⟨g, hg⟩ := h3 (by rw [h2.2]; simp)
  have hl : z.rr.length = 2 := by rw [hrr]; rfl
  have h4 := (vec_facts (g3.own (.vec z.pr z.rr.length z.cr 80 1 (flat rrV z.rr)) (by simp [mapH]))).2.1 (by omega)
  obtain ⟨gp, hgp⟩ := h4
  refine ⟨⟨z, gp, r0, g, r1.c⟩, ?_, trivial, g3.le ?_⟩
  ·rw [g1]
   unfold mapV quantC
   rw [hl, hgp, hRc, hRs]
   rfl
  ·have e1 : rrE r1 = .vec (some ⟨g, 0, none⟩) 1 r1.c 82 4 [.int .i64 0, .int .i64 0, .int .i64 3, .int .i64 3] := by
    unfold rrE
    rw [hg, h2.2]; rfl
   have e2 : flat rrV [r0, r1] = [.slice r0.p r0.l.length r0.c, .slice (some ⟨g, 0, none⟩) 1 r1.c] := by
    have : rrV r1 = [.slice (some ⟨g, 0, none⟩) 1 r1.c] := by unfold rrV; rw [hg, h2.2]; rfl
    show rrV r0 ++ (rrV r1 ++ []) = _
    rw [this]; rfl
   unfold mapH quantH
   rw [hgp, hl, hrr, e2]
   simp only [List.map_cons, List.map_nil, List.cons_append, List.nil_append]
   rw [e1]
   exact aH
 refine enter (C := Tryz.cx) (F := Tryz.fx15) (args := []) Tryz.func15 rfl rfl rfl Tryz.ok15 (St.start w []) ?_
 repeat' (conv => whnf); first | (refine VCall.isF 41 ?_; refine VCall.inl (F := Tryz.fx41) Tryz.func41 rfl rfl rfl Tryz.ok41 ?_) | (refine VCall.isF 94 ?_; refine VCall.inl (F := Tryz.fx94) Tryz.func94 rfl rfl rfl Tryz.ok94 ?_) | (refine VCall.isF 42 ?_; refine VCall.inl (F := Tryz.fx42) Tryz.func42 rfl rfl rfl Tryz.ok42 ?_) | (refine VCall.isF 20 ?_; (refine VCall.genR (fun w' hw' => hq _ _ _ _ _ _ _ _ w' (Sl.own' hw' (l := netW.ps) (f := parV) (k := 8) (by repeat (first | exact List.mem_cons_self | apply List.mem_cons_of_mem)) (fun _ => rfl) rfl) (Sl.own' hw' (l := netW.syns) (f := synV) (k := 4) (by repeat (first | exact List.mem_cons_self | apply List.mem_cons_of_mem)) (fun _ => rfl) rfl)) ?_; rintro y _)) | (refine VCall.isF 23 ?_; (refine VCall.genR (fun w' hw' => hp _ _ _ _ w' ⟨netW_wf, chpW_wf, Nat.zero_le _, ⟨0, 0, Sl.nil (.inl rfl)⟩, ⟨_, 0, Sl.own' hw' (l := netW.ps) (f := parV) (k := 8) (by repeat (first | exact List.mem_cons_self | apply List.mem_cons_of_mem)) (fun _ => rfl) rfl⟩, ⟨_, 0, Sl.own' hw' (l := netW.syns) (f := synV) (k := 4) (by repeat (first | exact List.mem_cons_self | apply List.mem_cons_of_mem)) (fun _ => rfl) rfl⟩⟩) ?_; rintro ⟨z1, z2⟩ _; dsimp only)) | (refine VCall.isF 26 ?_; (refine VCall.genR (fun w' hw' => hm _ _ _ _ w' ⟨netW_wf, chpW_wf, Nat.zero_le _, ⟨0, 0, Sl.nil (.inl rfl)⟩, ⟨_, 0, Sl.own' hw' (l := netW.ps) (f := parV) (k := 8) (by repeat (first | exact List.mem_cons_self | apply List.mem_cons_of_mem)) (fun _ => rfl) rfl⟩, ⟨_, 0, Sl.own' hw' (l := netW.syns) (f := synV) (k := 4) (by repeat (first | exact List.mem_cons_self | apply List.mem_cons_of_mem)) (fun _ => rfl) rfl⟩⟩ _ _ _ _ (Sl.own' hw' (l := [0, 1]) (f := intV) (k := 1) (by repeat (first | exact List.mem_cons_self | apply List.mem_cons_of_mem)) (fun _ => rfl) rfl)) ?_; rintro ⟨m, gp, r0, g1, c1⟩ _; dsimp only)) | (refine VNew.mk fun b5 => ?_) | (refine VLd.is ?_; refine VLd.mk (Rd.cast (.vec aT ((show sub [.slice r0.p r0.l.length r0.c, .slice (some ⟨g1, 0, none⟩) 1 c1] 1 1 = some [.slice (some ⟨g1, 0, none⟩) 1 c1] from rfl))) (by first | omega | (dsimp only; omega) | rfl)) ?_) | (refine VLd.is ?_; refine VLd.mk (Rd.cast (.vec aT ((show sub [Value.int .i64 0, .int .i64 0, .int .i64 3, .int .i64 3] 0 4 = some [.int .i64 0, .int .i64 0, .int .i64 3, .int .i64 3] from rfl))) (by first | omega | (dsimp only; omega) | rfl)) ?_) | (refine VCall.isF 25 ?_; (refine VCall.genR (v := fun r => .bool r) (p := fun r => (r = true ↔ ([4, 4] : List Int) = [4, 4])) (G := fun _ => []) (fun w' hw' => by obtain ⟨bb, hbb⟩ := Sl.own hw' (f := intV) (l := [4, 4]) (n := 2) (k := 1) (p := y.pz) aT (fun _ => rfl) rfl; exact equal7_any [4, 4] [4, 4] (by simp) _ _ bb 0 _ _ _ _ w' (by simp [I64]) (by simp [I64]) hbb (Sl.own' hw' (l := [4, 4]) (f := intV) (k := 1) (by repeat (first | exact List.mem_cons_self | apply List.mem_cons_of_mem)) (fun _ => rfl) rfl)) ?_; intro r hr; have hr := hr.2 rfl; subst hr)) | (refine VCall.isF 25 ?_; (refine VCall.genR (v := fun r => .bool r) (p := fun r => (r = true ↔ ([2, 2] : List Int) = [2, 2])) (G := fun _ => []) (fun w' hw' => by obtain ⟨bb, hbb⟩ := Sl.own hw' (f := intV) (l := [2, 2]) (n := 2) (k := 1) (p := y.pe) aT (fun _ => rfl) rfl; exact equal7_any [2, 2] [2, 2] (by simp) _ _ bb 0 _ _ _ _ w' (by simp [I64]) (by simp [I64]) hbb (Sl.own' hw' (l := [2, 2]) (f := intV) (k := 1) (by repeat (first | exact List.mem_cons_self | apply List.mem_cons_of_mem)) (fun _ => rfl) rfl)) ?_; intro r hr; have hr := hr.2 rfl; subst hr)) | (refine VCall.isF 25 ?_; (refine VCall.genR (v := fun r => .bool r) (p := fun r => (r = true ↔ ([0, 1] : List Int) = [0, 1])) (G := fun _ => []) (fun w' hw' => by obtain ⟨bb, hbb⟩ := Sl.own hw' (f := intV) (l := [0, 1]) (n := 2) (k := 1) (p := z1) aT (fun _ => rfl) rfl; exact equal7_any [0, 1] [0, 1] (by simp) _ _ bb 0 _ _ _ _ w' (by simp [I64]) (by simp [I64]) hbb (Sl.own' hw' (l := [0, 1]) (f := intV) (k := 1) (by repeat (first | exact List.mem_cons_self | apply List.mem_cons_of_mem)) (fun _ => rfl) rfl)) ?_; intro r hr; have hr := hr.2 rfl; subst hr)) | (refine VSeq.go ?_) | (refine VB.is ?_; refine VB.yes (by omega) fun _ => ?_) | (refine VB.split (fun _ => ?_) (fun _ => ?_)) | (refine VLd.is ?_; refine VLd.mk (.row aT (by rfl)) ?_) | (refine VSt.is ?_; refine VSt.row aT (by rfl) (by first | rfl | assumption) ?_) | (refine VIx.is ?_; refine VIx.mk rfl (by omega) (by omega) ?_)
 all_goals (conv => whnf)
 all_goals first
  | exact ⟨fun w' hw' => ⟨rfl, hw'.le .nil⟩⟩
  | (rename_i h; exact absurd ⟨rfl, rfl, rfl, rfl, trivial⟩ h)

end Go.Proofs
end
