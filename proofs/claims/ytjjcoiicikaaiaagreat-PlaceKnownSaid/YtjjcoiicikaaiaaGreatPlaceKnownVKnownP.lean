import Derived.Test.YtjjcoiicikaaiaaGreatPlaceKnownIm
import Derived.Test.YtjjcoiicikaaiaaGreatPlaceKnownWk
import Derived.Test.YtjjcoiicikaaiaaGreatPlaceKnownPd
section
set_option linter.unusedVariables false

set_option linter.unusedSimpArgs false

namespace Go.Proofs

open Go Go.Vx Go.Gm

theorem placeImprove_any (X : PlnX) (w : World) (hX : PlnRd X w) (cores : List Int) (hcw : ∀ k ∈ cores, I64 k) (hlc : cores.length ≤ 1000000) (rounds : Int) (hrw : I64 rounds) (p : Option Addr) (c b o : Nat) (h1 : Sl w intV 1 cores p cores.length b o) :
    Calls Tryz.prog 39 #[.agg X.net.toArray, .agg (chpC X.C X.pd X.cd).toArray, .slice p cores.length c, .int .i64 rounds] w fun e w' => ∃ z : Option Addr × Nat, e = .returned (.tuple #[.slice z.1 (impR X.N X.C cores rounds).1.length z.2, .int .i64 (impR X.N X.C cores rounds).2]) ∧ (0 < (impR X.N X.C cores rounds).1.length → ∃ g, z.1 = some ⟨g, 0, none⟩) ∧ St w [] [.vec z.1 (impR X.N X.C cores rounds).1.length z.2 3 1 (flat intV (impR X.N X.C cores rounds).1)] w' := by
  have hasg := asgE_chk X.N X.C cores
  have hb := fun he (w' : World) h => planned_bad X w' h he (.slice p cores.length c) rfl
  have hg := fun he (w' : World) h h1 => planned_any X w' h he cores hcw hlc p c b o h1
  unfold I64 at hrw
  unfold impR
  by_cases he : Gm.planE X.N X.C ≠ 0
  · have hb := hb he
    rw [if_pos he] at hasg
    rw [hasg, if_pos he]
    obtain ⟨E, hE⟩ : ∃ E, Gm.planE X.N X.C = E := ⟨_, rfl⟩
    rw [hE] at hb he ⊢
    unfold PlnX.net chpC at hb ⊢
    refine enter (C := Tryz.cx) (F := Tryz.fx39) (args := [_, _, _, _]) Tryz.func39 rfl rfl rfl Tryz.ok39 (St.start w []) ?_
    repeat' (conv => whnf); first | (refine VCall.isF 68 ?_; (refine VCall.valR (fun w' hw' => hb w' (hX.keep hw')) ?_)) | (refine VSeq.go ?_) | (refine VB.is ?_; refine VB.yes (by omega) fun _ => ?_) | (refine VB.is ?_; refine VB.no (by omega) fun _ => ?_) | (refine VB.split (fun _ => ?_) (fun _ => ?_)) | (refine boolE_split (fun h => ?_) (fun h => ?_) <;> subst h) | (refine VLd.is ?_; refine VLd.mk (.row aT (by rfl)) ?_) | (refine VSt.is ?_; refine VSt.row aT (by rfl) (by first | rfl | assumption) ?_) | (refine VNew.mk fun _ => ?_) | (refine VAr.is ?_; refine oA ?_) | (refine VIx.is ?_; refine VIx.mk rfl (by omega) (by omega) ?_) | (refine VKeep.is ?_; refine VKeep.mk aH ?_) | (refine VHs.mk _ (.refl _) ?_) | (refine VQ.is ?_; refine oQ ?_) | (refine VM.is ?_; refine oM ?_) | (refine And.intro ?_ ?_)
    all_goals (conv => whnf)
    all_goals first
      | exact ⟨fun w' hw' => ⟨(none, 0), rfl, (fun h => by cases h), hw'.le (HLe.nilv .nil)⟩⟩
      | (exfalso; omega)
  have hp0 := Decidable.not_not.1 he
  have hg := hg hp0
  rw [if_neg he] at hasg
  by_cases hc : chkA X.N X.C cores ≠ 0
  · rw [hasg, if_pos hc]
    obtain ⟨E, hE⟩ : ∃ E, chkA X.N X.C cores = E := ⟨_, rfl⟩
    rw [hE] at hg hc ⊢
    unfold PlnX.net chpC at hg ⊢
    refine enter (C := Tryz.cx) (F := Tryz.fx39) (args := [_, _, _, _]) Tryz.func39 rfl rfl rfl Tryz.ok39 (St.start w []) ?_
    repeat' (conv => whnf); first | (refine VCall.isF 68 ?_; (refine VCall.genR (fun w' hw' => hg w' (hX.keep hw') (h1.keep hw' (by simp))) ?_; rintro x hup)) | (refine VSeq.go ?_) | (refine VB.is ?_; refine VB.yes (by omega) fun _ => ?_) | (refine VB.is ?_; refine VB.no (by omega) fun _ => ?_) | (refine VB.split (fun _ => ?_) (fun _ => ?_)) | (refine boolE_split (fun h => ?_) (fun h => ?_) <;> subst h) | (refine VLd.is ?_; refine VLd.mk (.row aT (by rfl)) ?_) | (refine VSt.is ?_; refine VSt.row aT (by rfl) (by first | rfl | assumption) ?_) | (refine VNew.mk fun _ => ?_) | (refine VAr.is ?_; refine oA ?_) | (refine VIx.is ?_; refine VIx.mk rfl (by omega) (by omega) ?_) | (refine VKeep.is ?_; refine VKeep.mk aH ?_) | (refine VHs.mk _ (.refl _) ?_) | (refine VQ.is ?_; refine oQ ?_) | (refine VM.is ?_; refine oM ?_) | (refine And.intro ?_ ?_)
    all_goals (conv => whnf)
    all_goals first
      | exact ⟨fun w' hw' => ⟨(none, 0), rfl, (fun h => by cases h), hw'.le (HLe.nilv .nil)⟩⟩
      | (exfalso; omega)
  have hc0 := Decidable.not_not.1 hc
  rw [hasg, if_neg hc]
  by_cases hr : ¬ (0 ≤ rounds ∧ rounds ≤ 16)
  · rw [if_pos hr]
    rw [hc0] at hg
    unfold PlnX.net chpC at hg ⊢
    refine enter (C := Tryz.cx) (F := Tryz.fx39) (args := [_, _, _, _]) Tryz.func39 rfl rfl rfl Tryz.ok39 (St.start w []) ?_
    repeat' (conv => whnf); first | (refine VCall.isF 47 ?_; refine VCall.inl (F := Tryz.fx47) Tryz.func47 rfl rfl rfl Tryz.ok47 ?_) | (refine VCall.isF 68 ?_; (refine VCall.genR (fun w' hw' => hg w' (hX.keep hw') (h1.keep hw' (by simp))) ?_; rintro x hup)) | (refine VSeq.go ?_) | (refine VB.is ?_; refine VB.yes (by omega) fun _ => ?_) | (refine VB.is ?_; refine VB.no (by omega) fun _ => ?_) | (refine VB.split (fun _ => ?_) (fun _ => ?_)) | (refine boolE_split (fun h => ?_) (fun h => ?_) <;> subst h) | (refine VLd.is ?_; refine VLd.mk (.row aT (by rfl)) ?_) | (refine VSt.is ?_; refine VSt.row aT (by rfl) (by first | rfl | assumption) ?_) | (refine VNew.mk fun _ => ?_) | (refine VAr.is ?_; refine oA ?_) | (refine VIx.is ?_; refine VIx.mk rfl (by omega) (by omega) ?_) | (refine VKeep.is ?_; refine VKeep.mk aH ?_) | (refine VHs.mk _ (.refl _) ?_) | (refine VQ.is ?_; refine oQ ?_) | (refine VM.is ?_; refine oM ?_) | (refine And.intro ?_ ?_)
    all_goals (conv => whnf)
    all_goals first
      | exact ⟨fun w' hw' => ⟨(none, 0), rfl, (fun h => by cases h), hw'.le (HLe.nilv .nil)⟩⟩
      | (exfalso; omega)
  rw [if_neg hr]
  obtain ⟨R, rfl⟩ : ∃ R : Nat, rounds = (R : Int) := ⟨rounds.toNat, by omega⟩
  have := improve_good X w hX hp0 cores hcw hlc hc0 R (by omega) p c b o h1
  refine this.mono fun e w' ⟨z, h2, _, h4⟩ => ⟨(some ⟨z.1, 0, none⟩, z.2), h2, fun _ => ⟨_, rfl⟩, h4⟩

end Go.Proofs
end

section
set_option linter.unusedVariables false

set_option linter.unusedSimpArgs false

namespace Go.Gm

end Go.Gm

namespace Go.Proofs

open Go Go.Vx Go.Gm

end Go.Proofs
end

section
set_option linter.unusedVariables false

set_option linter.unusedSimpArgs false

namespace Go.Proofs

open Go Go.Vx Go.Gm

end Go.Proofs
end

section
set_option linter.unusedVariables false

set_option linter.unusedSimpArgs false

namespace Go.Gm

end Go.Gm

namespace Go.Proofs

open Go Go.Vx Go.Gm

structure PlnRi (X : PlnX) (w : World) : Prop where
  net : X.N.wf
  chip : X.C.int
  cap : X.C.dead.length ≤ X.cd
  dead : ∃ b o, Sl w intV 1 X.C.dead X.pd X.C.dead.length b o
  ps : ∃ b o, Sl w parV 8 X.N.ps X.pn X.N.ps.length b o
  syns : ∃ b o, Sl w synV 4 X.N.syns X.qs X.N.syns.length b o

theorem PlnRi.rd {X : PlnX} {w w' : World} {H : HP} (h : PlnRi X w) (hw' : St w [] H w') (hf : X.C.dead.length ≤ 1000000) : PlnRd X w' :=
  PlnRd.keep ⟨h.net, h.chip.wf hf, h.cap, h.dead, h.ps, h.syns⟩ hw'

theorem place7_any (X : PlnX) (w : World) (hX : PlnRd X w) :
    Calls Tryz.prog 23 #[.agg X.net.toArray, .agg (chpC X.C X.pd X.cd).toArray] w fun e w' => ∃ z : Option Addr × Nat, e = .returned (.tuple #[.slice z.1 (placeR X.N X.C).1.length z.2, .int .i64 (placeR X.N X.C).2]) ∧ True ∧ St w [] [.vec z.1 (placeR X.N X.C).1.length z.2 3 1 (flat intV (placeR X.N X.C).1)] w' := by
  by_cases he : Gm.planE X.N X.C = 0
  · exact (placePlace_any X w hX he).mono fun e w' ⟨z, h1, _, h3⟩ => ⟨z, h1, trivial, h3⟩
  · have hr : placeR X.N X.C = ([], Gm.planE X.N X.C) := by unfold placeR; rw [if_pos he]
    rw [hr]
    exact (placePlace_bad X w hX he).mono fun e w' ⟨h1, h3⟩ => ⟨(none, 0), h1, trivial, h3.le (HLe.nilv .nil)⟩

end Go.Proofs
end

section
set_option linter.unusedVariables false

set_option linter.unusedSimpArgs false

namespace Go.Gm

def chpW2 : Chp := ⟨⟨2, 1, 1⟩, 2, 4, 4, 3, []⟩

def chpWd : Chp := ⟨⟨2, 1, 1⟩, 1, 4, 4, 3, [1]⟩

def chpWe : Chp := ⟨⟨2, 1, 1⟩, 1, 4, 1, 3, []⟩

def qW3 : QR := ⟨[parW, parW], 1, (quantRes netW 3).syns, [2, 2], [3, 3], [0, 0], true⟩

def qW2 : QR := ⟨[parW, parW], 1, [⟨-1, 0, 4, 1⟩, ⟨0, 1, 4, 3⟩], [4, 4], [1, 1], [2, 2], false⟩

theorem qW3_is : quantRes netW 3 = qW3 := by kernel_rfl

theorem qW3_zero : qErr netW 3 = 0 := by kernel_rfl

theorem qW2_is : quantRes netW 2 = qW2 := by kernel_rfl

theorem kn_cost : Go.Proofs.costR netW chpW [0, 1] = (1, 0) := by kernel_rfl

theorem kn_low : lowR netW chpW = (1, 0) := by kernel_rfl

theorem kn_cost2 : Go.Proofs.costR netW chpW [1, 0] = (2, 0) := by kernel_rfl

theorem kn_imp : impR netW chpW [1, 0] 1 = ([1, 0], 0) := by kernel_rfl

theorem kn_place2 : placeR netW chpW2 = ([0, 0], 0) := by kernel_rfl

theorem kn_low2 : lowR netW chpW2 = (0, 0) := by kernel_rfl

theorem kn_imp2 : impR netW chpW2 [1, 0] 1 = ([0, 0], 0) := by kernel_rfl

theorem kn_chk1 : asgE netW chpW [0, 2] = 3 := by kernel_rfl

theorem kn_chk2 : asgE netW chpW [0] = 13 := by kernel_rfl

theorem kn_chk3 : asgE netW chpW [0, 0] = 15 := by kernel_rfl

theorem kn_chk4 : asgE netW chpWd [0, 1] = 25 := by kernel_rfl

theorem kn_mapE : mapErr netW chpWe [0, 1] = 15 := by kernel_rfl

theorem kn_slots : (mapRes netW chpW [0, 1]).slots = [0, 0] := by kernel_rfl

theorem kn_waves : (mapRes netW chpW [0, 1]).waves = [0, -1, 0] := by kernel_rfl

theorem kn_load : (mapRes netW chpW [0, 1]).load = 1 := by kernel_rfl

theorem kn_tabs : (mapRes netW chpW [0, 1]).tables = [[⟨0, 65535, 1⟩, ⟨2, 65535, 16⟩], [⟨0, 65535, 16⟩]] := by kernel_rfl

end Go.Gm

namespace Go.Proofs

open Go Go.Vx Go.Gm

theorem chpW2_wf : chpW2.wf := by
  refine ⟨⟨?_, ?_, ?_⟩, ?_, ?_, ?_, ?_, ?_, ?_⟩ <;> simp [chpW2, I64]

theorem chpWd_wf : chpWd.wf := by
  refine ⟨⟨?_, ?_, ?_⟩, ?_, ?_, ?_, ?_, ?_, ?_⟩ <;> simp [chpWd, I64]

theorem chpWe_wf : chpWe.wf := by
  refine ⟨⟨?_, ?_, ?_⟩, ?_, ?_, ?_, ?_, ?_, ?_⟩ <;> simp [chpWe, I64]

theorem two_of {α : Type} {l : List α} (h : l.length = 2) : ∃ a b, l = [a, b] := by
  cases l with
  | nil => simp at h
  | cons a l =>
    cases l with
    | nil => simp at h
    | cons b l =>
      cases l with
      | nil => exact ⟨a, b, rfl⟩
      | cons c l => simp at h

structure KnM where
  z : MapP
  gp : Nat
  g0 : Nat
  c0 : Nat
  r1 : RRow
  gt : Nat
  h0 : Nat
  d0 : Nat
  h1 : Nat
  d1 : Nat

theorem kn_map (pn : Option Addr) (cn : Nat) (qs : Option Addr) (cs : Nat) (w' : World) (hX : PlnRd ⟨chpW, none, 0, netW, pn, cn, qs, cs⟩ w') (p : Option Addr) (c b o : Nat) (h1 : Sl w' intV 1 [0, 1] p 2 b o) :
    Calls Tryz.prog 26 #[.agg #[.slice pn 2 cn, .int .i64 1, .slice qs 2 cs], .agg #[.int .i64 2, .int .i64 1, .int .i64 1, .int .i64 1, .int .i64 4, .int .i64 4, .int .i64 3, .slice none 0 0], .slice p 2 c] w' fun e w'' => ∃ k : KnM, e = .returned (.tuple #[.agg ([.slice k.z.pc 2 k.z.cc, .slice k.z.ps 2 k.z.cs, .slice k.z.y.pp (mapRes netW chpW [0, 1]).quant.ps.length k.z.y.cp, .int .i64 (mapRes netW chpW [0, 1]).quant.inp, .slice k.z.y.ps (mapRes netW chpW [0, 1]).quant.syns.length k.z.y.cs, .slice k.z.y.pz (mapRes netW chpW [0, 1]).quant.scales.length k.z.y.cz, .slice k.z.y.pq (mapRes netW chpW [0, 1]).quant.quots.length k.z.y.cq, .slice k.z.y.pe (mapRes netW chpW [0, 1]).quant.errs.length k.z.y.ce, .bool (mapRes netW chpW [0, 1]).quant.exact, .slice (some ⟨k.gp, 0, none⟩) 2 k.z.cr, .slice (some ⟨k.gt, 0, none⟩) 2 k.z.ct, .slice k.z.pw 3 k.z.cw, .int .i64 1, .int .i64 1, .int .i64 2] : List Value).toArray, .int .i64 0]) ∧ True ∧
      St w' [] [.vec k.z.ps 2 k.z.cs 3 1 [.int .i64 0, .int .i64 0], .vec k.z.pw 3 k.z.cw 3 1 [.int .i64 0, .int .i64 (-1), .int .i64 0], .vec (some ⟨k.gp, 0, none⟩) 2 k.z.cr 80 1 [.slice (some ⟨k.g0, 0, none⟩) 1 k.c0, .slice k.r1.p k.r1.l.length k.r1.c], .vec (some ⟨k.g0, 0, none⟩) 1 k.c0 82 4 [.int .i64 2, .int .i64 0, .int .i64 3, .int .i64 1], .vec (some ⟨k.gt, 0, none⟩) 2 k.z.ct 84 1 [.slice (some ⟨k.h0, 0, none⟩) 2 k.d0, .slice (some ⟨k.h1, 0, none⟩) 1 k.d1], .vec (some ⟨k.h0, 0, none⟩) 2 k.d0 98 3 [.int .i64 0, .int .i64 65535, .int .i64 1, .int .i64 2, .int .i64 65535, .int .i64 16], .vec (some ⟨k.h1, 0, none⟩) 1 k.d1 98 3 [.int .i64 0, .int .i64 65535, .int .i64 16]] w'' := by
  have hm := placeMap_any ⟨chpW, none, 0, netW, pn, cn, qs, cs⟩ w' hX [0, 1] (by simp [I64]) (by simp) p c b o h1
  dsimp only at hm
  rw [mapW_zero] at hm
  have e1 : (mapRes netW chpW [0, 1]).cores = [0, 1] := by kernel_rfl
  have e2 := kn_slots
  have e3 := kn_waves
  have e4 := kn_load
  have e5 := kn_tabs
  have e6 := mapW_cost
  have e7 := mapW_steps
  have e8 := mapW_rows
  obtain ⟨R, hR⟩ : ∃ R, mapRes netW chpW [0, 1] = R := ⟨_, rfl⟩
  rw [hR] at hm e1 e2 e3 e4 e5 e6 e7 e8 ⊢
  refine hm.mono fun e w'' ⟨z, g1, g2, g3⟩ => ?_
  have h2 := g2.rows
  have h3 := g2.tables
  rw [e8] at h2
  rw [e5] at h3
  have l2 : z.rr.length = 2 := by simpa using congrArg List.length h2
  have l3 : z.tt.length = 2 := by simpa using congrArg List.length h3
  obtain ⟨r0, r1, hrr⟩ := two_of l2
  obtain ⟨t0, t1, htt⟩ := two_of l3
  have k2 := h2
  have k3 := h3
  rw [hrr] at k2
  rw [htt] at k3
  simp only [List.map_cons, List.map_nil, List.cons.injEq, and_true] at k2 k3
  obtain ⟨g0, hg0⟩ := g2.okR r0 (by rw [hrr]; simp) (by rw [k2.1]; simp)
  obtain ⟨i0, hi0⟩ := g2.okT t0 (by rw [htt]; simp) (by rw [k3.1]; simp)
  obtain ⟨i1, hi1⟩ := g2.okT t1 (by rw [htt]; simp) (by rw [k3.2]; simp)
  obtain ⟨gp, hgp⟩ := (vec_facts (g3.own (.vec z.pr z.rr.length z.cr 80 1 (flat rrV z.rr)) (by simp [mapH]))).2.1 (by omega)
  obtain ⟨gt, hgt⟩ := (vec_facts (g3.own (.vec z.pt z.tt.length z.ct 84 1 (flat erV z.tt)) (by simp [mapH]))).2.1 (by omega)
  refine ⟨⟨z, gp, g0, r0.c, r1, gt, i0, t0.c, i1, t1.c⟩, ?_, trivial, g3.le ?_⟩
  · rw [g1]
    unfold mapV quantC
    rw [l2, l3, hgp, hgt, e1, e2, e3, e4, e6, e7]
    rfl
  · have a1 : rrE r0 = .vec (some ⟨g0, 0, none⟩) 1 r0.c 82 4 [.int .i64 2, .int .i64 0, .int .i64 3, .int .i64 1] := by
      unfold rrE
      rw [hg0, k2.1]; rfl
    have a2 : erE t0 = .vec (some ⟨i0, 0, none⟩) 2 t0.c 98 3 [.int .i64 0, .int .i64 65535, .int .i64 1, .int .i64 2, .int .i64 65535, .int .i64 16] := by
      unfold erE
      rw [hi0, k3.1]; rfl
    have a3 : erE t1 = .vec (some ⟨i1, 0, none⟩) 1 t1.c 98 3 [.int .i64 0, .int .i64 65535, .int .i64 16] := by
      unfold erE
      rw [hi1, k3.2]; rfl
    have a4 : flat rrV [r0, r1] = [.slice (some ⟨g0, 0, none⟩) 1 r0.c, .slice r1.p r1.l.length r1.c] := by
      have : rrV r0 = [.slice (some ⟨g0, 0, none⟩) 1 r0.c] := by unfold rrV; rw [hg0, k2.1]; rfl
      show rrV r0 ++ (rrV r1 ++ []) = _
      rw [this]; rfl
    have a5 : flat erV [t0, t1] = [.slice (some ⟨i0, 0, none⟩) 2 t0.c, .slice (some ⟨i1, 0, none⟩) 1 t1.c] := by
      have b0 : erV t0 = [.slice (some ⟨i0, 0, none⟩) 2 t0.c] := by unfold erV; rw [hi0, k3.1]; rfl
      have b1 : erV t1 = [.slice (some ⟨i1, 0, none⟩) 1 t1.c] := by unfold erV; rw [hi1, k3.2]; rfl
      show erV t0 ++ (erV t1 ++ []) = _
      rw [b0, b1]; rfl
    have a6 : flat intV R.slots = [.int .i64 0, .int .i64 0] := by rw [e2]; rfl
    have a7 : flat intV R.waves = [.int .i64 0, .int .i64 (-1), .int .i64 0] := by rw [e3]; rfl
    have b6 : R.slots.length = 2 := by rw [e2]; rfl
    have b7 : R.waves.length = 3 := by rw [e3]; rfl
    unfold mapH quantH
    rw [hgp, hgt, l2, l3, hrr, htt, a4, a5, a6, a7, b6, b7]
    simp only [List.map_cons, List.map_nil, List.cons_append, List.nil_append]
    rw [a1, a2, a3]
    exact aH

theorem kn_mapBad (pn : Option Addr) (cn : Nat) (qs : Option Addr) (cs : Nat) (w' : World) (hX : PlnRd ⟨chpWe, none, 0, netW, pn, cn, qs, cs⟩ w') (p : Option Addr) (c b o : Nat) (h1 : Sl w' intV 1 [0, 1] p 2 b o) :
    Calls Tryz.prog 26 #[.agg #[.slice pn 2 cn, .int .i64 1, .slice qs 2 cs], .agg #[.int .i64 2, .int .i64 1, .int .i64 1, .int .i64 1, .int .i64 4, .int .i64 1, .int .i64 3, .slice none 0 0], .slice p 2 c] w' fun e w'' => ∃ z : MapP, e = .returned (.tuple #[.agg (mapV z mapNone).toArray, .int .i64 15]) ∧ True ∧ St w' [] [] w'' := by
  have hm := placeMap_any ⟨chpWe, none, 0, netW, pn, cn, qs, cs⟩ w' hX [0, 1] (by simp [I64]) (by simp) p c b o h1
  dsimp only at hm
  have hr : mapRes netW chpWe [0, 1] = mapNone := by unfold mapRes; rw [kn_mapE, if_pos (by simp)]
  rw [kn_mapE, hr] at hm
  exact hm.mono fun e w'' ⟨z, g1, _, g3⟩ => ⟨z, g1, trivial, g3.le .nil⟩

end Go.Proofs
end
