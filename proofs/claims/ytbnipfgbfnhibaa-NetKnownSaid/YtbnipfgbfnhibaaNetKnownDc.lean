/- Dc: package net walked: Driven. -/

import Derived.Test.YtbnipfgbfnhibaaNetKnownGd

/-! Drv6: look and send, as they are called. -/

section

set_option linter.unusedVariables false

set_option linter.unusedSimpArgs false

namespace Go.Proofs

open Go Go.Vx Go.Gm

theorem _root_.Go.Vx.VCall.le {P : Program} {w0 : World} {M : List Nat} {H H' : HP} {f : Nat} {args : List Value} {K : Value → HP → Prop} (hl : HLe H' H) (h : VCall P w0 M H' f args K) : VCall P w0 M H f args K := by
  cases h with
  | mk h => exact .mk fun w hw => h w (hw.le hl)

/-- What stands beside a run of blocks lies in none of them. -/
theorem _root_.Go.Vx.St.beside {w0 w : World} {M : List Nat} {A S : HP} (hs : St w0 M (A ++ S) w) {x : Ent} (hx : x ∈ A) {b : Nat} (hb : x.id = some b) : b ∉ ids S := by
  have hn := hs.nodup
  rw [ids_app] at hn
  exact fun hin => (List.nodup_append.1 hn).2.2 b (List.mem_filterMap.2 ⟨x, hx, hb⟩) b hin rfl

theorem look_call {w0 : World} {M : List Nat} {H R0 : HP} {K : Value → HP → Prop} (bc gc n ccap : Nat) (vw : Value) (bd : Nat) (cs : List CellM) (p : Option Addr) (cap : Nat) (A : List Evt) (Q : List DueRow) (T i : Nat) (c : CellM) (hi : cs[i]? = some c) (hn : cs.length = n) (hl : n ≤ 1024) (hA : HeapOk A) (hAl : A.length ≤ 4398046511104)
    (hpp : 0 < A.length → ∃ g, p = some ⟨g, 0, none⟩) (hp : ParOk c.p) (hso : staOk c.p c.s) (hT : T < 1073741824) (hct : c.tick ≤ 1073741824) (hact : ¬ lookSkip c (dueAt Q T i) T → quiet c.p c.s (T - c.tick))
    (htk : Take H (courseS bc gc n ccap vw (.map (some bd)) cs p cap A) R0) (hle : HLe ((.map bd (Q.map dueM) :: Q.map dueE) ++ courseS bc gc n ccap vw (.map (some bd)) cs p cap A) H)
    (hk : ∀ y : LookY, LookRel cs i c (dueAt Q T i) T A y → (0 < y.A.length → ∃ g, y.p = some ⟨g, 0, none⟩) → K (.bool y.spk) (courseS bc gc n ccap vw (.map (some bd)) y.cells y.p y.cap y.A ++ R0)) :
    VCall Try.cx.P w0 M H 71 [.pointer (some ⟨bc, 0, none⟩), .agg #[.int .i64 (T : Int), .int .i64 (i : Int)]] K := by
  refine VCall.turnT (α := LookY) (fun y => .bool y.spk) (fun y => LookRel cs i c (dueAt Q T i) T A y ∧ (0 < y.A.length → ∃ g, y.p = some ⟨g, 0, none⟩)) (fun y => courseS bc gc n ccap vw (.map (some bd)) y.cells y.p y.cap y.A) htk (fun w hw hs => ?_) (fun y hy => hk y hy.1 hy.2)
  have hst := hw.le hle
  refine look_any bc gc n ccap vw bd cs p cap A Q T i c hi hn hl hA hAl hpp hp hso hT hct hact w hs (hst.own (.map bd (Q.map dueM)) (by simp)) (hst.beside (x := .map bd (Q.map dueM)) (by simp) rfl) fun r hr => ?_
  have hm : dueE r ∈ (Ent.map bd (Q.map dueM) :: Q.map dueE) := List.mem_cons_of_mem _ (List.mem_map_of_mem hr)
  exact ⟨hst.own (dueE r) (List.mem_append_left _ hm), hst.beside hm rfl⟩

theorem send_call {w0 : World} {M : List Nat} {H R0 : HP} {K : Value → HP → Prop} (N : Net) (hN : NetOk N) (bc : Nat) (vc : Value) (bw bd : Nat) (R : List WRow) (hWO : WOk R) (hW : R.map wrowK = wire N.syns) (p : Option Addr) (cap : Nat) (A : List Evt) (Q : List DueRow) (T : Nat) (hT : T ≤ 1073741824) (sp ins : List Int)
    (pn : Option Addr) (cn : Nat) (pi : Option Addr) (ni ci : Nat) (hni : ni = ins.length) (nn : Nat) (hnn : nn = sp.length) (hsl : sp.length ≤ 65536) (hil : ins.length ≤ 65536) (hinr : ∀ k ∈ ins, 0 ≤ k ∧ k ≤ 256) (hA : HeapOk A) (hAl : A.length + (yields (wire N.syns) (sp ++ ins.map fun k => -1 - k)).length ≤ 4398046511104) (hpp : 0 < A.length → ∃ g, p = some ⟨g, 0, none⟩)
    (htk : Take H (dueS bc vc (.map (some bw)) bd p cap A Q) R0) (hle : HLe ((.map bw (R.map wrowM) :: R.map wrowE) ++ dueS bc vc (.map (some bw)) bd p cap A Q) H)
    (h1 : HLe (.vec pn nn cn 3 1 (flat intV sp) :: dueS bc vc (.map (some bw)) bd p cap A Q) H) (h2 : HLe (.vec pi ni ci 3 1 (flat intV ins) :: dueS bc vc (.map (some bw)) bd p cap A Q) H)
    (hk : ∀ y : DueY, Adds T Q A (yields (wire N.syns) (sp ++ ins.map fun k => -1 - k)) y.Q y.A → (0 < y.A.length → ∃ g, y.p = some ⟨g, 0, none⟩) → K (.tuple #[]) (dueS bc vc (.map (some bw)) bd y.p y.cap y.A y.Q ++ R0)) :
    VCall Try.cx.P w0 M H 73 [.pointer (some ⟨bc, 0, none⟩), .int .i64 (T : Int), .slice pn nn cn, .slice pi ni ci] K := by
  subst hni
  subst hnn
  refine VCall.turnT (α := DueY) (fun _ => .tuple #[]) (fun y => Adds T Q A (yields (wire N.syns) (sp ++ ins.map fun k => -1 - k)) y.Q y.A ∧ (0 < y.A.length → ∃ g, y.p = some ⟨g, 0, none⟩)) (fun y => dueS bc vc (.map (some bw)) bd y.p y.cap y.A y.Q) htk (fun w hw hs => ?_) (fun y hy => hk y hy.1 hy.2)
  have hst := hw.le hle
  obtain ⟨bn, g1, g2⟩ := Sl.vecOut hw h1 (fun _ => rfl) rfl
  obtain ⟨bi, g3, g4⟩ := Sl.vecOut hw h2 (fun _ => rfl) rfl
  have hwi : WiOk w (ids (dueS bc vc (.map (some bw)) bd p cap A Q)) bw R := by
    refine ⟨hst.own (.map bw (R.map wrowM)) (by simp), hst.beside (x := .map bw (R.map wrowM)) (by simp) rfl, fun r hr => ?_⟩
    obtain ⟨g, hg⟩ := hWO.ptr r hr
    have hm : wrowE r ∈ (Ent.map bw (R.map wrowM) :: R.map wrowE) := List.mem_cons_of_mem _ (List.mem_map_of_mem hr)
    have h4 := List.mem_append_left (dueS bc vc (.map (some bw)) bd p cap A Q) hm
    unfold wrowE at hm h4
    rw [hg] at hm h4 ⊢
    exact ⟨g, rfl, Sl.own' hst h4 (fun _ => rfl) rfl, hst.beside hm rfl⟩
  exact send_any N hN bc vc bw bd R hW p cap A Q T hT sp ins pn cn bn pi ci bi hsl hil hinr hA hAl hpp w hs hwi g1 g2 g3 g4

theorem mdel_due {Q : List DueRow} {t : Int} (h : (Q.map (·.key)).Nodup) : mdel (Q.map dueM) t = (Q.filter fun r => r.key ≠ t).map dueM := by
  induction Q with
  | nil => rfl
  | cons r q ih =>
    simp only [List.map_cons, List.nodup_cons] at h
    simp only [List.map_cons, mdel, dueM]
    by_cases hk : r.key = t
    · rw [if_pos hk, List.filter_cons_of_neg (by simp [hk])]
      congr 1
      rw [List.filter_eq_self.2]
      intro x hx
      have : x.key ≠ t := fun e => h.1 (by rw [hk, ← e]; exact List.mem_map_of_mem hx)
      simpa using this
    · rw [if_neg hk, List.filter_cons_of_pos (by simpa using hk), List.map_cons, ← ih h.2]
      rfl

theorem filter_le {α : Type} {f : α → Ent} {Q : List α} (q : α → Bool) : HLe ((Q.filter q).map f) (Q.map f) := by
  refine HLe.of_sub ((Q.filter fun x => !q x).map f) ?_
  rw [← List.map_append]
  exact (List.filter_append_perm q Q).symm.map f

end Go.Proofs

end

/-! Drv7: Driven, walked. -/

section

set_option linter.unusedVariables false

set_option linter.unusedSimpArgs false

namespace Go.Proofs

open Go Go.Vx Go.Gm

/-- What Driven returns. -/
def drvRes (N : Net) (l : List Evt) (ticks : Int) : List Evt × Int :=
  if prepErr N l ticks 1073741824 ≠ 0 then ([], prepErr N l ticks 1073741824)
  else if 65536 < (outTo N l ticks.toNat).length then ([], 8) else (outTo N l ticks.toNat, 0)

/-- Driven's state at its beginning. -/
structure IniY where
  i : Nat
  cs : List CellM
  A : List Evt
  pc : Option Addr
  ccap : Nat
  pA : Option Addr
  capA : Nat

/-- Driven's state while alarms are taken out. -/
structure PopY where
  cs : List CellM
  A : List Evt
  pA : Option Addr
  capA : Nat
  sp : List Int
  ps : Option Addr
  caps : Nat

/-- Driven's state at the head of a tick. -/
structure DrvY where
  T : Nat
  cs : List CellM
  Q : List DueRow
  A : List Evt
  pA : Option Addr
  capA : Nat
  k : Nat
  p : Option Addr
  cap : Nat

set_option maxHeartbeats 1600000 in
theorem Driven_any (N : Net) (hN : N.wf) (l : List Evt) (hl : ∀ x ∈ l, x.wf) (ticks : Int) (pn : Option Addr) (cn bn on : Nat) (qs : Option Addr) (cs bs os : Nat) (pe : Option Addr) (ce be oe : Nat) (w : World)
    (h1 : Sl w parV 8 N.ps pn N.ps.length bn on) (h2 : Sl w synV 4 N.syns qs N.syns.length bs os) (h3 : Sl w evtV 2 l pe l.length be oe) (hce : l.length ≤ ce) :
    Calls Try.prog 26 #[.agg #[.slice pn N.ps.length cn, .int .i64 N.inputs, .slice qs N.syns.length cs], .slice pe l.length ce, .int .i64 ticks] w fun e w' => ∃ y : Option Addr × Nat,
      e = .returned (.tuple #[.slice y.1 (drvRes N l ticks).1.length y.2, .int .i64 (drvRes N l ticks).2]) ∧ True ∧ St w [] [.vec y.1 (drvRes N l ticks).1.length y.2 44 2 (flat evtV (drvRes N l ticks).1)] w' := by
  refine enter (C := Try.cx) (args := [_, _, _]) (F := Try.fx26) Try.func26 rfl rfl rfl Try.ok26 (St.start w []) ?_
  have hpz := @prep_zero N l ticks 1073741824
  repeat' (conv => whnf); first | (refine VCall.isF 58 ?_; refine VCall.valR (fun w' hw' => prepared_any N hN l hl ticks 1073741824 (by omega) _ _ _ _ _ _ _ _ _ _ _ _ _ (h1.keep hw' (by simp)) (h2.keep hw' (by simp)) (h3.keep hw' (by simp))) ?_) | (refine VCall.is ?_; refine VCall.isF 66 ?_; refine VCall.genR (fun w' hw' => wired_any N (hpz.1 (by omega)).1.fewS _ _ _ _ _ _ (h2.keep hw' (by simp))) ?_; rintro ⟨bw, R⟩ ⟨hwO, hwR⟩; dsimp only at hwO hwR) | (refine VSeq.is ?_; refine VSeq.go ?_) | (refine VB.is ?_; refine VB.yes (by omega) fun _ => ?_) | (refine VB.is ?_; refine VB.no (by omega) fun _ => ?_) | (refine VB.is ?_; refine VB.split (fun _ => ?_) (fun _ => ?_)) | (refine boolE_split (fun h => ?_) (fun h => ?_) <;> subst h) | (refine VLd.is ?_; refine VLd.mk (.row aT (by rfl)) ?_) | (refine VSt.is ?_; refine VSt.row aT (by rfl) (by first | rfl | assumption) ?_) | (refine VNew.is ?_; refine VNew.mk fun _ => ?_) | (refine VAr.is ?_; refine VAr.i64 (by omega) (by omega) ?_) | (refine VIx.is ?_; refine VIx.mk rfl (by omega) (by omega) ?_) | (refine VKeep.is ?_; refine VKeep.mk aH ?_) | (refine VHs.is ?_; refine VHs.mk _ (HLe.refl _) ?_) | (refine VQ.is ?_; refine VQ.pos (by omega) (by omega) (by omega) ?_) | (refine VM.is ?_; refine VM.pos (by omega) (by omega) ?_) | (refine And.intro ?_ ?_)
  all_goals (conv => whnf)
  · refine ⟨fun w' hw' => ⟨(none, 0), ?_, trivial, ?_⟩⟩
    · unfold drvRes; rw [if_pos ‹_›]; rfl
    · unfold drvRes; rw [if_pos ‹_›]; exact hw'.le aH
  have h0 : prepErr N l ticks 1073741824 = 0 := by omega
  obtain ⟨hNok, hticks, hev⟩ := hpz.1 h0
  have hres : drvRes N l ticks = if 65536 < (outTo N l ticks.toNat).length then ([], 8) else (outTo N l ticks.toNat, 0) := by
    unfold drvRes; rw [if_neg (by omega)]
  rename_i bd bc
  have hpos := hNok.some
  have hfew := hNok.few
  refine VLoop.kr (α := IniY) [1000000, 1, 2, 6, 7, 9, 37, 38] rfl (fun y => y.i ≤ N.ps.length ∧ IInv N y.i y.cs y.A ∧ (0 < y.A.length → ∃ g, y.pA = some ⟨g, 0, none⟩) ∧ (0 < y.i → ∃ g, y.pc = some ⟨g, 0, none⟩)) (fun y K => (39, .int .i64 (y.i : Int)) :: K)
    (fun y => .row bc 127 (courseV (.slice (y.pc) (List.length (y.cs)) (y.ccap)) (.map (some bw)) (.map (some bd)) (y.pA) (List.length (y.A)) (y.capA)) :: .vec (y.pc) (List.length (y.cs)) (y.ccap) 131 12 (flat ccV (y.cs)) :: .vec (y.pA) (List.length (y.A)) (y.capA) 129 2 (flat evtV (y.A)) :: .map bd [] :: .map bw (R.map wrowM) :: R.map wrowE) (fun y => N.ps.length - y.i) ⟨0, [], [], none, 0, none, 0⟩ ⟨by simp, IInv.zero N, by simp, by simp⟩ aE aH ?_
  rintro ⟨i, cs, A, pc, ccap, pA, capA⟩ ⟨hi, hI, hpA, hpc⟩
  dsimp only at *
  have hcl := hI.len
  have hAl := hI.few
  rcases Nat.lt_or_ge i N.ps.length with hlt | hge
  · obtain ⟨p, hp⟩ := h1.get hlt
    have hpo := hNok.ps p (List.mem_of_getElem? hp)
    have hs0 : staOk p ⟨0, 0⟩ := by
      have := hpo.fl
      have := hpo.rest
      unfold staOk
      dsimp only
      omega
    repeat' (conv => whnf); first | (refine VNew.is ?_; refine VNew.mk fun b12 => ?_) | (refine VIx.is ?_; refine VIx.mk (h1.ptr (by omega)) (by omega) (by omega) ?_) | (refine VLd.is ?_; refine VLd.mk (Rd.cast (h1.rd0 (by simp) (fun _ => rfl) hp rfl) (by first | omega | (dsimp only; omega) | rfl)) ?_) | (refine VCall.isF 68 ?_; refine VCall.inl (F := Try.fx68) Try.func68 rfl rfl rfl Try.ok68 ?_) | (refine VCall.is ?_; refine VCall.isF 102 ?_; refine VCall.ex (Next_any p ⟨0, 0⟩ hpo hs0) fun r hr => ?_; have hrb := hr.bounds) | (refine VSeq.is ?_; refine VSeq.cut (at_ := 13) (α := Int × Option Addr × Nat × List Evt) (fun z => IInv N (i + 1) (cs ++ [⟨p, ⟨0, 0⟩, 0, z.1⟩]) z.2.2.2 ∧ (0 < z.2.2.2.length → ∃ g, z.2.1 = some ⟨g, 0, none⟩)) (fun z => [(1000000, .tuple #[]), (1, .slice pe l.length ce), (2, .int .i64 ticks), (6, .slice none 0 0), (7, .int .i64 0), (9, .pointer (some ⟨bc, 0, none⟩)), (12, .pointer (some ⟨b12, 0, none⟩)), (37, .slice pn N.ps.length cn), (38, .int .i64 (N.ps.length : Int)), (39, .int .i64 (i : Int))]) (fun z => .row b12 131 (ccV ⟨p, ⟨0, 0⟩, 0, z.1⟩) :: .row bc 127 (courseV (.slice (pc) (List.length (cs)) (ccap)) (.map (some bw)) (.map (some bd)) (z.2.1) (List.length (z.2.2.2)) (z.2.2.1)) :: .vec (pc) (List.length (cs)) (ccap) 131 12 (flat ccV (cs)) :: .vec (z.2.1) (List.length (z.2.2.2)) (z.2.2.1) 129 2 (flat evtV (z.2.2.2)) :: .map bd [] :: .map bw (R.map wrowM) :: R.map wrowE) ?_ ?_) | (refine VSeq.is ?_; refine VSeq.cut (at_ := 11) (α := Int) (fun x => NextC ⟨p, ⟨0, 0⟩, 0, x⟩ ∧ -1 ≤ x ∧ x ≤ 2097216) (fun x => [(1000000, .tuple #[]), (1, .slice pe l.length ce), (2, .int .i64 ticks), (6, .slice none 0 0), (7, .int .i64 0), (9, .pointer (some ⟨bc, 0, none⟩)), (10, .int .i64 (i : Int)), (12, .pointer (some ⟨b12, 0, none⟩)), (37, .slice pn N.ps.length cn), (38, .int .i64 (N.ps.length : Int)), (39, .int .i64 (i : Int))]) (fun x => .row b12 131 (ccV ⟨p, ⟨0, 0⟩, 0, x⟩) :: .row bc 127 (courseV (.slice (pc) (List.length (cs)) (ccap)) (.map (some bw)) (.map (some bd)) (pA) (List.length (A)) (capA)) :: .vec (pc) (List.length (cs)) (ccap) 131 12 (flat ccV (cs)) :: .vec (pA) (List.length (A)) (capA) 129 2 (flat evtV (A)) :: .map bd [] :: .map bw (R.map wrowM) :: R.map wrowE) ?_ ?_) | (refine VSeq.is ?_; refine VSeq.go ?_) | (refine VB.is ?_; refine VB.yes (by omega) fun _ => ?_) | (refine VB.is ?_; refine VB.no (by omega) fun _ => ?_) | (refine VB.is ?_; refine VB.split (fun _ => ?_) (fun _ => ?_)) | (refine boolE_split (fun h => ?_) (fun h => ?_) <;> subst h) | (refine VLd.is ?_; refine VLd.mk (.row aT (by rfl)) ?_) | (refine VSt.is ?_; refine VSt.row aT (by rfl) (by first | rfl | assumption) ?_) | (refine VNew.is ?_; refine VNew.mk fun _ => ?_) | (refine VAr.is ?_; refine VAr.i64 (by omega) (by omega) ?_) | (refine VIx.is ?_; refine VIx.mk rfl (by omega) (by omega) ?_) | (refine VKeep.is ?_; refine VKeep.mk aH ?_) | (refine VHs.is ?_; refine VHs.mk _ (HLe.refl _) ?_) | (refine VQ.is ?_; refine VQ.pos (by omega) (by omega) (by omega) ?_) | (refine VM.is ?_; refine VM.pos (by omega) (by omega) ?_) | (refine And.intro ?_ ?_)
    all_goals (conv => whnf)
    all_goals first
      | exact VMid.mk (-1) ⟨⟨-1, .inl ⟨rfl, quiet_low hpo hs0 (by omega) (by dsimp only; omega)⟩, rfl⟩, by omega, by omega⟩ aE (by unfold courseV; exact aH)
      | exact VMid.mk (-1) ⟨⟨r, hr, by rw [if_neg (by omega)]⟩, by omega, by omega⟩ aE (by unfold courseV; exact aH)
      | exact VMid.mk (0 + r) ⟨⟨r, hr, by rw [if_pos (by omega)]; simp⟩, by omega, by omega⟩ aE (by unfold courseV; exact aH)
      | skip
    · rintro x ⟨hx, hx1, hx2⟩
      repeat' (conv => whnf); first | (refine VCall.isF 69 ?_; refine push_call bc _ (.map (some bw)) (.map (some bd)) pA capA A ⟨x, i⟩ hI.heap (by omega) (by repeat (first | exact Take.nil | (with_reducible apply Take.seg; (focus (exact aS))) | (apply Take.cons; (focus (exact aT))) | (apply Take.last; (focus (exact aS))))) fun g cap' A' hA' hAp => ?_) | (refine VSeq.is ?_; refine VSeq.go ?_) | (refine VB.is ?_; refine VB.yes (by omega) fun _ => ?_) | (refine VB.is ?_; refine VB.no (by omega) fun _ => ?_) | (refine VB.is ?_; refine VB.split (fun _ => ?_) (fun _ => ?_)) | (refine boolE_split (fun h => ?_) (fun h => ?_) <;> subst h) | (refine VLd.is ?_; refine VLd.mk (.row aT (by rfl)) ?_) | (refine VSt.is ?_; refine VSt.row aT (by rfl) (by first | rfl | assumption) ?_) | (refine VNew.is ?_; refine VNew.mk fun _ => ?_) | (refine VAr.is ?_; refine VAr.i64 (by omega) (by omega) ?_) | (refine VIx.is ?_; refine VIx.mk rfl (by omega) (by omega) ?_) | (refine VKeep.is ?_; refine VKeep.mk aH ?_) | (refine VHs.is ?_; refine VHs.mk _ (HLe.refl _) ?_) | (refine VQ.is ?_; refine VQ.pos (by omega) (by omega) (by omega) ?_) | (refine VM.is ?_; refine VM.pos (by omega) (by omega) ?_) | (refine And.intro ?_ ?_)
      all_goals (conv => whnf)
      · exact VMid.mk (x, some ⟨g, 0, none⟩, cap', A') ⟨hI.push hp hx hA' hAp (by first | omega | (dsimp only at *; omega)), fun _ => ⟨g, rfl⟩⟩ aE (by unfold heapS courseV; exact aH)
      · exact VMid.mk (x, pA, capA, A) ⟨hI.stay hp hx (by first | omega | (dsimp only at *; omega)), hpA⟩ aE (by unfold courseV; exact aH)
    rintro ⟨x, pA', capA', A'⟩ ⟨hI', hpA'⟩
    dsimp only at *
    unfold courseV
    repeat' (conv => whnf); first | (refine VAp.is ?_; refine VAp.own (p := pc) aT (.at_ (.vec aT rfl)) (by simp [Value.oneCell']) (by (try dsimp only); omega) (by simp only [maxLen]; omega) fun p' cap' hp' => ?_) | (refine VSeq.is ?_; refine VSeq.go ?_) | (refine VB.is ?_; refine VB.yes (by omega) fun _ => ?_) | (refine VB.is ?_; refine VB.no (by omega) fun _ => ?_) | (refine VB.is ?_; refine VB.split (fun _ => ?_) (fun _ => ?_)) | (refine boolE_split (fun h => ?_) (fun h => ?_) <;> subst h) | (refine VLd.is ?_; refine VLd.mk (.row aT (by rfl)) ?_) | (refine VSt.is ?_; refine VSt.row aT (by rfl) (by first | rfl | assumption) ?_) | (refine VNew.is ?_; refine VNew.mk fun _ => ?_) | (refine VAr.is ?_; refine VAr.i64 (by omega) (by omega) ?_) | (refine VIx.is ?_; refine VIx.mk rfl (by omega) (by omega) ?_) | (refine VKeep.is ?_; refine VKeep.mk aH ?_) | (refine VHs.is ?_; refine VHs.mk _ (HLe.refl _) ?_) | (refine VQ.is ?_; refine VQ.pos (by omega) (by omega) (by omega) ?_) | (refine VM.is ?_; refine VM.pos (by omega) (by omega) ?_) | (refine And.intro ?_ ?_)
    all_goals (conv => whnf)
    refine VNext.mk ⟨i + 1, cs ++ [⟨p, ⟨0, 0⟩, 0, x⟩], A', p', cap', pA', capA'⟩ ⟨by dsimp only; omega, hI', hpA', fun _ => hp' (by omega)⟩ (by dsimp only; omega) aE ?_
    dsimp only
    rw [List.length_append, flat_append]
    exact aH
  · obtain rfl : i = N.ps.length := by omega
    obtain ⟨gc, hgc⟩ := hpc hpos
    subst hgc
    have hD := DInv.zero hNok l hI
    rw [hcl]
    repeat' (conv => whnf); first | (refine VSeq.is ?_; refine VSeq.go ?_) | (refine VB.is ?_; refine VB.yes (by omega) fun _ => ?_) | (refine VB.is ?_; refine VB.no (by omega) fun _ => ?_) | (refine VB.is ?_; refine VB.split (fun _ => ?_) (fun _ => ?_)) | (refine boolE_split (fun h => ?_) (fun h => ?_) <;> subst h) | (refine VLd.is ?_; refine VLd.mk (.row aT (by rfl)) ?_) | (refine VSt.is ?_; refine VSt.row aT (by rfl) (by first | rfl | assumption) ?_) | (refine VNew.is ?_; refine VNew.mk fun _ => ?_) | (refine VAr.is ?_; refine VAr.i64 (by omega) (by omega) ?_) | (refine VIx.is ?_; refine VIx.mk rfl (by omega) (by omega) ?_) | (refine VKeep.is ?_; refine VKeep.mk aH ?_) | (refine VHs.is ?_; refine VHs.mk _ (HLe.refl _) ?_) | (refine VQ.is ?_; refine VQ.pos (by omega) (by omega) (by omega) ?_) | (refine VM.is ?_; refine VM.pos (by omega) (by omega) ?_) | (refine And.intro ?_ ?_)
    all_goals (conv => whnf)
    rename_i bt
    refine VLoop.kr (α := DrvY) [1000000, 2, 6, 7, 9, 14] rfl (fun y => y.T ≤ ticks.toNat ∧ DInv N l y.T y.cs y.Q y.A ∧ (0 < y.A.length → ∃ g, y.pA = some ⟨g, 0, none⟩) ∧ TkInv l y.T y.k ∧ (outTo N l y.T).length ≤ 65536)
      (fun y K => (13, .slice y.p (outTo N l y.T).length y.cap) :: K)
      (fun y => .vec (y.p) (outTo N l (y.T)).length (y.cap) 44 2 (flat evtV (outTo N l (y.T))) :: .row bt 113 [.slice (advs 2 (y.k) (pe, ce)).1 (l.drop (y.k)).length (advs 2 (y.k) (pe, ce)).2] :: cellsE gc N.ps.length ccap (y.cs) :: (dueS bc (.slice (some ⟨gc, 0, none⟩) N.ps.length ccap) (.map (some bw)) bd (y.pA) (y.capA) (y.A) (y.Q) ++ (.map bw (R.map wrowM) :: R.map wrowE))) (fun y => ticks.toNat - y.T) ⟨0, cs, [], A, pA, capA, 0, none, 0⟩ ⟨by simp, hD, hpA, ⟨by simp, by simp, fun e he => by have := hev.range e (by simpa using he); dsimp only; omega⟩, by simp [outTo]⟩ aE (by unfold dueS cellsE courseV; exact aH) ?_
    clear hD hI hpA hAl hcl
    rintro ⟨T, cs, Q, A, pA, capA, k, p, cap⟩ ⟨hT, hD, hpA, hTk, hout⟩
    dsimp only at *
    have hAl : A.length ≤ 4000000000000 := by
      have h5 := hD.few
      have h6 := dueCount_le hNok hD.due
      omega
    have hhd := hD.heap
    have hal := hD.alarms
    obtain ⟨⟨qk, ck⟩, hxa⟩ : ∃ x, advs 2 k (pe, ce) = x := ⟨_, rfl⟩
    have hck : ck = ce - k := by have := advs_cap 2 k (pe, ce); rw [hxa] at this; exact this
    rw [hxa]
    obtain ⟨off', hsl⟩ := h3.advs (fun _ => rfl) hce k hTk.le
    rw [hxa] at hsl
    dsimp only at hsl
    obtain ⟨l', hl'⟩ : ∃ l', l.drop k = l' := ⟨_, rfl⟩
    have hl'n : l'.length = l.length - k := by rw [← hl', List.length_drop]
    have hfewl := hev.few
    have hleast := @head_least l _ _ hev k
    have hrest := hTk.rest
    have hrng : ∀ e ∈ l', 0 ≤ e.tick ∧ e.tick < 1073741824 := fun e he => (hev.range e (List.mem_of_mem_drop (by rw [hl']; exact he))).1
    rw [hl'] at hsl hleast hrest ⊢
    obtain ⟨out, hou⟩ : ∃ out, outTo N l T = out := ⟨_, rfl⟩
    rw [hou] at hout ⊢
    repeat' (conv => whnf); first | (refine VSeq.is ?_; refine VSeq.cut (at_ := 20) (α := Int) (fun x => (T : Int) ≤ x ∧ x ≤ ticks ∧ ∀ e ∈ l', x ≤ e.tick) (fun x => [(1000000, .tuple #[]), (2, .int .i64 ticks), (6, .slice none 0 0), (7, .int .i64 0), (9, .pointer (some ⟨bc, 0, none⟩)), (13, .slice p out.length cap), (14, .pointer (some ⟨bt, 0, none⟩)), (15, .int .i64 x)]) (fun _ => .vec (p) (List.length (out)) (cap) 44 2 (flat evtV (out)) :: .row bt 113 [.slice (qk) (l'.length) (ck)] :: cellsE gc N.ps.length ccap (cs) :: (dueS bc (.slice (some ⟨gc, 0, none⟩) N.ps.length ccap) (.map (some bw)) bd (pA) (capA) (A) (Q) ++ (.map bw (R.map wrowM) :: R.map wrowE))) ?_ ?_) | (refine VSeq.is ?_; refine VSeq.go ?_) | (refine VB.is ?_; refine VB.yes (by omega) fun _ => ?_) | (refine VB.is ?_; refine VB.no (by omega) fun _ => ?_) | (refine VB.is ?_; refine VB.split (fun _ => ?_) (fun _ => ?_)) | (refine boolE_split (fun h => ?_) (fun h => ?_) <;> subst h) | (refine VLd.is ?_; refine VLd.mk (.row aT (by rfl)) ?_) | (refine VSt.is ?_; refine VSt.row aT (by rfl) (by first | rfl | assumption) ?_) | (refine VNew.is ?_; refine VNew.mk fun _ => ?_) | (refine VAr.is ?_; refine VAr.i64 (by omega) (by omega) ?_) | (refine VIx.is ?_; refine VIx.mk rfl (by omega) (by omega) ?_) | (refine VKeep.is ?_; refine VKeep.mk aH ?_) | (refine VHs.is ?_; refine VHs.mk _ (HLe.refl _) ?_) | (refine VQ.is ?_; refine VQ.pos (by omega) (by omega) (by omega) ?_) | (refine VM.is ?_; refine VM.pos (by omega) (by omega) ?_) | (refine And.intro ?_ ?_)
    all_goals (conv => whnf)
    · obtain ⟨x, hx⟩ : ∃ x, l'[0]? = some x := ⟨l'[0]'(by omega), List.getElem?_eq_getElem _⟩
      have hx1 := hrest x (List.mem_of_getElem? hx)
      repeat' (conv => whnf); first | (refine VIx.is ?_; refine VIx.mk (hsl.ptr (by omega)) (by omega) (by omega) ?_) | (refine VLd.is ?_; refine VLd.mk (Rd.cast (hsl.rd (o := 0) (s := 1) (by simp) (fun _ => rfl) hx rfl) (by first | omega | (dsimp only; omega) | rfl)) ?_) | (refine VSeq.is ?_; refine VSeq.go ?_) | (refine VB.is ?_; refine VB.yes (by omega) fun _ => ?_) | (refine VB.is ?_; refine VB.no (by omega) fun _ => ?_) | (refine VB.is ?_; refine VB.split (fun _ => ?_) (fun _ => ?_)) | (refine boolE_split (fun h => ?_) (fun h => ?_) <;> subst h) | (refine VLd.is ?_; refine VLd.mk (.row aT (by rfl)) ?_) | (refine VSt.is ?_; refine VSt.row aT (by rfl) (by first | rfl | assumption) ?_) | (refine VNew.is ?_; refine VNew.mk fun _ => ?_) | (refine VAr.is ?_; refine VAr.i64 (by omega) (by omega) ?_) | (refine VIx.is ?_; refine VIx.mk rfl (by omega) (by omega) ?_) | (refine VKeep.is ?_; refine VKeep.mk aH ?_) | (refine VHs.is ?_; refine VHs.mk _ (HLe.refl _) ?_) | (refine VQ.is ?_; refine VQ.pos (by omega) (by omega) (by omega) ?_) | (refine VM.is ?_; refine VM.pos (by omega) (by omega) ?_) | (refine And.intro ?_ ?_)
      all_goals (conv => whnf)
      exact VMid.mk (min ticks x.tick) ⟨by omega, by omega, fun e he => by have := hleast hx e he; omega⟩ aE (by unfold dueS cellsE courseV; exact aH)
    · have hnil : l' = [] := List.eq_nil_of_length_eq_zero (by omega)
      exact VMid.mk ticks ⟨by omega, by omega, fun e he => by rw [hnil] at he; cases he⟩ aE (by unfold dueS cellsE courseV; exact aH)
    rintro x ⟨hx1, hx2, hx3⟩
    repeat' (conv => whnf); first | (refine VSeq.is ?_; refine VSeq.cut (at_ := 22) (α := Nat) (fun T' => T ≤ T' ∧ (T' : Int) ≤ ticks ∧ (∀ a ∈ A, (T' : Int) ≤ a.tick) ∧ ∀ e ∈ l', (T' : Int) ≤ e.tick) (fun T' => [(1000000, .tuple #[]), (2, .int .i64 ticks), (6, .slice none 0 0), (7, .int .i64 0), (9, .pointer (some ⟨bc, 0, none⟩)), (13, .slice p out.length cap), (14, .pointer (some ⟨bt, 0, none⟩)), (15, .int .i64 (T' : Int))]) (fun _ => .vec (p) (List.length (out)) (cap) 44 2 (flat evtV (out)) :: .row bt 113 [.slice (qk) (l'.length) (ck)] :: cellsE gc N.ps.length ccap (cs) :: (dueS bc (.slice (some ⟨gc, 0, none⟩) N.ps.length ccap) (.map (some bw)) bd (pA) (capA) (A) (Q) ++ (.map bw (R.map wrowM) :: R.map wrowE))) ?_ ?_) | (refine VSeq.is ?_; refine VSeq.go ?_) | (refine VB.is ?_; refine VB.yes (by omega) fun _ => ?_) | (refine VB.is ?_; refine VB.no (by omega) fun _ => ?_) | (refine VB.is ?_; refine VB.split (fun _ => ?_) (fun _ => ?_)) | (refine boolE_split (fun h => ?_) (fun h => ?_) <;> subst h) | (refine VLd.is ?_; refine VLd.mk (.row aT (by rfl)) ?_) | (refine VSt.is ?_; refine VSt.row aT (by rfl) (by first | rfl | assumption) ?_) | (refine VNew.is ?_; refine VNew.mk fun _ => ?_) | (refine VAr.is ?_; refine VAr.i64 (by omega) (by omega) ?_) | (refine VIx.is ?_; refine VIx.mk rfl (by omega) (by omega) ?_) | (refine VKeep.is ?_; refine VKeep.mk aH ?_) | (refine VHs.is ?_; refine VHs.mk _ (HLe.refl _) ?_) | (refine VQ.is ?_; refine VQ.pos (by omega) (by omega) (by omega) ?_) | (refine VM.is ?_; refine VM.pos (by omega) (by omega) ?_) | (refine And.intro ?_ ?_)
    all_goals (conv => whnf)
    · obtain ⟨a0, ha0⟩ : ∃ a0, A[0]? = some a0 := ⟨A[0]'(by omega), List.getElem?_eq_getElem _⟩
      obtain ⟨gA, hgA⟩ := hpA (by omega)
      subst hgA
      have ha1 := hal a0 (List.mem_of_getElem? ha0)
      obtain ⟨T', hT'⟩ : ∃ T' : Nat, min x a0.tick = (T' : Int) := ⟨(min x a0.tick).toNat, by omega⟩
      repeat' (conv => whnf); first | (refine VIx.is ?_; refine VIx.mk rfl (by omega) (by omega) ?_) | (refine VLd.is ?_; refine VLd.mk (Rd.cast (.vec aT (sub_flat (f := evtV) (k := 2) (o := 0) (s := 1) (vs := [.int .i64 a0.tick]) (fun _ => rfl) ha0 rfl)) (by first | omega | (dsimp only; omega) | rfl)) ?_) | (refine VSeq.is ?_; refine VSeq.go ?_) | (refine VB.is ?_; refine VB.yes (by omega) fun _ => ?_) | (refine VB.is ?_; refine VB.no (by omega) fun _ => ?_) | (refine VB.is ?_; refine VB.split (fun _ => ?_) (fun _ => ?_)) | (refine boolE_split (fun h => ?_) (fun h => ?_) <;> subst h) | (refine VLd.is ?_; refine VLd.mk (.row aT (by rfl)) ?_) | (refine VSt.is ?_; refine VSt.row aT (by rfl) (by first | rfl | assumption) ?_) | (refine VNew.is ?_; refine VNew.mk fun _ => ?_) | (refine VAr.is ?_; refine VAr.i64 (by omega) (by omega) ?_) | (refine VIx.is ?_; refine VIx.mk rfl (by omega) (by omega) ?_) | (refine VKeep.is ?_; refine VKeep.mk aH ?_) | (refine VHs.is ?_; refine VHs.mk _ (HLe.refl _) ?_) | (refine VQ.is ?_; refine VQ.pos (by omega) (by omega) (by omega) ?_) | (refine VM.is ?_; refine VM.pos (by omega) (by omega) ?_) | (refine And.intro ?_ ?_)
      all_goals (conv => whnf)
      rw [hT']
      exact VMid.mk T' ⟨by omega, by omega, fun a ha => by have := evLe_iff.1 (hhd.min ha0 a ha); omega, fun e he => by have := hx3 e he; omega⟩ aE (by unfold dueS cellsE courseV; exact aH)
    · have hnil : A = [] := List.eq_nil_of_length_eq_zero (by omega)
      obtain ⟨T', hT'⟩ : ∃ T' : Nat, x = (T' : Int) := ⟨x.toNat, by omega⟩
      subst hT'
      exact VMid.mk T' ⟨by omega, by omega, fun a ha => by (rw [hnil] at ha; cases ha), hx3⟩ aE (by unfold dueS cellsE courseV; exact aH)
    rintro T' ⟨hT1, hT2, hT3, hT4⟩
    obtain ⟨hD', hout'⟩ := hD.skip hNok hT1 hT3 (fun e he => by
      rw [← List.take_append_drop k l, hl'] at he
      rcases List.mem_append.1 he with h | h
      · exact .inl (hTk.past e h)
      · exact .inr (hT4 e h))
    have hTk' : TkInv l T' k := ⟨hTk.le, fun e he => by have := hTk.past e he; omega, by rw [hl']; exact hT4⟩
    rw [hou] at hout'
    repeat' (conv => whnf); first | (refine VSeq.is ?_; refine VSeq.cut (at_ := 29) (α := PopY) (fun y => PInv N l T' y.cs Q y.A y.sp ∧ (0 < y.A.length → ∃ g, y.pA = some ⟨g, 0, none⟩) ∧ (0 < y.sp.length → ∃ g, y.ps = some ⟨g, 0, none⟩) ∧ ∀ a ∈ y.A, (T' : Int) < a.tick) (fun y => [(1000000, .tuple #[]), (2, .int .i64 ticks), (6, .slice none 0 0), (7, .int .i64 0), (9, .pointer (some ⟨bc, 0, none⟩)), (13, .slice p out.length cap), (14, .pointer (some ⟨bt, 0, none⟩)), (15, .int .i64 (T' : Int)), (16, .slice y.ps y.sp.length y.caps)]) (fun y => .vec y.ps y.sp.length y.caps 3 1 (flat intV y.sp) :: .vec (p) (List.length (out)) (cap) 44 2 (flat evtV (out)) :: .row bt 113 [.slice (qk) (l'.length) (ck)] :: cellsE gc N.ps.length ccap (y.cs) :: (dueS bc (.slice (some ⟨gc, 0, none⟩) N.ps.length ccap) (.map (some bw)) bd (y.pA) (y.capA) (y.A) (Q) ++ (.map bw (R.map wrowM) :: R.map wrowE))) ?_ ?_) | (refine VSeq.is ?_; refine VSeq.go ?_) | (refine VB.is ?_; refine VB.yes (by omega) fun _ => ?_) | (refine VB.is ?_; refine VB.no (by omega) fun _ => ?_) | (refine VB.is ?_; refine VB.split (fun _ => ?_) (fun _ => ?_)) | (refine boolE_split (fun h => ?_) (fun h => ?_) <;> subst h) | (refine VLd.is ?_; refine VLd.mk (.row aT (by rfl)) ?_) | (refine VSt.is ?_; refine VSt.row aT (by rfl) (by first | rfl | assumption) ?_) | (refine VNew.is ?_; refine VNew.mk fun _ => ?_) | (refine VAr.is ?_; refine VAr.i64 (by omega) (by omega) ?_) | (refine VIx.is ?_; refine VIx.mk rfl (by omega) (by omega) ?_) | (refine VKeep.is ?_; refine VKeep.mk aH ?_) | (refine VHs.is ?_; refine VHs.mk _ (HLe.refl _) ?_) | (refine VQ.is ?_; refine VQ.pos (by omega) (by omega) (by omega) ?_) | (refine VM.is ?_; refine VM.pos (by omega) (by omega) ?_) | (refine And.intro ?_ ?_)
    all_goals (conv => whnf)
    · have hr : drvRes N l ticks = (out, 0) := by
        rw [hres, show ticks.toNat = T' by omega, hout', if_neg (by omega)]
      rw [hr]
      exact ⟨fun w' hw' => ⟨(p, cap), rfl, trivial, hw'.le aH⟩⟩
    · refine VLoop.kr (α := PopY) [1000000, 2, 6, 7, 9, 13, 14, 15] rfl (fun y => PInv N l T' y.cs Q y.A y.sp ∧ (0 < y.A.length → ∃ g, y.pA = some ⟨g, 0, none⟩) ∧ (0 < y.sp.length → ∃ g, y.ps = some ⟨g, 0, none⟩)) (fun y K => (16, .slice y.ps y.sp.length y.caps) :: K)
        (fun y => .vec y.ps y.sp.length y.caps 3 1 (flat intV y.sp) :: .vec (p) (List.length (out)) (cap) 44 2 (flat evtV (out)) :: .row bt 113 [.slice (qk) (l'.length) (ck)] :: cellsE gc N.ps.length ccap (y.cs) :: (dueS bc (.slice (some ⟨gc, 0, none⟩) N.ps.length ccap) (.map (some bw)) bd (y.pA) (y.capA) (y.A) (Q) ++ (.map bw (R.map wrowM) :: R.map wrowE))) (fun y => y.A.countP fun a => a.tick = (T' : Int)) ⟨cs, A, pA, capA, [], none, 0⟩ ⟨hD'.begin, hpA, by simp⟩ aE aH ?_
      have hQ := hD'.due
      clear hD hD' hal hhd hpA hAl
      rintro ⟨cs, A, pA, capA, sp, ps, caps⟩ ⟨hP, hpA, hps⟩
      dsimp only at *
      have hspl := hP.sp_le
      have hAl : A.length ≤ 4000000000000 := by
        have h5 := hP.few
        have h6 := dueCount_le hNok hP.due
        omega
      have hcl := hP.len
      by_cases hgo : ∃ a0, A[0]? = some a0 ∧ a0.tick = (T' : Int)
      · obtain ⟨a0, ha0, hat⟩ := hgo
        have hApos : 0 < A.length := (List.getElem?_eq_some_iff.1 ha0).1
        obtain ⟨gA, hgA⟩ := hpA hApos
        subst hgA
        have hrg := hP.alarms a0 (List.mem_of_getElem? ha0)
        obtain ⟨i, hi⟩ : ∃ i : Nat, a0.id = (i : Int) := ⟨a0.id.toNat, by omega⟩
        obtain ⟨c, hc⟩ : ∃ c, cs[i]? = some c := ⟨cs[i]'(by omega), List.getElem?_eq_getElem _⟩
        have ha0e : a0 = ⟨(T' : Int), (i : Int)⟩ := by cases a0; simp_all
        subst ha0e
        obtain ⟨hq1, hq2, hq3, hq4⟩ := hP.quiet hNok hc
        repeat' (conv => whnf); first | (refine VIx.is ?_; refine VIx.mk rfl (by omega) (by omega) ?_) | (refine VLd.is ?_; refine VLd.mk (Rd.cast (.vec aT (sub_flat (f := evtV) (k := 2) (o := 0) (s := 1) (vs := [.int .i64 (T' : Int)]) (fun _ => rfl) ha0 rfl)) (by first | omega | (dsimp only; omega) | rfl)) ?_) | (refine VCall.isF 70 ?_; refine pop_call bc _ (.map (some bw)) (.map (some bd)) (some ⟨gA, 0, none⟩) capA A ⟨(T' : Int), (i : Int)⟩ hP.heap ha0 (by omega) (by repeat (first | exact Take.nil | (with_reducible apply Take.seg; (focus (exact aS))) | (apply Take.cons; (focus (exact aT))) | (apply Take.last; (focus (exact aS))))) fun A1 hA1 hA1p => ?_) | (refine VSeq.is ?_; refine VSeq.go ?_) | (refine VB.is ?_; refine VB.yes (by omega) fun _ => ?_) | (refine VB.is ?_; refine VB.no (by omega) fun _ => ?_) | (refine VB.is ?_; refine VB.split (fun _ => ?_) (fun _ => ?_)) | (refine boolE_split (fun h => ?_) (fun h => ?_) <;> subst h) | (refine VLd.is ?_; refine VLd.mk (.row aT (by rfl)) ?_) | (refine VSt.is ?_; refine VSt.row aT (by rfl) (by first | rfl | assumption) ?_) | (refine VNew.is ?_; refine VNew.mk fun _ => ?_) | (refine VAr.is ?_; refine VAr.i64 (by omega) (by omega) ?_) | (refine VIx.is ?_; refine VIx.mk rfl (by omega) (by omega) ?_) | (refine VKeep.is ?_; refine VKeep.mk aH ?_) | (refine VHs.is ?_; refine VHs.mk _ (HLe.refl _) ?_) | (refine VQ.is ?_; refine VQ.pos (by omega) (by omega) (by omega) ?_) | (refine VM.is ?_; refine VM.pos (by omega) (by omega) ?_) | (refine And.intro ?_ ?_)
        all_goals (conv => whnf)
        obtain ⟨A1l, hA1l⟩ : ∃ n, A1.length = n := ⟨_, rfl⟩
        have hA1l2 := hA1p.length_eq
        simp only [List.length_cons] at hA1l2
        repeat' (conv => whnf); first | (refine VCall.isF 71 ?_; refine look_call bc gc N.ps.length ccap (.map (some bw)) bd cs (some ⟨gA, 0, none⟩) capA A1 Q T' i c hc (by omega) (by omega) hA1 (by omega) (fun _ => ⟨gA, rfl⟩) hq1 hq2 (by omega) (by omega) hq4 (by repeat (first | exact Take.nil | (with_reducible apply Take.seg; (focus (exact aS))) | (apply Take.cons; (focus (exact aT))) | (apply Take.last; (focus (exact aS))))) (by unfold heapS courseS; exact aH) fun y hy hyp => ?_) | (refine VAp.is ?_; refine VAp.own (p := ps) aT (.at_ (.vec aT rfl)) (by simp [Value.oneCell']) (by (try dsimp only); omega) (by simp only [maxLen]; omega) fun p' cap' hp' => ?_) | (refine VSeq.is ?_; refine VSeq.go ?_) | (refine VB.is ?_; refine VB.yes (by omega) fun _ => ?_) | (refine VB.is ?_; refine VB.no (by omega) fun _ => ?_) | (refine VB.is ?_; refine VB.split (fun _ => ?_) (fun _ => ?_)) | (refine boolE_split (fun h => ?_) (fun h => ?_) <;> subst h) | (refine VLd.is ?_; refine VLd.mk (.row aT (by rfl)) ?_) | (refine VSt.is ?_; refine VSt.row aT (by rfl) (by first | rfl | assumption) ?_) | (refine VNew.is ?_; refine VNew.mk fun _ => ?_) | (refine VAr.is ?_; refine VAr.i64 (by omega) (by omega) ?_) | (refine VIx.is ?_; refine VIx.mk rfl (by omega) (by omega) ?_) | (refine VKeep.is ?_; refine VKeep.mk aH ?_) | (refine VHs.is ?_; refine VHs.mk _ (HLe.refl _) ?_) | (refine VQ.is ?_; refine VQ.pos (by omega) (by omega) (by omega) ?_) | (refine VM.is ?_; refine VM.pos (by omega) (by omega) ?_) | (refine And.intro ?_ ?_)
        all_goals (conv => whnf)
        obtain ⟨fb, cs', A', pA', capA'⟩ := y
        dsimp only at *
        have hP' := hP.look hNok hA1p hA1 hc hy
        have hless := look_less hy
        have hcnt := hA1p.countP_eq (fun a : Evt => decide (a.tick = (T' : Int)))
        simp only [List.countP_cons, decide_true, if_true] at hcnt
        dsimp only at hP' hless
        cases fb
        · simp only [Bool.false_eq_true, if_false] at hP'
          repeat' (conv => whnf); first | (refine VSeq.is ?_; refine VSeq.go ?_) | (refine VB.is ?_; refine VB.yes (by omega) fun _ => ?_) | (refine VB.is ?_; refine VB.no (by omega) fun _ => ?_) | (refine VB.is ?_; refine VB.split (fun _ => ?_) (fun _ => ?_)) | (refine boolE_split (fun h => ?_) (fun h => ?_) <;> subst h) | (refine VLd.is ?_; refine VLd.mk (.row aT (by rfl)) ?_) | (refine VSt.is ?_; refine VSt.row aT (by rfl) (by first | rfl | assumption) ?_) | (refine VNew.is ?_; refine VNew.mk fun _ => ?_) | (refine VAr.is ?_; refine VAr.i64 (by omega) (by omega) ?_) | (refine VIx.is ?_; refine VIx.mk rfl (by omega) (by omega) ?_) | (refine VKeep.is ?_; refine VKeep.mk aH ?_) | (refine VHs.is ?_; refine VHs.mk _ (HLe.refl _) ?_) | (refine VQ.is ?_; refine VQ.pos (by omega) (by omega) (by omega) ?_) | (refine VM.is ?_; refine VM.pos (by omega) (by omega) ?_) | (refine And.intro ?_ ?_)
          all_goals (conv => whnf)
          exact VNext.mk ⟨cs', A', pA', capA', sp, ps, caps⟩ ⟨hP', hyp, hps⟩ (by dsimp only; omega) aE (by unfold courseS dueS courseV; exact aH)
        · simp only [if_true] at hP'
          repeat' (conv => whnf); first | (refine VAp.is ?_; refine VAp.own (p := ps) (by unfold courseS; exact aT) (.at_ (.vec aT rfl)) (by simp [Value.oneCell']) (by (try dsimp only); omega) (by simp only [maxLen]; omega) fun p' cap' hp' => ?_) | (refine VSeq.is ?_; refine VSeq.go ?_) | (refine VB.is ?_; refine VB.yes (by omega) fun _ => ?_) | (refine VB.is ?_; refine VB.no (by omega) fun _ => ?_) | (refine VB.is ?_; refine VB.split (fun _ => ?_) (fun _ => ?_)) | (refine boolE_split (fun h => ?_) (fun h => ?_) <;> subst h) | (refine VLd.is ?_; refine VLd.mk (.row aT (by rfl)) ?_) | (refine VSt.is ?_; refine VSt.row aT (by rfl) (by first | rfl | assumption) ?_) | (refine VNew.is ?_; refine VNew.mk fun _ => ?_) | (refine VAr.is ?_; refine VAr.i64 (by omega) (by omega) ?_) | (refine VIx.is ?_; refine VIx.mk rfl (by omega) (by omega) ?_) | (refine VKeep.is ?_; refine VKeep.mk aH ?_) | (refine VHs.is ?_; refine VHs.mk _ (HLe.refl _) ?_) | (refine VQ.is ?_; refine VQ.pos (by omega) (by omega) (by omega) ?_) | (refine VM.is ?_; refine VM.pos (by omega) (by omega) ?_) | (refine And.intro ?_ ?_)
          all_goals (conv => whnf)
          refine VNext.mk ⟨cs', A', pA', capA', sp ++ [(i : Int)], p', cap'⟩ ⟨hP', hyp, fun _ => hp' (by omega)⟩ (by dsimp only; omega) (by dsimp only; rw [List.length_append]; exact aE) ?_
          dsimp only
          rw [List.length_append, flat_append]
          unfold dueS courseV
          exact aH
      · have hfar : ∀ a ∈ A, (T' : Int) < a.tick := by
          intro a ha
          rcases Nat.eq_zero_or_pos A.length with h0 | h0
          · rw [List.eq_nil_of_length_eq_zero h0] at ha; cases ha
          · have h5 : A[0]? = some A[0] := List.getElem?_eq_getElem _
            have h6 := evLe_iff.1 (hP.heap.min h5 a ha)
            have h7 := (hP.alarms A[0] (List.getElem_mem _)).1
            have h8 : A[0].tick ≠ (T' : Int) := fun e => hgo ⟨_, h5, e⟩
            omega
        rcases Nat.eq_zero_or_pos A.length with h0 | h0
        · repeat' (conv => whnf); first | (refine VSeq.is ?_; refine VSeq.go ?_) | (refine VB.is ?_; refine VB.yes (by omega) fun _ => ?_) | (refine VB.is ?_; refine VB.no (by omega) fun _ => ?_) | (refine VB.is ?_; refine VB.split (fun _ => ?_) (fun _ => ?_)) | (refine boolE_split (fun h => ?_) (fun h => ?_) <;> subst h) | (refine VLd.is ?_; refine VLd.mk (.row aT (by rfl)) ?_) | (refine VSt.is ?_; refine VSt.row aT (by rfl) (by first | rfl | assumption) ?_) | (refine VNew.is ?_; refine VNew.mk fun _ => ?_) | (refine VAr.is ?_; refine VAr.i64 (by omega) (by omega) ?_) | (refine VIx.is ?_; refine VIx.mk rfl (by omega) (by omega) ?_) | (refine VKeep.is ?_; refine VKeep.mk aH ?_) | (refine VHs.is ?_; refine VHs.mk _ (HLe.refl _) ?_) | (refine VQ.is ?_; refine VQ.pos (by omega) (by omega) (by omega) ?_) | (refine VM.is ?_; refine VM.pos (by omega) (by omega) ?_) | (refine And.intro ?_ ?_)
          all_goals (conv => whnf)
          exact VMid.mk ⟨cs, A, pA, capA, sp, ps, caps⟩ ⟨hP, hpA, hps, hfar⟩ aE aH
        · obtain ⟨gA, hgA⟩ := hpA h0
          subst hgA
          have ha0 : A[0]? = some A[0] := List.getElem?_eq_getElem _
          have h8 := hfar A[0] (List.getElem_mem _)
          repeat' (conv => whnf); first | (refine VIx.is ?_; refine VIx.mk rfl (by omega) (by omega) ?_) | (refine VLd.is ?_; refine VLd.mk (Rd.cast (.vec aT (sub_flat (f := evtV) (k := 2) (o := 0) (s := 1) (vs := [.int .i64 (A[0].tick)]) (fun _ => rfl) ha0 rfl)) (by first | omega | (dsimp only; omega) | rfl)) ?_) | (refine VSeq.is ?_; refine VSeq.go ?_) | (refine VB.is ?_; refine VB.yes (by omega) fun _ => ?_) | (refine VB.is ?_; refine VB.no (by omega) fun _ => ?_) | (refine VB.is ?_; refine VB.split (fun _ => ?_) (fun _ => ?_)) | (refine boolE_split (fun h => ?_) (fun h => ?_) <;> subst h) | (refine VLd.is ?_; refine VLd.mk (.row aT (by rfl)) ?_) | (refine VSt.is ?_; refine VSt.row aT (by rfl) (by first | rfl | assumption) ?_) | (refine VNew.is ?_; refine VNew.mk fun _ => ?_) | (refine VAr.is ?_; refine VAr.i64 (by omega) (by omega) ?_) | (refine VIx.is ?_; refine VIx.mk rfl (by omega) (by omega) ?_) | (refine VKeep.is ?_; refine VKeep.mk aH ?_) | (refine VHs.is ?_; refine VHs.mk _ (HLe.refl _) ?_) | (refine VQ.is ?_; refine VQ.pos (by omega) (by omega) (by omega) ?_) | (refine VM.is ?_; refine VM.pos (by omega) (by omega) ?_) | (refine And.intro ?_ ?_)
          all_goals (conv => whnf)
          exact VMid.mk ⟨cs, A, some ⟨gA, 0, none⟩, capA, sp, ps, caps⟩ ⟨hP, hpA, hps, hfar⟩ aE aH
    rintro ⟨cs, A, pA, capA, sp, ps, caps⟩ ⟨hP, hpA, hps, hfar⟩
    dsimp only at hP hpA hps hfar ⊢
    have hspl := hP.sp_le
    have hAl : A.length ≤ 4000000000000 := by
      have h5 := hP.few
      have h6 := dueCount_le hNok hP.due
      omega
    have hA := hP.heap
    have hspk := hP.spikes hNok hfar
    have hmd := mdel_due (t := (T' : Int)) hP.due.keys
    obtain ⟨ss, hss⟩ : ∃ ss, sorted sp = ss := ⟨_, rfl⟩
    have hssl : ss.length = sp.length := by rw [← hss]; unfold sorted; exact List.length_mergeSort ..
    have hnext := fun Q' A' => hP.next (Q' := Q') (A' := A') hNok hfar
    rw [hss] at hspk hnext
    obtain ⟨Q1, hQ1⟩ : ∃ Q1, (Q.filter fun r => r.key ≠ (T' : Int)) = Q1 := ⟨_, rfl⟩
    have hQle : HLe (Q1.map dueE) (Q.map dueE) := by rw [← hQ1]; exact filter_le _
    rw [hQ1] at hmd hnext
    obtain ⟨hTk2, hins⟩ := hTk'.next hev
    rw [hl'] at hTk2 hins
    have hfi := insAt_few hev T'
    obtain ⟨ins, hinse⟩ : ∃ ins, insAt l T' = ins := ⟨_, rfl⟩
    rw [hinse] at hins hfi hnext
    have hou1 : outTo N l (T' + 1) = out ++ ss.map fun i => (⟨T', i⟩ : Evt) := by simp only [outTo, hout', hspk]
    clear hD hD' hP hal hhd
    repeat' (conv => whnf); first | (refine VMpU.is ?_; refine VMpU.is ?_; refine VMpU.mk aT ?_; dsimp only; rw [hmd]) | (refine VCall.is ?_; refine VCall.isF 72 ?_; refine sort_call ps sp.length caps sp rfl aT (by omega) ?_; rw [hss]) | (refine VSeq.is ?_; refine VSeq.go ?_) | (refine VB.is ?_; refine VB.yes (by omega) fun _ => ?_) | (refine VB.is ?_; refine VB.no (by omega) fun _ => ?_) | (refine VB.is ?_; refine VB.split (fun _ => ?_) (fun _ => ?_)) | (refine boolE_split (fun h => ?_) (fun h => ?_) <;> subst h) | (refine VLd.is ?_; refine VLd.mk (.row aT (by rfl)) ?_) | (refine VSt.is ?_; refine VSt.row aT (by rfl) (by first | rfl | assumption) ?_) | (refine VNew.is ?_; refine VNew.mk fun _ => ?_) | (refine VAr.is ?_; refine VAr.i64 (by omega) (by omega) ?_) | (refine VIx.is ?_; refine VIx.mk rfl (by omega) (by omega) ?_) | (refine VKeep.is ?_; refine VKeep.mk aH ?_) | (refine VHs.is ?_; refine VHs.mk _ (HLe.refl _) ?_) | (refine VQ.is ?_; refine VQ.pos (by omega) (by omega) (by omega) ?_) | (refine VM.is ?_; refine VM.pos (by omega) (by omega) ?_) | (refine And.intro ?_ ?_)
    all_goals (conv => whnf)
    refine VLoop.kr (α := Nat × Option Addr × Nat) [1000000, 2, 6, 7, 9, 14, 15, 16, 147, 148] rfl (fun y => y.1 ≤ ss.length)
      (fun y K => (149, .int .i64 (y.1 : Int)) :: (13, .slice y.2.1 (out ++ (ss.take y.1).map fun i => (⟨T', i⟩ : Evt)).length y.2.2) :: K)
      (fun y => .vec ps sp.length caps 3 1 (flat intV ss) :: .vec (y.2.1) (List.length (out ++ (ss.take y.1).map fun i => (⟨T', i⟩ : Evt))) (y.2.2) 44 2 (flat evtV (out ++ (ss.take y.1).map fun i => (⟨T', i⟩ : Evt))) :: .row bt 113 [.slice (qk) (l'.length) (ck)] :: cellsE gc N.ps.length ccap (cs) :: (dueS bc (.slice (some ⟨gc, 0, none⟩) N.ps.length ccap) (.map (some bw)) bd (pA) (capA) (A) (Q1) ++ (.map bw (R.map wrowM) :: R.map wrowE)))
      (fun y => ss.length - y.1) (0, p, cap) (by simp) (by dsimp only; simp only [List.take_zero, List.map_nil, List.append_nil]; exact aE) ?_ ?_
    · dsimp only
      simp only [List.take_zero, List.map_nil, List.append_nil]
      unfold dueS
      refine HLe.trans (B := .vec ps sp.length caps 3 1 (flat intV ss) :: .vec p out.length cap 44 2 (flat evtV out) :: .row bt 113 [.slice qk l'.length ck] :: cellsE gc N.ps.length ccap cs :: .row bc 127 (courseV (.slice (some ⟨gc, 0, none⟩) N.ps.length ccap) (.map (some bw)) (.map (some bd)) pA A.length capA) :: .vec pA A.length capA 129 2 (flat evtV A) :: .map bd (Q1.map dueM) :: (Q.map dueE ++ (.map bw (R.map wrowM) :: R.map wrowE)))
        (HLe.left [_, _, _, _, _, _, _] (HLe.app hQle (HLe.refl _))) ?_
      exact aH
    clear hQle
    rintro ⟨j, pj, capj⟩ hj
    dsimp only at hj ⊢
    obtain ⟨oj, hoj⟩ : ∃ oj, out ++ (ss.take j).map (fun i => (⟨T', i⟩ : Evt)) = oj := ⟨_, rfl⟩
    have hojl : oj.length = out.length + j := by rw [← hoj]; simp; omega
    rw [hoj]
    rcases Nat.lt_or_ge j ss.length with hlt | hge
    · obtain ⟨i, hi⟩ : ∃ i, ss[j]? = some i := ⟨ss[j], List.getElem?_eq_getElem _⟩
      obtain ⟨gq, hgq⟩ := hps (by omega)
      subst hgq
      have hon : out ++ (ss.take (j + 1)).map (fun i => (⟨T', i⟩ : Evt)) = oj ++ [⟨T', i⟩] := by
        rw [List.take_add_one, hi, Option.toList_some, List.map_append, ← List.append_assoc, hoj]; rfl
      repeat' (conv => whnf); first | (refine VIx.is ?_; refine VIx.mk rfl (by omega) (by omega) ?_) | (refine VLd.is ?_; refine VLd.mk (Rd.cast (.vec aT (sub_flat0 (f := intV) (k := 1) (fun _ => rfl) hi rfl)) (by first | omega | (dsimp only; omega) | rfl)) ?_) | (refine VAp.is ?_; refine VAp.own (p := pj) aT (.at_ (.vec aT rfl)) (by simp [Value.oneCell']) (by (try dsimp only); omega) (by simp only [maxLen]; omega) fun p' cap' hp' => ?_) | (refine VSeq.is ?_; refine VSeq.go ?_) | (refine VB.is ?_; refine VB.yes (by omega) fun _ => ?_) | (refine VB.is ?_; refine VB.no (by omega) fun _ => ?_) | (refine VB.is ?_; refine VB.split (fun _ => ?_) (fun _ => ?_)) | (refine boolE_split (fun h => ?_) (fun h => ?_) <;> subst h) | (refine VLd.is ?_; refine VLd.mk (.row aT (by rfl)) ?_) | (refine VSt.is ?_; refine VSt.row aT (by rfl) (by first | rfl | assumption) ?_) | (refine VNew.is ?_; refine VNew.mk fun _ => ?_) | (refine VAr.is ?_; refine VAr.i64 (by omega) (by omega) ?_) | (refine VIx.is ?_; refine VIx.mk rfl (by omega) (by omega) ?_) | (refine VKeep.is ?_; refine VKeep.mk aH ?_) | (refine VHs.is ?_; refine VHs.mk _ (HLe.refl _) ?_) | (refine VQ.is ?_; refine VQ.pos (by omega) (by omega) (by omega) ?_) | (refine VM.is ?_; refine VM.pos (by omega) (by omega) ?_) | (refine And.intro ?_ ?_)
      all_goals (conv => whnf)
      refine VNext.mk (j + 1, p', cap') (by dsimp only; omega) (by dsimp only; omega) ?_ ?_
      · dsimp only; rw [hon, List.length_append]; exact aE
      · dsimp only; rw [hon, List.length_append, flat_append]; exact aH
    · have hfull : out ++ ss.map (fun i => (⟨T', i⟩ : Evt)) = oj := by rw [← hoj, List.take_of_length_le hge]
      rw [hfull] at hou1
      have hal := atLen_le T' l'
      have hinl : atLen T' l' = ins.length := by rw [← hins, List.length_map, List.length_take]; omega
      have hyl := yields_le hNok (ss ++ ins.map fun k => -1 - k)
      rw [List.length_append, List.length_map] at hyl
      have hin := hNok.inputs
      repeat' (conv => whnf); first | (refine VCall.isF 61 ?_; (refine at_call bt l' T' qk ck be off' aT hsl (by simp) (by omega) (by omega) fun p1 cap1 hp1 => ?_; rw [hins])) | (refine VCall.isF 73 ?_; refine send_call N hNok bc (.slice (some ⟨gc, 0, none⟩) N.ps.length ccap) bw bd R hwO hwR pA capA A Q1 T' (by omega) ss ins ps caps p1 _ cap1 hinl sp.length hssl.symm (by omega) hfi.1 (fun k hk => by have := hfi.2 k hk; omega) hA (by omega) hpA (by repeat (first | exact Take.nil | (with_reducible apply Take.seg; (focus (exact aS))) | (apply Take.cons; (focus (exact aT))) | (apply Take.last; (focus (exact aS))))) aH aH aH fun y hy hyp => ?_) | (refine VSeq.is ?_; refine VSeq.go ?_) | (refine VB.is ?_; refine VB.yes (by omega) fun _ => ?_) | (refine VB.is ?_; refine VB.no (by omega) fun _ => ?_) | (refine VB.is ?_; refine VB.split (fun _ => ?_) (fun _ => ?_)) | (refine boolE_split (fun h => ?_) (fun h => ?_) <;> subst h) | (refine VLd.is ?_; refine VLd.mk (.row aT (by rfl)) ?_) | (refine VSt.is ?_; refine VSt.row aT (by rfl) (by first | rfl | assumption) ?_) | (refine VNew.is ?_; refine VNew.mk fun _ => ?_) | (refine VAr.is ?_; refine VAr.i64 (by omega) (by omega) ?_) | (refine VIx.is ?_; refine VIx.mk rfl (by omega) (by omega) ?_) | (refine VKeep.is ?_; refine VKeep.mk aH ?_) | (refine VHs.is ?_; refine VHs.mk _ (HLe.refl _) ?_) | (refine VQ.is ?_; refine VQ.pos (by omega) (by omega) (by omega) ?_) | (refine VM.is ?_; refine VM.pos (by omega) (by omega) ?_) | (refine And.intro ?_ ?_)
      all_goals (conv => whnf)
      · have hm := outTo_mono N l (a := T' + 1) (b := ticks.toNat) (by omega)
        rw [hou1] at hm
        have hr : drvRes N l ticks = ([], 8) := by rw [hres, if_pos (by omega)]
        rw [hr]
        exact ⟨fun w' hw' => ⟨(none, 0), rfl, trivial, hw'.le aH⟩⟩
      · refine VNext.mk ⟨T' + 1, cs, y.Q, y.A, y.p, y.cap, k + atLen T' l', pj, capj⟩ ⟨by dsimp only; omega, hnext _ _ hy, hyp, hTk2, by dsimp only; rw [hou1]; omega⟩ (by dsimp only; omega) (by dsimp only; rw [hou1]; exact aE) ?_
        dsimp only
        have e : (l.drop (k + atLen T' l')).length = l'.length - atLen T' l' := by rw [List.length_drop]; omega
        rw [hou1, e, advs_add, hxa]
        exact aH

end Go.Proofs

end
