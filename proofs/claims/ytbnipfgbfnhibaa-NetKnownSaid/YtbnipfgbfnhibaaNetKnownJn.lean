/- Jn: Join of the program, walked. -/

import Derived.Test.YtbnipfgbfnhibaaNetKnownCc
import Derived.Test.YtbnipfgbfnhibaaNetKnownRn

set_option linter.unusedVariables false

set_option linter.unusedSimpArgs false

namespace Go.Gm

def joinSyn (A : Net) (s : Syn) : Syn := ⟨if s.frm < 0 then s.frm - A.inputs else s.frm + A.ps.length, s.to + A.ps.length, s.wt, s.dl⟩

/-- Two networks beside each other. -/
def joinNet (A B : Net) : Net := ⟨A.ps ++ B.ps, A.inputs + B.inputs, A.syns ++ B.syns.map (joinSyn A)⟩

/-- What Join returns. -/
def joinRes (A B : Net) : Net × Int :=
  if netchk A ≠ 0 then (noNet, netchk A) else if netchk B ≠ 0 then (noNet, netchk B) else if netchk (joinNet A B) ≠ 0 then (noNet, netchk (joinNet A B)) else (joinNet A B, 0)

theorem join_a {A B : Net} (h : netchk A ≠ 0) : joinRes A B = (noNet, netchk A) := by unfold joinRes; rw [if_pos h]

theorem join_b {A B : Net} (h : netchk A = 0) (h2 : netchk B ≠ 0) : joinRes A B = (noNet, netchk B) := by unfold joinRes; rw [if_neg (by omega), if_pos h2]

theorem join_c {A B : Net} (h : netchk A = 0) (h2 : netchk B = 0) (h3 : netchk (joinNet A B) ≠ 0) : joinRes A B = (noNet, netchk (joinNet A B)) := by unfold joinRes; rw [if_neg (by omega), if_neg (by omega), if_pos h3]

theorem join_ok {A B : Net} (h : netchk A = 0) (h2 : netchk B = 0) (h3 : netchk (joinNet A B) = 0) : joinRes A B = (joinNet A B, 0) := by unfold joinRes; rw [if_neg (by omega), if_neg (by omega), if_neg (by omega)]

theorem joinNet_wf {A B : Net} (hA : NetOk A) (hB : NetOk B) : (joinNet A B).wf := by
  have a1 := hA.few
  have a2 := hA.inputs
  have b2 := hB.inputs
  have b1 := hB.few
  refine ⟨fun p hp => ?_, ?_, fun s hs => ?_⟩
  · rcases List.mem_append.1 hp with hp | hp
    · exact (hA.ps p hp).wf
    · exact (hB.ps p hp).wf
  · show I64 (A.inputs + B.inputs)
    unfold I64; omega
  · rcases List.mem_append.1 hs with hs | hs
    · have h1 := hA.syns s hs
      unfold synOk srcOk at h1
      unfold Syn.wf I64
      omega
    · obtain ⟨s0, hs0, rfl⟩ := List.mem_map.1 hs
      have h1 := hB.syns s0 hs0
      unfold synOk srcOk at h1
      unfold Syn.wf I64 joinSyn
      dsimp only
      split <;> omega

end Go.Gm

namespace Go.Proofs

open Go Go.Vx Go.Gm

theorem Join_any (A B : Net) (hA : A.wf) (hB : B.wf) (pa : Option Addr) (ca ba oa : Nat) (sa : Option Addr) (da ea fa : Nat) (pb : Option Addr) (cb bb ob : Nat) (sb : Option Addr) (db eb fb : Nat) (w : World)
    (h1 : Sl w parV 8 A.ps pa A.ps.length ba oa) (h2 : Sl w synV 4 A.syns sa A.syns.length ea fa) (h3 : Sl w parV 8 B.ps pb B.ps.length bb ob) (h4 : Sl w synV 4 B.syns sb B.syns.length eb fb) :
    Calls Try.prog 36 #[.agg #[.slice pa A.ps.length ca, .int .i64 A.inputs, .slice sa A.syns.length da], .agg #[.slice pb B.ps.length cb, .int .i64 B.inputs, .slice sb B.syns.length db]] w fun e w' => ∃ y : (Option Addr × Nat) × (Option Addr × Nat),
      e = .returned (.tuple #[.agg #[.slice y.1.1 (joinRes A B).1.ps.length y.1.2, .int .i64 (joinRes A B).1.inputs, .slice y.2.1 (joinRes A B).1.syns.length y.2.2], .int .i64 (joinRes A B).2]) ∧ True ∧
      St w [] [.vec y.1.1 (joinRes A B).1.ps.length y.1.2 42 8 (flat parV (joinRes A B).1.ps), .vec y.2.1 (joinRes A B).1.syns.length y.2.2 96 4 (flat synV (joinRes A B).1.syns)] w' := by
  refine enter (C := Try.cx) (F := Try.fx36) (args := [_, _]) Try.func36 rfl rfl rfl Try.ok36 (St.start w []) ?_
  refine VSeq.go ?_
  repeat' (conv => whnf); first | (refine VNew.is ?_; refine VNew.mk fun b4 => ?_) | (refine VB.is ?_; refine VB.yes (by omega) fun _ => ?_) | (refine VB.is ?_; refine VB.no (by omega) fun _ => ?_) | (refine VB.is ?_; refine VB.split (fun _ => ?_) (fun _ => ?_)) | (refine boolE_split (fun h => ?_) (fun h => ?_) <;> subst h) | (refine VLd.is ?_; refine VLd.mk (.row aT (by rfl)) ?_) | (refine VSt.is ?_; refine VSt.row aT (by rfl) (by first | rfl | assumption) ?_) | (refine VNew.is ?_; refine VNew.mk fun _ => ?_) | (refine VAr.is ?_; refine VAr.i64 (by omega) (by omega) ?_) | (refine VIx.is ?_; refine VIx.mk rfl (by omega) (by omega) ?_) | (refine VKeep.is ?_; refine VKeep.mk aH ?_) | (refine VHs.is ?_; refine VHs.mk _ (HLe.refl _) ?_) | (refine VQ.is ?_; refine VQ.pos (by omega) (by omega) (by omega) ?_) | (refine VM.is ?_; refine VM.pos (by omega) (by omega) ?_) | (refine And.intro ?_ ?_)
  all_goals (conv => whnf)
  rename_i b2 b3
  repeat' (conv => whnf); first | (refine VNew.is ?_; refine VNew.mk fun bl => ?_) | (refine VSeq.is ?_; refine VSeq.go ?_) | (refine VB.is ?_; refine VB.yes (by omega) fun _ => ?_) | (refine VB.is ?_; refine VB.no (by omega) fun _ => ?_) | (refine VB.is ?_; refine VB.split (fun _ => ?_) (fun _ => ?_)) | (refine boolE_split (fun h => ?_) (fun h => ?_) <;> subst h) | (refine VLd.is ?_; refine VLd.mk (.row aT (by rfl)) ?_) | (refine VSt.is ?_; refine VSt.row aT (by rfl) (by first | rfl | assumption) ?_) | (refine VNew.is ?_; refine VNew.mk fun _ => ?_) | (refine VAr.is ?_; refine VAr.i64 (by omega) (by omega) ?_) | (refine VIx.is ?_; refine VIx.mk rfl (by omega) (by omega) ?_) | (refine VKeep.is ?_; refine VKeep.mk aH ?_) | (refine VHs.is ?_; refine VHs.mk _ (HLe.refl _) ?_) | (refine VQ.is ?_; refine VQ.pos (by omega) (by omega) (by omega) ?_) | (refine VM.is ?_; refine VM.pos (by omega) (by omega) ?_) | (refine And.intro ?_ ?_)
  all_goals (conv => whnf)
  refine VLoop.kr (α := Nat) [1000000, 2, 3, 4, 5, 15, 16] rfl (fun i => i ≤ 2 ∧ (1 ≤ i → netchk A = 0) ∧ (2 ≤ i → netchk B = 0)) (fun i K => (17, .int .i64 (i : Int)) :: K)
    (fun _ => [.vec (some ⟨bl, 0, none⟩) 2 2 25 3 [.slice pa A.ps.length ca, .int .i64 A.inputs, .slice sa A.syns.length da, .slice pb B.ps.length cb, .int .i64 B.inputs, .slice sb B.syns.length db], .row b2 25 [.slice pa A.ps.length ca, .int .i64 A.inputs, .slice sa A.syns.length da], .row b3 25 [.slice pb B.ps.length cb, .int .i64 B.inputs, .slice sb B.syns.length db], .row b4 25 [.slice none 0 0, .int .i64 0, .slice none 0 0]])
    (fun i => 2 - i) 0 ⟨by omega, by omega, by omega⟩ aE aH ?_
  rintro i ⟨hi, hzA, hzB⟩
  match i, hi, hzA, hzB with
  | 0, _, _, _ =>
    repeat' (conv => whnf); first | (refine VNew.is ?_; refine VNew.mk fun b7 => ?_) | (refine VIx.is ?_; refine VIx.mk rfl (by omega) (by omega) ?_) | (refine VLd.is ?_; refine VLd.mk (.vec aT rfl) ?_) | (refine VCall.isF 19 ?_; refine VCall.valR (fun w' hw' => Check_any A hA _ _ _ _ _ _ _ _ _ (h1.keep hw' (by simp)) (h2.keep hw' (by simp))) ?_) | (refine VSeq.is ?_; refine VSeq.go ?_) | (refine VB.is ?_; refine VB.yes (by omega) fun _ => ?_) | (refine VB.is ?_; refine VB.no (by omega) fun _ => ?_) | (refine VB.is ?_; refine VB.split (fun _ => ?_) (fun _ => ?_)) | (refine boolE_split (fun h => ?_) (fun h => ?_) <;> subst h) | (refine VLd.is ?_; refine VLd.mk (.row aT (by rfl)) ?_) | (refine VSt.is ?_; refine VSt.row aT (by rfl) (by first | rfl | assumption) ?_) | (refine VNew.is ?_; refine VNew.mk fun _ => ?_) | (refine VAr.is ?_; refine VAr.i64 (by omega) (by omega) ?_) | (refine VIx.is ?_; refine VIx.mk rfl (by omega) (by omega) ?_) | (refine VKeep.is ?_; refine VKeep.mk aH ?_) | (refine VHs.is ?_; refine VHs.mk _ (HLe.refl _) ?_) | (refine VQ.is ?_; refine VQ.pos (by omega) (by omega) (by omega) ?_) | (refine VM.is ?_; refine VM.pos (by omega) (by omega) ?_) | (refine And.intro ?_ ?_)
    all_goals (conv => whnf)
    · rw [join_a (A := A) (B := B) (by omega)]
      exact ⟨fun w' hw' => ⟨((none, 0), (none, 0)), rfl, trivial, hw'.le aH⟩⟩
    · exact VNext.mk 1 ⟨by omega, fun _ => by omega, by omega⟩ (by omega) aE aH
  | 1, _, hzA, _ =>
    have hzA := hzA (by omega)
    repeat' (conv => whnf); first | (refine VNew.is ?_; refine VNew.mk fun b7 => ?_) | (refine VIx.is ?_; refine VIx.mk rfl (by omega) (by omega) ?_) | (refine VLd.is ?_; refine VLd.mk (.vec aT rfl) ?_) | (refine VCall.isF 19 ?_; refine VCall.valR (fun w' hw' => Check_any B hB _ _ _ _ _ _ _ _ _ (h3.keep hw' (by simp)) (h4.keep hw' (by simp))) ?_) | (refine VSeq.is ?_; refine VSeq.go ?_) | (refine VB.is ?_; refine VB.yes (by omega) fun _ => ?_) | (refine VB.is ?_; refine VB.no (by omega) fun _ => ?_) | (refine VB.is ?_; refine VB.split (fun _ => ?_) (fun _ => ?_)) | (refine boolE_split (fun h => ?_) (fun h => ?_) <;> subst h) | (refine VLd.is ?_; refine VLd.mk (.row aT (by rfl)) ?_) | (refine VSt.is ?_; refine VSt.row aT (by rfl) (by first | rfl | assumption) ?_) | (refine VNew.is ?_; refine VNew.mk fun _ => ?_) | (refine VAr.is ?_; refine VAr.i64 (by omega) (by omega) ?_) | (refine VIx.is ?_; refine VIx.mk rfl (by omega) (by omega) ?_) | (refine VKeep.is ?_; refine VKeep.mk aH ?_) | (refine VHs.is ?_; refine VHs.mk _ (HLe.refl _) ?_) | (refine VQ.is ?_; refine VQ.pos (by omega) (by omega) (by omega) ?_) | (refine VM.is ?_; refine VM.pos (by omega) (by omega) ?_) | (refine And.intro ?_ ?_)
    all_goals (conv => whnf)
    · rw [join_b (A := A) (B := B) hzA (by omega)]
      exact ⟨fun w' hw' => ⟨((none, 0), (none, 0)), rfl, trivial, hw'.le aH⟩⟩
    · exact VNext.mk 2 ⟨by omega, fun _ => hzA, fun _ => by omega⟩ (by omega) aE aH
  | 2, _, hzA, hzB =>
    have hzA := hzA (by omega)
    have hzB := hzB (by omega)
    have hAo := netchk_zero.1 hzA
    have hBo := netchk_zero.1 hzB
    have a1 := hAo.few
    have a2 := hAo.fewS
    have a3 := hAo.inputs
    have b1 := hBo.few
    have b2' := hBo.fewS
    have b3' := hBo.inputs
    have ecp : cat [(⟨pa, ca, A.ps⟩ : SlD Par), ⟨pb, cb, B.ps⟩] = A.ps ++ B.ps := by simp [cat]
    have ecs : cat [(⟨sa, da, A.syns⟩ : SlD Syn), ⟨sb, db, B.syns⟩] = A.syns ++ B.syns := by simp [cat]
    have lcp : (A.ps ++ B.ps).length = A.ps.length + B.ps.length := List.length_append
    have lcs : (A.syns ++ B.syns).length = A.syns.length + B.syns.length := List.length_append
    repeat' (conv => whnf); first | (refine VNew.is ?_; refine VNew.mk fun b9 => ?_) | (refine VCall.is ?_; refine VCall.isF 79 ?_; refine VCall.genR (fun w' hw' => by obtain ⟨g, hg⟩ := Sl.own hw' (f := slVs) (l := [(⟨pa, ca, A.ps⟩ : SlD Par), ⟨pb, cb, B.ps⟩]) (n := 2) (k := 1) aT (fun _ => rfl) rfl; exact concatPar_any [(⟨pa, ca, A.ps⟩ : SlD Par), ⟨pb, cb, B.ps⟩] (by simp) (by rw [ecp, lcp]; omega) _ _ _ _ w' hg (fun d hd => by simp only [List.mem_cons, List.not_mem_nil, or_false] at hd; rcases hd with rfl | rfl; exact ⟨_, _, h1.keep hw' (by simp)⟩; exact ⟨_, _, h3.keep hw' (by simp)⟩)) ?_; rintro ⟨p1, c1⟩ hp1; rw [ecp] at hp1 ⊢; dsimp only at hp1 ⊢) | (refine VCall.is ?_; refine VCall.isF 80 ?_; refine VCall.genR (fun w' hw' => by obtain ⟨g, hg⟩ := Sl.own hw' (f := slVs) (l := [(⟨sa, da, A.syns⟩ : SlD Syn), ⟨sb, db, B.syns⟩]) (n := 2) (k := 1) aT (fun _ => rfl) rfl; exact concatSyn_any [(⟨sa, da, A.syns⟩ : SlD Syn), ⟨sb, db, B.syns⟩] (by simp) (by rw [ecs, lcs]; omega) _ _ _ _ w' hg (fun d hd => by simp only [List.mem_cons, List.not_mem_nil, or_false] at hd; rcases hd with rfl | rfl; exact ⟨_, _, h2.keep hw' (by simp)⟩; exact ⟨_, _, h4.keep hw' (by simp)⟩)) ?_; rintro ⟨q1, d1⟩ hq1; rw [ecs] at hq1 ⊢; dsimp only at hq1 ⊢) | (refine VSeq.is ?_; refine VSeq.cutL (at_ := 9) (α := Nat × (Option Addr × Nat) × (Option Addr × Nat)) (fun y => 0 < (A.syns ++ B.syns).length → ∃ g, y.2.2.1 = some ⟨g, 0, none⟩) (fun y => [(1000000, .tuple #[]), (2, .pointer (some ⟨b2, 0, none⟩)), (4, .pointer (some ⟨b4, 0, none⟩)), (5, .int .i64 0), (9, .pointer (some ⟨y.1, 0, none⟩))]) (fun y => [.vec y.2.2.1 (A.syns ++ B.syns).length y.2.2.2 96 4 (flat synV (A.syns ++ B.syns)), .row b2 25 [.slice pa A.ps.length ca, .int .i64 A.inputs, .slice sa A.syns.length da], .row b4 25 [.slice none 0 0, .int .i64 0, .slice none 0 0], .row y.1 25 [.slice y.2.1.1 (A.ps ++ B.ps).length y.2.1.2, .int .i64 (A.inputs + B.inputs), .slice y.2.2.1 (A.syns ++ B.syns).length y.2.2.2], .vec y.2.1.1 (A.ps ++ B.ps).length y.2.1.2 42 8 (flat parV (A.ps ++ B.ps))]) (fun y => (A.syns ++ B.syns).length ≤ y.2.2.2) (fun y _ w hw => (vec_facts (hw _ (List.mem_cons_self ..))).1) ?_ ?_) | (refine VSeq.is ?_; refine VSeq.go ?_) | (refine VB.is ?_; refine VB.yes (by omega) fun _ => ?_) | (refine VB.is ?_; refine VB.no (by omega) fun _ => ?_) | (refine VB.is ?_; refine VB.split (fun _ => ?_) (fun _ => ?_)) | (refine boolE_split (fun h => ?_) (fun h => ?_) <;> subst h) | (refine VLd.is ?_; refine VLd.mk (.row aT (by rfl)) ?_) | (refine VSt.is ?_; refine VSt.row aT (by rfl) (by first | rfl | assumption) ?_) | (refine VNew.is ?_; refine VNew.mk fun _ => ?_) | (refine VAr.is ?_; refine VAr.i64 (by omega) (by omega) ?_) | (refine VIx.is ?_; refine VIx.mk rfl (by omega) (by omega) ?_) | (refine VKeep.is ?_; refine VKeep.mk aH ?_) | (refine VHs.is ?_; refine VHs.mk _ (HLe.refl _) ?_) | (refine VQ.is ?_; refine VQ.pos (by omega) (by omega) (by omega) ?_) | (refine VM.is ?_; refine VM.pos (by omega) (by omega) ?_) | (refine And.intro ?_ ?_)
    all_goals (conv => whnf)
    all_goals first
      | (refine VMid.mk (b9, (p1, c1), q1, d1) hq1 ?_ ?_
         · repeat (first | exact trivial | refine ⟨rfl, ?_⟩)
         · exact aH)
      | (rename_i bx
         refine VMid.mk (bx, (p1, c1), q1, d1) hq1 ?_ ?_
         · repeat (first | exact trivial | refine ⟨rfl, ?_⟩)
         · exact aH)
      | (rename_i bx by_
         refine VMid.mk (bx, (p1, c1), q1, d1) hq1 ?_ ?_
         · repeat (first | exact trivial | refine ⟨rfl, ?_⟩)
         · exact aH)
      | skip
    rintro ⟨b9, ⟨p1, c1⟩, q1, d1⟩ hq1 hd1
    dsimp only at hq1 hd1 ⊢
    rw [lcs] at hq1 hd1 ⊢
    have hJw := joinNet_wf hAo hBo
    have ejl : (joinNet A B).ps.length = (A.ps ++ B.ps).length := rfl
    have esl : (joinNet A B).syns.length = A.syns.length + B.syns.length := by simp [joinNet]
    repeat' (conv => whnf); first | (refine VSl.is ?_; refine VSl.is ?_; refine VSl.from_ (l := A.syns.length) (n := A.syns.length + B.syns.length) (c := d1) (by omega) hd1 fun q hx1 hx2 => ?_; rw [show A.syns.length + B.syns.length - A.syns.length = B.syns.length by omega]) | (refine VSeq.is ?_; refine VSeq.go ?_) | (refine VB.is ?_; refine VB.yes (by omega) fun _ => ?_) | (refine VB.is ?_; refine VB.no (by omega) fun _ => ?_) | (refine VB.is ?_; refine VB.split (fun _ => ?_) (fun _ => ?_)) | (refine boolE_split (fun h => ?_) (fun h => ?_) <;> subst h) | (refine VLd.is ?_; refine VLd.mk (.row aT (by rfl)) ?_) | (refine VSt.is ?_; refine VSt.row aT (by rfl) (by first | rfl | assumption) ?_) | (refine VNew.is ?_; refine VNew.mk fun _ => ?_) | (refine VAr.is ?_; refine VAr.i64 (by omega) (by omega) ?_) | (refine VIx.is ?_; refine VIx.mk rfl (by omega) (by omega) ?_) | (refine VKeep.is ?_; refine VKeep.mk aH ?_) | (refine VHs.is ?_; refine VHs.mk _ (HLe.refl _) ?_) | (refine VQ.is ?_; refine VQ.pos (by omega) (by omega) (by omega) ?_) | (refine VM.is ?_; refine VM.pos (by omega) (by omega) ?_) | (refine And.intro ?_ ?_)
    all_goals (conv => whnf)
    refine VLoop.kr (α := Nat) [1000000, 2, 4, 5, 9, 52] rfl (fun j => j ≤ B.syns.length) (fun j K => (53, .int .i64 (j : Int)) :: K)
      (fun j => [.vec q1 (A.syns.length + B.syns.length) d1 96 4 (flat synV (A.syns ++ turned (joinSyn A) B.syns j)), .row b2 25 [.slice pa A.ps.length ca, .int .i64 A.inputs, .slice sa A.syns.length da], .row b4 25 [.slice none 0 0, .int .i64 0, .slice none 0 0], .row b9 25 [.slice p1 (A.ps ++ B.ps).length c1, .int .i64 (A.inputs + B.inputs), .slice q1 (A.syns.length + B.syns.length) d1], .vec p1 (A.ps ++ B.ps).length c1 42 8 (flat parV (A.ps ++ B.ps))])
      (fun j => B.syns.length - j) 0 (by omega) aE (by rw [turned_zero]; exact aH) ?_
    intro j hj
    rcases Nat.lt_or_ge j B.syns.length with hltj | hgej
    · obtain ⟨s, hs⟩ := h4.get hltj
      have hso := hBo.syns s (List.mem_of_getElem? hs)
      unfold synOk srcOk at hso
      have hnext := turned_next (f := joinSyn A) hs
      obtain ⟨T, hT⟩ : ∃ T, turned (joinSyn A) B.syns j = T := ⟨_, rfl⟩
      have hTl : T.length = B.syns.length := by rw [← hT]; exact turned_length _ _ _
      have hTj : T[j]? = some s := by rw [← hT]; exact turned_get hs
      have hLj : (A.syns ++ T)[A.syns.length + j]? = some s := by rw [List.getElem?_append_right (by omega), Nat.add_sub_cancel_left]; exact hTj
      rw [hT] at hnext ⊢
      obtain ⟨g1, hg1⟩ := hq1 (by omega)
      subst hg1
      have hLl : (A.syns ++ T).length = A.syns.length + B.syns.length := by rw [List.length_append, hTl]
      have h1j : ((A.syns ++ T).set (A.syns.length + j) ⟨s.frm, s.to + A.ps.length, s.wt, s.dl⟩)[A.syns.length + j]? = some ⟨s.frm, s.to + A.ps.length, s.wt, s.dl⟩ := by rw [List.getElem?_set_self (by omega)]
      have hfin : ∀ x, (A.syns ++ T).set (A.syns.length + j) x = A.syns ++ T.set j x := fun x => by rw [List.set_append_right _ _ (by omega), Nat.add_sub_cancel_left]
      by_cases hfr : s.frm < 0
      · have hren : joinSyn A s = ⟨s.frm - A.inputs, s.to + A.ps.length, s.wt, s.dl⟩ := by unfold joinSyn; rw [if_pos hfr]
        repeat' (conv => whnf); first | (refine VIx.is ?_; refine VIx.mk rfl (by omega) (by omega) ?_) | (refine VLd.is ?_; refine VLd.mk (Rd.cast (.vec aT (sub_flat (f := synV) (k := 4) (o := 1) (s := 1) (fun _ => rfl) hLj rfl)) (by first | omega | (dsimp only; omega) | rfl)) ?_) | (refine VLd.is ?_; refine VLd.mk (Rd.cast (.vec aT (sub_flat (vs := [.int .i64 s.frm]) (f := synV) (k := 4) (o := 0) (s := 1) (fun _ => rfl) h1j rfl)) (by first | omega | (dsimp only; omega) | rfl)) ?_) | (refine VSt.is ?_; refine VSt.cast (off' := (A.syns.length + j) * 4 + 1) (by first | omega | (dsimp only; omega)) (VSt.vec aT (upd_flat (o := 1) (f := synV) (k := 4) (y := ⟨s.frm, s.to + A.ps.length, s.wt, s.dl⟩) (fun _ => rfl) hLj rfl) rfl ?_)) | (refine VSt.is ?_; refine VSt.cast (off' := (A.syns.length + j) * 4 + 0) (by first | omega | (dsimp only; omega)) (VSt.vec aT (upd_flat (o := 0) (f := synV) (k := 4) (y := ⟨s.frm - A.inputs, s.to + A.ps.length, s.wt, s.dl⟩) (fun _ => rfl) h1j rfl) rfl ?_)) | (refine VSeq.is ?_; refine VSeq.go ?_) | (refine VB.is ?_; refine VB.yes (by omega) fun _ => ?_) | (refine VB.is ?_; refine VB.no (by omega) fun _ => ?_) | (refine VB.is ?_; refine VB.split (fun _ => ?_) (fun _ => ?_)) | (refine boolE_split (fun h => ?_) (fun h => ?_) <;> subst h) | (refine VLd.is ?_; refine VLd.mk (.row aT (by rfl)) ?_) | (refine VSt.is ?_; refine VSt.row aT (by rfl) (by first | rfl | assumption) ?_) | (refine VNew.is ?_; refine VNew.mk fun _ => ?_) | (refine VAr.is ?_; refine VAr.i64 (by omega) (by omega) ?_) | (refine VIx.is ?_; refine VIx.mk rfl (by omega) (by omega) ?_) | (refine VKeep.is ?_; refine VKeep.mk aH ?_) | (refine VHs.is ?_; refine VHs.mk _ (HLe.refl _) ?_) | (refine VQ.is ?_; refine VQ.pos (by omega) (by omega) (by omega) ?_) | (refine VM.is ?_; refine VM.pos (by omega) (by omega) ?_) | (refine And.intro ?_ ?_)
        all_goals (conv => whnf)
        all_goals
          refine VNext.mk (j + 1) (by omega) (by omega) aE ?_
          rw [List.set_set, hfin, ← hnext, hren]
          exact aH
      · have hren : joinSyn A s = ⟨s.frm + A.ps.length, s.to + A.ps.length, s.wt, s.dl⟩ := by unfold joinSyn; rw [if_neg hfr]
        repeat' (conv => whnf); first | (refine VIx.is ?_; refine VIx.mk rfl (by omega) (by omega) ?_) | (refine VLd.is ?_; refine VLd.mk (Rd.cast (.vec aT (sub_flat (f := synV) (k := 4) (o := 1) (s := 1) (fun _ => rfl) hLj rfl)) (by first | omega | (dsimp only; omega) | rfl)) ?_) | (refine VLd.is ?_; refine VLd.mk (Rd.cast (.vec aT (sub_flat (vs := [.int .i64 s.frm]) (f := synV) (k := 4) (o := 0) (s := 1) (fun _ => rfl) h1j rfl)) (by first | omega | (dsimp only; omega) | rfl)) ?_) | (refine VSt.is ?_; refine VSt.cast (off' := (A.syns.length + j) * 4 + 1) (by first | omega | (dsimp only; omega)) (VSt.vec aT (upd_flat (o := 1) (f := synV) (k := 4) (y := ⟨s.frm, s.to + A.ps.length, s.wt, s.dl⟩) (fun _ => rfl) hLj rfl) rfl ?_)) | (refine VSt.is ?_; refine VSt.cast (off' := (A.syns.length + j) * 4 + 0) (by first | omega | (dsimp only; omega)) (VSt.vec aT (upd_flat (o := 0) (f := synV) (k := 4) (y := ⟨s.frm + A.ps.length, s.to + A.ps.length, s.wt, s.dl⟩) (fun _ => rfl) h1j rfl) rfl ?_)) | (refine VSeq.is ?_; refine VSeq.go ?_) | (refine VB.is ?_; refine VB.yes (by omega) fun _ => ?_) | (refine VB.is ?_; refine VB.no (by omega) fun _ => ?_) | (refine VB.is ?_; refine VB.split (fun _ => ?_) (fun _ => ?_)) | (refine boolE_split (fun h => ?_) (fun h => ?_) <;> subst h) | (refine VLd.is ?_; refine VLd.mk (.row aT (by rfl)) ?_) | (refine VSt.is ?_; refine VSt.row aT (by rfl) (by first | rfl | assumption) ?_) | (refine VNew.is ?_; refine VNew.mk fun _ => ?_) | (refine VAr.is ?_; refine VAr.i64 (by omega) (by omega) ?_) | (refine VIx.is ?_; refine VIx.mk rfl (by omega) (by omega) ?_) | (refine VKeep.is ?_; refine VKeep.mk aH ?_) | (refine VHs.is ?_; refine VHs.mk _ (HLe.refl _) ?_) | (refine VQ.is ?_; refine VQ.pos (by omega) (by omega) (by omega) ?_) | (refine VM.is ?_; refine VM.pos (by omega) (by omega) ?_) | (refine And.intro ?_ ?_)
        all_goals (conv => whnf)
        all_goals
          refine VNext.mk (j + 1) (by omega) (by omega) aE ?_
          rw [List.set_set, hfin, ← hnext, hren]
          exact aH
    · rw [turned_all _ hgej, ← esl]
      repeat' (conv => whnf); first | (refine VCall.isF 19 ?_; refine VCall.valR (fun w' hw' => by obtain ⟨g1, e1⟩ := Sl.own hw' (f := parV) (l := (joinNet A B).ps) (n := (joinNet A B).ps.length) (k := 8) (p := p1) aT (fun _ => rfl) rfl; obtain ⟨g2, e2⟩ := Sl.own hw' (f := synV) (l := (joinNet A B).syns) (n := (joinNet A B).syns.length) (k := 4) (p := q1) aT (fun _ => rfl) rfl; exact Check_any (joinNet A B) hJw _ _ _ _ _ _ _ _ _ e1 e2) ?_) | (refine VSeq.is ?_; refine VSeq.go ?_) | (refine VB.is ?_; refine VB.yes (by omega) fun _ => ?_) | (refine VB.is ?_; refine VB.no (by omega) fun _ => ?_) | (refine VB.is ?_; refine VB.split (fun _ => ?_) (fun _ => ?_)) | (refine boolE_split (fun h => ?_) (fun h => ?_) <;> subst h) | (refine VLd.is ?_; refine VLd.mk (.row aT (by rfl)) ?_) | (refine VSt.is ?_; refine VSt.row aT (by rfl) (by first | rfl | assumption) ?_) | (refine VNew.is ?_; refine VNew.mk fun _ => ?_) | (refine VAr.is ?_; refine VAr.i64 (by omega) (by omega) ?_) | (refine VIx.is ?_; refine VIx.mk rfl (by omega) (by omega) ?_) | (refine VKeep.is ?_; refine VKeep.mk aH ?_) | (refine VHs.is ?_; refine VHs.mk _ (HLe.refl _) ?_) | (refine VQ.is ?_; refine VQ.pos (by omega) (by omega) (by omega) ?_) | (refine VM.is ?_; refine VM.pos (by omega) (by omega) ?_) | (refine And.intro ?_ ?_)
      all_goals (conv => whnf)
      · rw [join_c (A := A) (B := B) hzA hzB (by omega)]
        exact ⟨fun w' hw' => ⟨((none, 0), (none, 0)), rfl, trivial, hw'.le aH⟩⟩
      · rw [join_ok (A := A) (B := B) hzA hzB (by omega)]
        exact ⟨fun w' hw' => ⟨((p1, c1), (q1, d1)), rfl, trivial, hw'.le aH⟩⟩

end Go.Proofs
