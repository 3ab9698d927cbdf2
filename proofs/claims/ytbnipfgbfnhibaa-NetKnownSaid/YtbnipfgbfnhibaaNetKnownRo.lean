/- Ro: Renumber of the program and of the reference, walked. -/

import Derived.Test.YtbnipfgbfnhibaaNetKnownRn

set_option linter.unusedVariables false

set_option linter.unusedSimpArgs false

namespace Go.Proofs

open Go Go.Vx Go.Gm

theorem Renumber_any (N : Net) (hN : N.wf) (to : List Int) (hto : ∀ k ∈ to, I64 k) (pn : Option Addr) (cn bn on : Nat) (qs : Option Addr) (cs bs os : Nat) (pt : Option Addr) (ct bt ot : Nat) (w : World)
    (h1 : Sl w parV 8 N.ps pn N.ps.length bn on) (h2 : Sl w synV 4 N.syns qs N.syns.length bs os) (h3 : Sl w intV 1 to pt to.length bt ot) :
    Calls Try.prog 28 #[.agg #[.slice pn N.ps.length cn, .int .i64 N.inputs, .slice qs N.syns.length cs], .slice pt to.length ct] w fun e w' => ∃ y : (Option Addr × Nat) × (Option Addr × Nat),
      e = .returned (.tuple #[.agg #[.slice y.1.1 (renRes N to).1.ps.length y.1.2, .int .i64 (renRes N to).1.inputs, .slice y.2.1 (renRes N to).1.syns.length y.2.2], .int .i64 (renRes N to).2]) ∧ True ∧
      St w [] [.vec y.1.1 (renRes N to).1.ps.length y.1.2 42 8 (flat parV (renRes N to).1.ps), .vec y.2.1 (renRes N to).1.syns.length y.2.2 96 4 (flat synV (renRes N to).1.syns)] w' := by
  have hnz := @netchk_zero N
  have hF : netchk N = 0 → N.ps.length ≤ 1024 ∧ N.syns.length ≤ 8192 ∧ 1 ≤ N.ps.length := fun h => ⟨(hnz.1 h).few, (hnz.1 h).fewS, (hnz.1 h).some⟩
  refine enter (C := Try.cx) (F := Try.fx28) (args := [_, _]) Try.func28 rfl rfl rfl Try.ok28 (St.start w []) ?_
  refine VSeq.go ?_
  repeat' (conv => whnf); first | (refine VNew.is ?_; refine VNew.mk fun b4 => ?_) | (refine VB.is ?_; refine VB.yes (by omega) fun _ => ?_) | (refine VB.is ?_; refine VB.no (by omega) fun _ => ?_) | (refine VB.is ?_; refine VB.split (fun _ => ?_) (fun _ => ?_)) | (refine boolE_split (fun h => ?_) (fun h => ?_) <;> subst h) | (refine VLd.is ?_; refine VLd.mk (.row aT (by rfl)) ?_) | (refine VSt.is ?_; refine VSt.row aT (by rfl) (by first | rfl | assumption) ?_) | (refine VNew.is ?_; refine VNew.mk fun _ => ?_) | (refine VAr.is ?_; refine VAr.i64 (by omega) (by omega) ?_) | (refine VIx.is ?_; refine VIx.mk rfl (by omega) (by omega) ?_) | (refine VKeep.is ?_; refine VKeep.mk aH ?_) | (refine VHs.is ?_; refine VHs.mk _ (HLe.refl _) ?_) | (refine VQ.is ?_; refine VQ.pos (by omega) (by omega) (by omega) ?_) | (refine VM.is ?_; refine VM.pos (by omega) (by omega) ?_) | (refine And.intro ?_ ?_)
  all_goals (conv => whnf)
  rename_i b2
  repeat' (conv => whnf); first | (refine VCall.isF 19 ?_; refine VCall.valR (fun w' hw' => Check_any N hN _ _ _ _ _ _ _ _ _ (h1.keep hw' (by simp)) (h2.keep hw' (by simp))) ?_) | (refine VMk.is ?_; refine VMk.mk (by omega) (by omega) (by (try dsimp only); omega) (by omega) fun p1 => ?_) | (refine VCall.is ?_; refine VCall.isF 74 ?_; refine VCall.genR (fun w' hw' => cloneSyn_any N.syns _ _ _ _ _ (h2.keep hw' (by simp)) (by omega)) ?_; rintro ⟨q1, d1⟩ hq1; dsimp only at hq1) | (refine VNew.is ?_; refine VNew.mk fun b7 => ?_) | (refine VSeq.is ?_; refine VSeq.cut (at_ := 7) (α := Nat × Nat × Option Addr × Nat) (fun y => netchk N = 0 ∧ to.length = N.ps.length ∧ (0 < N.syns.length → ∃ g, y.2.2.1 = some ⟨g, 0, none⟩)) (fun y => [(1000000, .tuple #[]), (1, .slice pt to.length ct), (2, .pointer (some ⟨b2, 0, none⟩)), (4, .pointer (some ⟨b4, 0, none⟩)), (5, .int .i64 0), (7, .pointer (some ⟨y.1, 0, none⟩))]) (fun y => [.row b2 25 [.slice pn N.ps.length cn, .int .i64 N.inputs, .slice qs N.syns.length cs], .row b4 25 [.slice none 0 0, .int .i64 0, .slice none 0 0], .row y.1 25 [.slice (some ⟨y.2.1, 0, none⟩) N.ps.length N.ps.length, .int .i64 N.inputs, .slice y.2.2.1 N.syns.length y.2.2.2], .vec (some ⟨y.2.1, 0, none⟩) N.ps.length N.ps.length 42 8 (repL (parV zPar) N.ps.length), .vec y.2.2.1 N.syns.length y.2.2.2 96 4 (flat synV N.syns)]) ?_ ?_) | (refine VSeq.is ?_; refine VSeq.go ?_) | (refine VB.is ?_; refine VB.yes (by omega) fun _ => ?_) | (refine VB.is ?_; refine VB.no (by omega) fun _ => ?_) | (refine VB.is ?_; refine VB.split (fun _ => ?_) (fun _ => ?_)) | (refine boolE_split (fun h => ?_) (fun h => ?_) <;> subst h) | (refine VLd.is ?_; refine VLd.mk (.row aT (by rfl)) ?_) | (refine VSt.is ?_; refine VSt.row aT (by rfl) (by first | rfl | assumption) ?_) | (refine VNew.is ?_; refine VNew.mk fun _ => ?_) | (refine VAr.is ?_; refine VAr.i64 (by omega) (by omega) ?_) | (refine VIx.is ?_; refine VIx.mk rfl (by omega) (by omega) ?_) | (refine VKeep.is ?_; refine VKeep.mk aH ?_) | (refine VHs.is ?_; refine VHs.mk _ (HLe.refl _) ?_) | (refine VQ.is ?_; refine VQ.pos (by omega) (by omega) (by omega) ?_) | (refine VM.is ?_; refine VM.pos (by omega) (by omega) ?_) | (refine And.intro ?_ ?_)
  all_goals (conv => whnf)
  all_goals first
    | (have hm : to.length = N.ps.length := by omega
       refine VMid.mk (b7, p1, q1, d1) ⟨by omega, hm, hq1⟩ aE (by rw [← hm]; exact aH))
    | skip
  · rw [ren_chk (to := to) ‹netchk N ≠ 0›]
    exact ⟨fun w' hw' => ⟨((none, 0), (none, 0)), rfl, trivial, hw'.le aH⟩⟩
  · have hpe : permErr N.ps.length to = 13 := by unfold permErr; rw [if_pos (by omega)]
    rw [ren_perm (N := N) (to := to) (by omega) (by omega), hpe]
    exact ⟨fun w' hw' => ⟨((none, 0), (none, 0)), rfl, trivial, hw'.le aH⟩⟩
  rintro ⟨b7, p1, q1, d1⟩ ⟨hz, hm, hq1⟩
  dsimp only at hz hm hq1 ⊢
  have hNok := hnz.1 hz
  obtain ⟨hfew, hfs, hpos⟩ := hF hz
  have hpe : permErr N.ps.length to = permFrom N.ps.length [] to := by unfold permErr; rw [if_neg (by omega)]
  repeat' (conv => whnf); first | (refine VMk.is ?_; refine VMk.mk (by omega) (by omega) (by (try dsimp only); omega) (by omega) fun b8 => ?_) | (refine VSeq.is ?_; refine VSeq.go ?_) | (refine VB.is ?_; refine VB.yes (by omega) fun _ => ?_) | (refine VB.is ?_; refine VB.no (by omega) fun _ => ?_) | (refine VB.is ?_; refine VB.split (fun _ => ?_) (fun _ => ?_)) | (refine boolE_split (fun h => ?_) (fun h => ?_) <;> subst h) | (refine VLd.is ?_; refine VLd.mk (.row aT (by rfl)) ?_) | (refine VSt.is ?_; refine VSt.row aT (by rfl) (by first | rfl | assumption) ?_) | (refine VNew.is ?_; refine VNew.mk fun _ => ?_) | (refine VAr.is ?_; refine VAr.i64 (by omega) (by omega) ?_) | (refine VIx.is ?_; refine VIx.mk rfl (by omega) (by omega) ?_) | (refine VKeep.is ?_; refine VKeep.mk aH ?_) | (refine VHs.is ?_; refine VHs.mk _ (HLe.refl _) ?_) | (refine VQ.is ?_; refine VQ.pos (by omega) (by omega) (by omega) ?_) | (refine VM.is ?_; refine VM.pos (by omega) (by omega) ?_) | (refine And.intro ?_ ?_)
  all_goals (conv => whnf)
  refine VLoop.kr (α := Nat) [1000000, 1, 2, 4, 5, 7, 8, 40, 41] rfl (fun i => i ≤ N.ps.length ∧ permFrom N.ps.length [] to = permFrom N.ps.length (to.take i) (to.drop i) ∧ ∀ k ∈ to.take i, 0 ≤ k ∧ k < N.ps.length) (fun i K => (42, .int .i64 (i : Int)) :: K)
    (fun i => [.row b2 25 [.slice pn N.ps.length cn, .int .i64 N.inputs, .slice qs N.syns.length cs], .row b4 25 [.slice none 0 0, .int .i64 0, .slice none 0 0], .row b7 25 [.slice (some ⟨p1, 0, none⟩) N.ps.length N.ps.length, .int .i64 N.inputs, .slice q1 N.syns.length d1],
      .vec (some ⟨p1, 0, none⟩) N.ps.length N.ps.length 42 8 (flat parV (putAll N.ps.length (to.take i) (N.ps.take i))), .vec q1 N.syns.length d1 96 4 (flat synV N.syns), .vec (some ⟨b8, 0, none⟩) N.ps.length N.ps.length 4 1 (flat bV (metL N.ps.length (to.take i)))])
    (fun i => N.ps.length - i) 0 ⟨by omega, rfl, by simp⟩ aE ?_ ?_
  · have e1 := flat_rep (f := bV) (x := false) N.ps.length
    have e2 := flat_rep (f := parV) (x := zPar) N.ps.length
    have e3 : putAll N.ps.length (to.take 0) (N.ps.take 0) = List.replicate N.ps.length zPar := rfl
    rw [e3]
    simp only [List.take_zero, metL_nil]
    rw [← e1, ← e2, ← hm]
    exact aH
  rintro i ⟨hi, hf, hr⟩
  rcases Nat.lt_or_ge i N.ps.length with hlt | hge
  · obtain ⟨k, hk⟩ := h3.get (i := i) (by omega)
    have hkw := hto k (List.mem_of_getElem? hk)
    unfold I64 at hkw
    obtain ⟨q, hq⟩ := h1.get hlt
    have hpl := putAll_length N.ps.length (to.take i) (N.ps.take i)
    by_cases hkr : 0 ≤ k ∧ k < N.ps.length
    · have hmt := metL_get (seen := to.take i) hkr
      by_cases hs : k ∈ to.take i
      · rw [decide_eq_true hs] at hmt
        repeat' (conv => whnf); first | (refine VIx.is ?_; refine VIx.mk (h3.ptr (by omega)) (by omega) (by omega) ?_) | (refine VIx.is ?_; refine VIx.mk rfl (by omega) (by omega) ?_) | (refine VLd.is ?_; refine VLd.mk (Rd.cast (h3.rd0 (by simp) (fun _ => rfl) hk rfl) (by first | omega | (dsimp only; omega) | rfl)) ?_) | (refine VLd.is ?_; refine VLd.mk (Rd.cast (.vec aT (sub_flat0 (f := bV) (k := 1) (fun _ => rfl) hmt rfl)) (by first | omega | (dsimp only; omega) | rfl)) ?_) | (refine VCall.is ?_; refine VCall.bool (within_net _ _ _) ?_) | (refine VSeq.is ?_; refine VSeq.go ?_) | (refine VB.is ?_; refine VB.yes (by omega) fun _ => ?_) | (refine VB.is ?_; refine VB.no (by omega) fun _ => ?_) | (refine VB.is ?_; refine VB.split (fun _ => ?_) (fun _ => ?_)) | (refine boolE_split (fun h => ?_) (fun h => ?_) <;> subst h) | (refine VLd.is ?_; refine VLd.mk (.row aT (by rfl)) ?_) | (refine VSt.is ?_; refine VSt.row aT (by rfl) (by first | rfl | assumption) ?_) | (refine VNew.is ?_; refine VNew.mk fun _ => ?_) | (refine VAr.is ?_; refine VAr.i64 (by omega) (by omega) ?_) | (refine VIx.is ?_; refine VIx.mk rfl (by omega) (by omega) ?_) | (refine VKeep.is ?_; refine VKeep.mk aH ?_) | (refine VHs.is ?_; refine VHs.mk _ (HLe.refl _) ?_) | (refine VQ.is ?_; refine VQ.pos (by omega) (by omega) (by omega) ?_) | (refine VM.is ?_; refine VM.pos (by omega) (by omega) ?_) | (refine And.intro ?_ ?_)
        all_goals (conv => whnf)
        have hp5 : permErr N.ps.length to = 5 := by rw [hpe, hf, permFrom_have hk hkr hs]
        rw [ren_perm (N := N) (to := to) hz (by omega), hp5]
        exact ⟨fun w' hw' => ⟨((none, 0), (none, 0)), rfl, trivial, hw'.le aH⟩⟩
      · rw [decide_eq_false hs] at hmt
        have hset := metL_set (seen := to.take i) hkr
        have hput := putAll_next (n := N.ps.length) hk hq
        obtain ⟨z, hzz⟩ : ∃ z, (putAll N.ps.length (to.take i) (N.ps.take i))[k.toNat]? = some z := ⟨_, List.getElem?_eq_getElem (by omega)⟩
        repeat' (conv => whnf); first | (refine VIx.is ?_; refine VIx.mk (h3.ptr (by omega)) (by omega) (by omega) ?_) | (refine VIx.is ?_; refine VIx.mk (h1.ptr (by omega)) (by omega) (by omega) ?_) | (refine VIx.is ?_; refine VIx.mk rfl (by omega) (by omega) ?_) | (refine VLd.is ?_; refine VLd.mk (Rd.cast (h3.rd0 (by simp) (fun _ => rfl) hk rfl) (by first | omega | (dsimp only; omega) | rfl)) ?_) | (refine VLd.is ?_; refine VLd.mk (Rd.cast (h1.rd0 (by simp) (fun _ => rfl) hq rfl) (by first | omega | (dsimp only; omega) | rfl)) ?_) | (refine VHs.is ?_; refine VHs.mk [.row b2 25 [.slice pn N.ps.length cn, .int .i64 N.inputs, .slice qs N.syns.length cs], .row b7 25 [.slice (some ⟨p1, 0, none⟩) N.ps.length N.ps.length, .int .i64 N.inputs, .slice q1 N.syns.length d1]] aH ?_) | (refine VLd.is ?_; refine VLd.mk (Rd.cast (.vec aT (sub_flat0 (f := bV) (k := 1) (fun _ => rfl) hmt rfl)) (by first | omega | (dsimp only; omega) | rfl)) ?_) | (refine VCall.is ?_; refine VCall.bool (within_net _ _ _) ?_) | (refine VSt.is ?_; refine VSt.cast (off' := k.toNat * 1) (by first | omega | (dsimp only; omega)) (VSt.vec aT (upd_flat0 (f := bV) (k := 1) (y := true) (fun _ => rfl) hmt rfl) rfl ?_)) | (refine VSt.is ?_; refine VSt.cast (off' := k.toNat * 8) (by first | omega | (dsimp only; omega)) (VSt.vec aT (upd_flat0 (f := parV) (k := 8) (y := q) (fun _ => rfl) hzz rfl) rfl ?_)) | (refine VSeq.is ?_; refine VSeq.go ?_) | (refine VB.is ?_; refine VB.yes (by omega) fun _ => ?_) | (refine VB.is ?_; refine VB.no (by omega) fun _ => ?_) | (refine VB.is ?_; refine VB.split (fun _ => ?_) (fun _ => ?_)) | (refine boolE_split (fun h => ?_) (fun h => ?_) <;> subst h) | (refine VLd.is ?_; refine VLd.mk (.row aT (by rfl)) ?_) | (refine VSt.is ?_; refine VSt.row aT (by rfl) (by first | rfl | assumption) ?_) | (refine VNew.is ?_; refine VNew.mk fun _ => ?_) | (refine VAr.is ?_; refine VAr.i64 (by omega) (by omega) ?_) | (refine VIx.is ?_; refine VIx.mk rfl (by omega) (by omega) ?_) | (refine VKeep.is ?_; refine VKeep.mk aH ?_) | (refine VHs.is ?_; refine VHs.mk _ (HLe.refl _) ?_) | (refine VQ.is ?_; refine VQ.pos (by omega) (by omega) (by omega) ?_) | (refine VM.is ?_; refine VM.pos (by omega) (by omega) ?_) | (refine And.intro ?_ ?_)
        all_goals (conv => whnf)
        all_goals
          refine VNext.mk (i + 1) ⟨by omega, by rw [hf, permFrom_next hk hkr hs], ?_⟩ (by omega) aE ?_
          · rw [List.take_add_one, hk, Option.toList_some]
            intro k' hk'
            rcases List.mem_append.1 hk' with h | h
            · exact hr k' h
            · simp only [List.mem_singleton] at h
              subst h
              exact hkr
          · rw [← hput]
            rw [show metL N.ps.length (to.take (i + 1)) = metL N.ps.length (to.take i ++ [k]) by rw [List.take_add_one, hk]; rfl, ← hset]
            exact aH
    · repeat' (conv => whnf); first | (refine VIx.is ?_; refine VIx.mk (h3.ptr (by omega)) (by omega) (by omega) ?_) | (refine VLd.is ?_; refine VLd.mk (Rd.cast (h3.rd0 (by simp) (fun _ => rfl) hk rfl) (by first | omega | (dsimp only; omega) | rfl)) ?_) | (refine VCall.is ?_; refine VCall.bool (within_net _ _ _) ?_) | (refine VSeq.is ?_; refine VSeq.go ?_) | (refine VB.is ?_; refine VB.yes (by omega) fun _ => ?_) | (refine VB.is ?_; refine VB.no (by omega) fun _ => ?_) | (refine VB.is ?_; refine VB.split (fun _ => ?_) (fun _ => ?_)) | (refine boolE_split (fun h => ?_) (fun h => ?_) <;> subst h) | (refine VLd.is ?_; refine VLd.mk (.row aT (by rfl)) ?_) | (refine VSt.is ?_; refine VSt.row aT (by rfl) (by first | rfl | assumption) ?_) | (refine VNew.is ?_; refine VNew.mk fun _ => ?_) | (refine VAr.is ?_; refine VAr.i64 (by omega) (by omega) ?_) | (refine VIx.is ?_; refine VIx.mk rfl (by omega) (by omega) ?_) | (refine VKeep.is ?_; refine VKeep.mk aH ?_) | (refine VHs.is ?_; refine VHs.mk _ (HLe.refl _) ?_) | (refine VQ.is ?_; refine VQ.pos (by omega) (by omega) (by omega) ?_) | (refine VM.is ?_; refine VM.pos (by omega) (by omega) ?_) | (refine And.intro ?_ ?_)
      all_goals (conv => whnf)
      have hp3 : permErr N.ps.length to = 3 := by rw [hpe, hf, permFrom_range hk hkr]
      rw [ren_perm (N := N) (to := to) hz (by omega), hp3]
      exact ⟨fun w' hw' => ⟨((none, 0), (none, 0)), rfl, trivial, hw'.le aH⟩⟩
  · have hp0 : permErr N.ps.length to = 0 := by rw [hpe, hf, List.drop_eq_nil_of_le (by omega)]; rfl
    rw [ren_ok (N := N) (to := to) hz hp0]
    rw [List.take_of_length_le (by omega), List.take_of_length_le (by omega)]
    repeat' (conv => whnf); first | (refine VSeq.is ?_; refine VSeq.go ?_) | (refine VB.is ?_; refine VB.yes (by omega) fun _ => ?_) | (refine VB.is ?_; refine VB.no (by omega) fun _ => ?_) | (refine VB.is ?_; refine VB.split (fun _ => ?_) (fun _ => ?_)) | (refine boolE_split (fun h => ?_) (fun h => ?_) <;> subst h) | (refine VLd.is ?_; refine VLd.mk (.row aT (by rfl)) ?_) | (refine VSt.is ?_; refine VSt.row aT (by rfl) (by first | rfl | assumption) ?_) | (refine VNew.is ?_; refine VNew.mk fun _ => ?_) | (refine VAr.is ?_; refine VAr.i64 (by omega) (by omega) ?_) | (refine VIx.is ?_; refine VIx.mk rfl (by omega) (by omega) ?_) | (refine VKeep.is ?_; refine VKeep.mk aH ?_) | (refine VHs.is ?_; refine VHs.mk _ (HLe.refl _) ?_) | (refine VQ.is ?_; refine VQ.pos (by omega) (by omega) (by omega) ?_) | (refine VM.is ?_; refine VM.pos (by omega) (by omega) ?_) | (refine And.intro ?_ ?_)
    all_goals (conv => whnf)
    have hall : ∀ k ∈ to, 0 ≤ k ∧ k < N.ps.length := by rw [List.take_of_length_le (by omega)] at hr; exact hr
    refine VLoop.kr (α := Nat) [1000000, 1, 4, 5, 7, 76] rfl (fun i => i ≤ N.syns.length) (fun i K => (77, .int .i64 (i : Int)) :: K)
      (fun i => [.row b4 25 [.slice none 0 0, .int .i64 0, .slice none 0 0], .row b7 25 [.slice (some ⟨p1, 0, none⟩) N.ps.length N.ps.length, .int .i64 N.inputs, .slice q1 N.syns.length d1],
        .vec (some ⟨p1, 0, none⟩) N.ps.length N.ps.length 42 8 (flat parV (putAll N.ps.length to N.ps)), .vec q1 N.syns.length d1 96 4 (flat synV (turned (renSyn to) N.syns i))])
      (fun i => N.syns.length - i) 0 (by omega) aE (by rw [turned_zero]; exact aH) ?_
    intro j hj
    rcases Nat.lt_or_ge j N.syns.length with hltj | hgej
    · obtain ⟨s, hs⟩ := h2.get hltj
      have hso := hNok.syns s (List.mem_of_getElem? hs)
      unfold synOk srcOk at hso
      obtain ⟨L, hL⟩ : ∃ L, turned (renSyn to) N.syns j = L := ⟨_, rfl⟩
      have hLj : L[j]? = some s := by rw [← hL]; exact turned_get hs
      have hLl : L.length = N.syns.length := by rw [← hL]; exact turned_length _ _ _
      have hnext := turned_next (f := renSyn to) hs
      rw [hL] at hnext
      obtain ⟨g1, hg1⟩ := hq1 (by omega)
      subst hg1
      obtain ⟨u, hu⟩ : ∃ u, to[s.to.toNat]? = some u := ⟨_, List.getElem?_eq_getElem (by omega)⟩
      have hu' : toAt to s.to = u := by unfold toAt; rw [hu]; rfl
      have h1j : (L.set j ⟨s.frm, u, s.wt, s.dl⟩)[j]? = some ⟨s.frm, u, s.wt, s.dl⟩ := by rw [List.getElem?_set_self (by omega)]
      rw [hL]
      by_cases hfr : 0 ≤ s.frm
      · obtain ⟨v, hv⟩ : ∃ v, to[s.frm.toNat]? = some v := ⟨_, List.getElem?_eq_getElem (by omega)⟩
        have hren : renSyn to s = ⟨v, u, s.wt, s.dl⟩ := by unfold renSyn; rw [if_pos hfr, hu']; unfold toAt; rw [hv]; rfl
        repeat' (conv => whnf); first | (refine VIx.is ?_; refine VIx.mk (h3.ptr (by omega)) (by omega) (by omega) ?_) | (refine VIx.is ?_; refine VIx.mk rfl (by omega) (by omega) ?_) | (refine VLd.is ?_; refine VLd.mk (Rd.cast (h3.rd0 (by simp) (fun _ => rfl) hu rfl) (by first | omega | (dsimp only; omega) | rfl)) ?_) | (refine VLd.is ?_; refine VLd.mk (Rd.cast (h3.rd0 (by simp) (fun _ => rfl) hv rfl) (by first | omega | (dsimp only; omega) | rfl)) ?_) | (refine VLd.is ?_; refine VLd.mk (Rd.cast (.vec aT (sub_flat (f := synV) (k := 4) (o := 1) (s := 1) (fun _ => rfl) hLj rfl)) (by first | omega | (dsimp only; omega) | rfl)) ?_) | (refine VLd.is ?_; refine VLd.mk (Rd.cast (.vec aT (sub_flat (vs := [.int .i64 s.frm]) (f := synV) (k := 4) (o := 0) (s := 1) (fun _ => rfl) h1j rfl)) (by first | omega | (dsimp only; omega) | rfl)) ?_) | (refine VSt.is ?_; refine VSt.cast (off' := j * 4 + 1) (by first | omega | (dsimp only; omega)) (VSt.vec aT (upd_flat (o := 1) (f := synV) (k := 4) (y := ⟨s.frm, u, s.wt, s.dl⟩) (fun _ => rfl) hLj rfl) rfl ?_)) | (refine VSt.is ?_; refine VSt.cast (off' := j * 4 + 0) (by first | omega | (dsimp only; omega)) (VSt.vec aT (upd_flat (o := 0) (f := synV) (k := 4) (y := ⟨v, u, s.wt, s.dl⟩) (fun _ => rfl) h1j rfl) rfl ?_)) | (refine VSeq.is ?_; refine VSeq.go ?_) | (refine VB.is ?_; refine VB.yes (by omega) fun _ => ?_) | (refine VB.is ?_; refine VB.no (by omega) fun _ => ?_) | (refine VB.is ?_; refine VB.split (fun _ => ?_) (fun _ => ?_)) | (refine boolE_split (fun h => ?_) (fun h => ?_) <;> subst h) | (refine VLd.is ?_; refine VLd.mk (.row aT (by rfl)) ?_) | (refine VSt.is ?_; refine VSt.row aT (by rfl) (by first | rfl | assumption) ?_) | (refine VNew.is ?_; refine VNew.mk fun _ => ?_) | (refine VAr.is ?_; refine VAr.i64 (by omega) (by omega) ?_) | (refine VIx.is ?_; refine VIx.mk rfl (by omega) (by omega) ?_) | (refine VKeep.is ?_; refine VKeep.mk aH ?_) | (refine VHs.is ?_; refine VHs.mk _ (HLe.refl _) ?_) | (refine VQ.is ?_; refine VQ.pos (by omega) (by omega) (by omega) ?_) | (refine VM.is ?_; refine VM.pos (by omega) (by omega) ?_) | (refine And.intro ?_ ?_)
        all_goals (conv => whnf)
        refine VNext.mk (j + 1) (by omega) (by omega) aE ?_
        rw [List.set_set, ← hnext, hren]
        exact aH
      · have hren : renSyn to s = ⟨s.frm, u, s.wt, s.dl⟩ := by unfold renSyn; rw [if_neg hfr, hu']
        repeat' (conv => whnf); first | (refine VIx.is ?_; refine VIx.mk (h3.ptr (by omega)) (by omega) (by omega) ?_) | (refine VIx.is ?_; refine VIx.mk rfl (by omega) (by omega) ?_) | (refine VLd.is ?_; refine VLd.mk (Rd.cast (h3.rd0 (by simp) (fun _ => rfl) hu rfl) (by first | omega | (dsimp only; omega) | rfl)) ?_) | (refine VLd.is ?_; refine VLd.mk (Rd.cast (.vec aT (sub_flat (f := synV) (k := 4) (o := 1) (s := 1) (fun _ => rfl) hLj rfl)) (by first | omega | (dsimp only; omega) | rfl)) ?_) | (refine VLd.is ?_; refine VLd.mk (Rd.cast (.vec aT (sub_flat (vs := [.int .i64 s.frm]) (f := synV) (k := 4) (o := 0) (s := 1) (fun _ => rfl) h1j rfl)) (by first | omega | (dsimp only; omega) | rfl)) ?_) | (refine VSt.is ?_; refine VSt.cast (off' := j * 4 + 1) (by first | omega | (dsimp only; omega)) (VSt.vec aT (upd_flat (o := 1) (f := synV) (k := 4) (y := ⟨s.frm, u, s.wt, s.dl⟩) (fun _ => rfl) hLj rfl) rfl ?_)) | (refine VSeq.is ?_; refine VSeq.go ?_) | (refine VB.is ?_; refine VB.yes (by omega) fun _ => ?_) | (refine VB.is ?_; refine VB.no (by omega) fun _ => ?_) | (refine VB.is ?_; refine VB.split (fun _ => ?_) (fun _ => ?_)) | (refine boolE_split (fun h => ?_) (fun h => ?_) <;> subst h) | (refine VLd.is ?_; refine VLd.mk (.row aT (by rfl)) ?_) | (refine VSt.is ?_; refine VSt.row aT (by rfl) (by first | rfl | assumption) ?_) | (refine VNew.is ?_; refine VNew.mk fun _ => ?_) | (refine VAr.is ?_; refine VAr.i64 (by omega) (by omega) ?_) | (refine VIx.is ?_; refine VIx.mk rfl (by omega) (by omega) ?_) | (refine VKeep.is ?_; refine VKeep.mk aH ?_) | (refine VHs.is ?_; refine VHs.mk _ (HLe.refl _) ?_) | (refine VQ.is ?_; refine VQ.pos (by omega) (by omega) (by omega) ?_) | (refine VM.is ?_; refine VM.pos (by omega) (by omega) ?_) | (refine And.intro ?_ ?_)
        all_goals (conv => whnf)
        refine VNext.mk (j + 1) (by omega) (by omega) aE ?_
        rw [← hnext, hren]
        exact aH
    · rw [turned_all _ hgej]
      repeat' (conv => whnf); first | (refine VSeq.is ?_; refine VSeq.go ?_) | (refine VB.is ?_; refine VB.yes (by omega) fun _ => ?_) | (refine VB.is ?_; refine VB.no (by omega) fun _ => ?_) | (refine VB.is ?_; refine VB.split (fun _ => ?_) (fun _ => ?_)) | (refine boolE_split (fun h => ?_) (fun h => ?_) <;> subst h) | (refine VLd.is ?_; refine VLd.mk (.row aT (by rfl)) ?_) | (refine VSt.is ?_; refine VSt.row aT (by rfl) (by first | rfl | assumption) ?_) | (refine VNew.is ?_; refine VNew.mk fun _ => ?_) | (refine VAr.is ?_; refine VAr.i64 (by omega) (by omega) ?_) | (refine VIx.is ?_; refine VIx.mk rfl (by omega) (by omega) ?_) | (refine VKeep.is ?_; refine VKeep.mk aH ?_) | (refine VHs.is ?_; refine VHs.mk _ (HLe.refl _) ?_) | (refine VQ.is ?_; refine VQ.pos (by omega) (by omega) (by omega) ?_) | (refine VM.is ?_; refine VM.pos (by omega) (by omega) ?_) | (refine And.intro ?_ ?_)
      all_goals (conv => whnf)
      have e1 : (renNet N to).ps.length = N.ps.length := putAll_length _ _ _
      have e2 : (renNet N to).syns.length = N.syns.length := by simp [renNet]
      dsimp only
      rw [e1, e2]
      exact ⟨fun w' hw' => ⟨((some ⟨p1, 0, none⟩, N.ps.length), (q1, d1)), rfl, trivial, hw'.le aH⟩⟩

end Go.Proofs
