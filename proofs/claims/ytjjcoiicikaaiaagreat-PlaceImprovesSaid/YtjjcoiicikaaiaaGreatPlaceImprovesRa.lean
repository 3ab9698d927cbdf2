import Derived.Test.YtjjcoiicikaaiaaGreatPlaceImprovesNa
section

set_option linter.unusedVariables false

namespace Go.Proofs

open Go Go.Vx Go.Gm

theorem refCheck_any (p : Par) (hp : p.wf) (w : World) :
    Calls Tryz.prog 103 #[.agg (parV p).toArray] w fun e w' => e = .returned (.int .i64 (chk p)) ∧ St w [] [] w' := by
  obtain ⟨h1, h2, h3, h4, h5, h6, h7, h8⟩ := hp
  unfold I64 at *
  refine enter (C := Tryz.cx) (F := Tryz.fx103) (args := [_]) Tryz.func103 rfl rfl rfl Tryz.ok103 (St.start w []) ?_
  repeat' (conv => whnf); first | (refine VNew.mk fun b1 => ?_) | (refine VCall.is ?_; refine VCall.bool (within_ref _ _ _) ?_) | (refine VSeq.is ?_; refine VSeq.cut (at_ := 4) (α := Bool) (fun b => b = true ↔ p.lv = 0) (fun b => [(1000000, .tuple #[]), (1, .pointer (some ⟨b1, 0, none⟩)), (3, .bool b)]) (fun _ => [.row b1 74 (parV p)]) ?_ ?_) | (refine VSeq.go ?_) | (refine VB.is ?_; refine VB.yes (by omega) fun _ => ?_) | (refine VB.is ?_; refine VB.no (by omega) fun _ => ?_) | (refine VB.split (fun _ => ?_) (fun _ => ?_)) | (refine boolE_split (fun h => ?_) (fun h => ?_) <;> subst h) | (refine VLd.is ?_; refine VLd.mk (.row aT (by rfl)) ?_) | (refine VSt.is ?_; refine VSt.row aT (by rfl) (by first | rfl | assumption) ?_) | (refine VNew.mk fun _ => ?_) | (refine VAr.is ?_; refine oA ?_) | (refine VIx.is ?_; refine VIx.mk rfl (by omega) (by omega) ?_) | (refine VKeep.is ?_; refine VKeep.mk aH ?_) | (refine VHs.mk _ (.refl _) ?_) | (refine VQ.is ?_; refine oQ ?_) | (refine VM.is ?_; refine oM ?_) | (refine And.intro ?_ ?_)
  all_goals (conv => whnf)
  all_goals first
    | exact ⟨fun w' hw' => ⟨by rw [chk_two (by unfold kindsOk; omega)]; rfl, hw'.le .nil⟩⟩
    | (refine VMid.mk _ ?_ aE aH; simp only [eq_self, true_iff, false_iff, Bool.false_eq_true]; assumption)
    | skip
  intro bz hbz
  repeat' (conv => whnf); first | (refine VCall.is ?_; refine VCall.bool (within_ref _ _ _) ?_) | (refine VSeq.is ?_; refine VSeq.cut (at_ := 9) (α := Bool) (fun b => b = true ↔ leakOk p) (fun b => [(1000000, .tuple #[]), (1, .pointer (some ⟨b1, 0, none⟩)), (3, .bool b)]) (fun _ => [.row b1 74 (parV p)]) ?_ ?_) | (refine VSeq.go ?_) | (refine VB.is ?_; refine VB.yes (by omega) fun _ => ?_) | (refine VB.is ?_; refine VB.no (by omega) fun _ => ?_) | (refine VB.split (fun _ => ?_) (fun _ => ?_)) | (refine boolE_split (fun h => ?_) (fun h => ?_) <;> subst h) | (refine VLd.is ?_; refine VLd.mk (.row aT (by rfl)) ?_) | (refine VSt.is ?_; refine VSt.row aT (by rfl) (by first | rfl | assumption) ?_) | (refine VNew.mk fun _ => ?_) | (refine VAr.is ?_; refine oA ?_) | (refine VIx.is ?_; refine VIx.mk rfl (by omega) (by omega) ?_) | (refine VKeep.is ?_; refine VKeep.mk aH ?_) | (refine VHs.mk _ (.refl _) ?_) | (refine VQ.is ?_; refine oQ ?_) | (refine VM.is ?_; refine oM ?_) | (refine And.intro ?_ ?_)
  all_goals (conv => whnf)
  all_goals first
    | (refine VMid.mk _ ?_ aE aH; unfold leakOk; simp only [eq_self, true_iff, false_iff, Bool.false_eq_true, hbz]; omega)
    | skip
  intro bl hbl
  repeat' (conv => whnf); first | (refine VCall.is ?_; refine VCall.bool (within_ref _ _ _) ?_) | (refine VSeq.is ?_; refine VSeq.cut (at_ := 10) (α := Bool) (fun b => b = true ↔ ((-1048576 ≤ p.bias ∧ p.bias ≤ 1048576) ∧ (-1048576 ≤ p.fl ∧ p.fl ≤ 0) ∧ (1 ≤ p.th ∧ p.th ≤ 1048576) ∧ (0 ≤ p.rest ∧ p.rest ≤ 64))) (fun b => [(1000000, .tuple #[]), (1, .pointer (some ⟨b1, 0, none⟩)), (3, .bool bl), (4, .bool b)]) (fun _ => [.row b1 74 (parV p)]) ?_ ?_) | (refine VSeq.go ?_) | (refine VB.is ?_; refine VB.yes (by omega) fun _ => ?_) | (refine VB.is ?_; refine VB.no (by omega) fun _ => ?_) | (refine VB.split (fun _ => ?_) (fun _ => ?_)) | (refine boolE_split (fun h => ?_) (fun h => ?_) <;> subst h) | (refine VLd.is ?_; refine VLd.mk (.row aT (by rfl)) ?_) | (refine VSt.is ?_; refine VSt.row aT (by rfl) (by first | rfl | assumption) ?_) | (refine VNew.mk fun _ => ?_) | (refine VAr.is ?_; refine oA ?_) | (refine VIx.is ?_; refine VIx.mk rfl (by omega) (by omega) ?_) | (refine VKeep.is ?_; refine VKeep.mk aH ?_) | (refine VHs.mk _ (.refl _) ?_) | (refine VQ.is ?_; refine oQ ?_) | (refine VM.is ?_; refine oM ?_) | (refine And.intro ?_ ?_)
  all_goals (conv => whnf)
  all_goals first
    | (refine VMid.mk _ ?_ aE aH; simp only [eq_self, true_iff, false_iff, Bool.false_eq_true]; omega)
    | skip
  intro bo hbo
  clear hbz
  cases bo <;> simp only [eq_self, true_iff, false_iff, Bool.false_eq_true] at hbo
  · repeat' (conv => whnf); first | (refine VCall.is ?_; refine VCall.bool (within_ref _ _ _) ?_) | (refine VAr.is ?_; refine VAr.any fun _ _ => ?_) | (refine VSeq.go ?_) | (refine VB.split (fun _ => ?_) (fun _ => ?_)) | (refine boolE_split (fun h => ?_) (fun h => ?_) <;> subst h) | (refine VLd.is ?_; refine VLd.mk (.row aT (by rfl)) ?_)
    all_goals (conv => whnf)
    all_goals refine ⟨fun w' hw' => ⟨?_, hw'.le .nil⟩⟩
    all_goals (rw [chk_three (by unfold kindsOk; omega) (by unfold rangeOk; omega)]; rfl)
  · repeat' (conv => whnf); first | (refine VCall.is ?_; refine VCall.bool (within_ref _ _ _) ?_) | (refine VSeq.go ?_) | (refine VB.is ?_; refine VB.yes (by omega) fun _ => ?_) | (refine VB.split (fun _ => ?_) (fun _ => ?_)) | (refine boolE_split (fun h => ?_) (fun h => ?_) <;> subst h) | (refine VLd.is ?_; refine VLd.mk (.row aT (by rfl)) ?_) | (refine VAr.is ?_; refine oA ?_)
    all_goals (conv => whnf)
    all_goals refine ⟨fun w' hw' => ⟨?_, hw'.le .nil⟩⟩
    all_goals simp only [eq_self, true_iff, false_iff, Bool.false_eq_true] at hbl
    all_goals first
      | (rw [chk_three (by unfold kindsOk; omega) (fun h => hbl h.1)]; rfl)
      | (rw [chk_three (by unfold kindsOk; omega) (by unfold rangeOk; omega)]; rfl)
      | (rw [chk_zero (by unfold kindsOk; omega) ⟨hbl, by omega⟩]; rfl)

theorem refSource_any (N : Net) (hi : 0 ≤ N.inputs ∧ N.inputs ≤ 256) (hl : N.ps.length ≤ 1024) (pn : Option Addr) (cn : Nat) (sv : Value) (k : Int) (w : World) :
    Calls Tryz.prog 104 #[.agg #[.slice pn N.ps.length cn, .int .i64 N.inputs, sv], .int .i64 k] w fun e w' => ∃ b : Bool, e = .returned (.bool b) ∧ (b = true ↔ srcOk N k) ∧ St w [] [] w' := by
  refine enter (C := Tryz.cx) (F := Tryz.fx104) (args := [_, _]) Tryz.func104 rfl rfl rfl Tryz.ok104 (St.start w []) ?_
  repeat' (conv => whnf); first | (refine VSeq.go ?_) | (refine VB.is ?_; refine VB.no (by omega) fun _ => ?_) | (refine VB.split (fun _ => ?_) (fun _ => ?_)) | (refine VLd.is ?_; refine VLd.mk (.row aT (by rfl)) ?_) | (refine VNew.mk fun _ => ?_) | (refine VAr.is ?_; refine oA ?_)
  all_goals (conv => whnf)
  all_goals exact ⟨fun w' hw' => ⟨_, rfl, by unfold srcOk; simp; omega, hw'.le .nil⟩⟩

theorem refNetCheck_any (N : Net) (hN : N.wf) (pn : Option Addr) (cn bn on : Nat) (qs : Option Addr) (cs bs os : Nat) (w : World) (h1 : Sl w parV 8 N.ps pn N.ps.length bn on) (h2 : Sl w synV 4 N.syns qs N.syns.length bs os) :
    Calls Tryz.prog 58 #[.agg #[.slice pn N.ps.length cn, .int .i64 N.inputs, .slice qs N.syns.length cs]] w fun e w' => e = .returned (.int .i64 (netchk N)) ∧ St w [] [] w' := by
  have hin := hN.inputs
  unfold I64 at hin
  refine enter (C := Tryz.cx) (F := Tryz.fx58) (args := [_]) Tryz.func58 rfl rfl rfl Tryz.ok58 (St.start w []) ?_
  repeat' (conv => whnf); first | (refine VNew.mk fun b1 => ?_) | (refine VSeq.go ?_) | (refine VB.split (fun _ => ?_) (fun _ => ?_)) | (refine VLd.is ?_; refine VLd.mk (.row aT (by rfl)) ?_)
  all_goals (conv => whnf)
  · exact ⟨fun w' hw' => ⟨by rw [netchk_arg (by omega)]; rfl, hw'.le .nil⟩⟩
  · exact ⟨fun w' hw' => ⟨by rw [netchk_many (by omega) (by omega)]; rfl, hw'.le .nil⟩⟩
  · exact ⟨fun w' hw' => ⟨by rw [netchk_many (by omega) (by omega)]; rfl, hw'.le .nil⟩⟩
  · exact ⟨fun w' hw' => ⟨by rw [netchk_many (by omega) (by omega)]; rfl, hw'.le .nil⟩⟩
  · exact ⟨fun w' hw' => ⟨by rw [netchk_range (by omega) (by omega) (by omega)]; rfl, hw'.le .nil⟩⟩
  refine VLoop.mk (α := Nat) (fun i => i ≤ N.ps.length ∧ firstErr N.ps = firstErr (N.ps.drop i))
    (fun i => [(1000000, .tuple #[]), (1, .pointer (some ⟨b1, 0, none⟩)), (3, .int .i64 (i : Int))])
    (fun _ => [.row b1 39 [.slice pn N.ps.length cn, .int .i64 N.inputs, .slice qs N.syns.length cs]]) (fun i => N.ps.length - i) 0 ⟨by omega, rfl⟩ aE aH ?_
  rintro i ⟨hi, hf⟩
  rcases Nat.lt_or_ge i N.ps.length with hlt | hge
  · obtain ⟨p, hp⟩ := h1.get hlt
    have hwf := hN.ps p (List.mem_of_getElem? hp)
    repeat' (conv => whnf); first | (refine VIx.is ?_; refine VIx.mk (h1.ptr (by omega)) (by omega) (by omega) ?_) | (refine VLd.is ?_; refine VLd.mk (h1.rd0 (by simp) (fun _ => rfl) hp rfl) ?_) | (refine VCall.is ?_; refine VCall.val (refCheck_any p hwf) ?_) | (refine VSeq.go ?_) | (refine VB.is ?_; refine VB.yes (by omega) fun _ => ?_) | (refine VB.split (fun _ => ?_) (fun _ => ?_)) | (refine VLd.is ?_; refine VLd.mk (.row aT (by rfl)) ?_) | (refine VAr.is ?_; refine oA ?_)
    all_goals (conv => whnf)
    · have := firstErr_err hp ‹_›
      exact ⟨fun w' hw' => ⟨by rw [netchk_par (by omega) (by omega) (by omega) (by rw [hf, this]; assumption), hf, this]; rfl, hw'.le .nil⟩⟩
    · refine VNext.mk (i + 1) ⟨by omega, ?_⟩ (by omega) aE aH
      rw [hf, firstErr_drop hp (by omega)]
  · have hf0 : firstErr N.ps = 0 := by rw [hf, List.drop_eq_nil_of_le hge]; rfl
    repeat' (conv => whnf); first | (refine VSeq.go ?_) | (refine VB.is ?_; refine VB.no (by omega) fun _ => ?_) | (refine VB.split (fun _ => ?_) (fun _ => ?_)) | (refine VLd.is ?_; refine VLd.mk (.row aT (by rfl)) ?_) | (refine VNew.mk fun _ => ?_) | (refine VAr.is ?_; refine oA ?_)
    all_goals (conv => whnf)
    refine VLoop.mk (α := Nat) (fun i => i ≤ N.syns.length ∧ synsOk N N.syns = synsOk N (N.syns.drop i))
      (fun i => [(1000000, .tuple #[]), (1, .pointer (some ⟨b1, 0, none⟩)), (5, .int .i64 (i : Int))])
      (fun _ => [.row b1 39 [.slice pn N.ps.length cn, .int .i64 N.inputs, .slice qs N.syns.length cs]]) (fun i => N.syns.length - i) 0 ⟨by omega, rfl⟩ aE aH ?_
    rintro j ⟨hj, hg⟩
    rcases Nat.lt_or_ge j N.syns.length with hlt | hge
    · obtain ⟨s, hs⟩ := h2.get hlt
      have hwf := hN.syns s (List.mem_of_getElem? hs)
      unfold Syn.wf I64 at hwf
      repeat' (conv => whnf); first | (refine VIx.is ?_; refine VIx.mk (h2.ptr (by omega)) (by omega) (by omega) ?_) | (refine VLd.is ?_; refine VLd.mk (h2.rd0 (by simp) (fun _ => rfl) hs rfl) ?_) | (refine VCall.is ?_; refine VCall.bool (refSource_any N (by omega) (by omega) _ _ _ _) ?_) | (refine VSeq.go ?_) | (refine VB.is ?_; refine VB.yes (by omega) fun _ => ?_) | (refine VB.split (fun _ => ?_) (fun _ => ?_)) | (refine VLd.is ?_; refine VLd.mk (.row aT (by rfl)) ?_) | (refine VSt.is ?_; refine VSt.row aT (by rfl) (by first | rfl | assumption) ?_) | (refine VNew.mk fun _ => ?_) | (refine VAr.is ?_; refine oA ?_)
      all_goals (conv => whnf)
      all_goals first
        | exact ⟨fun w' hw' => ⟨by rw [netchk_syn (by omega) (by omega) (by omega) hf0, hg, synsOk_not hs (by simp only [synOk, srcOk] at *; omega)]; rfl, hw'.le .nil⟩⟩
        | (refine VNext.mk (j + 1) ⟨by omega, ?_⟩ (by omega) aE aH
           rw [hg, synsOk_drop hs (by simp only [synOk, srcOk] at *; omega)])
    · repeat' (conv => whnf); first | (refine VSeq.go ?_) | (refine VB.is ?_; refine VB.no (by omega) fun _ => ?_) | (refine VLd.is ?_; refine VLd.mk (.row aT (by rfl)) ?_)
      all_goals (conv => whnf)
      exact ⟨fun w' hw' => ⟨by rw [netchk_syn (by omega) (by omega) (by omega) hf0, hg, List.drop_eq_nil_of_le hge]; rfl, hw'.le .nil⟩⟩

end Go.Proofs

end

section

set_option linter.unusedVariables false

set_option linter.unusedSimpArgs false

namespace Go.Proofs

open Go Go.Vx Go.Gm

end Go.Proofs

end
