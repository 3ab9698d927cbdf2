import Derived.Test.YtephkjicokbckaaGreatDoorVerifyRobustsNa
import Derived.Test.YtephkjicokbckaaGreatDoorVerifyRobustsVb
section
section

set_option linter.unusedVariables false

namespace Go.Proofs

open Go Go.Vx Go.Gm

theorem refCheck_any (p : Par) (hp : p.wf) (w : World) :
    Calls Tryz.prog 134 #[.agg (parV p).toArray] w fun e w' => e = .returned (.int .i64 (chk p)) ∧ St w [] [] w' := by
  obtain ⟨h1, h2, h3, h4, h5, h6, h7, h8⟩ := hp
  unfold I64 at *
  refine enter (C := Tryz.cx) (F := Tryz.fx134) (args := [_]) Tryz.func134 rfl rfl rfl Tryz.ok134 (St.start w []) ?_
  repeat' (conv => whnf); first | (refine VNew.mk fun b1 => ?_) | (refine VCall.is ?_; refine VCall.bool (within_ref _ _ _) ?_) | (refine VSeq.is ?_; refine VSeq.cut (at_ := 4) (α := Bool) (fun b => b = true ↔ p.lv = 0) (fun b => [(1000000, .tuple #[]), (1, .pointer (some ⟨b1, 0, none⟩)), (3, .bool b)]) (fun _ => [.row b1 136 (parV p)]) ?_ ?_) | (refine VSeq.go ?_) | (refine VB.split (fun _ => ?_) (fun _ => ?_)) | (refine VLd.is ?_; refine VLd.mk (.row aT (by rfl)) ?_)
  all_goals (conv => whnf)
  all_goals first
    | exact ⟨fun w' hw' => ⟨by rw [chk_two (by unfold kindsOk; omega)]; rfl, hw'.le .nil⟩⟩
    | (refine VMid.mk _ ?_ aE aH; simp only [eq_self, true_iff, false_iff, Bool.false_eq_true]; assumption)
    | skip
  intro bz hbz
  repeat' (conv => whnf); first | (refine VCall.is ?_; refine VCall.bool (within_ref _ _ _) ?_) | (refine VSeq.is ?_; refine VSeq.cut (at_ := 9) (α := Bool) (fun b => b = true ↔ leakOk p) (fun b => [(1000000, .tuple #[]), (1, .pointer (some ⟨b1, 0, none⟩)), (3, .bool b)]) (fun _ => [.row b1 136 (parV p)]) ?_ ?_) | (refine VSeq.go ?_) | (refine VB.split (fun _ => ?_) (fun _ => ?_)) | (refine VLd.is ?_; refine VLd.mk (.row aT (by rfl)) ?_)
  all_goals (conv => whnf)
  all_goals first
    | (refine VMid.mk _ ?_ aE aH; unfold leakOk; simp only [eq_self, true_iff, false_iff, Bool.false_eq_true, hbz]; omega)
    | skip
  intro bl hbl
  repeat' (conv => whnf); first | (refine VCall.is ?_; refine VCall.bool (within_ref _ _ _) ?_) | (refine VSeq.is ?_; refine VSeq.cut (at_ := 10) (α := Bool) (fun b => b = true ↔ ((-1048576 ≤ p.bias ∧ p.bias ≤ 1048576) ∧ (-1048576 ≤ p.fl ∧ p.fl ≤ 0) ∧ (1 ≤ p.th ∧ p.th ≤ 1048576) ∧ (0 ≤ p.rest ∧ p.rest ≤ 64))) (fun b => [(1000000, .tuple #[]), (1, .pointer (some ⟨b1, 0, none⟩)), (3, .bool bl), (4, .bool b)]) (fun _ => [.row b1 136 (parV p)]) ?_ ?_) | (refine VB.split (fun _ => ?_) (fun _ => ?_)) | (refine VLd.is ?_; refine VLd.mk (.row aT (by rfl)) ?_)
  all_goals (conv => whnf)
  all_goals first
    | (refine VMid.mk _ ?_ aE aH; simp only [eq_self, true_iff, false_iff, Bool.false_eq_true]; omega)
    | skip
  intro bo hbo
  clear hbz
  cases bo <;> simp only [eq_self, true_iff, false_iff, Bool.false_eq_true] at hbo
  · repeat' (conv => whnf); first | (refine VCall.is ?_; refine VCall.bool (within_ref _ _ _) ?_) | (refine VAr.is ?_; refine VAr.any fun _ _ => ?_) | (refine VSeq.go ?_) | (refine VB.split (fun _ => ?_) (fun _ => ?_)) | (refine boolE_split (fun h => ?_) (fun h => ?_) <;> subst h) | (refine VLd.is ?_; refine VLd.mk (.row aT (by rfl)) ?_)
    all_goals (conv => whnf)
    all_goals refine ⟨fun w' hw' => ⟨?_, hw'.le .nil⟩⟩
    all_goals (rw [chk_three (by unfold kindsOk; omega) (by unfold rangeOk; omega)]; rfl)
  · repeat' (conv => whnf); first | (refine VCall.is ?_; refine VCall.bool (within_ref _ _ _) ?_) | (refine VSeq.go ?_) | (refine VB.is ?_; refine VB.yes (by omega) fun _ => ?_) | (refine VB.split (fun _ => ?_) (fun _ => ?_)) | (refine boolE_split (fun h => ?_) (fun h => ?_) <;> subst h) | (refine VLd.is ?_; refine VLd.mk (.row aT (by rfl)) ?_) | (refine VAr.is ?_; refine oA ?_)
    all_goals (conv => whnf)
    all_goals refine ⟨fun w' hw' => ⟨?_, hw'.le .nil⟩⟩
    all_goals simp only [eq_self, true_iff, false_iff, Bool.false_eq_true] at hbl
    all_goals first
      | (rw [chk_three (by unfold kindsOk; omega) (fun h => hbl h.1)]; rfl)
      | (rw [chk_three (by unfold kindsOk; omega) (by unfold rangeOk; omega)]; rfl)
      | (rw [chk_zero (by unfold kindsOk; omega) ⟨hbl, by omega⟩]; rfl)

theorem refLeak_any (p : Par) (hp : ParOk p) (v : Int) (h1 : -1048576 ≤ v) (h2 : v ≤ 1048576) (w : World) :
    Calls Tryz.prog 175 #[.agg (parV p).toArray, .int .i64 v] w fun e w' => e = .returned (.int .i64 (leak p v)) ∧ St w [] [] w' := by
  have hl := hp.leak
  unfold leakOk at hl
  have hm : p.lk = 2 → _ := fun hk => share_bounds hp hk h1 h2
  have hd := tdiv_bounds (a := v * p.lv) (b := 256)
  refine enter (C := Tryz.cx) (F := Tryz.fx175) (args := [_, _]) Tryz.func175 rfl rfl rfl Tryz.ok175 (St.start w []) ?_
  repeat' (conv => whnf); first | (refine VQ.is ?_; refine VQ.any (by omega) (by omega) (by omega) ?_) | (refine VSeq.go ?_) | (refine VB.split (fun _ => ?_) (fun _ => ?_)) | (refine VLd.is ?_; refine VLd.mk (.row aT (by rfl)) ?_) | (refine VNew.mk fun _ => ?_) | (refine VAr.is ?_; refine oA ?_)
  all_goals (conv => whnf)
  all_goals refine ⟨fun w' hw' => ⟨?_, hw'.le .nil⟩⟩
  all_goals refine congrArg (fun x => Ending.returned (.int .i64 x)) ?_
  all_goals unfold leak
  all_goals (repeat' split) <;> first | rfl | omega

theorem refGo_any (p : Par) (s : Sta) (x : Int) (hp : ParOk p) (hs : staOk p s) (w : World) :
    Calls Tryz.prog 138 #[.agg (parV p).toArray, .agg (staV s).toArray, .int .i64 x] w fun e w' => e = .returned (.tuple #[.agg (staV (tick p s x).1).toArray, .bool (tick p s x).2]) ∧ St w [] [] w' := by
  have hv1 : -1048576 ≤ s.v := by have := hp.fl; have := hs.1; omega
  have hv2 : s.v ≤ 1048576 := hs.1.2
  have hb := leak_bounds hp (v := s.v) hv1 hv2
  have hbias := hp.bias
  have hth := hp.th
  have hfl := hp.fl
  have hr := hs.2
  have hrest := hp.rest
  have hrk := hp.rk
  have hV : vnext p s x = max p.fl (min 1048576 (leak p s.v + max (-4194304) (min 4194304 x) + p.bias)) := by unfold vnext; congr 2; omega
  refine enter (C := Tryz.cx) (F := Tryz.fx138) (args := [_, _, _]) Tryz.func138 rfl rfl rfl Tryz.ok138 (St.start w []) ?_
  repeat' (conv => whnf); first | (refine VCall.is ?_; refine VCall.val (refLeak_any p hp _ hv1 hv2) ?_) | (refine VSeq.go ?_) | (refine VB.split (fun _ => ?_) (fun _ => ?_)) | (refine VLd.is ?_; refine VLd.mk (.row aT (by rfl)) ?_) | (refine VSt.is ?_; refine VSt.row aT (by rfl) (by first | rfl | assumption) ?_) | (refine VNew.mk fun _ => ?_) | (refine VAr.is ?_; refine oA ?_) | (refine VKeep.is ?_; refine VKeep.mk aH ?_) | (refine VHs.mk _ (.refl _) ?_)
  all_goals (conv => whnf)
  · rw [tick_rest ‹_›]; exact ⟨fun w' hw' => ⟨rfl, hw'.le .nil⟩⟩
  · rw [tick_low hV ‹_› ‹_›, show s.rest = 0 by omega]; exact ⟨fun w' hw' => ⟨rfl, hw'.le .nil⟩⟩
  · rw [tick_to hV ‹_› ‹_› (by omega)]; exact ⟨fun w' hw' => ⟨rfl, hw'.le .nil⟩⟩
  · rw [tick_sub hV ‹_› ‹_› (by omega)]; exact ⟨fun w' hw' => ⟨rfl, hw'.le .nil⟩⟩

theorem refSource_any (N : Net) (hi : 0 ≤ N.inputs ∧ N.inputs ≤ 256) (hl : N.ps.length ≤ 1024) (pn : Option Addr) (cn : Nat) (sv : Value) (k : Int) (w : World) :
    Calls Tryz.prog 135 #[.agg #[.slice pn N.ps.length cn, .int .i64 N.inputs, sv], .int .i64 k] w fun e w' => ∃ b : Bool, e = .returned (.bool b) ∧ (b = true ↔ srcOk N k) ∧ St w [] [] w' := by
  refine enter (C := Tryz.cx) (F := Tryz.fx135) (args := [_, _]) Tryz.func135 rfl rfl rfl Tryz.ok135 (St.start w []) ?_
  repeat' (conv => whnf); first | (refine VSeq.go ?_) | (refine VB.is ?_; refine VB.no (by omega) fun _ => ?_) | (refine VB.split (fun _ => ?_) (fun _ => ?_)) | (refine VLd.is ?_; refine VLd.mk (.row aT (by rfl)) ?_) | (refine VNew.mk fun _ => ?_) | (refine VAr.is ?_; refine oA ?_)
  all_goals (conv => whnf)
  all_goals exact ⟨fun w' hw' => ⟨_, rfl, by unfold srcOk; simp; omega, hw'.le .nil⟩⟩

theorem refNetCheck_any (N : Net) (hN : N.wf) (pn : Option Addr) (cn bn on : Nat) (qs : Option Addr) (cs bs os : Nat) (w : World) (h1 : Sl w parV 8 N.ps pn N.ps.length bn on) (h2 : Sl w synV 4 N.syns qs N.syns.length bs os) :
    Calls Tryz.prog 63 #[.agg #[.slice pn N.ps.length cn, .int .i64 N.inputs, .slice qs N.syns.length cs]] w fun e w' => e = .returned (.int .i64 (netchk N)) ∧ St w [] [] w' := by
  have hin := hN.inputs
  unfold I64 at hin
  refine enter (C := Tryz.cx) (F := Tryz.fx63) (args := [_]) Tryz.func63 rfl rfl rfl Tryz.ok63 (St.start w []) ?_
  repeat' (conv => whnf); first | (refine VNew.mk fun b1 => ?_) | (refine VSeq.go ?_) | (refine VB.split (fun _ => ?_) (fun _ => ?_)) | (refine VLd.is ?_; refine VLd.mk (.row aT (by rfl)) ?_)
  all_goals (conv => whnf)
  · exact ⟨fun w' hw' => ⟨by rw [netchk_arg (by omega)]; rfl, hw'.le .nil⟩⟩
  · exact ⟨fun w' hw' => ⟨by rw [netchk_many (by omega) (by omega)]; rfl, hw'.le .nil⟩⟩
  · exact ⟨fun w' hw' => ⟨by rw [netchk_many (by omega) (by omega)]; rfl, hw'.le .nil⟩⟩
  · exact ⟨fun w' hw' => ⟨by rw [netchk_many (by omega) (by omega)]; rfl, hw'.le .nil⟩⟩
  · exact ⟨fun w' hw' => ⟨by rw [netchk_range (by omega) (by omega) (by omega)]; rfl, hw'.le .nil⟩⟩
  refine VLoop.mk (α := Nat) (fun i => i ≤ N.ps.length ∧ firstErr N.ps = firstErr (N.ps.drop i))
    (fun i => [(1000000, .tuple #[]), (1, .pointer (some ⟨b1, 0, none⟩)), (3, .int .i64 (i : Int))])
    (fun _ => [.row b1 25 [.slice pn N.ps.length cn, .int .i64 N.inputs, .slice qs N.syns.length cs]]) (fun i => N.ps.length - i) 0 ⟨by omega, rfl⟩ aE aH ?_
  rintro i ⟨hi, hf⟩
  rcases Nat.lt_or_ge i N.ps.length with hlt | hge
  · obtain ⟨p, hp⟩ := h1.get hlt
    have hwf := hN.ps p (List.mem_of_getElem? hp)
    repeat' (conv => whnf); first | (refine VIx.is ?_; refine VIx.mk (h1.ptr (by omega)) (by omega) (by omega) ?_) | (refine VLd.is ?_; refine VLd.mk (h1.rd0 (by simp) (fun _ => rfl) hp rfl) ?_) | (refine VCall.is ?_; refine VCall.val (refCheck_any p hwf) ?_) | (refine VSeq.go ?_) | (refine VB.is ?_; refine VB.yes (by omega) fun _ => ?_) | (refine VB.split (fun _ => ?_) (fun _ => ?_)) | (refine VLd.is ?_; refine VLd.mk (.row aT (by rfl)) ?_) | (refine VAr.is ?_; refine oA ?_)
    all_goals (conv => whnf)
    · have := firstErr_err hp ‹_›
      exact ⟨fun w' hw' => ⟨by rw [netchk_par (by omega) (by omega) (by omega) (by rw [hf, this]; assumption), hf, this]; rfl, hw'.le .nil⟩⟩
    · refine VNext.mk (i + 1) ⟨by omega, ?_⟩ (by omega) aE aH
      rw [hf, firstErr_drop hp (by omega)]
  · have hf0 : firstErr N.ps = 0 := by rw [hf, List.drop_eq_nil_of_le hge]; rfl
    repeat' (conv => whnf); first | (refine VSeq.go ?_) | (refine VB.is ?_; refine VB.no (by omega) fun _ => ?_) | (refine VB.split (fun _ => ?_) (fun _ => ?_)) | (refine VLd.is ?_; refine VLd.mk (.row aT (by rfl)) ?_) | (refine VNew.mk fun _ => ?_) | (refine VAr.is ?_; refine oA ?_)
    all_goals (conv => whnf)
    refine VLoop.mk (α := Nat) (fun i => i ≤ N.syns.length ∧ synsOk N N.syns = synsOk N (N.syns.drop i))
      (fun i => [(1000000, .tuple #[]), (1, .pointer (some ⟨b1, 0, none⟩)), (5, .int .i64 (i : Int))])
      (fun _ => [.row b1 25 [.slice pn N.ps.length cn, .int .i64 N.inputs, .slice qs N.syns.length cs]]) (fun i => N.syns.length - i) 0 ⟨by omega, rfl⟩ aE aH ?_
    rintro j ⟨hj, hg⟩
    rcases Nat.lt_or_ge j N.syns.length with hlt | hge
    · obtain ⟨s, hs⟩ := h2.get hlt
      have hwf := hN.syns s (List.mem_of_getElem? hs)
      unfold Syn.wf I64 at hwf
      repeat' (conv => whnf); first | (refine VIx.is ?_; refine VIx.mk (h2.ptr (by omega)) (by omega) (by omega) ?_) | (refine VLd.is ?_; refine VLd.mk (h2.rd0 (by simp) (fun _ => rfl) hs rfl) ?_) | (refine VCall.is ?_; refine VCall.bool (refSource_any N (by omega) (by omega) _ _ _ _) ?_) | (refine VSeq.go ?_) | (refine VB.is ?_; refine VB.yes (by omega) fun _ => ?_) | (refine VB.split (fun _ => ?_) (fun _ => ?_)) | (refine VLd.is ?_; refine VLd.mk (.row aT (by rfl)) ?_) | (refine VSt.is ?_; refine VSt.row aT (by rfl) (by first | rfl | assumption) ?_) | (refine VNew.mk fun _ => ?_) | (refine VAr.is ?_; refine oA ?_)
      all_goals (conv => whnf)
      all_goals first
        | exact ⟨fun w' hw' => ⟨by rw [netchk_syn (by omega) (by omega) (by omega) hf0, hg, synsOk_not hs (by simp only [synOk, srcOk] at *; omega)]; rfl, hw'.le .nil⟩⟩
        | (refine VNext.mk (j + 1) ⟨by omega, ?_⟩ (by omega) aE aH
           rw [hg, synsOk_drop hs (by simp only [synOk, srcOk] at *; omega)])
    · repeat' (conv => whnf); first | (refine VSeq.go ?_) | (refine VB.is ?_; refine VB.no (by omega) fun _ => ?_) | (refine VLd.is ?_; refine VLd.mk (.row aT (by rfl)) ?_)
      all_goals (conv => whnf)
      exact ⟨fun w' hw' => ⟨by rw [netchk_syn (by omega) (by omega) (by omega) hf0, hg, List.drop_eq_nil_of_le hge]; rfl, hw'.le .nil⟩⟩

end Go.Proofs

end

section

set_option linter.unusedVariables false

set_option linter.unusedSimpArgs false

namespace Go.Proofs

open Go Go.Vx Go.Gm

theorem refEvents_any (N : Net) (hi : 0 ≤ N.inputs ∧ N.inputs ≤ 256) (l : List Evt) (hl : ∀ x ∈ l, x.wf) (limit : Int) (hlim : 0 ≤ limit ∧ limit ≤ 1073741824) (nv sv : Value) (p : Option Addr) (c b o : Nat) (w : World) (h1 : Sl w evtV 2 l p l.length b o) :
    Calls Tryz.prog 164 #[.agg #[nv, .int .i64 N.inputs, sv], .slice p l.length c, .int .i64 limit] w fun e w' => e = .returned (.int .i64 (evErr N.inputs limit l)) ∧ St w [] [] w' := by
  refine enter (C := Tryz.cx) (F := Tryz.fx164) (args := [_, _, _]) Tryz.func164 rfl rfl rfl Tryz.ok164 (St.start w []) ?_
  repeat' (conv => whnf); first | (refine VNew.mk fun b1 => ?_) | (refine VSeq.go ?_) | (refine VB.split (fun _ => ?_) (fun _ => ?_)) | (refine VLd.is ?_; refine VLd.mk (.row aT (by rfl)) ?_)
  all_goals (conv => whnf)
  · exact ⟨fun w' hw' => ⟨by unfold evErr; rw [if_pos (by omega)]; rfl, hw'.le .nil⟩⟩
  have he : evErr N.inputs limit l = ordErr N.inputs limit none l := by unfold evErr; rw [if_neg (by omega)]
  refine VLoop.mk (α := Nat) (fun i => i ≤ l.length ∧ ordErr N.inputs limit none l = ordErr N.inputs limit (prevOf l i) (l.drop i))
    (fun i => [(1000000, .tuple #[]), (1, .slice p l.length c), (2, .int .i64 limit), (3, .pointer (some ⟨b1, 0, none⟩)), (6, .int .i64 0), (7, .int .i64 (i : Int))])
    (fun _ => [.row b1 25 [nv, .int .i64 N.inputs, sv]]) (fun i => l.length - i) 0 ⟨by omega, rfl⟩ aE aH ?_
  rintro i ⟨hi', hf⟩
  rcases Nat.lt_or_ge i l.length with hlt | hge
  · obtain ⟨x, hx⟩ := h1.get hlt
    have hwx := hl x (List.mem_of_getElem? hx)
    unfold Evt.wf I64 at hwx
    cases i with
    | zero =>
      have hn : ¬ evBehind x (prevOf l 0) := fun h => h
      repeat' (conv => whnf); first | (refine VIx.is ?_; refine VIx.mk (h1.ptr (by omega)) (by omega) (by omega) ?_) | (refine VLd.is ?_; refine VLd.mk (Rd.cast (h1.rd (o := 0) (s := 1) (by simp) (fun _ => rfl) hx rfl) (by first | omega | (dsimp only; omega) | rfl)) ?_) | (refine VLd.is ?_; refine VLd.mk (Rd.cast (h1.rd (o := 1) (s := 1) (by simp) (fun _ => rfl) hx rfl) (by first | omega | (dsimp only; omega) | rfl)) ?_) | (refine VSeq.go ?_) | (refine VB.is ?_; refine VB.yes (by omega) fun _ => ?_) | (refine VB.is ?_; refine VB.no (by omega) fun _ => ?_) | (refine VB.split (fun _ => ?_) (fun _ => ?_)) | (refine VLd.is ?_; refine VLd.mk (.row aT (by rfl)) ?_) | (refine VAr.is ?_; refine oA ?_) | (refine VHs.mk _ (.refl _) ?_)
      all_goals (conv => whnf)
      all_goals first
        | exact ⟨fun w' hw' => ⟨by rw [he, hf, ordErr_bad hx (by unfold evBad; omega)]; rfl, hw'.le .nil⟩⟩
        | (refine VNext.mk (0 + 1) ⟨by omega, ?_⟩ (by omega) aE aH
           rw [hf, ordErr_next hx (by unfold evBad; omega) hn])
    | succ k =>
      obtain ⟨y, hy⟩ := h1.get (i := k) (by omega)
      have hp : prevOf l (k + 1) = some y := hy
      have hbh : evBehind x (prevOf l (k + 1)) ↔ evLate y x := by rw [hp]; rfl
      have hwy := hl y (List.mem_of_getElem? hy)
      unfold Evt.wf I64 at hwy
      repeat' (conv => whnf); first | (refine VIx.is ?_; refine VIx.mk (h1.ptr (by omega)) (by omega) (by omega) ?_) | (refine VLd.is ?_; refine VLd.mk (Rd.cast (h1.rd (o := 0) (s := 1) (by simp) (fun _ => rfl) hx rfl) (by first | omega | (dsimp only; omega) | rfl)) ?_) | (refine VLd.is ?_; refine VLd.mk (Rd.cast (h1.rd (o := 1) (s := 1) (by simp) (fun _ => rfl) hx rfl) (by first | omega | (dsimp only; omega) | rfl)) ?_) | (refine VLd.is ?_; refine VLd.mk (Rd.cast (h1.rd (o := 0) (s := 1) (by simp) (fun _ => rfl) hy rfl) (by first | omega | (dsimp only; omega) | rfl)) ?_) | (refine VLd.is ?_; refine VLd.mk (Rd.cast (h1.rd (o := 1) (s := 1) (by simp) (fun _ => rfl) hy rfl) (by first | omega | (dsimp only; omega) | rfl)) ?_) | (refine VSeq.go ?_) | (refine VB.is ?_; refine VB.yes (by omega) fun _ => ?_) | (refine VB.split (fun _ => ?_) (fun _ => ?_)) | (refine VLd.is ?_; refine VLd.mk (.row aT (by rfl)) ?_) | (refine VAr.is ?_; refine oA ?_) | (refine VHs.mk _ (.refl _) ?_)
      all_goals (conv => whnf)
      all_goals first
        | exact ⟨fun w' hw' => ⟨by rw [he, hf, ordErr_bad hx (by unfold evBad; omega)]; rfl, hw'.le .nil⟩⟩
        | exact ⟨fun w' hw' => ⟨by rw [he, hf, ordErr_late hx (by unfold evBad; omega) (hbh.2 (by unfold evLate; omega))]; rfl, hw'.le .nil⟩⟩
        | (refine VNext.mk (k + 1 + 1) ⟨by omega, ?_⟩ (by omega) aE aH
           rw [hf, ordErr_next hx (by unfold evBad; omega) (fun h => by have := hbh.1 h; unfold evLate at this; omega)])
  · repeat' (conv => whnf); first | (refine VSeq.go ?_) | (refine VB.is ?_; refine VB.no (by omega) fun _ => ?_) | (refine VLd.is ?_; refine VLd.mk (.row aT (by rfl)) ?_)
    all_goals (conv => whnf)
    exact ⟨fun w' hw' => ⟨by rw [he, hf, List.drop_eq_nil_of_le hge]; rfl, hw'.le .nil⟩⟩

end Go.Proofs

end
end

section
set_option linter.unusedVariables false

set_option linter.unusedSimpArgs false

namespace Go.Proofs

open Go Go.Vx

def Marks (m : List (Int × Value)) (S : List Int) : Prop := ∀ k, mfind m k = if k ∈ S then some (.bool true) else none

theorem mfind_mset (m : List (Int × Value)) (j : Int) (v : Value) (k : Int) : mfind (mset m j v) k = if j = k then some v else mfind m k := by
  induction m with
  | nil => simp [mset, mfind]
  | cons x m ih =>
    obtain ⟨a, b⟩ := x
    simp only [mset, mfind]
    by_cases h : a = j
    · subst h
      by_cases h2 : a = k <;> simp [mfind, h2]
    · by_cases h2 : a = k
      · have : ¬ j = k := fun e => h (by omega)
        subst h2
        rw [if_neg h, if_neg this]
        simp [mfind]
      · simp [mfind, h, h2, ih]

theorem Marks.add {m : List (Int × Value)} {S : List Int} (h : Marks m S) (j : Int) : Marks (mset m j (.bool true)) (S ++ [j]) := by
  intro k
  rw [mfind_mset, h k]
  by_cases e : j = k
  · subst e; simp
  · have : ¬ k = j := fun h => e h.symm
    simp [e, this]

end Go.Proofs
end
