/- Rrs: Resume of the reference, walked. -/

import Derived.Test.YtbnipfgbfnhibaaNetResumesRcp
import Derived.Test.YtbnipfgbfnhibaaNetResumesRs

set_option linter.unusedVariables false

set_option linter.unusedSimpArgs false

namespace Go.Proofs

open Go Go.Vx Go.Gm

def rresV : Option RSim → Value
  | none => .pointer none
  | some x => .pointer (some ⟨x.b, 0, none⟩)

def rresG : Option RSim → HP
  | none => []
  | some x => rsimH x

/-- What the reference's Resume hands back. -/
structure RResSim (N : Net) (tick : Int) (sts : List Sta) (rows : List (List Int)) (x : RSim) : Prop where
  run : RRun x
  net : x.N = N
  tick : (x.tick : Int) = tick
  sts : x.sts = sts
  due : x.D.map (·.l) = rows

def rresP (N : Net) (pn qs : Option Addr) (tick : Int) (sts : List Sta) (rows : List (List Int)) : Option RSim → Prop
  | none => resErr N tick sts rows ≠ 0
  | some x => resErr N tick sts rows = 0 ∧ RResSim N tick sts rows x ∧ x.pn = pn ∧ x.qs = qs

theorem flat_drows : ∀ D : List DRow, flat drowVs D = D.map drowV
  | [] => rfl
  | d :: D => by
    have h : flat drowVs (d :: D) = [drowV d] ++ flat drowVs D := by simp [flat, drowVs]
    rw [h, flat_drows D]
    rfl

theorem RResume_any (N : Net) (hN : N.wf) (tick : Int) (htk : I64 tick) (sts : List Sta) (hsw : ∀ s ∈ sts, s.wf) (hsl : sts.length < 9223372036854775807) (Ls : List (SlD Int)) (hLl : Ls.length < 9223372036854775807) (hLi : ∀ d ∈ Ls, (∀ k ∈ d.l, I64 k) ∧ d.l.length < 9223372036854775807)
    (pn : Option Addr) (cn bn on : Nat) (qs : Option Addr) (cs bs os : Nat) (pst : Option Addr) (cst bst ost : Nat) (pd : Option Addr) (cd bd od : Nat) (w : World)
    (h1 : Sl w parV 8 N.ps pn N.ps.length bn on) (h2 : Sl w synV 4 N.syns qs N.syns.length bs os) (h3 : Sl w staV 2 sts pst sts.length bst ost) (h4 : Sl w slVs 1 Ls pd Ls.length bd od) (h5 : ∀ d ∈ Ls, ∃ b off, Sl w intV 1 d.l d.p d.l.length b off) :
    Calls Try.prog 39 #[.agg #[.slice pn N.ps.length cn, .int .i64 N.inputs, .slice qs N.syns.length cs], .agg #[.int .i64 tick, .slice pst sts.length cst, .slice pd Ls.length cd]] w fun e w' => ∃ y : Option RSim,
      e = .returned (.tuple #[rresV y, .int .i64 (resErr N tick sts (rowsOf Ls))]) ∧ rresP N pn qs tick sts (rowsOf Ls) y ∧ St w [] (rresG y) w' := by
  have hnz := @netchk_zero N
  have hfin : ∀ (e : Int) w' H, St w [] H w' → e ≠ 0 → resErr N tick sts (rowsOf Ls) = e → ∃ y : Option RSim,
      Ending.returned (.tuple #[.pointer none, .int .i64 e]) = .returned (.tuple #[rresV y, .int .i64 (resErr N tick sts (rowsOf Ls))]) ∧ rresP N pn qs tick sts (rowsOf Ls) y ∧ St w [] (rresG y) w' := by
    intro e w' H hw' h0 he
    refine ⟨none, by rw [he]; rfl, ?_, hw'.le .nil⟩
    show resErr N tick sts (rowsOf Ls) ≠ 0
    rw [he]; exact h0
  unfold I64 at htk
  refine enter (C := Try.cx) (F := Try.fx39) (args := [_, _]) Try.func39 rfl rfl rfl Try.ok39 (St.start w []) ?_
  refine VSeq.go ?_
  repeat' (conv => whnf); first | (refine VB.is ?_; refine VB.yes (by omega) fun _ => ?_) | (refine VB.is ?_; refine VB.no (by omega) fun _ => ?_) | (refine VB.is ?_; refine VB.split (fun _ => ?_) (fun _ => ?_)) | (refine boolE_split (fun h => ?_) (fun h => ?_) <;> subst h) | (refine VLd.is ?_; refine VLd.mk (.row aT (by rfl)) ?_) | (refine VSt.is ?_; refine VSt.row aT (by rfl) (by first | rfl | assumption) ?_) | (refine VNew.is ?_; refine VNew.mk fun _ => ?_) | (refine VAr.is ?_; refine VAr.i64 (by omega) (by omega) ?_) | (refine VIx.is ?_; refine VIx.mk rfl (by omega) (by omega) ?_) | (refine VKeep.is ?_; refine VKeep.mk aH ?_) | (refine VHs.is ?_; refine VHs.mk _ (HLe.refl _) ?_) | (refine VQ.is ?_; refine VQ.pos (by omega) (by omega) (by omega) ?_) | (refine VM.is ?_; refine VM.pos (by omega) (by omega) ?_) | (refine And.intro ?_ ?_)
  all_goals (conv => whnf)
  rename_i b2 b3
  repeat' (conv => whnf); first | (refine VCall.isF 20 ?_; refine VCall.valR (fun w' hw' => refNetCheck_any N hN _ _ _ _ _ _ _ _ _ (h1.keep hw' (by simp)) (h2.keep hw' (by simp))) ?_) | (refine VSeq.is ?_; refine VSeq.go ?_) | (refine VB.is ?_; refine VB.yes (by omega) fun _ => ?_) | (refine VB.is ?_; refine VB.no (by omega) fun _ => ?_) | (refine VB.is ?_; refine VB.split (fun _ => ?_) (fun _ => ?_)) | (refine boolE_split (fun h => ?_) (fun h => ?_) <;> subst h) | (refine VLd.is ?_; refine VLd.mk (.row aT (by rfl)) ?_) | (refine VSt.is ?_; refine VSt.row aT (by rfl) (by first | rfl | assumption) ?_) | (refine VNew.is ?_; refine VNew.mk fun _ => ?_) | (refine VAr.is ?_; refine VAr.i64 (by omega) (by omega) ?_) | (refine VIx.is ?_; refine VIx.mk rfl (by omega) (by omega) ?_) | (refine VKeep.is ?_; refine VKeep.mk aH ?_) | (refine VHs.is ?_; refine VHs.mk _ (HLe.refl _) ?_) | (refine VQ.is ?_; refine VQ.pos (by omega) (by omega) (by omega) ?_) | (refine VM.is ?_; refine VM.pos (by omega) (by omega) ?_) | (refine And.intro ?_ ?_)
  all_goals (conv => whnf)
  · exact ⟨fun w' hw' => hfin _ w' _ hw' (by omega) (by unfold resErr; rw [if_pos (by omega)])⟩
  · exact ⟨fun w' hw' => hfin _ w' _ hw' (by omega) (by unfold resErr; rw [if_neg (by omega), if_pos (by omega)])⟩
  · exact ⟨fun w' hw' => hfin _ w' _ hw' (by omega) (by unfold resErr; rw [if_neg (by omega), if_pos (by omega)])⟩
  · exact ⟨fun w' hw' => hfin _ w' _ hw' (by omega) (by unfold resErr; rw [if_neg (by omega), if_neg (by omega), if_pos (.inl (by omega))])⟩
  · exact ⟨fun w' hw' => hfin _ w' _ hw' (by omega) (by unfold resErr; rw [if_neg (by omega), if_neg (by omega), if_pos (.inr (.inl (by simp only [rowsOf, List.length_map]; omega)))])⟩
  have hz : netchk N = 0 := by omega
  have hNok := hnz.1 hz
  have hfew := hNok.few
  have hpos := hNok.some
  have hst : sts.length = N.ps.length := by omega
  have h16 : Ls.length = 16 := by omega
  have hin := hNok.inputs
  refine VLoop.kr (α := Nat) [1000000, 2, 3, 4, 5] rfl (fun i => i ≤ Ls.length ∧ ∀ d ∈ Ls.take i, d.l.length = N.ps.length) (fun i K => (7, .int .i64 (i : Int)) :: K)
    (fun _ => [.row b2 25 [.slice pn N.ps.length cn, .int .i64 N.inputs, .slice qs N.syns.length cs], .row b3 73 [.int .i64 tick, .slice pst sts.length cst, .slice pd Ls.length cd]]) (fun i => Ls.length - i) 0 ⟨by omega, by simp⟩ aE aH ?_
  rintro i ⟨hi, hall⟩
  rcases Nat.lt_or_ge i Ls.length with hlt | hge
  · obtain ⟨d, hd⟩ := h4.get hlt
    have hdb := (hLi d (List.mem_of_getElem? hd)).2
    repeat' (conv => whnf); first | (refine VIx.is ?_; refine VIx.mk (h4.ptr (by omega)) (by omega) (by omega) ?_) | (refine VLd.is ?_; refine VLd.mk (Rd.cast (h4.rd0 (by simp) (fun _ => rfl) hd rfl) (by first | omega | (dsimp only; omega) | rfl)) ?_) | (refine VSeq.is ?_; refine VSeq.go ?_) | (refine VB.is ?_; refine VB.yes (by omega) fun _ => ?_) | (refine VB.is ?_; refine VB.no (by omega) fun _ => ?_) | (refine VB.is ?_; refine VB.split (fun _ => ?_) (fun _ => ?_)) | (refine boolE_split (fun h => ?_) (fun h => ?_) <;> subst h) | (refine VLd.is ?_; refine VLd.mk (.row aT (by rfl)) ?_) | (refine VSt.is ?_; refine VSt.row aT (by rfl) (by first | rfl | assumption) ?_) | (refine VNew.is ?_; refine VNew.mk fun _ => ?_) | (refine VAr.is ?_; refine VAr.i64 (by omega) (by omega) ?_) | (refine VIx.is ?_; refine VIx.mk rfl (by omega) (by omega) ?_) | (refine VKeep.is ?_; refine VKeep.mk aH ?_) | (refine VHs.is ?_; refine VHs.mk _ (HLe.refl _) ?_) | (refine VQ.is ?_; refine VQ.pos (by omega) (by omega) (by omega) ?_) | (refine VM.is ?_; refine VM.pos (by omega) (by omega) ?_) | (refine And.intro ?_ ?_)
    all_goals (conv => whnf)
    · refine ⟨fun w' hw' => hfin _ w' _ hw' (by omega) ?_⟩
      unfold resErr
      rw [if_neg (by omega), if_neg (by omega), if_pos]
      exact .inr (.inr ⟨d.l, List.mem_map_of_mem (List.mem_of_getElem? hd), by omega⟩)
    · refine VNext.mk (i + 1) ⟨by omega, ?_⟩ (by omega) aE aH
      rw [List.take_add_one, hd, Option.toList_some]
      intro f hf
      rcases List.mem_append.1 hf with h | h
      · exact hall f h
      · simp only [List.mem_singleton] at h; subst h; omega
  rw [List.take_of_length_le hge] at hall
  repeat' (conv => whnf); first | (refine VSeq.is ?_; refine VSeq.go ?_) | (refine VB.is ?_; refine VB.yes (by omega) fun _ => ?_) | (refine VB.is ?_; refine VB.no (by omega) fun _ => ?_) | (refine VB.is ?_; refine VB.split (fun _ => ?_) (fun _ => ?_)) | (refine boolE_split (fun h => ?_) (fun h => ?_) <;> subst h) | (refine VLd.is ?_; refine VLd.mk (.row aT (by rfl)) ?_) | (refine VSt.is ?_; refine VSt.row aT (by rfl) (by first | rfl | assumption) ?_) | (refine VNew.is ?_; refine VNew.mk fun _ => ?_) | (refine VAr.is ?_; refine VAr.i64 (by omega) (by omega) ?_) | (refine VIx.is ?_; refine VIx.mk rfl (by omega) (by omega) ?_) | (refine VKeep.is ?_; refine VKeep.mk aH ?_) | (refine VHs.is ?_; refine VHs.mk _ (HLe.refl _) ?_) | (refine VQ.is ?_; refine VQ.pos (by omega) (by omega) (by omega) ?_) | (refine VM.is ?_; refine VM.pos (by omega) (by omega) ?_) | (refine And.intro ?_ ?_)
  all_goals (conv => whnf)
  have hn13 : ¬ (sts.length ≠ N.ps.length ∨ (rowsOf Ls).length ≠ 16 ∨ (∃ r ∈ rowsOf Ls, r.length ≠ N.ps.length)) := by
    rintro (h | h | ⟨r, hr, h⟩)
    · exact h hst
    · simp only [rowsOf, List.length_map] at h; exact h h16
    · obtain ⟨d, hd, rfl⟩ := List.mem_map.1 hr
      exact h (hall d hd)
  refine VLoop.kr (α := Nat) [1000000, 2, 3, 4, 5] rfl (fun i => i ≤ sts.length ∧ ∀ (j : Nat) p s, j < i → N.ps[j]? = some p → sts[j]? = some s → staOk p s) (fun i K => (8, .int .i64 (i : Int)) :: K)
    (fun _ => [.row b2 25 [.slice pn N.ps.length cn, .int .i64 N.inputs, .slice qs N.syns.length cs], .row b3 73 [.int .i64 tick, .slice pst sts.length cst, .slice pd Ls.length cd]]) (fun i => sts.length - i) 0 ⟨by omega, by omega⟩ aE aH ?_
  rintro i ⟨hi, hok⟩
  rcases Nat.lt_or_ge i sts.length with hlt | hge
  · obtain ⟨p, hp⟩ := h1.get (i := i) (by omega)
    obtain ⟨s, hs⟩ := h3.get hlt
    have hpk := hNok.ps p (List.mem_of_getElem? hp)
    have hck : chkS p s = if staOk p s then 0 else 3 := by unfold chkS; rw [if_pos (good_iff.2 hpk)]
    by_cases hso : staOk p s
    · rw [if_pos hso] at hck
      repeat' (conv => whnf); first | (refine VIx.is ?_; refine VIx.mk (h3.ptr (by omega)) (by omega) (by omega) ?_) | (refine VIx.is ?_; refine VIx.mk (h1.ptr (by omega)) (by omega) (by omega) ?_) | (refine VLd.is ?_; refine VLd.mk (Rd.cast (h1.rd0 (by simp) (fun _ => rfl) hp rfl) (by first | omega | (dsimp only; omega) | rfl)) ?_) | (refine VLd.is ?_; refine VLd.mk (Rd.cast (h3.rd0 (by simp) (fun _ => rfl) hs rfl) (by first | omega | (dsimp only; omega) | rfl)) ?_) | (refine VCall.isF 87 ?_; (refine VCall.val (refValid_any p hpk.wf s) ?_; rw [hck])) | (refine VSeq.is ?_; refine VSeq.go ?_) | (refine VB.is ?_; refine VB.yes (by omega) fun _ => ?_) | (refine VB.is ?_; refine VB.no (by omega) fun _ => ?_) | (refine VB.is ?_; refine VB.split (fun _ => ?_) (fun _ => ?_)) | (refine boolE_split (fun h => ?_) (fun h => ?_) <;> subst h) | (refine VLd.is ?_; refine VLd.mk (.row aT (by rfl)) ?_) | (refine VSt.is ?_; refine VSt.row aT (by rfl) (by first | rfl | assumption) ?_) | (refine VNew.is ?_; refine VNew.mk fun _ => ?_) | (refine VAr.is ?_; refine VAr.i64 (by omega) (by omega) ?_) | (refine VIx.is ?_; refine VIx.mk rfl (by omega) (by omega) ?_) | (refine VKeep.is ?_; refine VKeep.mk aH ?_) | (refine VHs.is ?_; refine VHs.mk _ (HLe.refl _) ?_) | (refine VQ.is ?_; refine VQ.pos (by omega) (by omega) (by omega) ?_) | (refine VM.is ?_; refine VM.pos (by omega) (by omega) ?_) | (refine And.intro ?_ ?_)
      all_goals (conv => whnf)
      refine VNext.mk (i + 1) ⟨by omega, fun j p' s' hj hp' hs' => ?_⟩ (by omega) aE aH
      rcases Nat.lt_or_ge j i with h | h
      · exact hok j p' s' h hp' hs'
      · obtain rfl : j = i := by omega
        rw [hp] at hp'; rw [hs] at hs'; cases hp'; cases hs'; exact hso
    · rw [if_neg hso] at hck
      repeat' (conv => whnf); first | (refine VIx.is ?_; refine VIx.mk (h3.ptr (by omega)) (by omega) (by omega) ?_) | (refine VIx.is ?_; refine VIx.mk (h1.ptr (by omega)) (by omega) (by omega) ?_) | (refine VLd.is ?_; refine VLd.mk (Rd.cast (h1.rd0 (by simp) (fun _ => rfl) hp rfl) (by first | omega | (dsimp only; omega) | rfl)) ?_) | (refine VLd.is ?_; refine VLd.mk (Rd.cast (h3.rd0 (by simp) (fun _ => rfl) hs rfl) (by first | omega | (dsimp only; omega) | rfl)) ?_) | (refine VCall.isF 87 ?_; (refine VCall.val (refValid_any p hpk.wf s) ?_; rw [hck])) | (refine VSeq.is ?_; refine VSeq.go ?_) | (refine VB.is ?_; refine VB.yes (by omega) fun _ => ?_) | (refine VB.is ?_; refine VB.no (by omega) fun _ => ?_) | (refine VB.is ?_; refine VB.split (fun _ => ?_) (fun _ => ?_)) | (refine boolE_split (fun h => ?_) (fun h => ?_) <;> subst h) | (refine VLd.is ?_; refine VLd.mk (.row aT (by rfl)) ?_) | (refine VSt.is ?_; refine VSt.row aT (by rfl) (by first | rfl | assumption) ?_) | (refine VNew.is ?_; refine VNew.mk fun _ => ?_) | (refine VAr.is ?_; refine VAr.i64 (by omega) (by omega) ?_) | (refine VIx.is ?_; refine VIx.mk rfl (by omega) (by omega) ?_) | (refine VKeep.is ?_; refine VKeep.mk aH ?_) | (refine VHs.is ?_; refine VHs.mk _ (HLe.refl _) ?_) | (refine VQ.is ?_; refine VQ.pos (by omega) (by omega) (by omega) ?_) | (refine VM.is ?_; refine VM.pos (by omega) (by omega) ?_) | (refine And.intro ?_ ?_)
      all_goals (conv => whnf)
      refine ⟨fun w' hw' => hfin _ w' _ hw' (by omega) ?_⟩
      unfold resErr
      rw [if_neg (by omega), if_neg (by omega), if_neg hn13, if_pos]
      exact fun h => hso (staAll_zip.1 h i p s hp hs)
  have hsta : StaAll N sts := fun j p s g1 g2 => hok j p s (by have := (List.getElem?_eq_some_iff.1 g2).1; omega) g1 g2
  repeat' (conv => whnf); first | (refine VSeq.is ?_; refine VSeq.go ?_) | (refine VB.is ?_; refine VB.yes (by omega) fun _ => ?_) | (refine VB.is ?_; refine VB.no (by omega) fun _ => ?_) | (refine VB.is ?_; refine VB.split (fun _ => ?_) (fun _ => ?_)) | (refine boolE_split (fun h => ?_) (fun h => ?_) <;> subst h) | (refine VLd.is ?_; refine VLd.mk (.row aT (by rfl)) ?_) | (refine VSt.is ?_; refine VSt.row aT (by rfl) (by first | rfl | assumption) ?_) | (refine VNew.is ?_; refine VNew.mk fun _ => ?_) | (refine VAr.is ?_; refine VAr.i64 (by omega) (by omega) ?_) | (refine VIx.is ?_; refine VIx.mk rfl (by omega) (by omega) ?_) | (refine VKeep.is ?_; refine VKeep.mk aH ?_) | (refine VHs.is ?_; refine VHs.mk _ (HLe.refl _) ?_) | (refine VQ.is ?_; refine VQ.pos (by omega) (by omega) (by omega) ?_) | (refine VM.is ?_; refine VM.pos (by omega) (by omega) ?_) | (refine And.intro ?_ ?_)
  all_goals (conv => whnf)
  refine VLoop.kr (α := Nat) [1000000, 2, 3, 4, 5] rfl (fun i => i ≤ Ls.length ∧ ∀ d ∈ Ls.take i, ∀ k ∈ d.l, ¬ bigK k) (fun i K => (9, .int .i64 (i : Int)) :: K)
    (fun _ => [.row b2 25 [.slice pn N.ps.length cn, .int .i64 N.inputs, .slice qs N.syns.length cs], .row b3 73 [.int .i64 tick, .slice pst sts.length cst, .slice pd Ls.length cd]]) (fun i => Ls.length - i) 0 ⟨by omega, by simp⟩ aE aH ?_
  rintro m ⟨hm, hbig⟩
  rcases Nat.lt_or_ge m Ls.length with hltm | hgem
  · obtain ⟨d, hd⟩ := h4.get hltm
    obtain ⟨hdi, hdl⟩ := hLi d (List.mem_of_getElem? hd)
    obtain ⟨u1, u2, hds⟩ := h5 d (List.mem_of_getElem? hd)
    have hdn := hall d (List.mem_of_getElem? hd)
    repeat' (conv => whnf); first | (refine VSeq.is ?_; refine VSeq.go ?_) | (refine VB.is ?_; refine VB.yes (by omega) fun _ => ?_) | (refine VB.is ?_; refine VB.no (by omega) fun _ => ?_) | (refine VB.is ?_; refine VB.split (fun _ => ?_) (fun _ => ?_)) | (refine boolE_split (fun h => ?_) (fun h => ?_) <;> subst h) | (refine VLd.is ?_; refine VLd.mk (.row aT (by rfl)) ?_) | (refine VSt.is ?_; refine VSt.row aT (by rfl) (by first | rfl | assumption) ?_) | (refine VNew.is ?_; refine VNew.mk fun _ => ?_) | (refine VAr.is ?_; refine VAr.i64 (by omega) (by omega) ?_) | (refine VIx.is ?_; refine VIx.mk rfl (by omega) (by omega) ?_) | (refine VKeep.is ?_; refine VKeep.mk aH ?_) | (refine VHs.is ?_; refine VHs.mk _ (HLe.refl _) ?_) | (refine VQ.is ?_; refine VQ.pos (by omega) (by omega) (by omega) ?_) | (refine VM.is ?_; refine VM.pos (by omega) (by omega) ?_) | (refine And.intro ?_ ?_)
    all_goals (conv => whnf)
    refine VLoop.kr (α := Nat) [1000000, 2, 3, 4, 5, 9] rfl (fun j => j ≤ d.l.length ∧ ∀ k ∈ d.l.take j, ¬ bigK k) (fun i K => (10, .int .i64 (i : Int)) :: K)
      (fun _ => [.row b2 25 [.slice pn N.ps.length cn, .int .i64 N.inputs, .slice qs N.syns.length cs], .row b3 73 [.int .i64 tick, .slice pst sts.length cst, .slice pd Ls.length cd]]) (fun i => d.l.length - i) 0 ⟨by omega, by simp⟩ aE aH ?_
    rintro j ⟨hj, hjall⟩
    rcases Nat.lt_or_ge j d.l.length with hltj | hgej
    · obtain ⟨k, hk⟩ := hds.get hltj
      have hk64 := hdi k (List.mem_of_getElem? hk)
      unfold I64 at hk64
      by_cases hkb : bigK k
      · unfold bigK at hkb
        repeat' (conv => whnf); first | (refine VIx.is ?_; refine VIx.mk (h4.ptr (by omega)) (by omega) (by omega) ?_) | (refine VIx.is ?_; refine VIx.mk (hds.ptr (by omega)) (by omega) (by omega) ?_) | (refine VLd.is ?_; refine VLd.mk (Rd.cast (h4.rd0 (by simp) (fun _ => rfl) hd rfl) (by first | omega | (dsimp only; omega) | rfl)) ?_) | (refine VLd.is ?_; refine VLd.mk (Rd.cast (hds.rd0 (by simp) (fun _ => rfl) hk rfl) (by first | omega | (dsimp only; omega) | rfl)) ?_) | (refine VSeq.is ?_; refine VSeq.go ?_) | (refine VB.is ?_; refine VB.yes (by omega) fun _ => ?_) | (refine VB.is ?_; refine VB.no (by omega) fun _ => ?_) | (refine VB.is ?_; refine VB.split (fun _ => ?_) (fun _ => ?_)) | (refine boolE_split (fun h => ?_) (fun h => ?_) <;> subst h) | (refine VLd.is ?_; refine VLd.mk (.row aT (by rfl)) ?_) | (refine VSt.is ?_; refine VSt.row aT (by rfl) (by first | rfl | assumption) ?_) | (refine VNew.is ?_; refine VNew.mk fun _ => ?_) | (refine VAr.is ?_; refine VAr.i64 (by omega) (by omega) ?_) | (refine VIx.is ?_; refine VIx.mk rfl (by omega) (by omega) ?_) | (refine VKeep.is ?_; refine VKeep.mk aH ?_) | (refine VHs.is ?_; refine VHs.mk _ (HLe.refl _) ?_) | (refine VQ.is ?_; refine VQ.pos (by omega) (by omega) (by omega) ?_) | (refine VM.is ?_; refine VM.pos (by omega) (by omega) ?_) | (refine And.intro ?_ ?_)
        all_goals (conv => whnf)
        all_goals
          refine ⟨fun w' hw' => hfin _ w' _ hw' (by omega) ?_⟩
          unfold resErr
          rw [if_neg (by omega), if_neg (by omega), if_neg hn13, if_neg (Classical.not_not.2 (staAll_zip.2 hsta)), if_pos ⟨d.l, List.mem_map_of_mem (List.mem_of_getElem? hd), k, List.mem_of_getElem? hk, by unfold bigK; omega⟩]
      · have hkb' := hkb
        unfold bigK at hkb'
        repeat' (conv => whnf); first | (refine VIx.is ?_; refine VIx.mk (h4.ptr (by omega)) (by omega) (by omega) ?_) | (refine VIx.is ?_; refine VIx.mk (hds.ptr (by omega)) (by omega) (by omega) ?_) | (refine VLd.is ?_; refine VLd.mk (Rd.cast (h4.rd0 (by simp) (fun _ => rfl) hd rfl) (by first | omega | (dsimp only; omega) | rfl)) ?_) | (refine VLd.is ?_; refine VLd.mk (Rd.cast (hds.rd0 (by simp) (fun _ => rfl) hk rfl) (by first | omega | (dsimp only; omega) | rfl)) ?_) | (refine VSeq.is ?_; refine VSeq.go ?_) | (refine VB.is ?_; refine VB.yes (by omega) fun _ => ?_) | (refine VB.is ?_; refine VB.no (by omega) fun _ => ?_) | (refine VB.is ?_; refine VB.split (fun _ => ?_) (fun _ => ?_)) | (refine boolE_split (fun h => ?_) (fun h => ?_) <;> subst h) | (refine VLd.is ?_; refine VLd.mk (.row aT (by rfl)) ?_) | (refine VSt.is ?_; refine VSt.row aT (by rfl) (by first | rfl | assumption) ?_) | (refine VNew.is ?_; refine VNew.mk fun _ => ?_) | (refine VAr.is ?_; refine VAr.i64 (by omega) (by omega) ?_) | (refine VIx.is ?_; refine VIx.mk rfl (by omega) (by omega) ?_) | (refine VKeep.is ?_; refine VKeep.mk aH ?_) | (refine VHs.is ?_; refine VHs.mk _ (HLe.refl _) ?_) | (refine VQ.is ?_; refine VQ.pos (by omega) (by omega) (by omega) ?_) | (refine VM.is ?_; refine VM.pos (by omega) (by omega) ?_) | (refine And.intro ?_ ?_)
        all_goals (conv => whnf)
        refine VNext.mk (j + 1) ⟨by omega, ?_⟩ (by omega) aE aH
        rw [List.take_add_one, hk, Option.toList_some]
        intro f hf
        rcases List.mem_append.1 hf with h | h
        · exact hjall f h
        · simp only [List.mem_singleton] at h; subst h; exact hkb
    rw [List.take_of_length_le hgej] at hjall
    repeat' (conv => whnf); first | (refine VIx.is ?_; refine VIx.mk (h4.ptr (by omega)) (by omega) (by omega) ?_) | (refine VLd.is ?_; refine VLd.mk (Rd.cast (h4.rd0 (by simp) (fun _ => rfl) hd rfl) (by first | omega | (dsimp only; omega) | rfl)) ?_) | (refine VSeq.is ?_; refine VSeq.go ?_) | (refine VB.is ?_; refine VB.yes (by omega) fun _ => ?_) | (refine VB.is ?_; refine VB.no (by omega) fun _ => ?_) | (refine VB.is ?_; refine VB.split (fun _ => ?_) (fun _ => ?_)) | (refine boolE_split (fun h => ?_) (fun h => ?_) <;> subst h) | (refine VLd.is ?_; refine VLd.mk (.row aT (by rfl)) ?_) | (refine VSt.is ?_; refine VSt.row aT (by rfl) (by first | rfl | assumption) ?_) | (refine VNew.is ?_; refine VNew.mk fun _ => ?_) | (refine VAr.is ?_; refine VAr.i64 (by omega) (by omega) ?_) | (refine VIx.is ?_; refine VIx.mk rfl (by omega) (by omega) ?_) | (refine VKeep.is ?_; refine VKeep.mk aH ?_) | (refine VHs.is ?_; refine VHs.mk _ (HLe.refl _) ?_) | (refine VQ.is ?_; refine VQ.pos (by omega) (by omega) (by omega) ?_) | (refine VM.is ?_; refine VM.pos (by omega) (by omega) ?_) | (refine And.intro ?_ ?_)
    all_goals (conv => whnf)
    refine VNext.mk (m + 1) ⟨by omega, ?_⟩ (by omega) aE aH
    rw [List.take_add_one, hd, Option.toList_some]
    intro f hf
    rcases List.mem_append.1 hf with h | h
    · exact hbig f h
    · simp only [List.mem_singleton] at h; subst h; exact hjall
  rw [List.take_of_length_le hgem] at hbig
  have hzero : resErr N tick sts (rowsOf Ls) = 0 := by
    rw [resErr_zero]
    refine ⟨hNok, by omega, hst, by simp only [rowsOf, List.length_map]; exact h16, fun r hr => ?_, hsta, fun r hr k hk => ?_⟩
    · obtain ⟨d, hd, rfl⟩ := List.mem_map.1 hr
      exact hall d hd
    · obtain ⟨d, hd, rfl⟩ := List.mem_map.1 hr
      exact Classical.not_not.1 (hbig d hd k hk)
  repeat' (conv => whnf); first | (refine VSeq.is ?_; refine VSeq.go ?_) | (refine VB.is ?_; refine VB.yes (by omega) fun _ => ?_) | (refine VB.is ?_; refine VB.no (by omega) fun _ => ?_) | (refine VB.is ?_; refine VB.split (fun _ => ?_) (fun _ => ?_)) | (refine boolE_split (fun h => ?_) (fun h => ?_) <;> subst h) | (refine VLd.is ?_; refine VLd.mk (.row aT (by rfl)) ?_) | (refine VSt.is ?_; refine VSt.row aT (by rfl) (by first | rfl | assumption) ?_) | (refine VNew.is ?_; refine VNew.mk fun _ => ?_) | (refine VAr.is ?_; refine VAr.i64 (by omega) (by omega) ?_) | (refine VIx.is ?_; refine VIx.mk rfl (by omega) (by omega) ?_) | (refine VKeep.is ?_; refine VKeep.mk aH ?_) | (refine VHs.is ?_; refine VHs.mk _ (HLe.refl _) ?_) | (refine VQ.is ?_; refine VQ.pos (by omega) (by omega) (by omega) ?_) | (refine VM.is ?_; refine VM.pos (by omega) (by omega) ?_) | (refine And.intro ?_ ?_)
  all_goals (conv => whnf)
  rename_i bx
  refine VCall.genR (fun w' hw' => RCopy_any bx (.slice pn N.ps.length cn) (.int .i64 N.inputs) (.slice qs N.syns.length cs) tick pst cst sts pd cd Ls (by omega) h16 (fun d hd => by have := hall d hd; omega) bst ost bd od w' ⟨rfl, rfl, rfl⟩ (Cells.row hw' .here) (h3.keep hw' (by simp)) (h4.keep hw' (by simp)) (fun d hd => by obtain ⟨g1, g2, g3⟩ := h5 d hd; exact ⟨g1, g2, g3.keep hw' (by simp)⟩)) ?_
  rintro y hy
  repeat' (conv => whnf); first | (refine VSeq.is ?_; refine VSeq.go ?_) | (refine VB.is ?_; refine VB.yes (by omega) fun _ => ?_) | (refine VB.is ?_; refine VB.no (by omega) fun _ => ?_) | (refine VB.is ?_; refine VB.split (fun _ => ?_) (fun _ => ?_)) | (refine boolE_split (fun h => ?_) (fun h => ?_) <;> subst h) | (refine VLd.is ?_; refine VLd.mk (.row aT (by rfl)) ?_) | (refine VSt.is ?_; refine VSt.row aT (by rfl) (by first | rfl | assumption) ?_) | (refine VNew.is ?_; refine VNew.mk fun _ => ?_) | (refine VAr.is ?_; refine VAr.i64 (by omega) (by omega) ?_) | (refine VIx.is ?_; refine VIx.mk rfl (by omega) (by omega) ?_) | (refine VKeep.is ?_; refine VKeep.mk aH ?_) | (refine VHs.is ?_; refine VHs.mk _ (HLe.refl _) ?_) | (refine VQ.is ?_; refine VQ.pos (by omega) (by omega) (by omega) ?_) | (refine VM.is ?_; refine VM.pos (by omega) (by omega) ?_) | (refine And.intro ?_ ?_)
  all_goals (conv => whnf)
  have hyD : y.D.length = 16 := by
    have := congrArg List.length hy
    rw [List.length_map, List.length_map] at this
    omega
  have hyc : ∀ d ∈ y.D, d.l.length = N.ps.length := by
    intro d hd
    have hmem : d.l ∈ Ls.map (·.l) := by rw [← hy]; exact List.mem_map_of_mem hd
    obtain ⟨d0, h0, h00⟩ := List.mem_map.1 hmem
    rw [← h00]; exact hall d0 h0
  refine ⟨fun w' hw' => ?_⟩
  have hp : ∃ g, y.dp = some ⟨g, 0, none⟩ := by
    rcases vec_some_nil hw' (p := y.dp) (n := y.D.length) (cap := y.dc) (e := 46) (size := 1) (xs := flat drowVs y.D) (List.mem_append_left _ (by simp only [rcpH, List.mem_cons, true_or, or_true])) with h | ⟨_, h, _⟩
    · exact h
    · omega
  have e0 : flat drowVs y.D = y.D.map drowV := flat_drows y.D
  refine ⟨some ⟨y.b, N, pn, cn, qs, cs, tick.toNat, y.sb, y.sc, sts, y.dp, y.dc, y.D⟩, by rw [hzero]; rfl, ⟨hzero, ⟨⟨⟨hNok, hst, hyD, hyc, hp⟩, hsta, by dsimp only; omega⟩, rfl, by dsimp only; omega, rfl, hy⟩, rfl, rfl⟩, hw'.le ?_⟩
  unfold rresG rsimH rsimC rcpH
  dsimp only
  rw [← e0, show ((tick.toNat : Nat) : Int) = tick by omega]
  exact aH

end Go.Proofs
