import Derived.Test.YtephkjicokbckaaGreatDoorVerifyCertainsWg
import Derived.Test.YtephkjicokbckaaGreatDoorVerifyCertainsWc
set_option linter.unusedVariables false

set_option linter.unusedSimpArgs false

namespace Go.Proofs

open Go Go.Vx Go.Gm

theorem event_any (l : List Evt) (hl : l.length ≤ 65536) (t i : Int) (p : Option Addr) (cap b o : Nat) (w : World) (h1 : Sl w evtV 2 l p l.length b o) :
    Calls Tryz.prog 142 #[.slice p l.length cap, .int .i64 t, .int .i64 i] w fun e w' => ∃ c : Bool, e = .returned (.bool c) ∧ (c = true ↔ (⟨t, i⟩ : Evt) ∈ l) ∧ St w [] [] w' := by
  refine enter (C := Tryz.cx) (F := Tryz.fx142) (args := [_, _, _]) Tryz.func142 rfl rfl rfl Tryz.ok142 (St.start w []) ?_
  repeat' (conv => whnf); first | (refine VSeq.go ?_) | (refine VB.is ?_; refine VB.no (by omega) fun _ => ?_) | (refine VLd.is ?_; refine VLd.mk (.row aT (by rfl)) ?_) | (refine VAr.is ?_; refine oA ?_)
  all_goals (conv => whnf)
  refine VLoop.mk (α := Nat) (fun j => j ≤ l.length ∧ (⟨t, i⟩ : Evt) ∉ l.take j) (fun j => [(1000000, .tuple #[]), (0, .slice p l.length cap), (1, .int .i64 t), (2, .int .i64 i), (6, .bool false), (7, .int .i64 (j : Int))])
    (fun _ => []) (fun j => l.length - j) 0 ⟨by omega, by simp⟩ aE aH ?_
  rintro j ⟨hj, hn⟩
  rcases Nat.lt_or_ge j l.length with hlt | hge
  · obtain ⟨x, hx⟩ := h1.get hlt
    have hm := List.mem_of_getElem? hx
    repeat' (conv => whnf); first | (refine VIx.is ?_; refine VIx.mk (h1.ptr (by omega)) (by omega) (by omega) ?_) | (refine VLd.is ?_; refine VLd.mk (Rd.cast (h1.rd (o := 0) (s := 1) (vs := [.int .i64 x.tick]) (by simp) (fun _ => rfl) hx rfl) (by first | omega | (dsimp only; omega) | rfl)) ?_) | (refine VLd.is ?_; refine VLd.mk (Rd.cast (h1.rd (o := 1) (s := 1) (vs := [.int .i64 x.id]) (by simp) (fun _ => rfl) hx rfl) (by first | omega | (dsimp only; omega) | rfl)) ?_) | (refine VSeq.go ?_) | (refine VB.is ?_; refine VB.yes (by omega) fun _ => ?_) | (refine VB.split (fun _ => ?_) (fun _ => ?_)) | (refine VAr.is ?_; refine oA ?_)
    all_goals (conv => whnf)
    all_goals first
      | (have e : x = ⟨t, i⟩ := by
           obtain ⟨a, c⟩ := x
           dsimp only at *
           rw [show a = t by omega, show c = i by omega]
         rw [e] at hm
         exact ⟨fun w' hw' => ⟨true, rfl, by simp [hm], hw'.le .nil⟩⟩)
      | (refine VNext.mk (j + 1) ⟨by omega, ?_⟩ (by omega) aE aH
         rw [List.take_add_one, hx, Option.toList_some]
         intro h
         rcases List.mem_append.1 h with h | h
         · exact hn h
         · simp only [List.mem_singleton] at h
           subst h
           dsimp only at *
           omega)
  · rw [List.take_of_length_le hge] at hn
    repeat' (conv => whnf); first | (refine VSeq.go ?_) | (refine VB.is ?_; refine VB.no (by omega) fun _ => ?_) | (refine VLd.is ?_; refine VLd.mk (.row aT (by rfl)) ?_) | (refine VAr.is ?_; refine oA ?_)
    all_goals (conv => whnf)
    exact ⟨fun w' hw' => ⟨false, rfl, by simp [hn], hw'.le .nil⟩⟩

structure CRow where
  g : Nat
  l : List (Option Sp)

def crV (c : CRow) : List Value := [.slice (some ⟨c.g, 0, none⟩) c.l.length c.l.length]

def crE (c : CRow) : Ent := .vec (some ⟨c.g, 0, none⟩) c.l.length c.l.length 150 3 (flat caseV c.l)

set_option maxHeartbeats 8000000 in
theorem refBounds_any (N : Net) (hN : N.wf) (sure may : List Evt) (hsu : ∀ x ∈ sure, x.wf) (hma : ∀ x ∈ may, x.wf) (ticks : Int) (hti : I64 ticks) (pn : Option Addr) (cn bn on : Nat) (qs : Option Addr) (cs bs os : Nat) (ps : Option Addr) (ce be oe : Nat) (pm : Option Addr) (cm bm om : Nat) (w : World)
    (h1 : Sl w parV 8 N.ps pn N.ps.length bn on) (h2 : Sl w synV 4 N.syns qs N.syns.length bs os) (h3 : Sl w evtV 2 sure ps sure.length be oe) (h4 : Sl w evtV 2 may pm may.length bm om) :
    Calls Tryz.prog 24 #[.agg #[.slice pn N.ps.length cn, .int .i64 N.inputs, .slice qs N.syns.length cs], .slice ps sure.length ce, .slice pm may.length cm, .int .i64 ticks] w fun e w' => ∃ y : (Option Addr × Nat) × List DRow,
      e = .returned (.tuple #[.slice y.1.1 y.2.length y.1.2, .int .i64 (bndRes N sure may ticks).2]) ∧ (y.2.map (·.l) = (bndRes N sure may ticks).1 ∧ (0 < y.2.length → ∃ g, y.1.1 = some ⟨g, 0, none⟩)) ∧
      St w [] (.vec y.1.1 y.2.length y.1.2 26 1 (flat drV y.2) :: y.2.map drowE) w' := by
  unfold I64 at hti
  have hfin : ∀ w' H, St w [] H w' → bndErr N sure may ticks ≠ 0 → ∃ y : (Option Addr × Nat) × List DRow, Ending.returned (.tuple #[.slice none 0 0, .int .i64 (bndErr N sure may ticks)]) = .returned (.tuple #[.slice y.1.1 y.2.length y.1.2, .int .i64 (bndRes N sure may ticks).2]) ∧ (y.2.map (·.l) = (bndRes N sure may ticks).1 ∧ (0 < y.2.length → ∃ g, y.1.1 = some ⟨g, 0, none⟩)) ∧
      St w [] (.vec y.1.1 y.2.length y.1.2 26 1 (flat drV y.2) :: y.2.map drowE) w' := by
    intro w' H hw' hne
    have hb : bndRes N sure may ticks = ([], bndErr N sure may ticks) := by unfold bndRes; rw [if_pos hne]
    rw [hb]
    exact ⟨((none, 0), []), rfl, ⟨rfl, by simp⟩, hw'.le (HLe.nilv .nil)⟩
  refine enter (C := Tryz.cx) (F := Tryz.fx24) (args := [_, _, _, _]) Tryz.func24 rfl rfl rfl Tryz.ok24 (St.start w []) ?_
  repeat' (conv => whnf); first | (refine VNew.mk fun b4 => ?_) | (refine VCall.isF 63 ?_; refine VCall.valR (fun w' hw' => refNetCheck_any N hN _ _ _ _ _ _ _ _ _ (h1.keep hw' (by simp)) (h2.keep hw' (by simp))) ?_) | (refine VCall.isF 80 ?_; refine VCall.valR (fun w' hw' => rEvents_any N hN _ (by assumption) _ _ _ _ _ _ _ (by first | exact h3.keep hw' (by simp) | exact h4.keep hw' (by simp))) ?_) | (refine VCall.isF 66 ?_; refine VCall.val (rTime_any ticks) ?_) | (refine VSeq.go ?_) | (refine VB.is ?_; refine VB.yes (by omega) fun _ => ?_) | (refine VB.is ?_; refine VB.no (by omega) fun _ => ?_) | (refine VB.split (fun _ => ?_) (fun _ => ?_)) | (refine VLd.is ?_; refine VLd.mk (.row aT (by rfl)) ?_)
  all_goals (conv => whnf)
  all_goals try first
    | (have he : bndErr N sure may ticks = tmE ticks := by unfold bndErr; rw [if_neg (by omega), if_neg (by omega), if_neg (by omega)]
       rw [← he]
       exact ⟨fun w' hw' => hfin w' _ hw' (by omega)⟩)
    | (have he : bndErr N sure may ticks = evEr N may := by unfold bndErr; rw [if_neg (by omega), if_neg (by omega), if_pos (by omega)]
       rw [← he]
       exact ⟨fun w' hw' => hfin w' _ hw' (by omega)⟩)
    | (have he : bndErr N sure may ticks = evEr N sure := by unfold bndErr; rw [if_neg (by omega), if_pos (by omega)]
       rw [← he]
       exact ⟨fun w' hw' => hfin w' _ hw' (by omega)⟩)
    | (have he : bndErr N sure may ticks = netchk N := by unfold bndErr; rw [if_pos (by omega)]
       rw [← he]
       exact ⟨fun w' hw' => hfin w' _ hw' (by omega)⟩)
  have hfacts : netchk N = 0 ∧ evEr N sure = 0 ∧ evEr N may = 0 ∧ tmE ticks = 0 := ⟨by omega, by omega, by omega, by omega⟩
  have hz : bndErr N sure may ticks = 0 := by unfold bndErr; rw [if_neg (by omega), if_neg (by omega), if_neg (by omega)]; exact hfacts.2.2.2
  have htm : 0 ≤ ticks ∧ ticks ≤ 10000 := by
    have h := hfacts.2.2.2
    unfold tmE at h
    split at h
    · assumption
    · cases h
  have hNok : NetOk N := netchk_zero.1 hfacts.1
  have hres : bndRes N sure may ticks = ((bst N sure may ticks.toNat).out, 0) := by unfold bndRes; rw [if_neg (by omega)]
  have hsl : sure.length ≤ 65536 := (evEr_zero hfacts.2.1).few
  have hml : may.length ≤ 65536 := (evEr_zero hfacts.2.2.1).few
  rw [hres]
  clear hfin hfacts hres hz hsu hma
  have hpk := hNok.ps
  have hsk := hNok.syns
  have hN1 := hNok.few
  have hin := hNok.inputs
  obtain ⟨T, hT⟩ : ∃ T : Nat, ticks = T := ⟨ticks.toNat, by omega⟩
  subst hT
  rw [Int.toNat_natCast]
  clear hti
  refine VLoop.kr (α := List CRow × Option Addr × Nat) [1000000, 1, 2, 3, 4, 8, 9] rfl (fun y => y.1.length ≤ N.ps.length ∧ y.1.map (·.l) = (N.ps.take y.1.length).map cell0 ∧ (0 < y.1.length → ∃ g, y.2.1 = some ⟨g, 0, none⟩))
    (fun y K => (11, .slice y.2.1 y.1.length y.2.2) :: (12, .int .i64 (y.1.length : Int)) :: K)
    (fun y => .row b4 25 [.slice pn N.ps.length cn, .int .i64 N.inputs, .slice qs N.syns.length cs] :: .vec y.2.1 y.1.length y.2.2 148 1 (flat crV y.1) :: y.1.map crE) (fun y => N.ps.length - y.1.length) ([], none, 0) ⟨by simp, by simp, by simp⟩ aE ?_ ?_
  · exact HLe.cons aT (HLe.nilv .nil)
  rintro ⟨CD, qc, cc⟩ ⟨hCl, hCD, hqc⟩
  dsimp only at hCl hCD hqc ⊢
  rcases Nat.lt_or_ge CD.length N.ps.length with hlt | hge
  · obtain ⟨p, hp⟩ : ∃ p, N.ps[CD.length]? = some p := ⟨N.ps[CD.length], List.getElem?_eq_getElem _⟩
    have hpr := (hpk p (List.mem_of_getElem? hp)).rest
    obtain ⟨R, hR⟩ : ∃ R : Nat, p.rest = R := ⟨p.rest.toNat, by omega⟩
    have h0 : (List.replicate (R + 1) (none : Option Sp))[0]? = some none := by simp
    repeat' (conv => whnf); first | (refine VIx.is ?_; refine VIx.mk (h1.ptr (by omega)) (by omega) (by omega) ?_) | (refine VLd.is ?_; refine VLd.mk (Rd.cast (h1.rd (o := 7) (s := 1) (vs := [.int .i64 (R : Int)]) (by simp) (fun _ => rfl) hp (by rw [← hR]; rfl)) (by first | omega | (dsimp only; omega) | rfl)) ?_) | (refine VMk.is ?_; refine VMk.is ?_; refine VMk.mk (by omega) (by omega) (by (try dsimp only); omega) (by omega) fun g => ?_; rw [show ((R : Int) + 1).toNat = R + 1 from by omega]) | (refine VSeq.is ?_; refine VSeq.isA 15 rfl ?_; refine VSeq.cut (at_ := 15) (α := Nat) (fun _ => True) (fun g => [(1000000, .tuple #[]), (1, .slice ps sure.length ce), (2, .slice pm may.length cm), (3, .int .i64 (T : Int)), (4, .pointer (some ⟨b4, 0, none⟩)), (8, .slice none 0 0), (9, .int .i64 0), (11, .slice qc CD.length cc), (12, .int .i64 (CD.length : Int)), (13, .slice (some ⟨g, 0, none⟩) (R + 1) (R + 1))]) (fun g => .vec (some ⟨g, 0, none⟩) (R + 1) (R + 1) 150 3 (flat caseV (List.replicate (R + 1) none)) :: .row b4 25 [.slice pn N.ps.length cn, .int .i64 N.inputs, .slice qs N.syns.length cs] :: .vec qc CD.length cc 148 1 (flat crV CD) :: CD.map crE) ?_ ?_) | (refine VSeq.go ?_) | (refine VB.is ?_; refine VB.yes (by omega) fun _ => ?_) | (refine VLd.is ?_; refine VLd.mk (.row aT (by rfl)) ?_) | (refine VAr.is ?_; refine oA ?_)
    all_goals (conv => whnf)
    · have e := flat_rep (f := caseV) (x := none) (R + 1)
      refine VMid.mk g trivial aE ?_
      rw [← e]
      exact aH
    rintro g -
    have h0l : (List.replicate (R + 1) (none : Option Sp)).set 0 (some ⟨0, 0⟩) = cell0 p := by
      unfold cell0
      rw [hR, Int.toNat_natCast, List.replicate_succ]; rfl
    have h0n : (cell0 p).length = R + 1 := by rw [← h0l]; simp
    repeat' (conv => whnf); first | (refine VIx.is ?_; refine VIx.mk rfl (by omega) (by omega) ?_) | (refine VSt.is ?_; refine VSt.cast (off' := 0 * 3 + 0) (by first | omega | (dsimp only; omega)) (VSt.vec aT (upd_flat (o := 0) (f := caseV) (k := 3) (y := some ⟨0, 0⟩) caseV_len h0 rfl) rfl ?_)) | (refine VAp.is ?_; refine VAp.own (p := qc) aT (.at_ (.vec aT rfl)) (by simp [Value.oneCell']) (by (try dsimp only); omega) (by simp only [maxLen]; omega) fun p' cap' hp' => ?_) | (refine VSeq.go ?_) | (refine VNew.mk fun _ => ?_) | (refine VAr.is ?_; refine oA ?_)
    all_goals (conv => whnf)
    refine VNext.mk (CD ++ [⟨g, cell0 p⟩], p', cap') ⟨by simp; omega, ?_, fun _ => hp' (by omega)⟩ (by simp; omega) ?_ ?_
    · dsimp only
      rw [List.map_append, hCD, List.length_append, List.length_cons, List.length_nil, List.take_add_one, hp, Option.toList_some, List.map_append]; rfl
    · dsimp only
      rw [List.length_append, List.length_cons, List.length_nil]
      exact aE
    · dsimp only
      rw [List.length_append, List.length_cons, List.length_nil, List.map_append, flat_append, h0l]
      have e : List.map crE [(⟨g, cell0 p⟩ : CRow)] = [.vec (some ⟨g, 0, none⟩) (R + 1) (R + 1) 150 3 (flat caseV (cell0 p))] := by
        show [crE ⟨g, cell0 p⟩] = _
        unfold crE
        dsimp only
        rw [h0n]
      have e2 : flat crV [(⟨g, cell0 p⟩ : CRow)] = [.slice (some ⟨g, 0, none⟩) (R + 1) (R + 1)] := by
        show [Value.slice (some ⟨g, 0, none⟩) (cell0 p).length (cell0 p).length] = _
        rw [h0n]
      rw [e, e2]
      exact aH
  have hCn : CD.length = N.ps.length := by omega
  rw [hCn, List.take_length] at hCD
  repeat' (conv => whnf); first | (refine VSeq.go ?_) | (refine VB.is ?_; refine VB.no (by omega) fun _ => ?_) | (refine VLd.is ?_; refine VLd.mk (.row aT (by rfl)) ?_) | (refine VAr.is ?_; refine oA ?_)
  all_goals (conv => whnf)
  clear hCl hge
  refine VLoop.kr (α := Nat × List CRow × List DRow × Option Addr × Nat) [1000000, 1, 2, 3, 4, 8, 9] rfl
    (fun y => y.1 ≤ T ∧ y.2.1.map (·.l) = (bst N sure may y.1).cells ∧ y.2.2.1.map (·.l) = (bst N sure may y.1).out ∧ (0 < y.2.2.1.length → ∃ g, y.2.2.2.1 = some ⟨g, 0, none⟩))
    (fun y K => (11, .slice qc N.ps.length cc) :: (15, .int .i64 (y.1 : Int)) :: (14, .slice y.2.2.2.1 y.2.2.1.length y.2.2.2.2) :: K)
    (fun y => .vec qc N.ps.length cc 148 1 (flat crV y.2.1) :: .row b4 25 [.slice pn N.ps.length cn, .int .i64 N.inputs, .slice qs N.syns.length cs] ::
      .vec y.2.2.2.1 y.2.2.1.length y.2.2.2.2 26 1 (flat drV y.2.2.1) :: (y.2.1.map crE ++ y.2.2.1.map drowE)) (fun y => T - y.1) (0, CD, [], none, 0) ⟨by dsimp only; omega, hCD, rfl, by simp⟩ ?_ ?_ ?_
  · dsimp only
    rw [← hCn]
    exact aE
  · dsimp only
    rw [List.map_nil, List.append_nil, ← hCn]
    exact aH
  rintro ⟨t, C1, D, q, cq⟩ ⟨ht, hC1, hD, hq⟩
  dsimp only at ht hC1 hD hq ⊢
  obtain ⟨B, hB⟩ : ∃ B, bst N sure may t = B := ⟨_, rfl⟩
  have hBo := bst_ok hpk sure may t
  rw [hB] at hC1 hD hBo
  have hDl : D.length = t := by rw [← hBo.out, ← hD, List.length_map]
  have hC1l : C1.length = N.ps.length := by rw [← hBo.cells, ← hC1, List.length_map]
  obtain ⟨gq, rfl⟩ := hqc (by have := hNok.some; omega)
  rcases Nat.lt_or_ge t T with htT | htT
  rotate_left
  · have htT' : t = T := by omega
    rw [htT'] at hB
    repeat' (conv => whnf); first | (refine VSeq.go ?_) | (refine VB.is ?_; refine VB.no (by omega) fun _ => ?_) | (refine VLd.is ?_; refine VLd.mk (.row aT (by rfl)) ?_) | (refine VAr.is ?_; refine oA ?_)
    all_goals (conv => whnf)
    rw [hB]
    exact ⟨fun w' hw' => ⟨((q, cq), D), rfl, ⟨hD, hq⟩, hw'.le aH⟩⟩
  obtain ⟨f, hf⟩ : ∃ f : Syn → Int, (fun s => sentV sure may B.out s.frm ((B.out.length : Int) - s.dl)) = f := ⟨_, rfl⟩
  repeat' (conv => whnf); first | (refine VMk.is ?_; refine VMk.mk (by omega) (by omega) (by (try dsimp only); omega) (by omega) fun g2 => ?_) | (refine VSeq.is ?_; refine VSeq.isA 22 rfl ?_; refine VSeq.cut (at_ := 22) (α := Nat × Nat) (fun _ => True) (fun y => [(1000000, .tuple #[]), (1, .slice ps sure.length ce), (2, .slice pm may.length cm), (3, .int .i64 (T : Int)), (4, .pointer (some ⟨b4, 0, none⟩)), (8, .slice none 0 0), (9, .int .i64 0), (11, .slice (some ⟨gq, 0, none⟩) N.ps.length cc), (14, .slice q D.length cq), (15, .int .i64 (t : Int)), (16, .slice (some ⟨y.1, 0, none⟩) N.ps.length N.ps.length), (17, .slice (some ⟨y.2, 0, none⟩) N.ps.length N.ps.length)]) (fun y => .vec (some ⟨y.1, 0, none⟩) N.ps.length N.ps.length 3 1 (flat intV ((insV N f 0).map (·.lo))) :: .vec (some ⟨y.2, 0, none⟩) N.ps.length N.ps.length 3 1 (flat intV ((insV N f 0).map (·.hi))) :: .vec (some ⟨gq, 0, none⟩) N.ps.length cc 148 1 (flat crV C1) :: .row b4 25 [.slice pn N.ps.length cn, .int .i64 N.inputs, .slice qs N.syns.length cs] :: .vec q D.length cq 26 1 (flat drV D) :: (C1.map crE ++ D.map drowE)) ?_ ?_) | (refine VSeq.go ?_) | (refine VB.is ?_; refine VB.yes (by omega) fun _ => ?_) | (refine VKeep.is ?_; refine VKeep.mk aH ?_) | (refine VHs.mk _ (.refl _) ?_) | (refine And.intro ?_ ?_)
  all_goals (conv => whnf)
  · rename_i gb
    have e := flat_rep (f := intV) (x := 0) N.ps.length
    rw [insV_zero, List.map_replicate, List.map_replicate, ← e]
    first
      | exact VMid.mk (gb, g2) trivial aE aH
      | exact VMid.mk (g2, gb) trivial aE aH
  · rename_i gb
    have e := flat_rep (f := intV) (x := 0) N.ps.length
    rw [insV_zero, List.map_replicate, List.map_replicate, ← e]
    first
      | exact VMid.mk (gb, g2) trivial aE aH
      | exact VMid.mk (g2, gb) trivial aE aH
  rintro ⟨g1, g2⟩ -
  dsimp only
  repeat' (conv => whnf); first | (refine VSeq.go ?_) | (refine VB.is ?_; refine VB.no (by omega) fun _ => ?_) | (refine VLd.is ?_; refine VLd.mk (.row aT (by rfl)) ?_) | (refine VAr.is ?_; refine oA ?_)
  all_goals (conv => whnf)
  refine VLoop.kr (α := Nat) [1000000, 1, 2, 3, 4, 8, 9, 11, 14, 15, 16, 17] rfl (fun j => j ≤ N.syns.length)
    (fun j K => (18, .int .i64 (j : Int)) :: K)
    (fun j => .vec (some ⟨g1, 0, none⟩) N.ps.length N.ps.length 3 1 (flat intV ((insV N f j).map (·.lo))) :: .vec (some ⟨g2, 0, none⟩) N.ps.length N.ps.length 3 1 (flat intV ((insV N f j).map (·.hi))) :: .vec (some ⟨gq, 0, none⟩) N.ps.length cc 148 1 (flat crV C1) :: .row b4 25 [.slice pn N.ps.length cn, .int .i64 N.inputs, .slice qs N.syns.length cs] :: .vec q D.length cq 26 1 (flat drV D) :: (C1.map crE ++ D.map drowE)) (fun j => N.syns.length - j) 0 (by omega) aE aH ?_
  intro j hj
  obtain ⟨X, hX⟩ : ∃ X, insV N f j = X := ⟨_, rfl⟩
  have hXl : X.length = N.ps.length := by rw [← hX, insV_len]
  have hXb := insV_in (f := f) (fun s hs => (hsk s hs).2.2.1) hj
  rw [hX] at hXb ⊢
  have hsy8 := hNok.fewS
  rcases Nat.lt_or_ge j N.syns.length with hlt | hge
  · obtain ⟨s, hs⟩ := h2.get hlt
    obtain ⟨hs1, hs2, hs3, hs4⟩ := hsk s (List.mem_of_getElem? hs)
    unfold srcOk at hs1
    obtain ⟨V, hV⟩ : ∃ V, f s = V := ⟨_, rfl⟩
    have hVe : V = sentV sure may B.out s.frm ((t : Int) - s.dl) := by rw [← hV, ← hf, hBo.out]
    have hA : (t : Int) - s.dl < 0 → V = 0 := fun h => by rw [hVe]; unfold sentV; rw [if_pos h]
    obtain ⟨d, hd⟩ : ∃ d : DRow, 0 ≤ (t : Int) - s.dl → D[((t : Int) - s.dl).toNat]? = some d := by
      by_cases h : 0 ≤ (t : Int) - s.dl
      · exact ⟨D[((t : Int) - s.dl).toNat]'(by omega), fun _ => List.getElem?_eq_getElem _⟩
      · exact ⟨⟨0, 0, []⟩, fun h' => absurd h' h⟩
    have hdo : 0 ≤ (t : Int) - s.dl → B.out[((t : Int) - s.dl).toNat]? = some d.l := fun h => by rw [← hD, List.getElem?_map, hd h]; rfl
    have hdl : 0 ≤ (t : Int) - s.dl → d.l.length = N.ps.length := fun h => (hBo.row d.l (List.mem_of_getElem? (hdo h))).1
    obtain ⟨v, hv⟩ : ∃ v : Int, 0 ≤ (t : Int) - s.dl → 0 ≤ s.frm → d.l[s.frm.toNat]? = some v := by
      by_cases h : 0 ≤ (t : Int) - s.dl ∧ 0 ≤ s.frm
      · have := hdl h.1
        exact ⟨d.l[s.frm.toNat]'(by omega), fun _ _ => List.getElem?_eq_getElem _⟩
      · exact ⟨0, fun h1 h2 => absurd ⟨h1, h2⟩ h⟩
    have hBv : 0 ≤ (t : Int) - s.dl → 0 ≤ s.frm → V = v := fun h1 h2 => by
      rw [hVe]; unfold sentV
      rw [if_neg (by omega), if_pos h2, hdo h1]
      simp only [Option.getD_some]
      rw [hv h1 h2]; rfl
    have hC : 0 ≤ (t : Int) - s.dl → ¬ 0 ≤ s.frm → V = if (⟨(t : Int) - s.dl, -1 - s.frm⟩ : Evt) ∈ sure then 2 else if (⟨(t : Int) - s.dl, -1 - s.frm⟩ : Evt) ∈ may then 1 else 0 := fun h1 h2 => by
      rw [hVe]; unfold sentV
      rw [if_neg (by omega), if_neg h2]
    repeat' (conv => whnf); first | (refine VNew.mk fun b19 => ?_) | (refine VIx.is ?_; refine VIx.mk (h2.ptr (by omega)) (by omega) (by omega) ?_) | (refine VIx.is ?_; refine VIx.is ?_; obtain ⟨gd, rfl⟩ := hq (by omega); refine VIx.mk rfl (by omega) (by omega) ?_) | (refine VIx.is ?_; refine VIx.is ?_; have hdl1 := hdl (by omega); refine VIx.mk rfl (by omega) (by omega) ?_) | (refine VLd.is ?_; refine VLd.mk (Rd.cast (h2.rd0 (by simp) (fun _ => rfl) hs rfl) (by first | omega | (dsimp only; omega) | rfl)) ?_) | (refine VCall.isF 81 ?_; refine VCall.inl (F := Tryz.fx81) Tryz.func81 rfl rfl rfl Tryz.ok81 ?_) | (refine VLd.is ?_; refine VLd.mk (Rd.cast (.vec aT (sub_flat0 (f := drV) (k := 1) (fun _ => rfl) (hd (by omega)) rfl)) (by first | omega | (dsimp only; omega) | rfl)) ?_) | (refine VLd.is ?_; refine VLd.mk (Rd.cast (Rd.seg (f := drowE) (l := D) aS (hd (by omega)) rfl (sub_flat0 (f := intV) (k := 1) (fun _ => rfl) (hv (by omega) (by omega)) rfl)) (by first | omega | (dsimp only; omega) | rfl)) ?_) | (refine VCall.isF 142 ?_; (refine VCall.genR (fun w' hw' => event_any _ (by first | exact hsl | exact hml) _ _ _ _ _ _ w' (by first | exact h3.keep hw' (by simp) | exact h4.keep hw' (by simp))) ?_; intro c hc; cases c <;> simp only [Bool.false_eq_true, false_iff, true_iff] at hc)) | (refine VSeq.is ?_; refine VSeq.isA 27 rfl ?_; refine VSeq.cut (at_ := 27) (α := Unit) (fun _ => True) (fun _ => [(1000000, .tuple #[]), (1, .slice ps sure.length ce), (2, .slice pm may.length cm), (3, .int .i64 (T : Int)), (4, .pointer (some ⟨b4, 0, none⟩)), (8, .slice none 0 0), (9, .int .i64 0), (11, .slice (some ⟨gq, 0, none⟩) N.ps.length cc), (14, .slice q D.length cq), (15, .int .i64 (t : Int)), (16, .slice (some ⟨g1, 0, none⟩) N.ps.length N.ps.length), (17, .slice (some ⟨g2, 0, none⟩) N.ps.length N.ps.length), (18, .int .i64 (j : Int)), (19, .pointer (some ⟨b19, 0, none⟩)), (95, .int .i64 V)]) (fun _ => .row b19 144 (synV s) :: .vec (some ⟨g1, 0, none⟩) N.ps.length N.ps.length 3 1 (flat intV (X.map (·.lo))) :: .vec (some ⟨g2, 0, none⟩) N.ps.length N.ps.length 3 1 (flat intV (X.map (·.hi))) :: .vec (some ⟨gq, 0, none⟩) N.ps.length cc 148 1 (flat crV C1) :: .row b4 25 [.slice pn N.ps.length cn, .int .i64 N.inputs, .slice qs N.syns.length cs] :: .vec q D.length cq 26 1 (flat drV D) :: (C1.map crE ++ D.map drowE)) ?_ ?_) | (refine VSeq.go ?_) | (refine VB.is ?_; refine VB.yes (by omega) fun _ => ?_) | (refine VB.split (fun _ => ?_) (fun _ => ?_)) | (refine VLd.is ?_; refine VLd.mk (.row aT (by rfl)) ?_) | (refine VSt.is ?_; refine VSt.row aT (by rfl) (by first | rfl | assumption) ?_) | (refine VAr.is ?_; refine oA ?_)
    all_goals (conv => whnf)
    all_goals try first
      | (have hz := hA (by omega); rw [hz]; exact VMid.mk () trivial aE aH)
      | (have hz := hBv (by omega) (by omega); rw [hz]; exact VMid.mk () trivial aE aH)
      | (have hz := hC (by omega) (by omega)
         first
           | rw [if_pos (by assumption)] at hz
           | rw [if_neg (by assumption), if_pos (by assumption)] at hz
           | rw [if_neg (by assumption), if_neg (by assumption)] at hz
         rw [hz]
         exact VMid.mk () trivial aE aH)
    rintro - -
    clear hA hBv hC hd hdo hdl hv hVe
    obtain ⟨a, ha⟩ : ∃ a, X[s.to.toNat]? = some a := ⟨X[s.to.toNat]'(by omega), List.getElem?_eq_getElem _⟩
    have hlo : (X.map (·.lo))[s.to.toNat]? = some a.lo := by rw [List.getElem?_map, ha]; rfl
    have hhi : (X.map (·.hi))[s.to.toNat]? = some a.hi := by rw [List.getElem?_map, ha]; rfl
    have hab := hXb a (List.mem_of_getElem? ha)
    have hstep := insV_step (f := f) hs
    rw [hX, hV, modify_at _ ha] at hstep
    by_cases hV2 : V = 2
    · subst hV2
      have e : addV 2 s.wt a = ⟨a.lo + s.wt, a.hi + s.wt⟩ := rfl
      rw [e] at hstep
      repeat' (conv => whnf); first | (refine VIx.is ?_; refine VIx.mk rfl (by omega) (by omega) ?_) | (refine VLd.is ?_; refine VLd.mk (Rd.cast (.vec aT (sub_flat0 (f := intV) (k := 1) (l := X.map (·.lo)) (fun _ => rfl) hlo rfl)) (by first | omega | (dsimp only; omega) | rfl)) ?_) | (refine VLd.is ?_; refine VLd.mk (Rd.cast (.vec aT (sub_flat0 (f := intV) (k := 1) (l := X.map (·.hi)) (fun _ => rfl) hhi rfl)) (by first | omega | (dsimp only; omega) | rfl)) ?_) | (refine VSt.is ?_; refine VSt.cast (off' := s.to.toNat * 1) (by first | omega | (dsimp only; omega)) (VSt.vec (xs := flat intV (X.map (·.lo))) aT (upd_flat0 (f := intV) (k := 1) (l := X.map (·.lo)) (y := a.lo + s.wt) (fun _ => rfl) hlo rfl) rfl ?_)) | (refine VSt.is ?_; refine VSt.cast (off' := s.to.toNat * 1) (by first | omega | (dsimp only; omega)) (VSt.vec (xs := flat intV (X.map (·.hi))) aT (upd_flat0 (f := intV) (k := 1) (l := X.map (·.hi)) (y := a.hi + s.wt) (fun _ => rfl) hhi rfl) rfl ?_)) | (refine VSeq.go ?_) | (refine VB.is ?_; refine VB.yes (by omega) fun _ => ?_) | (refine VLd.is ?_; refine VLd.mk (.row aT (by rfl)) ?_) | (refine VAr.is ?_; refine oA ?_) | (refine VHs.mk _ (.refl _) ?_)
      all_goals (conv => whnf)
      refine VNext.mk (j + 1) (by omega) (by omega) aE ?_
      rw [hstep, List.map_set, List.map_set]
      exact aH
    · by_cases hV1 : V = 1
      · subst hV1
        have e : addV 1 s.wt a = ⟨a.lo + min 0 s.wt, a.hi + max 0 s.wt⟩ := rfl
        rw [e] at hstep
        repeat' (conv => whnf); first | (refine VIx.is ?_; refine VIx.mk rfl (by omega) (by omega) ?_) | (refine VLd.is ?_; refine VLd.mk (Rd.cast (.vec aT (sub_flat0 (f := intV) (k := 1) (l := X.map (·.lo)) (fun _ => rfl) hlo rfl)) (by first | omega | (dsimp only; omega) | rfl)) ?_) | (refine VLd.is ?_; refine VLd.mk (Rd.cast (.vec aT (sub_flat0 (f := intV) (k := 1) (l := X.map (·.hi)) (fun _ => rfl) hhi rfl)) (by first | omega | (dsimp only; omega) | rfl)) ?_) | (refine VSt.is ?_; refine VSt.cast (off' := s.to.toNat * 1) (by first | omega | (dsimp only; omega)) (VSt.vec (xs := flat intV (X.map (·.lo))) aT (upd_flat0 (f := intV) (k := 1) (l := X.map (·.lo)) (y := a.lo + min 0 s.wt) (fun _ => rfl) hlo rfl) rfl ?_)) | (refine VSt.is ?_; refine VSt.cast (off' := s.to.toNat * 1) (by first | omega | (dsimp only; omega)) (VSt.vec (xs := flat intV (X.map (·.hi))) aT (upd_flat0 (f := intV) (k := 1) (l := X.map (·.hi)) (y := a.hi + max 0 s.wt) (fun _ => rfl) hhi rfl) rfl ?_)) | (refine VSeq.go ?_) | (refine VB.is ?_; refine VB.yes (by omega) fun _ => ?_) | (refine VB.is ?_; refine VB.no (by omega) fun _ => ?_) | (refine VLd.is ?_; refine VLd.mk (.row aT (by rfl)) ?_) | (refine VAr.is ?_; refine oA ?_) | (refine VHs.mk _ (.refl _) ?_)
        all_goals (conv => whnf)
        refine VNext.mk (j + 1) (by omega) (by omega) aE ?_
        rw [hstep, List.map_set, List.map_set]
        exact aH
      · rw [addV_none hV2 hV1, set_same ha] at hstep
        repeat' (conv => whnf); first | (refine VSeq.go ?_) | (refine VB.is ?_; refine VB.no (by omega) fun _ => ?_) | (refine VLd.is ?_; refine VLd.mk (.row aT (by rfl)) ?_) | (refine VAr.is ?_; refine oA ?_)
        all_goals (conv => whnf)
        refine VNext.mk (j + 1) (by omega) (by omega) aE ?_
        rw [hstep]
        exact aH
  have hjn : j = N.syns.length := by omega
  subst hjn
  have hXe : inB N sure may B.out = X := by rw [← hX, ← hf]; rfl
  clear hX hge h3 h4
  obtain ⟨fv, hfv⟩ : ∃ fv, tkV N B.cells X = fv := ⟨_, rfl⟩
  obtain ⟨fc, hfc⟩ : ∃ fc, tkC N B.cells X = fc := ⟨_, rfl⟩
  repeat' (conv => whnf); first | (refine VMk.is ?_; refine VMk.mk (by omega) (by omega) (by (try dsimp only); omega) (by omega) fun g3 => ?_) | (refine VSeq.go ?_) | (refine VB.is ?_; refine VB.no (by omega) fun _ => ?_) | (refine VLd.is ?_; refine VLd.mk (.row aT (by rfl)) ?_)
  all_goals (conv => whnf)
  rw [Int.toNat_natCast]
  refine VLoop.kr (α := List CRow × List CRow) [1000000, 1, 2, 3, 4, 8, 9, 11, 14, 15, 16, 17, 20] rfl
    (fun y => y.1.length + y.2.length = N.ps.length ∧ y.1.map (·.l) = (List.range y.1.length).map fc ∧ y.2 = C1.drop y.1.length)
    (fun y K => (21, .int .i64 (y.1.length : Int)) :: K)
    (fun y => .vec (some ⟨g3, 0, none⟩) N.ps.length N.ps.length 3 1 (flat intV (parted fv (fun _ => 0) N.ps.length y.1.length)) :: .vec (some ⟨g1, 0, none⟩) N.ps.length N.ps.length 3 1 (flat intV (X.map (·.lo))) :: .vec (some ⟨g2, 0, none⟩) N.ps.length N.ps.length 3 1 (flat intV (X.map (·.hi))) :: .vec (some ⟨gq, 0, none⟩) N.ps.length cc 148 1 (flat crV (y.1 ++ y.2)) ::
      .row b4 25 [.slice pn N.ps.length cn, .int .i64 N.inputs, .slice qs N.syns.length cs] :: .vec q D.length cq 26 1 (flat drV D) :: (y.1.map crE ++ (y.2.map crE ++ D.map drowE))) (fun y => y.2.length) ([], C1) ⟨by simpa using hC1l, rfl, rfl⟩ aE ?_ ?_
  · dsimp only
    rw [List.length_nil, parted_zero, List.nil_append, List.map_nil, List.nil_append]
    have e : (List.range N.ps.length).map (fun _ => (0 : Int)) = List.replicate N.ps.length 0 := by rw [List.map_const', List.length_range]
    have e2 := flat_rep (f := intV) (x := 0) N.ps.length
    rw [e, ← e2]
    exact aH
  rintro ⟨L1, L2⟩ ⟨hL, hLm, hL2⟩
  dsimp only at hL hLm hL2 ⊢
  rcases L2 with _ | ⟨⟨gc, C⟩, L2⟩
  · have hLn : L1.length = N.ps.length := hL
    rw [hLn] at hLm
    rw [hLn, parted_all, List.append_nil, List.map_nil, List.nil_append]
    obtain ⟨row, hrow⟩ : ∃ row, (List.range N.ps.length).map fv = row := ⟨_, rfl⟩
    have hrl : row.length = N.ps.length := by rw [← hrow]; simp
    have hb1 : bst N sure may (t + 1) = ⟨(List.range N.ps.length).map fc, B.out ++ [row]⟩ := by
      show bstep N sure may (bst N sure may t) = _
      rw [hB]
      unfold bstep
      rw [hXe, hfc, hfv, hrow]
    rw [hrow]
    repeat' (conv => whnf); first | (refine VAp.is ?_; refine VAp.own (p := q) aT (.at_ (.vec aT rfl)) (by simp [Value.oneCell']) (by (try dsimp only); omega) (by simp only [maxLen]; omega) fun p' cap' hp' => ?_) | (refine VSeq.go ?_) | (refine VB.is ?_; refine VB.no (by omega) fun _ => ?_) | (refine VNew.mk fun _ => ?_) | (refine VAr.is ?_; refine oA ?_)
    all_goals (conv => whnf)
    refine VNext.mk (t + 1, L1, D ++ [⟨g3, N.ps.length, row⟩], p', cap') ⟨by dsimp only; omega, ?_, ?_, fun _ => hp' (by omega)⟩ (by dsimp only; omega) ?_ ?_
    · dsimp only
      rw [hb1, hLm]
    · dsimp only
      rw [hb1, List.map_append, hD]; rfl
    · dsimp only
      rw [List.length_append, List.length_cons, List.length_nil]
      exact aE
    · dsimp only
      rw [List.length_append, List.length_cons, List.length_nil, List.map_append, flat_append]
      have e : List.map drowE [(⟨g3, N.ps.length, row⟩ : DRow)] = [.vec (some ⟨g3, 0, none⟩) N.ps.length N.ps.length 3 1 (flat intV row)] := by
        show [drowE ⟨g3, N.ps.length, row⟩] = _
        unfold drowE
        dsimp only
        rw [hrl]
      have e2 : flat drV [(⟨g3, N.ps.length, row⟩ : DRow)] = [.slice (some ⟨g3, 0, none⟩) N.ps.length N.ps.length] := by
        show [drowV ⟨g3, N.ps.length, row⟩] = _
        unfold drowV
        dsimp only
        rw [hrl]
      rw [e, e2]
      exact aH
  · have hi2 : L1.length < N.ps.length := by simp only [List.length_cons] at hL; omega
    obtain ⟨p, hp⟩ : ∃ p, N.ps[L1.length]? = some p := ⟨N.ps[L1.length], List.getElem?_eq_getElem _⟩
    obtain ⟨d, hd⟩ : ∃ d, X[L1.length]? = some d := ⟨X[L1.length]'(by omega), List.getElem?_eq_getElem _⟩
    have hdb := hXb d (List.mem_of_getElem? hd)
    have hlo : (X.map (·.lo))[L1.length]? = some d.lo := by rw [List.getElem?_map, hd]; rfl
    have hhi : (X.map (·.hi))[L1.length]? = some d.hi := by rw [List.getElem?_map, hd]; rfl
    have hMi : C1[L1.length]? = some ⟨gc, C⟩ := by
      have := congrArg (fun l => l[0]?) hL2
      simp only [List.getElem?_cons_zero, List.getElem?_drop, Nat.add_zero] at this
      exact this.symm
    have hC : B.cells[L1.length]? = some C := by rw [← hC1, List.getElem?_map, hMi]; rfl
    have hL2' : L2 = C1.drop (L1.length + 1) := by
      have := congrArg (List.drop 1) hL2
      simpa [List.drop_drop, Nat.add_comm] using this
    have hpk1 := hpk p (List.mem_of_getElem? hp)
    have hCk := hBo.ok _ p C hp hC
    have hcg : (L1 ++ (⟨gc, C⟩ : CRow) :: L2)[L1.length]? = some ⟨gc, C⟩ := by rw [List.getElem?_append_right (Nat.le_refl _), Nat.sub_self]; rfl
    have hrg : (parted fv (fun _ => 0) N.ps.length L1.length)[L1.length]? = some 0 := by rw [parted_get hi2, if_neg (by omega)]
    have hfvi : fv L1.length = tickV p C d := by rw [← hfv]; unfold tkV; rw [hp, hC, hd]; rfl
    have hfci : fc L1.length = tickC p C d := by rw [← hfc]; unfold tkC; rw [hp, hC, hd]; rfl
    have hup : ∀ g', upd (crV ⟨gc, C⟩) 0 [.slice (some ⟨g', 0, none⟩) C.length C.length] = some (crV ⟨g', tickC p C d⟩) := by
      intro g'
      show some [Value.slice (some ⟨g', 0, none⟩) C.length C.length] = some [Value.slice (some ⟨g', 0, none⟩) (tickC p C d).length (tickC p C d).length]
      rw [tickC_len]
    rw [List.map_cons, List.cons_append]
    repeat' (conv => whnf); first | (refine VIx.is ?_; refine VIx.mk (h1.ptr (by omega)) (by omega) (by omega) ?_) | (refine VIx.is ?_; refine VIx.mk rfl (by omega) (by omega) ?_) | (refine VLd.is ?_; refine VLd.mk (Rd.cast (h1.rd0 (s := 8) (vs := parV p) (by simp) (fun _ => rfl) hp rfl) (by first | omega | (dsimp only; omega) | rfl)) ?_) | (refine VLd.is ?_; refine VLd.mk (Rd.cast (.vec aT (sub_flat0 (f := crV) (k := 1) (fun _ => rfl) hcg rfl)) (by first | omega | (dsimp only; omega) | rfl)) ?_) | (refine VLd.is ?_; refine VLd.mk (Rd.cast (.vec aT (sub_flat0 (f := intV) (k := 1) (l := X.map (·.lo)) (fun _ => rfl) hlo rfl)) (by first | omega | (dsimp only; omega) | rfl)) ?_) | (refine VLd.is ?_; refine VLd.mk (Rd.cast (.vec aT (sub_flat0 (f := intV) (k := 1) (l := X.map (·.hi)) (fun _ => rfl) hhi rfl)) (by first | omega | (dsimp only; omega) | rfl)) ?_) | (refine VCall.isF 82 ?_; (refine VCall.genR (fun w' hw' => refTicked_any p hpk1 C hCk d (by omega) (some ⟨gc, 0, none⟩) _ gc 0 w' (Sl.own' (f := caseV) (cap := C.length) (e := 150) hw' (by show crE ⟨gc, C⟩ ∈ _; simp) caseV_len rfl)) ?_; intro g' _)) | (refine VSt.is ?_; refine VSt.cast (off' := L1.length * 1) (by first | omega | (dsimp only; omega)) (VSt.vec aT (upd_flat0 (f := intV) (k := 1) (y := tickV p C d) (fun _ => rfl) hrg rfl) rfl ?_)) | (refine VSt.is ?_; refine VSt.cast (off' := L1.length * 1) (by first | omega | (dsimp only; omega)) (VSt.vec aT (upd_flat0 (f := crV) (k := 1) (y := ⟨g', tickC p C d⟩) (fun _ => rfl) hcg (hup g')) rfl ?_)) | (refine VSeq.go ?_) | (refine VB.is ?_; refine VB.yes (by omega) fun _ => ?_) | (refine VLd.is ?_; refine VLd.mk (.row aT (by rfl)) ?_) | (refine VAr.is ?_; refine oA ?_) | (refine VHs.mk _ (.refl _) ?_)
    all_goals (conv => whnf)
    have hset : (L1 ++ (⟨gc, C⟩ : CRow) :: L2).set L1.length ⟨g', tickC p C d⟩ = (L1 ++ [⟨g', tickC p C d⟩]) ++ L2 := by
      rw [List.set_append_right _ _ (Nat.le_refl _), Nat.sub_self, List.append_assoc]; rfl
    have hpset := parted_set (f := fv) (g := fun _ => (0 : Int)) hi2
    rw [hfvi] at hpset
    refine VNext.mk (L1 ++ [⟨g', tickC p C d⟩], L2) ⟨?_, ?_, ?_⟩ (by simp) ?_ ?_
    · dsimp only
      rw [← hL, List.length_append, List.length_cons, List.length_cons, List.length_nil]; omega
    · dsimp only
      rw [List.length_append, List.length_cons, List.length_nil, List.range_succ, List.map_append, List.map_append, hLm]
      simp [hfci]
    · dsimp only
      rw [List.length_append, List.length_cons, List.length_nil]
      exact hL2'
    · dsimp only
      rw [List.length_append, List.length_cons, List.length_nil]
      exact aE
    · have e : crE ⟨g', tickC p C d⟩ = .vec (some ⟨g', 0, none⟩) C.length C.length 150 3 (flat caseV (tickC p C d)) := by
        unfold crE
        dsimp only
        rw [tickC_len]
      dsimp only
      rw [List.length_append, List.length_cons, List.length_nil, ← hpset, ← hset, List.map_append, List.append_assoc, List.map_cons, List.map_nil, e]
      exact aH

end Go.Proofs
