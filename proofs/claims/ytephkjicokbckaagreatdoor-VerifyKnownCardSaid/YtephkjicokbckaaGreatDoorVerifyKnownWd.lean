import Derived.Test.YtephkjicokbckaaGreatDoorVerifyKnownWg
set_option linter.unusedVariables false

set_option linter.unusedSimpArgs false

namespace Go.Proofs

open Go Go.Vx Go.Gm

set_option maxHeartbeats 8000000 in
theorem Bounds_any (N : Net) (hN : N.wf) (sure may : List Evt) (hsu : ∀ x ∈ sure, x.wf) (hma : ∀ x ∈ may, x.wf) (ticks : Int) (hti : I64 ticks) (pn : Option Addr) (cn bn on : Nat) (qs : Option Addr) (cs bs os : Nat) (ps : Option Addr) (ce be oe : Nat) (pm : Option Addr) (cm bm om : Nat) (w : World)
    (h1 : Sl w parV 8 N.ps pn N.ps.length bn on) (h2 : Sl w synV 4 N.syns qs N.syns.length bs os) (h3 : Sl w evtV 2 sure ps sure.length be oe) (h4 : Sl w evtV 2 may pm may.length bm om) (hce : sure.length ≤ ce) (hcm : may.length ≤ cm) :
    Calls Tryz.prog 23 #[.agg #[.slice pn N.ps.length cn, .int .i64 N.inputs, .slice qs N.syns.length cs], .slice ps sure.length ce, .slice pm may.length cm, .int .i64 ticks] w fun e w' => ∃ y : (Option Addr × Nat) × List DRow,
      e = .returned (.tuple #[.slice y.1.1 y.2.length y.1.2, .int .i64 (bndRes N sure may ticks).2]) ∧ (y.2.map (·.l) = (bndRes N sure may ticks).1 ∧ (0 < y.2.length → ∃ g, y.1.1 = some ⟨g, 0, none⟩)) ∧
      St w [] (.vec y.1.1 y.2.length y.1.2 26 1 (flat drV y.2) :: y.2.map drowE) w' := by
  unfold I64 at hti
  refine enter (C := Tryz.cx) (F := Tryz.fx23) (args := [_, _, _, _]) Tryz.func23 rfl rfl rfl Tryz.ok23 (St.start w []) ?_
  repeat' (conv => whnf); first | (refine VCall.isF 54 ?_; refine VCall.inl (F := Tryz.fx54) Tryz.func54 rfl rfl rfl Tryz.ok54 ?_) | (refine VCall.isF 47 ?_; refine VCall.inl (F := Tryz.fx47) Tryz.func47 rfl rfl rfl Tryz.ok47 ?_) | (refine VSeq.go ?_) | (refine VNew.mk fun _ => ?_)
  all_goals (conv => whnf)
  rename_i b4 b5 b6 b7 gf
  refine VLoop.mk (α := Nat) (fun i => i ≤ 4 ∧ (1 ≤ i → netchk N = 0) ∧ (2 ≤ i → evEr N sure = 0) ∧ (3 ≤ i → evEr N may = 0) ∧ (4 ≤ i → tmE ticks = 0))
    (fun i => [(1000000, .tuple #[]), (2, .int .i64 0), (6, .slice (some ⟨gf, 0, none⟩) 4 4), (7, .int .i64 4), (8, .int .i64 (i : Int))])
    (fun _ => [.vec (some ⟨gf, 0, none⟩) 4 4 93 1 [.func (.func 75) #[] #[.pointer (some ⟨b4, 0, none⟩)], .func (.func 76) #[] #[.pointer (some ⟨b4, 0, none⟩), .pointer (some ⟨b5, 0, none⟩)], .func (.func 78) #[] #[.pointer (some ⟨b4, 0, none⟩), .pointer (some ⟨b6, 0, none⟩)], .func (.func 121) #[] #[.pointer (some ⟨b7, 0, none⟩)]],
      .row b4 25 [.slice pn N.ps.length cn, .int .i64 N.inputs, .slice qs N.syns.length cs], .row b5 27 [.slice ps sure.length ce], .row b6 27 [.slice pm may.length cm], .row b7 3 [.int .i64 ticks]]) (fun i => 4 - i) 0 (by omega) aE aH ?_
  rintro i ⟨hi, f1, f2, f3, f4⟩
  have hfin : ∀ w' H, St w [] H w' → bndErr N sure may ticks ≠ 0 → ∃ y : (Option Addr × Nat) × List DRow, Ending.returned (.tuple #[.slice none 0 0, .int .i64 (bndErr N sure may ticks)]) = .returned (.tuple #[.slice y.1.1 y.2.length y.1.2, .int .i64 (bndRes N sure may ticks).2]) ∧ (y.2.map (·.l) = (bndRes N sure may ticks).1 ∧ (0 < y.2.length → ∃ g, y.1.1 = some ⟨g, 0, none⟩)) ∧
      St w [] (.vec y.1.1 y.2.length y.1.2 26 1 (flat drV y.2) :: y.2.map drowE) w' := by
    intro w' H hw' hne
    have hb : bndRes N sure may ticks = ([], bndErr N sure may ticks) := by unfold bndRes; rw [if_pos hne]
    rw [hb]
    exact ⟨((none, 0), []), rfl, ⟨rfl, by simp⟩, hw'.le (HLe.nilv .nil)⟩
  have hi5 : i = 0 ∨ i = 1 ∨ i = 2 ∨ i = 3 ∨ i = 4 := by omega
  rcases hi5 with rfl | rfl | rfl | rfl | rfl
  · repeat' (conv => whnf); first | (refine VLd.is ?_; refine VLd.mk (.vec aT rfl) ?_) | (refine VCall.isF 75 ?_; refine VCall.inl (F := Tryz.fx75) Tryz.func75 rfl rfl rfl Tryz.ok75 ?_) | (refine VCall.isF 49 ?_; refine VCall.valR (fun w' hw' => Check_any N hN _ _ _ _ _ _ _ _ _ (h1.keep hw' (by simp)) (h2.keep hw' (by simp))) ?_) | (refine VSeq.go ?_) | (refine VB.is ?_; refine VB.yes (by omega) fun _ => ?_) | (refine VB.split (fun _ => ?_) (fun _ => ?_)) | (refine VLd.is ?_; refine VLd.mk (.row aT (by rfl)) ?_) | (refine VAr.is ?_; refine oA ?_) | (refine VIx.is ?_; refine VIx.mk rfl (by omega) (by omega) ?_)
    all_goals (conv => whnf)
    all_goals first
      | exact VNext.mk 1 (by omega) (by omega) aE aH
      | (have he : bndErr N sure may ticks = netchk N := by unfold bndErr; rw [if_pos (by omega)]
         rw [← he]
         exact ⟨fun w' hw' => hfin w' _ hw' (by omega)⟩)
  · repeat' (conv => whnf); first | (refine VLd.is ?_; refine VLd.mk (.vec aT rfl) ?_) | (refine VCall.isF 76 ?_; refine VCall.inl (F := Tryz.fx76) Tryz.func76 rfl rfl rfl Tryz.ok76 ?_) | (refine VCall.isF 77 ?_; refine VCall.valR (fun w' hw' => events_any N hN sure hsu _ _ _ _ _ _ _ (h3.keep hw' (by simp)) hce) ?_) | (refine VSeq.go ?_) | (refine VB.is ?_; refine VB.yes (by omega) fun _ => ?_) | (refine VB.split (fun _ => ?_) (fun _ => ?_)) | (refine VLd.is ?_; refine VLd.mk (.row aT (by rfl)) ?_) | (refine VAr.is ?_; refine oA ?_) | (refine VIx.is ?_; refine VIx.mk rfl (by omega) (by omega) ?_)
    all_goals (conv => whnf)
    all_goals first
      | exact VNext.mk 2 (by omega) (by omega) aE aH
      | (have he : bndErr N sure may ticks = evEr N sure := by unfold bndErr; rw [if_neg (by omega), if_pos (by omega)]
         rw [← he]
         exact ⟨fun w' hw' => hfin w' _ hw' (by omega)⟩)
  · repeat' (conv => whnf); first | (refine VLd.is ?_; refine VLd.mk (.vec aT rfl) ?_) | (refine VCall.isF 78 ?_; refine VCall.inl (F := Tryz.fx78) Tryz.func78 rfl rfl rfl Tryz.ok78 ?_) | (refine VCall.isF 77 ?_; refine VCall.valR (fun w' hw' => events_any N hN may hma _ _ _ _ _ _ _ (h4.keep hw' (by simp)) hcm) ?_) | (refine VSeq.go ?_) | (refine VB.is ?_; refine VB.yes (by omega) fun _ => ?_) | (refine VB.split (fun _ => ?_) (fun _ => ?_)) | (refine VLd.is ?_; refine VLd.mk (.row aT (by rfl)) ?_) | (refine VAr.is ?_; refine oA ?_) | (refine VIx.is ?_; refine VIx.mk rfl (by omega) (by omega) ?_)
    all_goals (conv => whnf)
    all_goals first
      | exact VNext.mk 3 (by omega) (by omega) aE aH
      | (have he : bndErr N sure may ticks = evEr N may := by unfold bndErr; rw [if_neg (by omega), if_neg (by omega), if_pos (by omega)]
         rw [← he]
         exact ⟨fun w' hw' => hfin w' _ hw' (by omega)⟩)
  · have htm : tmE ticks = if 0 ≤ ticks ∧ ticks ≤ 10000 then 0 else 3 := rfl
    repeat' (conv => whnf); first | (refine VLd.is ?_; refine VLd.mk (.vec aT rfl) ?_) | (refine VCall.isF 121 ?_; refine VCall.inl (F := Tryz.fx121) Tryz.func121 rfl rfl rfl Tryz.ok121 ?_) | (refine VCall.isF 90 ?_; refine VCall.inl (F := Tryz.fx90) Tryz.func90 rfl rfl rfl Tryz.ok90 ?_) | (refine VCall.isF 86 ?_; refine VCall.inl (F := Tryz.fx86) Tryz.func86 rfl rfl rfl Tryz.ok86 ?_) | (refine VSeq.go ?_) | (refine VB.is ?_; refine VB.yes (by omega) fun _ => ?_) | (refine VB.is ?_; refine VB.no (by omega) fun _ => ?_) | (refine VB.split (fun _ => ?_) (fun _ => ?_)) | (refine VLd.is ?_; refine VLd.mk (.row aT (by rfl)) ?_) | (refine VAr.is ?_; refine oA ?_) | (refine VIx.is ?_; refine VIx.mk rfl (by omega) (by omega) ?_)
    all_goals (conv => whnf)
    all_goals first
      | (rw [if_pos (by omega)] at htm; exact VNext.mk 4 ⟨by omega, by omega, by omega, by omega, fun _ => htm⟩ (by omega) aE aH)
      | (rw [if_neg (by omega)] at htm
         have he : bndErr N sure may ticks = 3 := by unfold bndErr; rw [if_neg (by omega), if_neg (by omega), if_neg (by omega)]; exact htm
         exact ⟨fun w' hw' => by have h := hfin w' _ hw' (by omega); rw [he] at h; exact h⟩)
  have hz : bndErr N sure may ticks = 0 := by unfold bndErr; rw [if_neg (by omega), if_neg (by omega), if_neg (by omega)]; exact f4 (by omega)
  have htm : 0 ≤ ticks ∧ ticks ≤ 10000 := by
    have h := f4 (by omega)
    unfold tmE at h
    split at h
    · assumption
    · cases h
  have hNok : NetOk N := netchk_zero.1 (f1 (by omega))
  have hres : bndRes N sure may ticks = ((bst N sure may ticks.toNat).out, 0) := by unfold bndRes; rw [if_neg (by omega)]
  rw [hres]
  have hsl : sure.length ≤ 65536 := (evEr_zero (f2 (by omega))).few
  have hml : may.length ≤ 65536 := (evEr_zero (f3 (by omega))).few
  clear hfin hi f1 f2 f3 f4
  repeat' (conv => whnf); first | (refine VSeq.go ?_) | (refine VB.is ?_; refine VB.no (by omega) fun _ => ?_) | (refine VLd.is ?_; refine VLd.mk (.row aT (by rfl)) ?_) | (refine VNew.mk fun _ => ?_)
  all_goals (conv => whnf)
  rename_i bk
  have hpk := hNok.ps
  have hsk := hNok.syns
  have hN1 := hNok.few
  have hin := hNok.inputs
  obtain ⟨n, hn⟩ : ∃ n, N.ps.length = n := ⟨_, rfl⟩
  obtain ⟨T, hT⟩ : ∃ T : Nat, ticks = T := ⟨ticks.toNat, by omega⟩
  subst hT
  rw [Int.toNat_natCast]
  refine VLoop.kr (α := Nat × List (Value × Value)) [1000000, 4, 5, 3, 8, 9, 11, 40, 41] rfl (fun y => y.1 ≤ may.length ∧ KnownOf y.2 (knE [] (may.take y.1)))
    (fun y K => (42, .int .i64 (y.1 : Int)) :: K)
    (fun y => [.mapk bk y.2, .row b4 25 [.slice pn N.ps.length cn, .int .i64 N.inputs, .slice qs N.syns.length cs], .row b5 27 [.slice ps sure.length ce]]) (fun y => may.length - y.1) (0, []) ⟨by dsimp only; omega, KnownOf.nil.congr fun y => by simp [knE]⟩ aE aH ?_
  rintro ⟨i, mk⟩ ⟨hi, hK⟩
  dsimp only at hi hK ⊢
  rcases Nat.lt_or_ge i may.length with hlt | hge
  · obtain ⟨x, hx⟩ := h4.get hlt
    have hxw := hma x (List.mem_of_getElem? hx)
    repeat' (conv => whnf); first | (refine VIx.is ?_; refine VIx.mk (h4.ptr (by omega)) (by omega) (by omega) ?_) | (refine VLd.is ?_; refine VLd.mk (Rd.cast (h4.rd0 (by simp) (fun _ => rfl) hx rfl) (by first | omega | (dsimp only; omega) | rfl)) ?_) | (refine VUpK.is ?_; refine VUpK.is ?_; refine KnownOf.put aT hK x hxw 1 (by omega) fun m' hm' => ?_) | (refine VSeq.go ?_) | (refine VB.is ?_; refine VB.yes (by omega) fun _ => ?_) | (refine VLd.is ?_; refine VLd.mk (.row aT (by rfl)) ?_) | (refine VSt.is ?_; refine VSt.row aT (by rfl) (by first | rfl | assumption) ?_) | (refine VNew.mk fun _ => ?_) | (refine VAr.is ?_; refine oA ?_)
    all_goals (conv => whnf)
    exact VNext.mk (i + 1, m') ⟨by dsimp only; omega, hm'.congr fun y => knE_may (S := []) hx y⟩ (by dsimp only; omega) aE aH
  rw [List.take_of_length_le hge] at hK
  repeat' (conv => whnf); first | (refine VSeq.go ?_) | (refine VB.is ?_; refine VB.no (by omega) fun _ => ?_) | (refine VLd.is ?_; refine VLd.mk (.row aT (by rfl)) ?_) | (refine VNew.mk fun _ => ?_)
  all_goals (conv => whnf)
  refine VLoop.kr (α := Nat × List (Value × Value)) [1000000, 4, 3, 8, 9, 11, 49, 50] rfl (fun y => y.1 ≤ sure.length ∧ KnownOf y.2 (knE (sure.take y.1) may))
    (fun y K => (51, .int .i64 (y.1 : Int)) :: K)
    (fun y => [.mapk bk y.2, .row b4 25 [.slice pn N.ps.length cn, .int .i64 N.inputs, .slice qs N.syns.length cs]]) (fun y => sure.length - y.1) (0, mk) ⟨by dsimp only; omega, hK⟩ aE aH ?_
  rintro ⟨i, mk⟩ ⟨hi, hK⟩
  dsimp only at hi hK ⊢
  rcases Nat.lt_or_ge i sure.length with hlt | hge
  · obtain ⟨x, hx⟩ := h3.get hlt
    have hxw := hsu x (List.mem_of_getElem? hx)
    repeat' (conv => whnf); first | (refine VIx.is ?_; refine VIx.mk (h3.ptr (by omega)) (by omega) (by omega) ?_) | (refine VLd.is ?_; refine VLd.mk (Rd.cast (h3.rd0 (by simp) (fun _ => rfl) hx rfl) (by first | omega | (dsimp only; omega) | rfl)) ?_) | (refine VUpK.is ?_; refine VUpK.is ?_; refine KnownOf.put aT hK x hxw 2 (by omega) fun m' hm' => ?_) | (refine VSeq.go ?_) | (refine VB.is ?_; refine VB.yes (by omega) fun _ => ?_) | (refine VLd.is ?_; refine VLd.mk (.row aT (by rfl)) ?_) | (refine VSt.is ?_; refine VSt.row aT (by rfl) (by first | rfl | assumption) ?_) | (refine VNew.mk fun _ => ?_) | (refine VAr.is ?_; refine oA ?_)
    all_goals (conv => whnf)
    exact VNext.mk (i + 1, m') ⟨by dsimp only; omega, hm'.congr fun y => knE_sure hx y⟩ (by dsimp only; omega) aE aH
  rw [List.take_of_length_le hge] at hK
  repeat' (conv => whnf); first | (refine VMk.is ?_; refine VMk.mk (by omega) (by omega) (by (try dsimp only); omega) (by omega) fun g => ?_) | (refine VSeq.go ?_) | (refine VB.is ?_; refine VB.no (by omega) fun _ => ?_) | (refine VLd.is ?_; refine VLd.mk (.row aT (by rfl)) ?_)
  all_goals (conv => whnf)
  rw [Int.toNat_natCast]
  refine VLoop.kr (α := List (Nat × List (Int × Value))) [1000000, 3, 4, 8, 9, 11, 16, 63, 64] rfl (fun MD => MD.length ≤ N.ps.length ∧ ∀ x ∈ MD, x.2 = [(0, spA ⟨0, 0⟩)])
    (fun MD K => (65, .int .i64 (MD.length : Int)) :: K)
    (fun MD => .vec (some ⟨g, 0, none⟩) N.ps.length N.ps.length 141 9 (flat vcV (csM N MD)) :: .mapk bk mk :: .row b4 25 [.slice pn N.ps.length cn, .int .i64 N.inputs, .slice qs N.syns.length cs] :: MD.map mE) (fun MD => N.ps.length - MD.length) [] ⟨by simp, by simp⟩ aE ?_ ?_
  · rw [csM_nil]
    have e := flat_rep (f := vcV) (x := (par0, .map none)) N.ps.length
    rw [← e]
    exact aH
  rintro MD ⟨hMl, hMD⟩
  rcases Nat.lt_or_ge MD.length N.ps.length with hlt | hge
  · obtain ⟨q, hq⟩ : ∃ q, N.ps[MD.length]? = some q := ⟨N.ps[MD.length], List.getElem?_eq_getElem _⟩
    have hget : (csM N MD)[MD.length]? = some (par0, .map none) := by rw [csM_get hlt, List.getElem?_eq_none (Nat.le_refl _)]
    repeat' (conv => whnf); first | (refine VNew.mk fun bm => ?_) | (refine VIx.is ?_; refine VIx.mk (h1.ptr (by omega)) (by omega) (by omega) ?_) | (refine VIx.is ?_; refine VIx.mk rfl (by omega) (by omega) ?_) | (refine VLd.is ?_; refine VLd.mk (Rd.cast (h1.rd0 (by simp) (fun _ => rfl) hq rfl) (by first | omega | (dsimp only; omega) | rfl)) ?_) | (refine VMpU.is ?_; refine VMpU.mk aT ?_) | (refine VSt.is ?_; refine VSt.cast (off' := MD.length * 9) (by first | omega | (dsimp only; omega)) (VSt.vec aT (upd_flat0 (f := vcV) (k := 9) (y := (q, .map (some bm))) (fun _ => rfl) hget rfl) rfl ?_)) | (refine VSeq.go ?_) | (refine VB.is ?_; refine VB.yes (by omega) fun _ => ?_) | (refine VLd.is ?_; refine VLd.mk (.row aT (by rfl)) ?_) | (refine VSt.is ?_; refine VSt.row aT (by rfl) (by first | rfl | assumption) ?_) | (refine VAr.is ?_; refine oA ?_)
    all_goals (conv => whnf)
    rename_i bm
    have hset := csM_set (MD := MD) (MD' := MD ++ [(bm, [(0, spA ⟨0, 0⟩)])]) hq (List.getElem?_concat_length ..) (fun k hk => by
      rcases Nat.lt_or_ge k MD.length with h | h
      · rw [List.getElem?_append_left h]
      · rw [List.getElem?_eq_none (by simp; omega), List.getElem?_eq_none h])
    dsimp only at hset
    refine VNext.mk (MD ++ [(bm, [(0, spA ⟨0, 0⟩)])]) ⟨by simp; omega, fun x hx => ?_⟩ (by simp; omega) ?_ ?_
    · rcases List.mem_append.1 hx with hx | hx
      · exact hMD x hx
      · simp only [List.mem_singleton] at hx; subst hx; rfl
    · rw [List.length_append, List.length_cons, List.length_nil]
      exact aE
    · rw [hset, List.map_append]
      exact aH
  have hMn : MD.length = N.ps.length := by omega
  repeat' (conv => whnf); first | (refine VSeq.go ?_) | (refine VB.is ?_; refine VB.no (by omega) fun _ => ?_) | (refine VLd.is ?_; refine VLd.mk (.row aT (by rfl)) ?_) | (refine VNew.mk fun _ => ?_)
  all_goals (conv => whnf)
  refine VLoop.kr (α := Nat × List (Nat × List (Int × Value)) × List DRow × Option Addr × Nat) [1000000, 4, 8, 9, 11, 16, 79] rfl
    (fun y => y.1 ≤ T ∧ y.2.1.length = N.ps.length ∧ (∀ (k : Nat) x C, y.2.1[k]? = some x → (bst N sure may y.1).cells[k]? = some C → MapOf x.2 (cget C)) ∧ y.2.2.1.map (·.l) = (bst N sure may y.1).out ∧ (0 < y.2.2.1.length → ∃ g, y.2.2.2.1 = some ⟨g, 0, none⟩))
    (fun y K => (80, .int .i64 (y.1 : Int)) :: (19, .slice y.2.2.2.1 y.2.2.1.length y.2.2.2.2) :: K)
    (fun y => .vec (some ⟨g, 0, none⟩) N.ps.length N.ps.length 141 9 (flat vcV (csM N y.2.1)) :: .mapk bk mk :: .row b4 25 [.slice pn N.ps.length cn, .int .i64 N.inputs, .slice qs N.syns.length cs] ::
      .vec y.2.2.2.1 y.2.2.1.length y.2.2.2.2 26 1 (flat drV y.2.2.1) :: (y.2.1.map mE ++ y.2.2.1.map drowE)) (fun y => T - y.1) (0, MD, [], none, 0) ⟨by dsimp only; omega, hMn, ?_, rfl, by simp⟩ aE ?_ ?_
  · intro k x C hx hC
    rw [hMD x (List.mem_of_getElem? hx)]
    simp only [bst, List.getElem?_map] at hC
    cases hp : N.ps[k]? with
    | none => rw [hp] at hC; cases hC
    | some p0 =>
      rw [hp] at hC
      cases hC
      exact MapOf.cell0 p0
  · dsimp only
    rw [List.map_nil, List.append_nil]
    exact aH
  rintro ⟨t, M1, D, q, cq⟩ ⟨ht, hM1, hmap, hD, hq⟩
  dsimp only at ht hM1 hmap hD hq ⊢
  obtain ⟨B, hB⟩ : ∃ B, bst N sure may t = B := ⟨_, rfl⟩
  have hBo := bst_ok hpk sure may t
  rw [hB] at hmap hD hBo
  have hDl : D.length = t := by rw [← hBo.out, ← hD, List.length_map]
  rcases Nat.lt_or_ge t T with htT | htT
  rotate_left
  · have htT' : t = T := by omega
    rw [htT'] at hB
    repeat' (conv => whnf); first | (refine VSeq.go ?_) | (refine VB.is ?_; refine VB.no (by omega) fun _ => ?_) | (refine VLd.is ?_; refine VLd.mk (.row aT (by rfl)) ?_) | (refine VNew.mk fun _ => ?_)
    all_goals (conv => whnf)
    rw [hB]
    exact ⟨fun w' hw' => ⟨((q, cq), D), rfl, ⟨hD, hq⟩, hw'.le aH⟩⟩
  clear hsu hma h1 h3 h4 hce hcm hz hres hsl hml hMl hMD hMn hn
  obtain ⟨f, hf⟩ : ∃ f : Syn → Int, (fun s => sentV sure may B.out s.frm ((B.out.length : Int) - s.dl)) = f := ⟨_, rfl⟩
  repeat' (conv => whnf); first | (refine VMk.is ?_; refine VMk.mk (by omega) (by omega) (by (try dsimp only); omega) (by omega) fun g2 => ?_) | (refine VSeq.go ?_) | (refine VB.is ?_; refine VB.yes (by omega) fun _ => ?_) | (refine VLd.is ?_; refine VLd.mk (.row aT (by rfl)) ?_)
  all_goals (conv => whnf)
  rw [Int.toNat_natCast]
  refine VLoop.kr (α := Nat) [1000000, 4, 8, 9, 11, 16, 19, 20, 21, 79, 80, 87, 88] rfl (fun j => j ≤ N.syns.length)
    (fun j K => (89, .int .i64 (j : Int)) :: K)
    (fun j => .vec (some ⟨g2, 0, none⟩) N.ps.length N.ps.length 138 2 (flat spV (insV N f j)) :: .vec (some ⟨g, 0, none⟩) N.ps.length N.ps.length 141 9 (flat vcV (csM N M1)) :: .mapk bk mk :: .row b4 25 [.slice pn N.ps.length cn, .int .i64 N.inputs, .slice qs N.syns.length cs] ::
      .vec q D.length cq 26 1 (flat drV D) :: (M1.map mE ++ D.map drowE)) (fun j => N.syns.length - j) 0 (by omega) aE ?_ ?_
  · rw [insV_zero]
    have e := flat_rep (f := spV) (x := ⟨0, 0⟩) N.ps.length
    rw [← e]
    exact aH
  intro j hj
  obtain ⟨X, hX⟩ : ∃ X, insV N f j = X := ⟨_, rfl⟩
  have hXl : X.length = N.ps.length := by rw [← hX, insV_len]
  have hXb := insV_in (f := f) (fun s hs => (hsk s hs).2.2.1) hj
  rw [hX] at hXb ⊢
  have hsy8 := hNok.fewS
  rcases Nat.lt_or_ge j N.syns.length with hlt | hge
  · obtain ⟨s, hs⟩ := h2.get hlt
    obtain ⟨hs1, hs2, hs3, hs4⟩ := hsk s (List.mem_of_getElem? hs)
    unfold srcOk at hs1
    obtain ⟨V, hV⟩ : ∃ V, f s = V := ⟨_, rfl⟩
    have hVe : V = sentV sure may B.out s.frm ((t : Int) - s.dl) := by rw [← hV, ← hf, hBo.out]
    have hA : (t : Int) - s.dl < 0 → V = 0 := fun h => by rw [hVe]; unfold sentV; rw [if_pos h]
    obtain ⟨d, hd⟩ : ∃ d : DRow, 0 ≤ (t : Int) - s.dl → D[((t : Int) - s.dl).toNat]? = some d := by
      by_cases h : 0 ≤ (t : Int) - s.dl
      · exact ⟨D[((t : Int) - s.dl).toNat]'(by omega), fun _ => List.getElem?_eq_getElem _⟩
      · exact ⟨⟨0, 0, []⟩, fun h' => absurd h' h⟩
    have hdo : 0 ≤ (t : Int) - s.dl → B.out[((t : Int) - s.dl).toNat]? = some d.l := fun h => by rw [← hD, List.getElem?_map, hd h]; rfl
    have hdl : 0 ≤ (t : Int) - s.dl → d.l.length = N.ps.length := fun h => (hBo.row d.l (List.mem_of_getElem? (hdo h))).1
    obtain ⟨v, hv⟩ : ∃ v : Int, 0 ≤ (t : Int) - s.dl → 0 ≤ s.frm → d.l[s.frm.toNat]? = some v := by
      by_cases h : 0 ≤ (t : Int) - s.dl ∧ 0 ≤ s.frm
      · have := hdl h.1
        exact ⟨d.l[s.frm.toNat]'(by omega), fun _ _ => List.getElem?_eq_getElem _⟩
      · exact ⟨0, fun h1 h2 => absurd ⟨h1, h2⟩ h⟩
    have hBv : 0 ≤ (t : Int) - s.dl → 0 ≤ s.frm → V = v := fun h1 h2 => by
      rw [hVe]; unfold sentV
      rw [if_neg (by omega), if_pos h2, hdo h1]
      simp only [Option.getD_some]
      rw [hv h1 h2]; rfl
    have hC : 0 ≤ (t : Int) - s.dl → ¬ 0 ≤ s.frm → V = knE sure may ⟨(t : Int) - s.dl, -1 - s.frm⟩ := fun h1 h2 => by
      rw [hVe]; unfold sentV
      rw [if_neg (by omega), if_neg h2]; rfl
    repeat' (conv => whnf); first | (refine VNew.mk fun b23 => ?_) | (refine VIx.is ?_; refine VIx.mk (h2.ptr (by omega)) (by omega) (by omega) ?_) | (refine VIx.is ?_; refine VIx.is ?_; obtain ⟨gq, rfl⟩ := hq (by omega); refine VIx.mk rfl (by omega) (by omega) ?_) | (refine VIx.is ?_; refine VIx.is ?_; have hdl1 := hdl (by omega); refine VIx.mk rfl (by omega) (by omega) ?_) | (refine VLd.is ?_; refine VLd.mk (Rd.cast (h2.rd0 (by simp) (fun _ => rfl) hs rfl) (by first | omega | (dsimp only; omega) | rfl)) ?_) | (refine VLd.is ?_; refine VLd.mk (Rd.cast (.vec aT (sub_flat0 (f := drV) (k := 1) (fun _ => rfl) (hd (by omega)) rfl)) (by first | omega | (dsimp only; omega) | rfl)) ?_) | (refine VLd.is ?_; refine VLd.mk (Rd.cast (Rd.seg (f := drowE) (l := D) aS (hd (by omega)) rfl (sub_flat0 (f := intV) (k := 1) (fun _ => rfl) (hv (by omega) (by omega)) rfl)) (by first | omega | (dsimp only; omega) | rfl)) ?_) | (refine VLkK.is ?_; refine VLkK.is ?_; refine KnownOf.get aT hK ⟨(t : Int) - s.dl, -1 - s.frm⟩ (by unfold Evt.wf I64; dsimp only; omega) (fun hk0 => ?_) (fun hk0 => ?_)) | (refine VSeq.is ?_; refine VSeq.isA 35 rfl ?_; refine VSeq.cut (at_ := 35) (α := Unit) (fun _ => True) (fun _ => [(1000000, .tuple #[]), (4, .pointer (some ⟨b4, 0, none⟩)), (8, .slice none 0 0), (9, .int .i64 0), (11, .map (some bk)), (16, .slice (some ⟨g, 0, none⟩) N.ps.length N.ps.length), (19, .slice q D.length cq), (20, .int .i64 (t : Int)), (21, .slice (some ⟨g2, 0, none⟩) N.ps.length N.ps.length), (79, .int .i64 (T : Int)), (80, .int .i64 (t : Int)), (87, .slice qs N.syns.length cs), (88, .int .i64 (N.syns.length : Int)), (89, .int .i64 (j : Int)), (23, .pointer (some ⟨b23, 0, none⟩)), (24, .int .i64 V)]) (fun _ => .row b23 144 (synV s) :: .vec (some ⟨g2, 0, none⟩) N.ps.length N.ps.length 138 2 (flat spV X) :: .vec (some ⟨g, 0, none⟩) N.ps.length N.ps.length 141 9 (flat vcV (csM N M1)) :: .mapk bk mk :: .row b4 25 [.slice pn N.ps.length cn, .int .i64 N.inputs, .slice qs N.syns.length cs] :: .vec q D.length cq 26 1 (flat drV D) :: (M1.map mE ++ D.map drowE)) ?_ ?_) | (refine VSeq.go ?_) | (refine VB.is ?_; refine VB.yes (by omega) fun _ => ?_) | (refine VB.split (fun _ => ?_) (fun _ => ?_)) | (refine VLd.is ?_; refine VLd.mk (.row aT (by rfl)) ?_) | (refine VSt.is ?_; refine VSt.row aT (by rfl) (by first | rfl | assumption) ?_) | (refine VAr.is ?_; refine oA ?_) | (refine VHs.mk _ (.refl _) ?_)
    all_goals (conv => whnf)
    · rw [hA (by omega)]
      exact VMid.mk () trivial aE aH
    · rw [hBv (by omega) (by omega)]
      exact VMid.mk () trivial aE aH
    · rw [hC (by omega) (by omega), hk0]
      exact VMid.mk () trivial aE aH
    · rw [hC (by omega) (by omega)]
      exact VMid.mk () trivial aE aH
    rintro - -
    clear hA hBv hC hd hdo hdl hv hVe
    obtain ⟨a, ha⟩ : ∃ a, X[s.to.toNat]? = some a := ⟨X[s.to.toNat]'(by omega), List.getElem?_eq_getElem _⟩
    have hab := hXb a (List.mem_of_getElem? ha)
    have htl : s.to.toNat < X.length := by omega
    have hstep := insV_step (f := f) hs
    rw [hX, hV, modify_at _ ha] at hstep
    by_cases hV2 : V = 2
    · subst hV2
      have e : addV 2 s.wt a = ⟨a.lo + s.wt, a.hi + s.wt⟩ := rfl
      rw [e] at hstep
      repeat' (conv => whnf); first | (refine VHs.is ?_; refine VHs.mk [.row b23 144 (synV s)] aH ?_) | (refine VIx.is ?_; refine VIx.mk rfl (by omega) (by omega) ?_) | (refine VLd.is ?_; refine VLd.mk (Rd.cast (.vec aT (sub_flat (f := spV) (k := 2) (o := 0) (s := 1) (vs := [.int .i64 a.lo]) (fun _ => rfl) ha rfl)) (by first | omega | (dsimp only; omega) | rfl)) ?_) | (refine VLd.is ?_; refine VLd.mk (Rd.cast (.vec aT (sub_flat (f := spV) (k := 2) (o := 1) (s := 1) (vs := [.int .i64 a.hi]) (fun _ => rfl) ha rfl)) (by first | omega | (dsimp only; omega) | rfl)) ?_) | (refine VSt.is ?_; refine VSt.cast (off' := s.to.toNat * 2 + 0) (by first | omega | (dsimp only; omega)) (VSt.vec aT (upd_flat (o := 0) (f := spV) (k := 2) (l := X) (y := ⟨a.lo + s.wt, a.hi⟩) (fun _ => rfl) ha rfl) rfl ?_)) | (refine VSt.is ?_; refine VSt.cast (off' := s.to.toNat * 2 + 1) (by first | omega | (dsimp only; omega)) (VSt.vec aT (upd_flat (o := 1) (f := spV) (k := 2) (l := X.set s.to.toNat ⟨a.lo + s.wt, a.hi⟩) (y := ⟨a.lo + s.wt, a.hi + s.wt⟩) (fun _ => rfl) (set_at htl) rfl) rfl ?_)) | (refine VSeq.go ?_) | (refine VB.is ?_; refine VB.yes (by omega) fun _ => ?_) | (refine VLd.is ?_; refine VLd.mk (.row aT (by rfl)) ?_) | (refine VAr.is ?_; refine oA ?_) | (refine VKeep.is ?_; refine VKeep.mk aH ?_) | (refine And.intro ?_ ?_)
      all_goals (conv => whnf)
      all_goals
        refine VNext.mk (j + 1) (by omega) (by omega) aE ?_
        rw [hstep]
        try rw [List.set_set]
        exact aH
    · by_cases hV1 : V = 1
      · subst hV1
        have e : addV 1 s.wt a = ⟨a.lo + min 0 s.wt, a.hi + max 0 s.wt⟩ := rfl
        rw [e] at hstep
        repeat' (conv => whnf); first | (refine VHs.is ?_; refine VHs.mk [.row b23 144 (synV s)] aH ?_) | (refine VIx.is ?_; refine VIx.mk rfl (by omega) (by omega) ?_) | (refine VLd.is ?_; refine VLd.mk (Rd.cast (.vec aT (sub_flat (f := spV) (k := 2) (o := 0) (s := 1) (vs := [.int .i64 a.lo]) (fun _ => rfl) ha rfl)) (by first | omega | (dsimp only; omega) | rfl)) ?_) | (refine VLd.is ?_; refine VLd.mk (Rd.cast (.vec aT (sub_flat (f := spV) (k := 2) (o := 1) (s := 1) (vs := [.int .i64 a.hi]) (fun _ => rfl) ha rfl)) (by first | omega | (dsimp only; omega) | rfl)) ?_) | (refine VSt.is ?_; refine VSt.cast (off' := s.to.toNat * 2 + 0) (by first | omega | (dsimp only; omega)) (VSt.vec aT (upd_flat (o := 0) (f := spV) (k := 2) (l := X) (y := ⟨a.lo + min 0 s.wt, a.hi⟩) (fun _ => rfl) ha rfl) rfl ?_)) | (refine VSt.is ?_; refine VSt.cast (off' := s.to.toNat * 2 + 1) (by first | omega | (dsimp only; omega)) (VSt.vec aT (upd_flat (o := 1) (f := spV) (k := 2) (l := X.set s.to.toNat ⟨a.lo + min 0 s.wt, a.hi⟩) (y := ⟨a.lo + min 0 s.wt, a.hi + max 0 s.wt⟩) (fun _ => rfl) (set_at htl) rfl) rfl ?_)) | (refine VSeq.go ?_) | (refine VB.is ?_; refine VB.yes (by omega) fun _ => ?_) | (refine VB.is ?_; refine VB.no (by omega) fun _ => ?_) | (refine VLd.is ?_; refine VLd.mk (.row aT (by rfl)) ?_) | (refine VAr.is ?_; refine oA ?_) | (refine VKeep.is ?_; refine VKeep.mk aH ?_) | (refine And.intro ?_ ?_)
        all_goals (conv => whnf)
        all_goals
          refine VNext.mk (j + 1) (by omega) (by omega) aE ?_
          rw [hstep]
          try rw [List.set_set]
          exact aH
      · rw [addV_none hV2 hV1, set_same ha] at hstep
        repeat' (conv => whnf); first | (refine VIx.is ?_; refine VIx.mk rfl (by omega) (by omega) ?_) | (refine VSeq.go ?_) | (refine VB.is ?_; refine VB.no (by omega) fun _ => ?_) | (refine VLd.is ?_; refine VLd.mk (.row aT (by rfl)) ?_) | (refine VAr.is ?_; refine oA ?_)
        all_goals (conv => whnf)
        refine VNext.mk (j + 1) (by omega) (by omega) aE ?_
        rw [hstep]
        exact aH
  have hjn : j = N.syns.length := by omega
  subst hjn
  have hXe : inB N sure may B.out = X := by rw [← hX, ← hf]; rfl
  clear hX hge
  obtain ⟨fv, hfv⟩ : ∃ fv, tkV N B.cells X = fv := ⟨_, rfl⟩
  obtain ⟨fc, hfc⟩ : ∃ fc, tkC N B.cells X = fc := ⟨_, rfl⟩
  repeat' (conv => whnf); first | (refine VMk.is ?_; refine VMk.mk (by omega) (by omega) (by (try dsimp only); omega) (by omega) fun g3 => ?_) | (refine VSeq.go ?_) | (refine VB.is ?_; refine VB.no (by omega) fun _ => ?_)
  all_goals (conv => whnf)
  rw [Int.toNat_natCast]
  refine VLoop.kr (α := List (Nat × List (Int × Value)) × List (Nat × List (Int × Value))) [1000000, 4, 8, 9, 11, 16, 19, 21, 27, 79, 80, 175] rfl
    (fun y => y.1.length + y.2.length = N.ps.length ∧ (∀ (k : Nat) x, y.1[k]? = some x → MapOf x.2 (cget (fc k))) ∧ y.2 = M1.drop y.1.length)
    (fun y K => (176, .int .i64 (y.1.length : Int)) :: K)
    (fun y => .vec (some ⟨g3, 0, none⟩) N.ps.length N.ps.length 3 1 (flat intV (parted fv (fun _ => 0) N.ps.length y.1.length)) :: .vec (some ⟨g2, 0, none⟩) N.ps.length N.ps.length 138 2 (flat spV X) :: .vec (some ⟨g, 0, none⟩) N.ps.length N.ps.length 141 9 (flat vcV (csM N (y.1 ++ y.2))) :: .mapk bk mk ::
      .row b4 25 [.slice pn N.ps.length cn, .int .i64 N.inputs, .slice qs N.syns.length cs] :: .vec q D.length cq 26 1 (flat drV D) :: (y.1.map mE ++ (y.2.map mE ++ D.map drowE))) (fun y => y.2.length) ([], M1) ⟨by simpa using hM1, by simp, rfl⟩ aE ?_ ?_
  · dsimp only
    rw [List.length_nil, parted_zero, List.nil_append, List.map_nil, List.nil_append]
    have e : (List.range N.ps.length).map (fun _ => (0 : Int)) = List.replicate N.ps.length 0 := by rw [List.map_const', List.length_range]
    have e2 := flat_rep (f := intV) (x := 0) N.ps.length
    rw [e, ← e2]
    exact aH
  rintro ⟨L1, L2⟩ ⟨hL, hLm, hL2⟩
  dsimp only at hL hLm hL2 ⊢
  rcases L2 with _ | ⟨⟨b, m⟩, L2⟩
  · have hLn : L1.length = N.ps.length := hL
    rw [hLn, parted_all, List.append_nil, List.map_nil, List.nil_append]
    obtain ⟨row, hrow⟩ : ∃ row, (List.range N.ps.length).map fv = row := ⟨_, rfl⟩
    have hrl : row.length = N.ps.length := by rw [← hrow]; simp
    have hb1 : bst N sure may (t + 1) = ⟨(List.range N.ps.length).map fc, B.out ++ [row]⟩ := by
      show bstep N sure may (bst N sure may t) = _
      rw [hB]
      unfold bstep
      rw [hXe, hfc, hfv, hrow]
    rw [hrow]
    repeat' (conv => whnf); first | (refine VAp.is ?_; refine VAp.own (p := q) aT (.at_ (.vec aT rfl)) (by simp [Value.oneCell']) (by (try dsimp only); omega) (by simp only [maxLen]; omega) fun p' cap' hp' => ?_) | (refine VSeq.go ?_) | (refine VB.is ?_; refine VB.no (by omega) fun _ => ?_) | (refine VNew.mk fun _ => ?_) | (refine VAr.is ?_; refine oA ?_)
    all_goals (conv => whnf)
    refine VNext.mk (t + 1, L1, D ++ [⟨g3, N.ps.length, row⟩], p', cap') ⟨by dsimp only; omega, hLn, ?_, ?_, fun _ => hp' (by omega)⟩ (by dsimp only; omega) ?_ ?_
    · intro k x C hx hC
      dsimp only at hC
      rw [hb1] at hC
      simp only [List.getElem?_map] at hC
      have hk : k < N.ps.length := by rw [← hLn]; exact (List.getElem?_eq_some_iff.1 hx).1
      rw [List.getElem?_range hk] at hC
      cases hC
      exact hLm k x hx
    · dsimp only
      rw [hb1, List.map_append, hD]; rfl
    · dsimp only
      rw [List.length_append, List.length_cons, List.length_nil]
      exact aE
    · dsimp only
      rw [List.length_append, List.length_cons, List.length_nil, List.map_append, flat_append]
      have e : List.map drowE [(⟨g3, N.ps.length, row⟩ : DRow)] = [.vec (some ⟨g3, 0, none⟩) N.ps.length N.ps.length 3 1 (flat intV row)] := by
        show [drowE ⟨g3, N.ps.length, row⟩] = _
        unfold drowE
        dsimp only
        rw [hrl]
      have e2 : flat drV [(⟨g3, N.ps.length, row⟩ : DRow)] = [.slice (some ⟨g3, 0, none⟩) N.ps.length N.ps.length] := by
        show [drowV ⟨g3, N.ps.length, row⟩] = _
        unfold drowV
        dsimp only
        rw [hrl]
      rw [e, e2]
      exact aH
  · have hi2 : L1.length < N.ps.length := by simp only [List.length_cons] at hL; omega
    obtain ⟨p, hp⟩ : ∃ p, N.ps[L1.length]? = some p := ⟨N.ps[L1.length], List.getElem?_eq_getElem _⟩
    obtain ⟨C, hC⟩ : ∃ C, B.cells[L1.length]? = some C := ⟨B.cells[L1.length]'(by rw [hBo.cells]; exact hi2), List.getElem?_eq_getElem _⟩
    obtain ⟨d, hd⟩ : ∃ d, X[L1.length]? = some d := ⟨X[L1.length]'(by omega), List.getElem?_eq_getElem _⟩
    have hdb := hXb d (List.mem_of_getElem? hd)
    have hMi : M1[L1.length]? = some (b, m) := by
      have := congrArg (fun l => l[0]?) hL2
      simp only [List.getElem?_cons_zero, List.getElem?_drop, Nat.add_zero] at this
      exact this.symm
    have hL2' : L2 = M1.drop (L1.length + 1) := by
      have := congrArg (List.drop 1) hL2
      simpa [List.drop_drop, Nat.add_comm] using this
    have hpk1 := hpk p (List.mem_of_getElem? hp)
    have hCk := hBo.ok _ p C hp hC
    have hcg : (csM N (L1 ++ (b, m) :: L2))[L1.length]? = some (p, .map (some b)) := by
      rw [csM_get hi2, List.getElem?_append_right (Nat.le_refl _), Nat.sub_self, List.getElem?_cons_zero, hp]; rfl
    have hrg : (parted fv (fun _ => 0) N.ps.length L1.length)[L1.length]? = some 0 := by rw [parted_get hi2, if_neg (by omega)]
    have hfvi : fv L1.length = tickV p C d := by rw [← hfv]; unfold tkV; rw [hp, hC, hd]; rfl
    have hfci : fc L1.length = tickC p C d := by rw [← hfc]; unfold tkC; rw [hp, hC, hd]; rfl
    rw [List.map_cons, List.cons_append]
    repeat' (conv => whnf); first | (refine VIx.is ?_; refine VIx.mk rfl (by omega) (by omega) ?_) | (refine VLd.is ?_; refine VLd.mk (Rd.cast (.vec aT (sub_flat0 (f := spV) (k := 2) (s := 2) (vs := spV d) (fun _ => rfl) hd rfl)) (by first | omega | (dsimp only; omega) | rfl)) ?_) | (refine VCall.isF 79 ?_; (refine bt_call (csM N (L1 ++ (b, m) :: L2)) L1.length _ (by first | omega | (dsimp only; omega)) p b hcg (by rw [csM_len]; omega) hpk1 C hCk m (hmap _ _ C hMi hC) d (by omega) g N.ps.length N.ps.length (csM_len _ _) (by repeat (first | exact Take.nil | (with_reducible apply Take.seg; (focus (exact aS))) | (apply Take.cons; (focus (exact aT))) | (apply Take.last; (focus (exact aS))))) fun b' m' hm' => ?_)) | (refine VSt.is ?_; refine VSt.cast (off' := L1.length * 1) (by first | omega | (dsimp only; omega)) (VSt.vec aT (upd_flat0 (f := intV) (k := 1) (y := tickV p C d) (fun _ => rfl) hrg rfl) rfl ?_)) | (refine VSeq.go ?_) | (refine VB.is ?_; refine VB.yes (by omega) fun _ => ?_) | (refine VAr.is ?_; refine oA ?_) | (refine VHs.mk _ (.refl _) ?_)
    all_goals (conv => whnf)
    have hset := csM_set (MD := L1 ++ (b, m) :: L2) (MD' := (L1 ++ [(b', m')]) ++ L2) hp (x := (b', m')) (by rw [List.append_assoc, List.getElem?_append_right (Nat.le_refl _), Nat.sub_self]; rfl) (fun k hk => by
      rw [List.append_assoc]
      rcases Nat.lt_or_ge k L1.length with h | h
      · rw [List.getElem?_append_left h, List.getElem?_append_left h]
      · rw [List.getElem?_append_right h, List.getElem?_append_right h]
        obtain ⟨e, he⟩ : ∃ e, k - L1.length = e + 1 := ⟨k - L1.length - 1, by omega⟩
        rw [he]; rfl)
    have hpset := parted_set (f := fv) (g := fun _ => (0 : Int)) hi2
    rw [hfvi] at hpset
    refine VNext.mk (L1 ++ [(b', m')], L2) ⟨?_, ?_, ?_⟩ (by simp) ?_ ?_
    · dsimp only
      rw [← hL, List.length_append, List.length_cons, List.length_cons, List.length_nil]; omega
    · intro k x hx
      dsimp only at hx
      rcases Nat.lt_or_ge k L1.length with h | h
      · rw [List.getElem?_append_left h] at hx
        exact hLm k x hx
      · rw [List.getElem?_append_right h] at hx
        have hk : k = L1.length := by
          have := (List.getElem?_eq_some_iff.1 hx).1
          simp at this; omega
        subst hk
        rw [Nat.sub_self] at hx
        cases hx
        rw [hfci]; exact hm'
    · dsimp only
      rw [List.length_append, List.length_cons, List.length_nil]
      exact hL2'
    · dsimp only
      rw [List.length_append, List.length_cons, List.length_nil]
      exact aE
    · dsimp only
      rw [List.length_append, List.length_cons, List.length_nil, ← hpset, ← hset, List.map_append, List.append_assoc]
      exact aH

end Go.Proofs
