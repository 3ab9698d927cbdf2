import Derived.Test.YtjjcoiicikaaiaaGreatPlaceMapsMt
set_option linter.unusedVariables false
set_option linter.unusedSimpArgs false
set_option maxHeartbeats 4000000

namespace Go.Proofs

open Go Go.Vx Go.Gm

theorem refRoute_any (s : Spc) (hok : SpcOk s) (src t : Int) (hs : 0 ≤ src ∧ src < s.wide * s.high) (ht : 0 ≤ t ∧ t < s.wide * s.high) (w : World) :
  Calls Tryz.prog 165 #[.agg (spcC s).toArray, .int .i64 src, .int .i64 t] w fun e w' => ∃ (z : Nat × Nat), e = .returned (.tuple #[.slice (some ⟨z.1, 0, none⟩) (rte s.wide src t).length z.2, .int .i64 0]) ∧ True ∧ St w [] [.vec (some ⟨z.1, 0, none⟩) (rte s.wide src t).length z.2 3 1 (flat intV (rte s.wide src t))] w' := by
 have ha := area_ok hok
 have hwd := hok.wide
 have hhi := hok.high
 have hW : 0 < s.wide := by omega
 have hwf : s.wf := by
  have := hok.room
  refine ⟨?_, ?_, ?_⟩ <;> unfold I64 <;> omega
 have hm := refTwo_any s hwf src t (by unfold I64; omega) (by unfold I64; omega)
 have hz : knownE s [src, t] = 0 := knownE_zero.2 ⟨hok, by intro x hx; simp only [List.mem_cons, List.not_mem_nil, or_false] at hx; rcases hx with rfl | rfl; exact hs; exact ht⟩
 rw [hz] at hm
 have hlen := rte_length hW _ src t rfl
 have hdl := dist_le hW hs ht
 refine enter (C := Tryz.cx) (F := Tryz.fx165) (args := [_, _, _]) Tryz.func165 rfl rfl rfl Tryz.ok165 (St.start w []) ?_
 unfold spcC at hm ⊢
 repeat' (conv => whnf); first | (refine VCall.isF 163 ?_; (refine VCall.valR (fun w' _ => hm w') ?_)) | (refine VNew.mk fun b9 => ?_) | (refine VSeq.go ?_) | (refine VB.is ?_; refine VB.no (by omega) fun _ => ?_) | (refine VLd.is ?_; refine VLd.mk (.row aT (by rfl)) ?_)
 all_goals (conv => whnf)
 rename_i b3 q2
 refine VLoop.mk (α := Nat × Int × Nat × Nat) (fun z => RteAt s.wide src t z.1 z.2.1) (fun z => [(1000000, .tuple #[]), (1, .int .i64 z.2.1), (2, .int .i64 t), (3, .pointer (some ⟨b3, 0, none⟩)), (6, .slice none 0 0), (7, .int .i64 0), (9, .slice (some ⟨z.2.2.1, 0, none⟩) (z.1 + 1) z.2.2.2)])
  (fun z => .vec (some ⟨z.2.2.1, 0, none⟩) (z.1 + 1) z.2.2.2 3 1 (flat intV ((rte s.wide src t).take (z.1 + 1))) :: [.row b3 31 [.int .i64 s.wide, .int .i64 s.high, .int .i64 s.room]]) (fun z => (rte s.wide src t).length - z.1) (0, src, b9, 1) (RteAt.zero hW src t) aE ?_ ?_
 ·dsimp only
  obtain ⟨l, hl⟩ := rte_head (W := s.wide) (r := src) (t := t) hW
  rw [hl]
  exact aH
 rintro ⟨k, r, g, cap⟩ hR
 dsimp only at hR ⊢
 have hlt := hR.lt
 have hrr := hR.range hW hs ht
 rcases Decidable.em (r = t) with rfl | hne
 ·repeat' (conv => whnf); first | (refine VSeq.go ?_) | (refine VB.is ?_; refine VB.no (by omega) fun _ => ?_)
  all_goals (conv => whnf)
  have e := hR.last hW
  refine ⟨fun w' hw' => ⟨(g, cap), by rw [e]; rfl, trivial, hw'.le ?_⟩⟩
  rw [List.take_of_length_le (by omega), ← e]
  exact aH
 have hti := refTowards_any s (by omega) r t (by omega) (by omega)
 have hov := refOver_any s (by omega) (by omega) r _ hrr (turn_cases s.wide r t)
 rw [if_pos ⟨fun h => hne ((turn_local hW).1 h), lead_turn hW hrr ht⟩] at hov
 have hR2 := hR.step hW hne
 have htk : (rte s.wide src t).take (k + 1 + 1) = (rte s.wide src t).take (k + 1) ++ [nextM s.wide r (turnM s.wide r t)] := by
  rw [List.take_add_one (i := k + 1), hR2.get, Option.toList_some]
 have hll := hR2.lt
 obtain ⟨R, hR3⟩ : ∃ R, (rte s.wide src t).take (k + 1) = R := ⟨_, rfl⟩
 rw [hR3] at htk ⊢
 obtain ⟨v, hv⟩ : ∃ v, nextM s.wide r (turnM s.wide r t) = v := ⟨_, rfl⟩
 rw [hv] at hov htk hR2
 unfold spcC at hti hov
 repeat' (conv => whnf); first | (refine VCall.isF 166 ?_; (refine VCall.valR (fun w' _ => hti w') ?_)) | (refine VCall.isF 187 ?_; (refine VCall.valR (fun w' _ => hov w') ?_)) | (refine VAp.is ?_; refine VAp.own aT (.at_ (.vec aT rfl)) (by simp [Value.oneCell']) (by (try dsimp only); omega) (by simp only [maxLen]; omega) fun p' cap' hp' => ?_; obtain ⟨gp, rfl⟩ := hp' (by omega)) | (refine VSeq.go ?_) | (refine VB.is ?_; refine VB.yes (by omega) fun _ => ?_) | (refine VLd.is ?_; refine VLd.mk (.row aT (by rfl)) ?_) | (refine VNew.mk fun _ => ?_) | (refine VKeep.is ?_; refine VKeep.mk aH ?_) | (refine VHs.mk _ (.refl _) ?_)
 all_goals (conv => whnf)
 refine VNext.mk (k + 1, v, gp, cap') hR2 (by dsimp only; omega) aE ?_
 dsimp only
 rw [htk, flat_append]
 exact aH

theorem refTree_any (s : Spc) (hs : s.wf) (src : Int) (hsrc : I64 src) (ts : List Int) (hts : ∀ x ∈ ts, I64 x) (hlen : ts.length ≤ 65536) (p : Option Addr) (c b o : Nat) (w : World) (h1 : Sl w intV 1 ts p ts.length b o) :
  Calls Tryz.prog 128 #[.agg (spcC s).toArray, .int .i64 src, .slice p ts.length c] w fun e w' => ∃ z : Option Addr × Nat, e = .returned (.tuple #[.slice z.1 (treeR s src ts).1.length z.2, .int .i64 (treeR s src ts).2]) ∧ (0 < (treeR s src ts).1.length → ∃ g, z.1 = some ⟨g, 0, none⟩) ∧ St w [] [.vec z.1 (treeR s src ts).1.length z.2 3 1 (flat intV (treeR s src ts).1)] w' := by
 have hm := refTwo_any s hs src src hsrc hsrc
 refine enter (C := Tryz.cx) (F := Tryz.fx128) (args := [_, _, _]) Tryz.func128 rfl rfl rfl Tryz.ok128 (St.start w []) ?_
 have hk1 : knownE s [src, src] ≠ 0 → treeR s src ts = ([], knownE s [src, src]) := fun h => by
  have e : knownE s (src :: ts) = knownE s [src, src] := by
   unfold knownE at h ⊢
   by_cases hq : meshE s ≠ 0
   ·rw [if_pos hq, if_pos hq]
   ·rw [if_neg hq] at h ⊢
    rw [if_neg hq]
    by_cases hr : ∀ r ∈ [src, src], 0 ≤ r ∧ r < s.wide * s.high
    ·rw [if_pos hr] at h; exact absurd rfl h
    ·rw [if_neg hr, if_neg (fun h2 => hr fun r hrr => by simp at hrr; subst hrr; exact h2 r (by simp))]
  unfold treeR
  rw [e, if_pos h]
 unfold spcC at hm ⊢
 by_cases he : knownE s [src, src] ≠ 0
 ·rw [hk1 he]
  repeat' (conv => whnf); first | (refine VCall.isF 163 ?_; (refine VCall.valR (fun w' _ => hm w') ?_)) | (refine VSeq.go ?_) | (refine VB.is ?_; refine VB.yes (by omega) fun _ => ?_) | (refine VLd.is ?_; refine VLd.mk (.row aT (by rfl)) ?_) | (refine VNew.mk fun _ => ?_)
  all_goals (conv => whnf)
  exact ⟨fun w' hw' => ⟨(none, 0), rfl, (by intro h; cases h), hw'.le (HLe.nilv .nil)⟩⟩
 clear hk1
 have hz : knownE s [src, src] = 0 := Decidable.not_not.1 he
 rw [hz] at hm
 obtain ⟨hok, hrange⟩ := knownE_zero.1 hz
 have hsr := hrange src List.mem_cons_self
 have ha := area_ok hok
 have hwd := hok.wide
 have hW : 0 < s.wide := by omega
 clear he hz hrange
 repeat' (conv => whnf); first | (refine VCall.isF 163 ?_; (refine VCall.valR (fun w' _ => hm w') ?_)) | (refine VNew.mk fun b3 => ?_) | (refine VSeq.go ?_) | (refine VB.is ?_; refine VB.no (by omega) fun _ => ?_) | (refine VLd.is ?_; refine VLd.mk (.row aT (by rfl)) ?_)
 all_goals (conv => whnf)
 refine VLoop.mk (α := Nat) (fun i => i ≤ ts.length ∧ ∀ x ∈ ts.take i, 0 ≤ x ∧ x < s.wide * s.high) (fun i => [(1000000, .tuple #[]), (1, .int .i64 src), (2, .slice p ts.length c), (3, .pointer (some ⟨b3, 0, none⟩)), (6, .slice none 0 0), (7, .int .i64 0), (9, .int .i64 (i : Int))])
  (fun i => [.row b3 31 [.int .i64 s.wide, .int .i64 s.high, .int .i64 s.room]]) (fun i => ts.length - i) 0 ⟨Nat.zero_le _, by simp⟩ aE aH ?_
 rintro i ⟨hi, hall⟩
 rcases Nat.lt_or_ge i ts.length with hlt | hge
 ·obtain ⟨x, hx⟩ := h1.get hlt
  have hxw := hts x (List.mem_of_getElem? hx)
  have hisx := refIs_any s hok x hxw
  unfold spcC at hisx
  repeat' (conv => whnf); first | (refine VIx.is ?_; refine VIx.mk (h1.ptr (by omega)) (by omega) (by omega) ?_) | (refine VLd.is ?_; refine VLd.mk (Rd.cast (h1.rd0 (by simp) (fun _ => rfl) hx rfl) (by first | omega | (dsimp only; omega) | rfl)) ?_) | (refine VCall.isF 164 ?_; (refine VCall.genR (fun w' _ => hisx w') ?_; intro bb hbb; cases bb)) | (refine VSeq.go ?_) | (refine VB.is ?_; refine VB.yes (by omega) fun _ => ?_) | (refine VLd.is ?_; refine VLd.mk (.row aT (by rfl)) ?_) | (refine VAr.is ?_; refine oA ?_) | (refine VHs.mk _ (.refl _) ?_)
  all_goals (conv => whnf)
  ·have hbad : knownE s (src :: ts) = 4 := by
    unfold knownE
    rw [if_neg (by rw [meshE_zero.2 hok]; simp), if_neg (fun h => Bool.noConfusion (hbb.2 (h x (List.mem_cons_of_mem _ (List.mem_of_getElem? hx)))))]
   refine ⟨fun w' hw' => ?_⟩
   unfold treeR
   rw [hbad, if_pos (by decide)]
   exact ⟨(none, 0), rfl, (by intro h; cases h), hw'.le (HLe.nilv .nil)⟩
  ·refine VNext.mk (i + 1) ⟨by omega, fun r hr => ?_⟩ (by omega) aE aH
   rw [List.take_add_one, hx, Option.toList_some] at hr
   rcases List.mem_append.1 hr with hr | hr
   ·exact hall r hr
   ·rw [List.mem_singleton] at hr; subst hr; exact hbb.1 rfl
 rw [List.take_of_length_le hge] at hall
 have hz : knownE s (src :: ts) = 0 := knownE_zero.2 ⟨hok, by intro x hx; rcases List.mem_cons.1 hx with rfl | hx; exact hsr; exact hall x hx⟩
 unfold treeR
 rw [hz, if_neg (by decide)]
 by_cases hnil : ts = []
 ·have hl0 : ts.length = 0 := by rw [hnil]; rfl
  rw [if_pos hnil]
  repeat' (conv => whnf); first | (refine VSeq.go ?_) | (refine VB.is ?_; refine VB.yes (by omega) fun _ => ?_) | (refine VB.is ?_; refine VB.no (by omega) fun _ => ?_) | (refine VAr.is ?_; refine oA ?_)
  all_goals (conv => whnf)
  exact ⟨fun w' hw' => ⟨(none, 0), rfl, (by intro h; cases h), hw'.le (HLe.nilv .nil)⟩⟩
 rw [if_neg hnil]
 have hpos := List.length_pos_iff.2 hnil
 obtain ⟨n, hn⟩ : ∃ n, (s.wide * s.high).toNat = n := ⟨_, rfl⟩
 have hwn : s.wide * s.high = (n : Int) := by omega
 rw [hn]
 have hrep := flat_rep (f := intV) (x := (0 : Int)) n
 have htl : ∀ l : List Int, (l.foldl (wayT s.wide src) (List.replicate n 0)).length = n := fun l => by rw [foldW_length, List.length_replicate]
 have hOok : ∀ l : List Int, OutsOk (l.foldl (wayT s.wide src) (List.replicate n 0)) := fun l => foldW_ok l fun x hx => by rw [List.eq_of_mem_replicate hx]; omega
 repeat' (conv => whnf); first | (refine VAr.is ?_; refine VAr.is ?_; refine VAr.mul hwn (by omega) (by omega) ?_) | (refine VMk.is ?_; refine VMk.mk (by omega) (by omega) (by (try dsimp only); omega) (by omega) fun g => ?_) | (refine VSeq.go ?_) | (refine VB.is ?_; refine VB.no (by omega) fun _ => ?_) | (refine VLd.is ?_; refine VLd.mk (.row aT (by rfl)) ?_)
 all_goals (conv => whnf)
 refine VLoop.mk (α := Nat) (fun i => i ≤ ts.length) (fun i => [(1000000, .tuple #[]), (1, .int .i64 src), (2, .slice p ts.length c), (3, .pointer (some ⟨b3, 0, none⟩)), (6, .slice none 0 0), (7, .int .i64 0), (10, .slice (some ⟨g, 0, none⟩) n n), (11, .int .i64 (i : Int))])
  (fun i => [.row b3 31 [.int .i64 s.wide, .int .i64 s.high, .int .i64 s.room], .vec (some ⟨g, 0, none⟩) n n 3 1 (flat intV ((ts.take i).foldl (wayT s.wide src) (List.replicate n 0)))]) (fun i => ts.length - i) 0 (Nat.zero_le _) aE ?_ ?_
 ·rw [List.take_zero, List.foldl_nil, ← hrep]
  exact aH
 clear hi hge
 intro i hi
 rcases Nat.lt_or_ge i ts.length with hlt | hge
 ·obtain ⟨x, hx⟩ := h1.get hlt
  have hxr := hall x (List.mem_of_getElem? hx)
  have htk : (ts.take (i + 1)).foldl (wayT s.wide src) (List.replicate n 0) = wayT s.wide src ((ts.take i).foldl (wayT s.wide src) (List.replicate n 0)) x := by
   rw [List.take_add_one, hx, Option.toList_some, List.foldl_append]; rfl
  have hO1 := hOok (ts.take i)
  have hO2 := htl (ts.take i)
  have hrou := refRoute_any s hok src x hsr hxr
  have hrl := rte_length hW _ src x rfl
  have hdl := dist_le hW hsr hxr
  have hhi := hok.high
  have hrng := rte_range hW hxr _ src rfl hsr
  obtain ⟨O, hO⟩ : ∃ O, (ts.take i).foldl (wayT s.wide src) (List.replicate n 0) = O := ⟨_, rfl⟩
  obtain ⟨RT, hRT⟩ : ∃ RT, rte s.wide src x = RT := ⟨_, rfl⟩
  have hway : wayT s.wide src O x = RT.foldl (Gm.stepT s.wide x) O := by rw [← hRT]; rfl
  rw [hO, hway] at htk
  rw [hO] at hO1 hO2 ⊢
  rw [hRT] at hrou hrl hrng
  unfold spcC at hrou
  repeat' (conv => whnf); first | (refine VIx.is ?_; refine VIx.mk (h1.ptr (by omega)) (by omega) (by omega) ?_) | (refine VLd.is ?_; refine VLd.mk (Rd.cast (h1.rd0 (by simp) (fun _ => rfl) hx rfl) (by first | omega | (dsimp only; omega) | rfl)) ?_) | (refine VCall.isF 165 ?_; (refine VCall.genR (fun w' _ => hrou w') ?_; rintro ⟨g2, c2⟩ _; dsimp only)) | (refine VSeq.go ?_) | (refine VB.is ?_; refine VB.yes (by omega) fun _ => ?_) | (refine VLd.is ?_; refine VLd.mk (.row aT (by rfl)) ?_) | (refine VHs.mk _ (.refl _) ?_)
  all_goals (conv => whnf)
  refine VLoop.mk (α := Nat) (fun k => k ≤ RT.length) (fun k => [(1000000, .tuple #[]), (1, .int .i64 src), (2, .slice p ts.length c), (3, .pointer (some ⟨b3, 0, none⟩)), (6, .slice none 0 0), (7, .int .i64 0), (10, .slice (some ⟨g, 0, none⟩) n n), (11, .int .i64 (i : Int)), (12, .slice (some ⟨g2, 0, none⟩) RT.length c2), (14, .int .i64 (k : Int))])
   (fun k => [.row b3 31 [.int .i64 s.wide, .int .i64 s.high, .int .i64 s.room], .vec (some ⟨g, 0, none⟩) n n 3 1 (flat intV ((RT.take k).foldl (Gm.stepT s.wide x) O)), .vec (some ⟨g2, 0, none⟩) RT.length c2 3 1 (flat intV RT)]) (fun k => RT.length - k) 0 (Nat.zero_le _) aE aH ?_
  intro k hk
  rcases Nat.lt_or_ge k RT.length with hlk | hgk
  ·obtain ⟨r, hr⟩ : ∃ r, RT[k]? = some r := ⟨_, List.getElem?_eq_getElem hlk⟩
   have hrr := hrng r (List.mem_of_getElem? hr)
   have htk2 : (RT.take (k + 1)).foldl (Gm.stepT s.wide x) O = Gm.stepT s.wide x ((RT.take k).foldl (Gm.stepT s.wide x) O) r := by
    rw [List.take_add_one, hr, Option.toList_some, List.foldl_append]; rfl
   have hP1 := foldT_ok (W := s.wide) (t := x) (RT.take k) hO1
   have hP2 := foldT_length s.wide x (RT.take k) O
   obtain ⟨P, hP⟩ : ∃ P, (RT.take k).foldl (Gm.stepT s.wide x) O = P := ⟨_, rfl⟩
   rw [hP] at htk2 hP1 hP2 ⊢
   obtain ⟨v, hv⟩ : ∃ v, P[r.toNat]? = some v := ⟨_, List.getElem?_eq_getElem (by omega)⟩
   have hv1 := hP1 v (List.mem_of_getElem? hv)
   have hti := refTowards_any s (by omega) r x (by omega) (by omega)
   have htl2 := turn_lt s.wide r x
   have hst : Gm.stepT s.wide x P r = P.set r.toNat (bor v (turnM s.wide r x)) := by unfold Gm.stepT; rw [hv, Option.getD_some]
   unfold spcC at hti
   obtain ⟨j, hj⟩ : ∃ j : Nat, r = (j : Int) := ⟨r.toNat, by omega⟩
   subst hj
   rw [Int.toNat_natCast] at hv hst
   repeat' (conv => whnf); first | (refine VIx.is ?_; refine VIx.mk (h1.ptr (by omega)) (by omega) (by omega) ?_) | (refine VLd.is ?_; refine VLd.mk (Rd.cast (h1.rd0 (by simp) (fun _ => rfl) hx rfl) (by first | omega | (dsimp only; omega) | rfl)) ?_) | (refine VIx.is ?_; refine VIx.mk rfl (by omega) (by omega) ?_) | (refine VLd.is ?_; refine VLd.mk (Rd.cast (.vec aT (sub_flat0 (f := intV) (k := 1) (fun _ => rfl) hr rfl)) (by first | omega | (dsimp only; omega) | rfl)) ?_) | (refine VLd.is ?_; refine VLd.mk (Rd.cast (.vec aT (sub_flat0 (f := intV) (k := 1) (fun _ => rfl) hv rfl)) (by first | omega | (dsimp only; omega) | rfl)) ?_) | (refine VCall.isF 166 ?_; (refine VCall.valR (fun w' _ => hti w') ?_)) | (refine VBit.is ?_; refine VBit.or (by omega) (by omega) ?_) | (refine VSt.is ?_; refine VSt.cast (off' := j * 1) (by first | omega | (dsimp only; omega) | rfl) (VSt.vec aT (upd_flat0 (f := intV) (k := 1) (y := bor v (turnM s.wide (j : Int) x)) (fun _ => rfl) hv rfl) rfl ?_)) | (refine VSeq.go ?_) | (refine VB.is ?_; refine VB.yes (by omega) fun _ => ?_) | (refine VLd.is ?_; refine VLd.mk (.row aT (by rfl)) ?_) | (refine VAr.is ?_; refine oA ?_) | (refine VKeep.is ?_; refine VKeep.mk aH ?_) | (refine VHs.mk _ (.refl _) ?_)
   all_goals (conv => whnf)
   refine VNext.mk (k + 1) (by omega) (by omega) aE ?_
   rw [htk2, hst]
   exact aH
  ·rw [List.take_of_length_le hgk]
   repeat' (conv => whnf); first | (refine VSeq.go ?_) | (refine VB.is ?_; refine VB.yes (by omega) fun _ => ?_) | (refine VB.is ?_; refine VB.no (by omega) fun _ => ?_) | (refine VAr.is ?_; refine oA ?_)
   all_goals (conv => whnf)
   refine VNext.mk (i + 1) (by omega) (by omega) aE ?_
   rw [htk]
   exact aH
 ·rw [List.take_of_length_le hge]
  have htr : ts.foldl (wayT s.wide src) (List.replicate n 0) = treeM s.wide n src ts := rfl
  rw [htr]
  repeat' (conv => whnf); first | (refine VSeq.go ?_) | (refine VB.is ?_; refine VB.yes (by omega) fun _ => ?_) | (refine VB.is ?_; refine VB.no (by omega) fun _ => ?_) | (refine VAr.is ?_; refine oA ?_)
  all_goals (conv => whnf)
  refine ⟨fun w' hw' => ⟨(some ⟨g, 0, none⟩, n), ?_, fun _ => ⟨g, rfl⟩, ?_⟩⟩
  ·rw [tree_length]; rfl
  ·rw [tree_length]
   exact hw'.le aH

end Go.Proofs
