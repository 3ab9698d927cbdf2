import Derived.Test.YtjjcoiicikaaiaaGreatPlaceMapsRfb
import Derived.Test.YtjjcoiicikaaiaaGreatPlaceMapsMu
import Derived.Test.YtjjcoiicikaaiaaGreatPlaceMapsMl
set_option linter.unusedVariables false
set_option linter.unusedSimpArgs false
set_option maxHeartbeats 4000000
section

namespace Go.Proofs

open Go Go.Vx Go.Gm

theorem rdist_any (s : Spc) (hok : SpcOk s) (src t : Int) (hs : 0 ≤ src ∧ src < s.wide * s.high) (ht : 0 ≤ t ∧ t < s.wide * s.high) (w : World) :
  Calls Tryz.prog 131 #[.agg (spcC s).toArray, .int .i64 src, .int .i64 t] w fun e w' => e = .returned (.tuple #[.int .i64 (distM s.wide src t : Int), .int .i64 0]) ∧ St w [] [] w' := by
 have hr := fun w' => refRoute_any s hok src t hs ht w'
 have hwd := hok.wide
 have hlen := rte_length (W := s.wide) (by omega) _ src t rfl
 have hdl := dist_le (W := s.wide) (by omega) hs ht
 have hhi := hok.high
 obtain ⟨R, hR⟩ : ∃ R, rte s.wide src t = R := ⟨_, rfl⟩
 rw [hR] at hr hlen
 obtain ⟨D, hD⟩ : ∃ D, distM s.wide src t = D := ⟨_, rfl⟩
 rw [hD] at hlen hdl ⊢
 unfold spcC at hr ⊢
 refine enter (C := Tryz.cx) (F := Tryz.fx131) (args := [_, _, _]) Tryz.func131 rfl rfl rfl Tryz.ok131 (St.start w []) ?_
 repeat' (conv => whnf); first | (refine VCall.isF 165 ?_; (refine VCall.genR (fun w' _ => hr w') ?_; rintro ⟨g, gc⟩ _; dsimp only)) | (refine VSeq.go ?_) | (refine VB.is ?_; refine VB.no (by omega) fun _ => ?_) | (refine VLd.is ?_; refine VLd.mk (.row aT (by rfl)) ?_) | (refine VNew.mk fun _ => ?_) | (refine VAr.is ?_; refine oA ?_)
 all_goals (conv => whnf)
 have e : (R.length : Int) - 1 = (D : Int) := by omega
 exact ⟨fun w' hw' => ⟨by first | (rw [← e]; rfl) | (simp only [e]; rfl), hw'.le .nil⟩⟩

def rreachM (W : Int) (L : List RSrc) : Nat := (L.flatMap fun x => x.tg.map fun t => distM W x.home t).foldl max 0

theorem rreach_any (s : Spc) (hs : s.wf) (hok : SpcOk s) (C : Chp) (hC : C.mesh = s) (pd : Option Addr) (cd : Nat) (L : List RSrc) (hL : ∀ x ∈ L, (0 ≤ x.home ∧ x.home < s.wide * s.high) ∧ x.tg.length ≤ 64 ∧ ∀ t ∈ x.tg, 0 ≤ t ∧ t < s.wide * s.high) (hlen : L.length ≤ 65536) (p : Option Addr) (c b o : Nat) (w : World) (h1 : Sl w rsV 4 L p L.length b o) (h2 : ∀ x ∈ L, ∃ b o, Sl w intV 1 x.tg x.pg x.tg.length b o) :
  Calls Tryz.prog 85 #[.agg (chpC C pd cd).toArray, .slice p L.length c] w fun e w' => e = .returned (.int .i64 (rreachM s.wide L : Int)) ∧ St w [] [] w' := by
 subst hC
 have hdi := fun src t h1 h2 w' => rdist_any C.mesh hok src t h1 h2 w'
 have hhi := hok.high
 have hwd := hok.wide
 unfold spcC at hdi
 unfold chpC
 refine enter (C := Tryz.cx) (F := Tryz.fx85) (args := [_, _]) Tryz.func85 rfl rfl rfl Tryz.ok85 (St.start w []) ?_
 repeat' (conv => whnf); first | (refine VNew.mk fun b2 => ?_) | (refine VSeq.go ?_)
 all_goals (conv => whnf)
 refine VLoop.mk (α := Nat) (fun i => i ≤ L.length ∧ rreachM C.mesh.wide (L.take i) ≤ 14) (fun i => [(1000000, .tuple #[]), (1, .slice p L.length c), (2, .pointer (some ⟨b2, 0, none⟩)), (4, .int .i64 0), (5, .int .i64 (rreachM C.mesh.wide (L.take i) : Int)), (6, .int .i64 (i : Int))])
  (fun _ => [.row b2 33 [.int .i64 C.mesh.wide, .int .i64 C.mesh.high, .int .i64 C.mesh.room, .int .i64 C.nr, .int .i64 C.sy, .int .i64 C.en, .int .i64 C.bits, .slice pd C.dead.length cd]]) (fun i => L.length - i) 0 ⟨Nat.zero_le _, Nat.zero_le _⟩ aE aH ?_
 rintro i ⟨hi, hrb⟩
 rcases Nat.lt_or_ge i L.length with hlt | hge
 ·obtain ⟨x, hx⟩ := h1.get hlt
  obtain ⟨hxh, hxl, hxt⟩ := hL x (List.mem_of_getElem? hx)
  obtain ⟨b3, o3, hxs⟩ := h2 x (List.mem_of_getElem? hx)
  have hx2 : sub (rsV x) 2 1 = some [.slice x.pg x.tg.length x.cg] := rfl
  have hx1 : sub (rsV x) 1 1 = some [.int .i64 x.home] := rfl
  have htk : rreachM C.mesh.wide (L.take (i + 1)) = (x.tg.map fun t => distM C.mesh.wide x.home t).foldl max (rreachM C.mesh.wide (L.take i)) := by
   unfold rreachM
   rw [List.take_add_one, hx, Option.toList_some, List.flatMap_append, List.foldl_append]
   simp
  obtain ⟨r0, hr0⟩ : ∃ r0, rreachM C.mesh.wide (L.take i) = r0 := ⟨_, rfl⟩
  rw [hr0] at htk hrb ⊢
  repeat' (conv => whnf); first | (refine VSeq.go ?_) | (refine VB.is ?_; refine VB.yes (by omega) fun _ => ?_) | (refine VB.is ?_; refine VB.no (by omega) fun _ => ?_)
  all_goals (conv => whnf)
  refine VLoop.mk (α := Nat) (fun j => j ≤ x.tg.length ∧ ((x.tg.take j).map fun t => distM C.mesh.wide x.home t).foldl max r0 ≤ 14) (fun j => [(1000000, .tuple #[]), (1, .slice p L.length c), (2, .pointer (some ⟨b2, 0, none⟩)), (4, .int .i64 0), (5, .int .i64 (((x.tg.take j).map fun t => distM C.mesh.wide x.home t).foldl max r0 : Nat)), (6, .int .i64 (i : Int)), (7, .int .i64 (j : Int))])
   (fun _ => [.row b2 33 [.int .i64 C.mesh.wide, .int .i64 C.mesh.high, .int .i64 C.mesh.room, .int .i64 C.nr, .int .i64 C.sy, .int .i64 C.en, .int .i64 C.bits, .slice pd C.dead.length cd]]) (fun j => x.tg.length - j) 0 ⟨Nat.zero_le _, hrb⟩ aE (HLe.refl _) ?_
  rintro j ⟨hj, hjb⟩
  rcases Nat.lt_or_ge j x.tg.length with hjl | hjg
  ·obtain ⟨t, ht⟩ := hxs.get hjl
   have htr := hxt t (List.mem_of_getElem? ht)
   have hd := fun w' => hdi x.home t hxh htr w'
   have hdl := dist_le (W := C.mesh.wide) (H := C.mesh.high) (by omega) hxh htr
   have hnx : ((x.tg.take (j + 1)).map fun t => distM C.mesh.wide x.home t).foldl max r0 = max (((x.tg.take j).map fun t => distM C.mesh.wide x.home t).foldl max r0) (distM C.mesh.wide x.home t) := by
    rw [List.take_add_one, ht, Option.toList_some, List.map_append, List.foldl_append]; rfl
   obtain ⟨r1, hr1⟩ : ∃ r1, ((x.tg.take j).map fun t => distM C.mesh.wide x.home t).foldl max r0 = r1 := ⟨_, rfl⟩
   obtain ⟨D, hD⟩ : ∃ D, distM C.mesh.wide x.home t = D := ⟨_, rfl⟩
   rw [hr1, hD] at hnx
   rw [hD] at hd hdl
   rw [hr1] at hjb ⊢
   have hmax : max (r1 : Int) (D : Int) = ((max r1 D : Nat) : Int) := by omega
   repeat' (conv => whnf); first | (refine VIx.is ?_; refine VIx.mk (h1.ptr (by omega)) (by omega) (by omega) ?_) | (refine VLd.is ?_; refine VLd.mk (Rd.cast (h1.rd (o := 2) (s := 1) (by simp) (fun _ => rfl) hx hx2) (by first | omega | (dsimp only; omega) | rfl)) ?_) | (refine VLd.is ?_; refine VLd.mk (Rd.cast (h1.rd (o := 1) (s := 1) (by simp) (fun _ => rfl) hx hx1) (by first | omega | (dsimp only; omega) | rfl)) ?_) | (refine VIx.is ?_; refine VIx.mk (hxs.ptr (by omega)) (by omega) (by omega) ?_) | (refine VLd.is ?_; refine VLd.mk (Rd.cast (hxs.rd0 (by simp) (fun _ => rfl) ht rfl) (by first | omega | (dsimp only; omega) | rfl)) ?_) | (refine VCall.isF 131 ?_; (refine VCall.valR (fun w' _ => hd w') ?_)) | (refine VSeq.go ?_) | (refine VB.is ?_; refine VB.yes (by omega) fun _ => ?_) | (refine VLd.is ?_; refine VLd.mk (.row aT (by rfl)) ?_) | (refine VAr.is ?_; refine oA ?_) | (refine VHs.mk _ (.refl _) ?_)
   all_goals (conv => whnf)
   refine VNext.mk (j + 1) ⟨by omega, by rw [hnx]; omega⟩ (by omega) ?_ (HLe.refl _)
   rw [hnx, ← hmax]
   exact aE
  have hjl : j = x.tg.length := by omega
  subst hjl
  rw [List.take_length, ← htk] at hjb ⊢
  repeat' (conv => whnf); first | (refine VIx.is ?_; refine VIx.mk (h1.ptr (by omega)) (by omega) (by omega) ?_) | (refine VLd.is ?_; refine VLd.mk (Rd.cast (h1.rd (o := 2) (s := 1) (by simp) (fun _ => rfl) hx hx2) (by first | omega | (dsimp only; omega) | rfl)) ?_) | (refine VSeq.go ?_) | (refine VB.is ?_; refine VB.no (by omega) fun _ => ?_) | (refine VAr.is ?_; refine oA ?_)
  all_goals (conv => whnf)
  exact VNext.mk (i + 1) ⟨by omega, hjb⟩ (by omega) aE (HLe.refl _)
 have hil : i = L.length := by omega
 subst hil
 rw [List.take_length]
 repeat' (conv => whnf); first | (refine VSeq.go ?_) | (refine VB.is ?_; refine VB.yes (by omega) fun _ => ?_) | (refine VB.is ?_; refine VB.no (by omega) fun _ => ?_)
 all_goals (conv => whnf)
 exact ⟨fun w' hw' => ⟨rfl, hw'.le .nil⟩⟩

end Go.Proofs
end

section

namespace Go.Proofs

open Go Go.Vx Go.Gm

def rsH (x : RSrc) : HP := [.vec x.pg x.tg.length x.cg 3 1 (flat intV x.tg), .vec x.po x.o.length x.co 3 1 (flat intV x.o)]

structure RsOk (X : PlnX) (cores : List Int) (x : RSrc) : Prop where
 key : 0 ≤ x.key ∧ x.key < nSrc X.N
 home : x.home = homeM X.N cores x.key
 tg : x.tg = coresM X.N X.C cores x.key
 o : x.o = srcTree X.N X.C cores x.key
 pg : ∃ g, x.pg = some ⟨g, 0, none⟩
 po : ∃ g, x.po = some ⟨g, 0, none⟩

theorem put_flat_new {α : Type} {A : HP} {Z : HP → HP} {f : α → HP} {l : List α} {y : α} (h : AtS A ((l ++ [y]).flatMap f) Z) : A.Perm (f y ++ (l.flatMap f ++ Z [])) := by
 refine h.perm.trans ?_
 rw [List.flatMap_append, List.flatMap_singleton, ← List.append_assoc]
 exact List.Perm.append_right (Z []) List.perm_append_comm

theorem put_src_new {A : HP} {Z : HP → HP} {l : List RSrc} {y : RSrc} (h : AtS A ((l ++ [y]).flatMap rsH) Z) : A.Perm (.vec y.pg y.tg.length y.cg 3 1 (flat intV y.tg) :: .vec y.po y.o.length y.co 3 1 (flat intV y.o) :: (l.flatMap rsH ++ Z [])) := put_flat_new h

theorem rsources_any (X : PlnX) (w : World) (hX : PlnRd X w) (cores : List Int) (hA : AsgOk X.N X.C cores) (p : Option Addr) (c b o : Nat) (h1 : Sl w intV 1 cores p cores.length b o) :
  Calls Tryz.prog 82 #[.agg X.net.toArray, .agg (chpC X.C X.pd X.cd).toArray, .slice p cores.length c] w fun e w' => ∃ z : List RSrc × Option Addr × Nat, e = .returned (.slice z.2.1 z.1.length z.2.2) ∧ (z.1.map (·.key) = keysM X.N ∧ (∀ x ∈ z.1, RsOk X cores x) ∧ (0 < z.1.length → ∃ g, z.2.1 = some ⟨g, 0, none⟩)) ∧
   St w [] (.vec z.2.1 z.1.length z.2.2 175 4 (flat rsV z.1) :: z.1.flatMap rsH) w' := by
 have hok := hA.plan
 have hkeep := fun (w' : World) (H : HP) (hw' : St w [] H w') => hX.keep hw'
 have htg := fun (key : Int) hk (w' : World) h => rtargets_any X w' h hok cores (fun k hk => (hA.core k hk).1) hA.len key hk p c b o
 have hho := fun (k : Nat) hk (w' : World) => rhome_any X.N hok.net.few X.pn X.cn (.int .i64 X.N.inputs) (.slice X.qs X.N.syns.length X.cs) (by rfl) cores hA.len k hk p c b o w'
 have hfew := hok.few
 have hinp := hok.net.inputs
 have hns : (nSrc X.N : Int) = (X.N.ps.length : Int) + X.N.inputs := by unfold nSrc; omega
 have hmw := hX.chip.mesh
 have hmok := hok.chip.mesh
 unfold PlnX.net chpC at htg ⊢
 refine enter (C := Tryz.cx) (F := Tryz.fx82) (args := [_, _, _]) Tryz.func82 rfl rfl rfl Tryz.ok82 (St.start w []) ?_
 repeat' (conv => whnf); first | (refine VNew.mk fun b4 => ?_) | (refine VSeq.go ?_)
 all_goals (conv => whnf)
 rename_i b3
 refine VLoop.mk (α := Nat × List RSrc × Option Addr × Nat) (fun z => z.1 ≤ nSrc X.N ∧ z.2.1.map (·.key) = keysK X.N z.1 ∧ (∀ x ∈ z.2.1, RsOk X cores x) ∧ (0 < z.2.1.length → ∃ g, z.2.2.1 = some ⟨g, 0, none⟩)) (fun z => [(1000000, .tuple #[]), (2, .slice p cores.length c), (3, .pointer (some ⟨b3, 0, none⟩)), (4, .pointer (some ⟨b4, 0, none⟩)), (6, .slice none 0 0), (7, .slice z.2.2.1 z.2.1.length z.2.2.2), (8, .int .i64 (z.1 : Int))])
  (fun z => .vec z.2.2.1 z.2.1.length z.2.2.2 175 4 (flat rsV z.2.1) :: .row b4 33 [.int .i64 X.C.mesh.wide, .int .i64 X.C.mesh.high, .int .i64 X.C.mesh.room, .int .i64 X.C.nr, .int .i64 X.C.sy, .int .i64 X.C.en, .int .i64 X.C.bits, .slice X.pd X.C.dead.length X.cd] :: .row b3 39 [.slice X.pn X.N.ps.length X.cn, .int .i64 X.N.inputs, .slice X.qs X.N.syns.length X.cs] :: z.2.1.flatMap rsH) (fun z => nSrc X.N - z.1) (0, [], none, 0) ⟨Nat.zero_le _, rfl, by simp, fun h => absurd h (Nat.lt_irrefl _)⟩ aE (HLe.nilv aH) ?_
 rintro ⟨k, L, lp, lc⟩ ⟨hk, hLk, hLo, hlp⟩
 dsimp only at hk hLk hLo hlp ⊢
 rcases Nat.lt_or_ge k (nSrc X.N) with hlt | hge
 ·have hnx := keysK_next X.N k
  have hll : L.length ≤ k := by
   have h1 := congrArg List.length hLk
   rw [List.length_map] at h1
   rw [h1]; exact keysK_len _ _
  have htg2 := htg (k : Int) (by unfold I64; omega)
  have hho2 := hho k (by omega)
  have hhr := mhome_range hA (key := (k : Int)) (by omega)
  have hsome := cores_some hA (k : Int)
  obtain ⟨hcr, hcl⟩ := coresM_range (N := X.N) hok.chip cores (k : Int)
  have htk := fun hne => tree_known hA (key := (k : Int)) (by omega) hne
  have hSl : (srcTree X.N X.C cores (k : Int)).length = nCores X.C := tree_length ..
  have hnc := nCores_ok hok.chip
  have hnew := fun (q q2 : Option Addr) (cq cq2 : Nat) (h1 : ∃ g, q = some ⟨g, 0, none⟩) (h2 : ∃ g, q2 = some ⟨g, 0, none⟩) => (⟨⟨by dsimp only; omega, by dsimp only; omega⟩, rfl, rfl, rfl, h1, h2⟩ : RsOk X cores ⟨(k : Int), homeM X.N cores (k : Int), coresM X.N X.C cores (k : Int), q, cq, srcTree X.N X.C cores (k : Int), q2, cq2⟩)
  obtain ⟨home, hhome⟩ : ∃ h, homeM X.N cores (k : Int) = h := ⟨_, rfl⟩
  obtain ⟨CO, hCO⟩ : ∃ S, coresM X.N X.C cores (k : Int) = S := ⟨_, rfl⟩
  obtain ⟨ST, hST⟩ : ∃ S, srcTree X.N X.C cores (k : Int) = S := ⟨_, rfl⟩
  rw [hhome] at hho2 hhr htk
  rw [hCO] at htg2 hsome hcr hcl htk
  rw [hST] at htk hSl
  have hnew2 : ∀ (q q2 : Option Addr) (cq cq2 : Nat), (∃ g, q = some ⟨g, 0, none⟩) → (∃ g, q2 = some ⟨g, 0, none⟩) → RsOk X cores ⟨(k : Int), home, CO, q, cq, ST, q2, cq2⟩ := by
   rw [← hhome, ← hCO, ← hST]; exact hnew
  have harea := area_ok hmok
  have hrt := fun (hne : tgtM X.N X.N.syns (k : Int) ≠ []) (w' : World) p c b o h => by
   have := refTree_any X.C.mesh hmw home (by unfold I64; omega) CO hcr (by omega) p c b o w' h
   rw [htk hne] at this
   exact this
  unfold spcC at hrt
  clear htg hho htk hhome hCO hST hnew
  repeat' (conv => whnf); first | (refine VCall.isF 126 ?_; (refine VCall.genR (fun w' hw' => htg2 w' (hkeep w' _ hw') (h1.keep hw' (by simp))) ?_; rintro ⟨q, cq⟩ hq; dsimp only at hq ⊢)) | (refine VCall.isF 127 ?_; (refine VCall.valR (fun w' hw' => hho2 w' (h1.keep hw' (by simp))) ?_)) | (refine VCall.isF 128 ?_; (refine VCall.genR (fun w' hw' => Exists.elim (Sl.own (f := intV) (l := CO) (k := 1) hw' aT (fun _ => rfl) rfl) fun b1 hb1 => hrt (hsome.1 (by omega)) w' _ _ b1 0 hb1) ?_; rintro ⟨q2, cq2⟩ hq2; dsimp only at hq2 ⊢)) | (refine VNew.mk fun bn => ?_) | (refine VAp.is ?_; refine VAp.own aT (.at_ (.vec aT rfl)) (by simp [Value.oneCell']) (by (try dsimp only); omega) (by simp only [maxLen]; omega) fun p1 c1 hp1 => ?_) | (refine VSeq.go ?_) | (refine VB.is ?_; refine VB.yes (by omega) fun _ => ?_) | (refine VB.split (fun _ => ?_) (fun _ => ?_)) | (refine VLd.is ?_; refine VLd.mk (.row aT (by rfl)) ?_) | (refine VAr.is ?_; refine oA ?_)
  all_goals (conv => whnf)
  ·rw [if_pos (hsome.1 (by omega))] at hnx
   refine VNext.mk (k + 1, L ++ [⟨(k : Int), home, CO, q, cq, ST, q2, cq2⟩], p1, c1) ⟨by dsimp only; omega, ?_, ?_, fun _ => hp1 (by omega)⟩ (by dsimp only; omega) ?_ ?_
   ·dsimp only
    rw [hnx, List.map_append, hLk]; rfl
   ·intro y hy
    rcases List.mem_append.1 hy with hy | hy
    ·exact hLo y hy
    ·rw [List.mem_singleton] at hy; subst hy
     exact hnew2 q q2 cq cq2 (hq (by omega)) (hq2 (by omega))
   ·dsimp only
    rw [List.length_append]
    exact aE
   ·dsimp only
    refine HLe.permL ?_ (put_src_new aS)
    rw [List.length_append, flat_append]
    dsimp only
    exact aH
  ·rw [if_neg (fun h => absurd (hsome.2 h) (by omega)), List.append_nil] at hnx
   refine VNext.mk (k + 1, L, lp, lc) ⟨by dsimp only; omega, by dsimp only; rw [hnx]; exact hLk, hLo, hlp⟩ (by dsimp only; omega) aE aH
 have hkn : k = nSrc X.N := by omega
 subst hkn
 repeat' (conv => whnf); first | (refine VSeq.go ?_) | (refine VB.is ?_; refine VB.no (by omega) fun _ => ?_) | (refine VLd.is ?_; refine VLd.mk (.row aT (by rfl)) ?_) | (refine VAr.is ?_; refine oA ?_)
 all_goals (conv => whnf)
 exact ⟨fun w' hw' => ⟨(L, lp, lc), rfl, ⟨hLk, hLo, hlp⟩, hw'.le aH⟩⟩

end Go.Proofs
end
