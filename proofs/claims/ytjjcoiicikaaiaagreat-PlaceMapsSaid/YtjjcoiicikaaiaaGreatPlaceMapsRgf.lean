import Derived.Test.YtjjcoiicikaaiaaGreatPlaceMapsRge
import Derived.Test.YtjjcoiicikaaiaaGreatPlaceMapsRfd
set_option linter.unusedVariables false
set_option linter.unusedSimpArgs false
set_option maxHeartbeats 4000000

namespace Go.Proofs

open Go Go.Vx Go.Gm

def wayOf (x : RSrc) : WayM := ⟨x.key, x.home, x.tg, x.pg, x.cg⟩

theorem rways_ok {X : PlnX} {cores : List Int} (hA : AsgOk X.N X.C cores) (hns : nSrc X.N ≤ 256) {L : List RSrc} (hk : L.map (·.key) = keysM X.N) (hL : ∀ x ∈ L, RsOk X cores x) : WaysOk X.C.mesh (srcTree X.N X.C cores) (L.map wayOf) where
 few := by
  have h1 := congrArg List.length hk
  rw [List.length_map] at h1
  have := keysK_len X.N (nSrc X.N)
  rw [keysK_all] at this
  rw [List.length_map]; omega
 asc := by
  rw [List.map_map]
  have : L.map ((·.key) ∘ wayOf) = L.map (·.key) := rfl
  rw [this, hk, ← keysK_all]; exact keysK_asc _ _
 key := fun x hx => by
  obtain ⟨y, hy, rfl⟩ := List.mem_map.1 hx
  have := (hL y hy).key
  exact ⟨by unfold wayOf; dsimp only; omega, by unfold wayOf; dsimp only; omega⟩
 tree := fun x hx => by
  obtain ⟨y, hy, rfl⟩ := List.mem_map.1 hx
  have h1 : y.key ∈ keysK X.N (nSrc X.N) := by rw [keysK_all, ← hk]; exact List.mem_map_of_mem (f := fun x : RSrc => x.key) hy
  have h2 := keysK_mem h1
  show treeR X.C.mesh y.home y.tg = _
  rw [(hL y hy).home, (hL y hy).tg]
  refine tree_known hA h2.1 ?_
  unfold keysK at h1
  rw [List.mem_filter] at h1
  exact tgt_some.1 (of_decide_eq_true h1.2)
 home := fun x hx => by
  obtain ⟨y, hy, rfl⟩ := List.mem_map.1 hx
  have h2 := (hL y hy).key
  have h3 := mhome_range hA h2.1
  have h4 := area_ok hA.plan.chip.mesh
  show I64 y.home
  rw [(hL y hy).home]
  unfold I64; omega
 tgs := fun x hx => by
  obtain ⟨y, hy, rfl⟩ := List.mem_map.1 hx
  have h2 := (hL y hy).key
  show (∀ t ∈ y.tg, I64 t) ∧ y.tg.length ≤ 65536
  rw [(hL y hy).tg]
  refine ⟨fun t ht => (core_dist hA h2.1 ht).1, ?_⟩
  have := cores_len (N := X.N) hA.plan.chip cores y.key
  omega
 len := fun x hx => tree_length ..
 ok := fun k => Gm.tree_ok _ _ _ _

theorem rtabs_any (X : PlnX) (hmw : X.C.mesh.wf) (cores : List Int) (hA : AsgOk X.N X.C cores) (hns : nSrc X.N ≤ 256) (L : List RSrc) (hLk : L.map (·.key) = keysM X.N) (hL : ∀ x ∈ L, RsOk X cores x) (p : Option Addr) (c b o : Nat) (w : World) (h1 : Sl w rsV 4 L p L.length b o) (h2 : ∀ x ∈ L, ∃ b o, Sl w intV 1 x.tg x.pg x.tg.length b o)
  (good : Bool) (hgd : good = true ↔ ∀ i, i < nCores X.C → ((tabF (srcTree X.N X.C cores) (keysM X.N) X.C.en i).length : Int) ≤ X.C.en) :
  Calls Tryz.prog 83 #[.agg (chpC X.C X.pd X.cd).toArray, .slice p L.length c] w fun e w' => ∃ z : Option Addr × List ERow, e = .returned (.tuple #[.slice z.1 z.2.length z.2.length, .bool good]) ∧
   ((good = true → z.2.map (·.l) = tablesF X.N X.C cores ∧ ∃ g, z.1 = some ⟨g, 0, none⟩) ∧ ∀ r ∈ z.2, r.ok) ∧ St w [] (.vec z.1 z.2.length z.2.length 177 1 (flat erV z.2) :: z.2.map rerE) w' := by
 have hwy := rways_ok hA hns hLk hL
 have hchl := hA.plan.chip.mesh
 have hwl : (L.map wayOf).length = L.length := List.length_map ..
 have hwk : (L.map wayOf).map (·.key) = keysM X.N := by rw [List.map_map]; exact hLk
 have hTR := fun (w' : World) wp wc bq oq => rtables_any X.C.mesh hmw hchl (srcTree X.N X.C cores) (L.map wayOf) hwy wp wc bq oq w'
 obtain ⟨n, hn⟩ : ∃ n, nCores X.C = n := ⟨_, rfl⟩
 have hcn : (X.C.mesh.wide * X.C.mesh.high).toNat = n := hn
 obtain ⟨hcells, hn1, hn64⟩ := nCores_ok hA.plan.chip
 rw [hn] at hcells hn1 hn64 hgd
 unfold spcC at hTR
 simp only [hwl, hwk, hcn] at hTR
 have htF : tablesF X.N X.C cores = (List.range n).map (tabF (srcTree X.N X.C cores) (keysM X.N) X.C.en) := by unfold tablesF; rw [hn]
 rw [htF]
 have hLl : L.length ≤ 256 := by
  have h1 := congrArg List.length hLk
  rw [List.length_map] at h1
  have := keysK_len X.N (nSrc X.N)
  rw [keysK_all] at this
  omega
 obtain ⟨T, hT⟩ : ∃ T, srcTree X.N X.C cores = T := ⟨_, rfl⟩
 have hTok : ∀ k, OutsOk (T k) := fun k => by rw [← hT]; exact Gm.tree_ok _ _ _ _
 obtain ⟨KM, hKM⟩ : ∃ KM, keysM X.N = KM := ⟨_, rfl⟩
 have hKr : ∀ k ∈ KM, 0 ≤ k ∧ k ≤ 65535 := fun k hk => by
  rw [← hKM, ← keysK_all] at hk
  have := keysK_mem hk
  omega
 have hKl : KM.length ≤ 256 := by
  rw [← hKM, ← hLk, List.length_map]; exact hLl
 have hen := hA.plan.chip.en
 rw [hT, hKM] at hTR hgd ⊢
 clear hwy htF
 have htgs : ∀ (w' : World) (H : HP), St w [] H w' → ∀ x ∈ L.map wayOf, ∃ b o, Sl w' intV 1 x.tg x.p x.tg.length b o := fun w' H hw' x hx => by
  obtain ⟨y, hy, rfl⟩ := List.mem_map.1 hx
  obtain ⟨b, o, h⟩ := h2 y hy
  exact ⟨b, o, h.keep hw' (by simp)⟩
 unfold chpC
 refine enter (C := Tryz.cx) (F := Tryz.fx83) (args := [_, _]) Tryz.func83 rfl rfl rfl Tryz.ok83 (St.start w []) ?_
 repeat' (conv => whnf); first | (refine VNew.mk fun b2 => ?_) | (refine VSeq.go ?_)
 all_goals (conv => whnf)
 refine VLoop.mk (α := Nat × Option Addr × Nat) (fun z => z.1 ≤ L.length ∧ (0 < z.1 → ∃ g, z.2.1 = some ⟨g, 0, none⟩)) (fun z => [(1000000, .tuple #[]), (1, .slice p L.length c), (2, .pointer (some ⟨b2, 0, none⟩)), (4, .slice none 0 0), (5, .bool false), (6, .slice z.2.1 z.1 z.2.2), (7, .int .i64 (z.1 : Int))])
  (fun z => .vec z.2.1 z.1 z.2.2 231 3 (flat wayV ((L.take z.1).map wayOf)) :: [.row b2 33 [.int .i64 X.C.mesh.wide, .int .i64 X.C.mesh.high, .int .i64 X.C.mesh.room, .int .i64 X.C.nr, .int .i64 X.C.sy, .int .i64 X.C.en, .int .i64 X.C.bits, .slice X.pd X.C.dead.length X.cd]]) (fun z => L.length - z.1) (0, none, 0) ⟨Nat.zero_le _, fun h => absurd h (Nat.lt_irrefl _)⟩ aE (HLe.nilv aH) ?_
 rintro ⟨i, q, qc⟩ ⟨hi, hq⟩
 dsimp only at hi hq ⊢
 rcases Nat.lt_or_ge i L.length with hlt | hge
 ·obtain ⟨x, hx⟩ := h1.get hlt
  have hsl : (L.take (i + 1)).map wayOf = (L.take i).map wayOf ++ [wayOf x] := by rw [List.take_add_one, hx, Option.toList_some, List.map_append]; rfl
  have v0 : sub (rsV x) 0 1 = some [.int .i64 x.key] := rfl
  have v1 : sub (rsV x) 1 1 = some [.int .i64 x.home] := rfl
  have v2 : sub (rsV x) 2 1 = some [.slice x.pg x.tg.length x.cg] := rfl
  obtain ⟨SL, hSL⟩ : ∃ SL, (L.take i).map wayOf = SL := ⟨_, rfl⟩
  rw [hSL] at hsl ⊢
  repeat' (conv => whnf); first | (refine VNew.mk fun bn => ?_) | (refine VIx.is ?_; refine VIx.mk (h1.ptr (by omega)) (by omega) (by omega) ?_) | (refine VLd.is ?_; refine VLd.mk (Rd.cast (h1.rd (o := 0) (s := 1) (by simp) (fun _ => rfl) hx v0) (by first | omega | (dsimp only; omega) | rfl)) ?_) | (refine VLd.is ?_; refine VLd.mk (Rd.cast (h1.rd (o := 1) (s := 1) (by simp) (fun _ => rfl) hx v1) (by first | omega | (dsimp only; omega) | rfl)) ?_) | (refine VLd.is ?_; refine VLd.mk (Rd.cast (h1.rd (o := 2) (s := 1) (by simp) (fun _ => rfl) hx v2) (by first | omega | (dsimp only; omega) | rfl)) ?_) | (refine VAp.is ?_; refine VAp.own aT (.at_ (.vec aT rfl)) (by simp [Value.oneCell']) (by (try dsimp only); omega) (by simp only [maxLen]; omega) fun p1 c1 hp1 => ?_) | (refine VSeq.go ?_) | (refine VB.is ?_; refine VB.yes (by omega) fun _ => ?_) | (refine VAr.is ?_; refine oA ?_) | (refine VHs.mk _ (.refl _) ?_)
  all_goals (conv => whnf)
  refine VNext.mk (i + 1, p1, c1) ⟨by dsimp only; omega, fun _ => hp1 (by omega)⟩ (by dsimp only; omega) aE ?_
  dsimp only
  rw [hsl, flat_append]
  exact aH
 have hil : i = L.length := by omega
 subst hil
 rw [List.take_length]
 repeat' (conv => whnf); first | (refine VCall.isF 129 ?_; (refine VCall.genR (fun w' hw' => Exists.elim (Sl.own (f := wayV) (l := L.map wayOf) (k := 3) hw' aT (fun _ => rfl) hwl) fun bq hbq => hTR w' _ _ bq 0 hbq (htgs w' _ hw')) ?_; rintro ⟨gt, tt⟩ ⟨htt, htk⟩; dsimp only at htt htk ⊢; have htl : tt.length = n := (by have := congrArg List.length htt; simpa using this); rw [htl])) | (refine VSeq.go ?_) | (refine VB.is ?_; refine VB.no (by omega) fun _ => ?_) | (refine VLd.is ?_; refine VLd.mk (.row aT (by rfl)) ?_)
 all_goals (conv => whnf)
 refine VLoop.mk (α := Nat × List ERow) (fun z => z.1 ≤ n ∧ z.2.map (·.l) = tabK T KM X.C.en n z.1 ∧ (∀ r ∈ z.2, r.ok) ∧ ∀ j, j < z.1 → ((tabF T KM X.C.en j).length : Int) ≤ X.C.en) (fun z => [(1000000, .tuple #[]), (2, .pointer (some ⟨b2, 0, none⟩)), (4, .slice none 0 0), (5, .bool false), (8, .slice (some ⟨gt, 0, none⟩) n n), (10, .int .i64 (z.1 : Int))])
  (fun z => .vec (some ⟨gt, 0, none⟩) n n 177 1 (flat erV z.2) :: .row b2 33 [.int .i64 X.C.mesh.wide, .int .i64 X.C.mesh.high, .int .i64 X.C.mesh.room, .int .i64 X.C.nr, .int .i64 X.C.sy, .int .i64 X.C.en, .int .i64 X.C.bits, .slice X.pd X.C.dead.length X.cd] :: z.2.map rerE) (fun z => n - z.1) (0, tt) ⟨Nat.zero_le _, by rw [tabK_zero]; exact htt, htk, fun j hj => absurd hj (Nat.not_lt_zero _)⟩ aE (by dsimp only; exact aH) ?_
 clear htt htk htl tt
 rintro ⟨i, tt⟩ ⟨hi, htt, htk, hfe⟩
 dsimp only at hi htt htk hfe ⊢
 have htl : tt.length = n := by
  have := congrArg List.length htt
  rw [List.length_map] at this
  rw [this]; unfold tabK; simp
 rcases Nat.lt_or_ge i n with hlt | hge
 ·obtain ⟨⟨rp, rc, rl⟩, hr⟩ : ∃ r, tt[i]? = some r := ⟨_, List.getElem?_eq_getElem (by omega)⟩
  have hrl : rl = tableM T KM i := by
   have h1 : (tt.map (·.l))[i]? = (tabK T KM X.C.en n i)[i]? := by rw [htt]
   rw [List.getElem?_map, hr, tabK_get hlt] at h1
   simpa using h1
  have hrll := table_len T KM i
  rw [← hrl] at hrll
  have hrok := htk _ (List.mem_of_getElem? hr)
  have vr : sub (flat erV tt) (i * 1) 1 = some [.slice rp rl.length rc] := sub_flat0 (f := erV) (k := 1) (fun _ => rfl) hr rfl
  by_cases hfit : (rl.length : Int) ≤ X.C.en
  ·obtain ⟨hk1, hk2⟩ := tabK_skip (T := T) (keys := KM) (en := X.C.en) hlt (by rw [← hrl]; exact hfit)
   repeat' (conv => whnf); first | (refine VIx.is ?_; refine VIx.mk rfl (by omega) (by omega) ?_) | (refine VLd.is ?_; refine VLd.mk (Rd.cast (.vec aT (vr)) (by first | omega | (dsimp only; omega) | rfl)) ?_) | (refine VSeq.go ?_) | (refine VB.is ?_; refine VB.yes (by omega) fun _ => ?_) | (refine VB.is ?_; refine VB.no (by omega) fun _ => ?_) | (refine VLd.is ?_; refine VLd.mk (.row aT (by rfl)) ?_) | (refine VAr.is ?_; refine oA ?_) | (refine VHs.mk _ (.refl _) ?_)
   all_goals (conv => whnf)
   refine VNext.mk (i + 1, tt) ⟨by dsimp only; omega, by dsimp only; rw [hk1]; exact htt, htk, fun j hj => ?_⟩ (by dsimp only; omega) aE (HLe.refl _)
   by_cases hji : j < i
   ·exact hfe j hji
   ·have : j = i := by dsimp only at hj; omega
    subst this
    rw [hk2, ← hrl]; exact hfit
  ·obtain ⟨g, rfl⟩ := hrok (by dsimp only; omega)
   have hetok : ∀ e ∈ rl, EtyOk e := by rw [hrl]; exact table_ok hTok hKr i
   have hqm : Ent.vec (some ⟨g, 0, none⟩) rl.length rc 178 3 (flat etyV rl) ∈ tt.map rerE := List.mem_map_of_mem (f := rerE) (List.mem_of_getElem? hr)
   obtain ⟨KS, hKS⟩ : ∃ KS, rl.map (·.key) = KS := ⟨_, rfl⟩
   have hksl : KS.length = rl.length := by rw [← hKS, List.length_map]
   have hKSr : ∀ k ∈ KS, 0 ≤ k ∧ k ≤ 65535 := fun k hk => by
    rw [← hKS] at hk
    obtain ⟨e, he, rfl⟩ := List.mem_map.1 hk
    exact (hetok e he).key
   have hMg := fun (w' : World) p c b o pk ck bk ok => rmerge_any rl hetok (by omega) KS hKSr (by omega) p c b o pk ck bk ok w'
   simp only [hksl] at hMg
   obtain ⟨MM, hMM⟩ : ∃ MM, mergeM rl KS = MM := ⟨_, rfl⟩
   rw [hMM] at hMg
   have hTF : tabF T KM X.C.en i = MM := by
    unfold tabF
    rw [← hrl, if_neg hfit, hKS, hMM]
   have hkn := tabK_next T KM X.C.en hlt
   rw [hTF] at hkn
   have hset : ∀ y : ERow, (tt.set i y)[i]? = some y := fun y => by rw [List.getElem?_set, if_pos rfl, if_pos (by omega)]
   have hset2 : ∀ (z1 : Option Addr) (z2 : Nat), sub (flat erV (tt.set i ⟨z1, z2, MM⟩)) (i * 1) 1 = some [.slice z1 MM.length z2] := fun z1 z2 => sub_flat0 (f := erV) (k := 1) (fun _ => rfl) (hset _) rfl
   repeat' (conv => whnf); first | (refine VIx.is ?_; refine VIx.mk rfl (by omega) (by omega) ?_) | (refine VLd.is ?_; refine VLd.mk (Rd.cast (.vec aT (vr)) (by first | omega | (dsimp only; omega) | rfl)) ?_) | (refine VSeq.go ?_) | (refine VB.is ?_; refine VB.yes (by omega) fun _ => ?_) | (refine VB.is ?_; refine VB.no (by omega) fun _ => ?_) | (refine VLd.is ?_; refine VLd.mk (.row aT (by rfl)) ?_) | (refine VAr.is ?_; refine oA ?_) | (refine VHs.mk _ (.refl _) ?_)
   all_goals (conv => whnf)
   refine VLoop.mk (α := Nat × Option Addr × Nat) (fun z => z.1 ≤ rl.length ∧ (0 < z.1 → ∃ g, z.2.1 = some ⟨g, 0, none⟩)) (fun z => [(1000000, .tuple #[]), (2, .pointer (some ⟨b2, 0, none⟩)), (4, .slice none 0 0), (5, .bool false), (8, .slice (some ⟨gt, 0, none⟩) n n), (10, .int .i64 (i : Int)), (11, .slice z.2.1 z.1 z.2.2), (12, .int .i64 (z.1 : Int))])
    (fun z => .vec z.2.1 z.1 z.2.2 3 1 (flat intV (KS.take z.1)) :: .vec (some ⟨gt, 0, none⟩) n n 177 1 (flat erV tt) :: .row b2 33 [.int .i64 X.C.mesh.wide, .int .i64 X.C.mesh.high, .int .i64 X.C.mesh.room, .int .i64 X.C.nr, .int .i64 X.C.sy, .int .i64 X.C.en, .int .i64 X.C.bits, .slice X.pd X.C.dead.length X.cd] :: tt.map rerE) (fun z => rl.length - z.1) (0, none, 0) ⟨Nat.zero_le _, fun h => absurd h (Nat.lt_irrefl _)⟩ aE (HLe.nilv (HLe.refl _)) ?_
   rintro ⟨j, kp, kc⟩ ⟨hj, hkp⟩
   dsimp only at hj hkp ⊢
   rcases Nat.lt_or_ge j rl.length with hjl | hjg
   ·obtain ⟨e, he⟩ : ∃ e, rl[j]? = some e := ⟨_, List.getElem?_eq_getElem hjl⟩
    have hse : sub (flat etyV rl) (j * 3) 1 = some [.int .i64 e.key] := sub_flat0 (f := etyV) (k := 3) (s := 1) (fun _ => rfl) he rfl
    have htk1 : KS.take (j + 1) = KS.take j ++ [e.key] := by rw [List.take_add_one, ← hKS, List.getElem?_map, he]; rfl
    repeat' (conv => whnf); first | (refine VIx.is ?_; refine VIx.mk rfl (by omega) (by omega) ?_) | (refine VLd.is ?_; refine VLd.mk (Rd.cast (.vec aT (vr)) (by first | omega | (dsimp only; omega) | rfl)) ?_) | (refine VLd.is ?_; refine VLd.atB g ?_; refine VLd.mk (Rd.cast (Rd.mVec (by (repeat (first | exact hqm | exact List.mem_append_left _ hqm | apply List.mem_cons_of_mem | apply List.mem_append_right)); first | done | fail) hse) (by first | omega | (dsimp only; omega) | rfl)) ?_) | (refine VNew.mk fun b28 => ?_) | (refine VAp.is ?_; refine VAp.own aT (.at_ (.vec aT rfl)) (by simp [Value.oneCell']) (by (try dsimp only); omega) (by simp only [maxLen]; omega) fun p1 c1 hp1 => ?_) | (refine VSeq.go ?_) | (refine VB.is ?_; refine VB.yes (by omega) fun _ => ?_) | (refine VAr.is ?_; refine oA ?_)
    all_goals (conv => whnf)
    refine VNext.mk (j + 1, p1, c1) ⟨by dsimp only; omega, fun _ => hp1 (by omega)⟩ (by dsimp only; omega) aE ?_
    dsimp only
    rw [htk1, flat_append]
    exact aH
   have hjr : j = rl.length := by omega
   subst hjr
   rw [List.take_of_length_le (by omega)]
   repeat' (conv => whnf); first | (refine VCall.isF 130 ?_; (refine VCall.genR (fun w' hw' => Exists.elim (Sl.own (f := intV) (l := KS) (k := 1) hw' aT (fun _ => rfl) hksl) fun bk hbk => hMg w' _ _ _ _ _ _ bk 0 (Sl.own' hw' (by (repeat (first | exact hqm | exact List.mem_append_left _ hqm | apply List.mem_cons_of_mem | apply List.mem_append_right)); first | done | fail) (fun _ => rfl) rfl) hbk) ?_; rintro ⟨z1, z2⟩ hz; dsimp only at hz ⊢)) | (refine VSt.is ?_; refine VSt.is ?_; refine VSt.cast (off' := i * 1) (by first | omega | (dsimp only; omega) | rfl) (VSt.vec aT (upd_flat0 (f := erV) (k := 1) (y := ⟨z1, z2, MM⟩) (fun _ => rfl) hr rfl) rfl ?_)) | (refine VIx.is ?_; refine VIx.mk rfl (by omega) (by omega) ?_) | (refine VLd.is ?_; refine VLd.mk (Rd.cast (.vec aT ((hset2 _ _))) (by first | omega | (dsimp only; omega) | rfl)) ?_) | (refine VLd.is ?_; refine VLd.mk (Rd.cast (.vec aT (vr)) (by first | omega | (dsimp only; omega) | rfl)) ?_) | (refine VSeq.go ?_) | (refine VB.is ?_; refine VB.no (by omega) fun _ => ?_) | (refine VB.split (fun _ => ?_) (fun _ => ?_)) | (refine VLd.is ?_; refine VLd.mk (.row aT (by rfl)) ?_) | (refine VAr.is ?_; refine oA ?_) | (refine VHs.mk _ (.refl _) ?_)
   all_goals (conv => whnf)
   ·rename_i hbad
    have hgf : good = false := by
     cases good with
     | false => rfl
     | true =>
      have h1 := hgd.1 rfl i hlt
      rw [hTF] at h1
      exact absurd h1 (by omega)
    subst hgf
    exact ⟨fun w' hw' => ⟨(none, []), rfl, ⟨fun h => absurd h (by simp), by simp⟩, hw'.le (HLe.permL (HLe.nilv .nil) (.refl _))⟩⟩
   ·rename_i hgood
    refine VNext.mk (i + 1, tt.set i ⟨z1, z2, MM⟩) ⟨by dsimp only; omega, ?_, ?_, ?_⟩ (by dsimp only; omega) aE ?_
    ·dsimp only
     rw [hkn, ← htt, List.map_set]
    ·intro r' hr'
     rcases List.mem_or_eq_of_mem_set hr' with h | rfl
     ·exact htk r' h
     ·exact hz
    ·intro j' hj'
     by_cases hji : j' < i
     ·exact hfe j' hji
     ·have : j' = i := by dsimp only at hj'; omega
      subst this
      rw [hTF]
      try dsimp only at hgood
      omega
    ·dsimp only
     refine HLe.permL ?_ (put_seg (f := rerE) aS (by omega))
     refine HLe.trans ?_ (take_seg (f := rerE) aS hr)
     exact aH
 have hin : i = n := by omega
 subst hin
 rw [tabK_all] at htt
 have hgt := hgd.2 hfe
 subst hgt
 repeat' (conv => whnf); first | (refine VSeq.go ?_) | (refine VB.is ?_; refine VB.no (by omega) fun _ => ?_)
 all_goals (conv => whnf)
 refine ⟨fun w' hw' => ⟨(some ⟨gt, 0, none⟩, tt), ?_, ⟨fun _ => ⟨htt, gt, rfl⟩, htk⟩, ?_⟩⟩
 ·rw [htl]; rfl
 ·dsimp only
  rw [htl]
  exact hw'.le aH

end Go.Proofs
