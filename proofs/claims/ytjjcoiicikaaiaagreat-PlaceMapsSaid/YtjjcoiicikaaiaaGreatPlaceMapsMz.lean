import Derived.Test.YtjjcoiicikaaiaaGreatPlaceMapsMy
set_option linter.unusedVariables false
set_option linter.unusedSimpArgs false
set_option maxHeartbeats 4000000

namespace Go.Proofs

open Go Go.Vx Go.Gm

theorem rtargets_any (X : PlnX) (w : World) (hX : PlnRd X w) (hok : PlanOk X.N X.C) (cores : List Int) (hcr : ∀ k ∈ cores, 0 ≤ k ∧ k < X.C.mesh.wide * X.C.mesh.high) (hlen : cores.length = X.N.ps.length) (key : Int) (hkey : I64 key) (p : Option Addr) (c b o : Nat) (h1 : Sl w intV 1 cores p cores.length b o) :
  Calls Tryz.prog 126 #[.agg X.net.toArray, .agg (chpC X.C X.pd X.cd).toArray, .slice p cores.length c, .int .i64 key] w fun e w' => ∃ z : Option Addr × Nat, e = .returned (.slice z.1 (coresM X.N X.C cores key).length z.2) ∧ (0 < (coresM X.N X.C cores key).length → ∃ g, z.1 = some ⟨g, 0, none⟩) ∧ St w [] [.vec z.1 (coresM X.N X.C cores key).length z.2 3 1 (flat intV (coresM X.N X.C cores key))] w' := by
 obtain ⟨hnc, hn1, hn2⟩ := nCores_ok hok.chip
 rw [← tgtC_all]
 obtain ⟨n, hn⟩ : ∃ n, nCores X.C = n := ⟨_, rfl⟩
 rw [hn] at hnc hn1 hn2 ⊢
 obtain ⟨hN, hC, hcc, ⟨bd, od, hd⟩, ⟨bp, op, hp⟩, ⟨bs, os, hs⟩⟩ := hX
 have hfs := hok.net.fewS
 have hfn := hok.net.few
 have hfr : ∀ s ∈ X.N.syns, -1000000 ≤ s.frm ∧ s.frm ≤ 1000000000 := fun s h => by
  have h1 := (hok.net.syns s h).1
  have h2 := hok.net.inputs
  unfold srcOk at h1
  omega
 have hto : ∀ s ∈ X.N.syns, 0 ≤ s.to ∧ s.to.toNat < cores.length := fun s h => by have := (hok.net.syns s h).2.1; omega
 have hky := fun (f : Int) hf (w' : World) => rkey_any X.N hfn X.pn X.cn (.int .i64 X.N.inputs) (.slice X.qs X.N.syns.length X.cs) (by rfl) f hf w'
 unfold I64 at hkey
 unfold PlnX.net chpC
 refine enter (C := Tryz.cx) (F := Tryz.fx126) (args := [_, _, _, _]) Tryz.func126 rfl rfl rfl Tryz.ok126 (St.start w []) ?_
 repeat' (conv => whnf); first | (refine VNew.mk fun b5 => ?_) | (refine VSeq.go ?_)
 all_goals (conv => whnf)
 rename_i b4
 refine VLoop.mk (α := Nat × Option Addr × Nat) (fun z => z.1 ≤ n ∧ (0 < (tgtC X.N cores key z.1).length → ∃ g, z.2.1 = some ⟨g, 0, none⟩)) (fun z => [(1000000, .tuple #[]), (2, .slice p cores.length c), (3, .int .i64 key), (4, .pointer (some ⟨b4, 0, none⟩)), (5, .pointer (some ⟨b5, 0, none⟩)), (8, .slice none 0 0), (9, .slice z.2.1 (tgtC X.N cores key z.1).length z.2.2), (10, .int .i64 (z.1 : Int))])
  (fun z => .vec z.2.1 (tgtC X.N cores key z.1).length z.2.2 3 1 (flat intV (tgtC X.N cores key z.1)) :: (.row b4 39 [.slice X.pn X.N.ps.length X.cn, .int .i64 X.N.inputs, .slice X.qs X.N.syns.length X.cs] :: .row b5 33 [.int .i64 X.C.mesh.wide, .int .i64 X.C.mesh.high, .int .i64 X.C.mesh.room, .int .i64 X.C.nr, .int .i64 X.C.sy, .int .i64 X.C.en, .int .i64 X.C.bits, .slice X.pd X.C.dead.length X.cd] :: [])) (fun z => n - z.1) (0, none, 0) ⟨Nat.zero_le _, fun h => by cases h⟩ aE (HLe.nilv aH) ?_
 rintro ⟨k, q, cq⟩ ⟨hk, hq⟩
 dsimp only at hk hq ⊢
 have hTn := tgtC_next X.N cores key k
 have hTl := tgtC_len X.N cores key k
 obtain ⟨T, hT⟩ : ∃ T, tgtC X.N cores key k = T := ⟨_, rfl⟩
 rw [hT] at hTn hTl hq ⊢
 rcases Nat.lt_or_ge k n with hlk | hgk
 ·repeat' (conv => whnf); first | (refine VAr.is ?_; refine VAr.is ?_; refine VAr.mul hnc.symm (by omega) (by omega) ?_) | (refine VSeq.go ?_) | (refine VB.is ?_; refine VB.yes (by omega) fun _ => ?_) | (refine VLd.is ?_; refine VLd.mk (.row aT (by rfl)) ?_)
  all_goals (conv => whnf)
  refine VLoop.mk (α := Nat) (fun j => j ≤ X.N.syns.length) (fun j => [(1000000, .tuple #[]), (2, .slice p cores.length c), (3, .int .i64 key), (4, .pointer (some ⟨b4, 0, none⟩)), (5, .pointer (some ⟨b5, 0, none⟩)), (8, .slice none 0 0), (9, .slice q T.length cq), (10, .int .i64 (k : Int)), (11, .bool (isTgt X.N cores key (k : Int) (X.N.syns.take j))), (12, .int .i64 (j : Int))])
   (fun _ => .vec q T.length cq 3 1 (flat intV T) :: (.row b4 39 [.slice X.pn X.N.ps.length X.cn, .int .i64 X.N.inputs, .slice X.qs X.N.syns.length X.cs] :: .row b5 33 [.int .i64 X.C.mesh.wide, .int .i64 X.C.mesh.high, .int .i64 X.C.mesh.room, .int .i64 X.C.nr, .int .i64 X.C.sy, .int .i64 X.C.en, .int .i64 X.C.bits, .slice X.pd X.C.dead.length X.cd] :: [])) (fun j => X.N.syns.length - j) 0 (Nat.zero_le _) aE aH ?_
  intro j hj
  rcases Nat.lt_or_ge j X.N.syns.length with hlj | hgj
  ·obtain ⟨s, hsj⟩ := hs.get hlj
   have hsm := List.mem_of_getElem? hsj
   have hnx := isTgt_next (N := X.N) (cores := cores) (key := key) (k := (k : Int)) hsj
   have hky2 := hky s.frm (hfr s hsm)
   obtain ⟨ht0, ht1⟩ := hto s hsm
   obtain ⟨v, hv⟩ := h1.get ht1
   have hvr := hcr v (List.mem_of_getElem? hv)
   rw [hv] at hnx
   obtain ⟨ky, hkyE⟩ : ∃ ky, keyM X.N s.frm = ky := ⟨_, rfl⟩
   rw [hkyE] at hnx hky2
   have hsx : sub (synV s) 0 4 = some [.int .i64 s.frm, .int .i64 s.to, .int .i64 s.wt, .int .i64 s.dl] := rfl
   cases hf : isTgt X.N cores key (k : Int) (X.N.syns.take j)
   ·rw [hf, Bool.false_or] at hnx
    repeat' (conv => whnf); first | (refine VNew.mk fun b13 => ?_) | (refine VIx.is ?_; refine VIx.mk (hs.ptr (by omega)) (by omega) (by omega) ?_) | (refine VLd.is ?_; refine VLd.mk (Rd.cast (hs.rd0 (by simp) (fun _ => rfl) hsj hsx) (by first | omega | (dsimp only; omega) | rfl)) ?_) | (refine VCall.isF 81 ?_; (refine VCall.valR (fun w' _ => hky2 w') ?_)) | (refine VIx.is ?_; refine VIx.mk (h1.ptr (by omega)) (by omega) (by omega) ?_) | (refine VLd.is ?_; refine VLd.mk (Rd.cast (h1.rd0 (by simp) (fun _ => rfl) hv rfl) (by first | omega | (dsimp only; omega) | rfl)) ?_) | (refine VSeq.go ?_) | (refine VB.is ?_; refine VB.yes (by omega) fun _ => ?_) | (refine VB.split (fun _ => ?_) (fun _ => ?_)) | (refine VLd.is ?_; refine VLd.mk (.row aT (by rfl)) ?_) | (refine VSt.is ?_; refine VSt.row aT (by rfl) (by first | rfl | assumption) ?_) | (refine VAr.is ?_; refine oA ?_)
    all_goals (conv => whnf)
    all_goals first
     | (have e : decide (ky = key ∧ some v = some (k : Int)) = true := decide_eq_true ⟨by omega, by congr 1⟩
        rw [e] at hnx
        refine VNext.mk (j + 1) (by omega) (by omega) ?_ aH
        dsimp only
        rw [hnx]
        exact aE)
     | (have e : decide (ky = key ∧ some v = some (k : Int)) = false := decide_eq_false (fun h => by have h2 := Option.some.inj h.2; omega)
        rw [e] at hnx
        refine VNext.mk (j + 1) (by omega) (by omega) ?_ aH
        dsimp only
        rw [hnx]
        exact aE)
   ·rw [hf, Bool.true_or] at hnx
    repeat' (conv => whnf); first | (refine VNew.mk fun b13 => ?_) | (refine VIx.is ?_; refine VIx.mk (hs.ptr (by omega)) (by omega) (by omega) ?_) | (refine VLd.is ?_; refine VLd.mk (Rd.cast (hs.rd0 (by simp) (fun _ => rfl) hsj hsx) (by first | omega | (dsimp only; omega) | rfl)) ?_) | (refine VSeq.go ?_) | (refine VB.is ?_; refine VB.yes (by omega) fun _ => ?_) | (refine VLd.is ?_; refine VLd.mk (.row aT (by rfl)) ?_) | (refine VSt.is ?_; refine VSt.row aT (by rfl) (by first | rfl | assumption) ?_) | (refine VAr.is ?_; refine oA ?_)
    all_goals (conv => whnf)
    refine VNext.mk (j + 1) (by omega) (by omega) ?_ aH
    dsimp only
    rw [hnx]
    exact aE
  rw [List.take_of_length_le hgj]
  cases hf : isTgt X.N cores key (k : Int) X.N.syns
  ·rw [hf, if_neg (by simp), List.append_nil] at hTn
   repeat' (conv => whnf); first | (refine VSeq.go ?_) | (refine VB.is ?_; refine VB.no (by omega) fun _ => ?_) | (refine VLd.is ?_; refine VLd.mk (.row aT (by rfl)) ?_) | (refine VAr.is ?_; refine oA ?_)
   all_goals (conv => whnf)
   refine VNext.mk (k + 1, q, cq) ⟨by dsimp only; omega, by dsimp only; rw [hTn]; exact hq⟩ (by dsimp only; omega) ?_ ?_
   ·dsimp only
    rw [hTn]
    exact aE
   ·dsimp only
    rw [hTn]
    exact aH
  ·rw [hf, if_pos rfl] at hTn
   repeat' (conv => whnf); first | (refine VNew.mk fun bn => ?_) | (refine VAp.is ?_; refine VAp.own aT (.at_ (.vec aT rfl)) (by simp [Value.oneCell']) (by (try dsimp only); omega) (by simp only [maxLen]; omega) fun p' cap' hp' => ?_) | (refine VSeq.go ?_) | (refine VB.is ?_; refine VB.no (by omega) fun _ => ?_) | (refine VLd.is ?_; refine VLd.mk (.row aT (by rfl)) ?_) | (refine VAr.is ?_; refine oA ?_)
   all_goals (conv => whnf)
   refine VNext.mk (k + 1, p', cap') ⟨by dsimp only; omega, fun _ => hp' (by omega)⟩ (by dsimp only; omega) ?_ ?_
   ·dsimp only
    rw [hTn, List.length_append]
    exact aE
   ·dsimp only
    rw [hTn, List.length_append, flat_append]
    exact aH
 have hkn : k = n := by omega
 subst hkn
 rw [hT]
 repeat' (conv => whnf); first | (refine VAr.is ?_; refine VAr.is ?_; refine VAr.mul hnc.symm (by omega) (by omega) ?_) | (refine VSeq.go ?_) | (refine VB.is ?_; refine VB.no (by omega) fun _ => ?_) | (refine VLd.is ?_; refine VLd.mk (.row aT (by rfl)) ?_)
 all_goals (conv => whnf)
 exact ⟨fun w' hw' => ⟨(q, cq), rfl, hq, hw'.le aH⟩⟩

theorem home_range {N : Net} {C : Chp} {cores : List Int} (h : AsgOk N C cores) {key : Int} (hk : 0 ≤ key) : 0 ≤ homeM N cores key ∧ homeM N cores key < C.mesh.wide * C.mesh.high := by
 have hn := nCores_ok h.plan.chip
 unfold homeM
 split
 ·rename_i hlt
  have hl : key.toNat < cores.length := by rw [h.len]; omega
  rw [List.getElem?_eq_getElem hl, Option.getD_some]
  exact (h.core _ (List.getElem_mem hl)).1
 ·omega

theorem cores_some {N : Net} {C : Chp} {cores : List Int} (h : AsgOk N C cores) (key : Int) : 0 < (coresM N C cores key).length ↔ tgtM N N.syns key ≠ [] := by
 constructor
 ·intro hp
  obtain ⟨x, hx⟩ := List.exists_mem_of_ne_nil _ (List.length_pos_iff.1 hp)
  unfold coresM at hx
  rw [List.mem_filter] at hx
  obtain ⟨s, hs, hk, _⟩ := of_decide_eq_true hx.2
  exact tgt_some.1 ⟨s, hs, hk⟩
 ·intro hne
  obtain ⟨t, ht⟩ := List.exists_mem_of_ne_nil _ hne
  have hm := ((dd_sorted ((tgtM N N.syns key).map fun t => cores[t.toNat]?.getD 0)).2 (cores[t.toNat]?.getD 0)).2 (List.mem_map_of_mem (f := fun t => cores[t.toNat]?.getD 0) ht)
  rw [dd_cores h] at hm
  exact List.length_pos_of_mem hm

theorem coresM_range {N : Net} {C : Chp} (h : ChpOk C) (cores : List Int) (key : Int) : (∀ q ∈ coresM N C cores key, I64 q) ∧ (coresM N C cores key).length ≤ 64 := by
 have hn := nCores_ok h
 constructor
 ·intro q hq
  unfold coresM at hq
  rw [List.mem_filter, List.mem_map] at hq
  obtain ⟨⟨a, ha, rfl⟩, _⟩ := hq
  rw [List.mem_range] at ha
  unfold I64; omega
 ·rw [← tgtC_all]
  have := tgtC_len N cores key (nCores C)
  omega

theorem rcost_any (X : PlnX) (w : World) (hX : PlnRd X w) (cores : List Int) (hA : AsgOk X.N X.C cores) (p : Option Addr) (c b o : Nat) (h1 : Sl w intV 1 cores p cores.length b o) :
  Calls Tryz.prog 87 #[.agg X.net.toArray, .agg (chpC X.C X.pd X.cd).toArray, .slice p cores.length c] w fun e w' => e = .returned (.int .i64 (costM X.N X.C cores : Int)) ∧ St w [] [] w' := by
 have hok := hA.plan
 have hkeep := fun (w' : World) (H : HP) (hw' : St w [] H w') => hX.keep hw'
 have htg := fun (key : Int) hk (w' : World) h => rtargets_any X w' h hok cores (fun k hk => (hA.core k hk).1) hA.len key hk p c b o
 have hho := fun (k : Nat) hk (w' : World) => rhome_any X.N hok.net.few X.pn X.cn (.int .i64 X.N.inputs) (.slice X.qs X.N.syns.length X.cs) (by rfl) cores hA.len k hk p c b o w'
 have hfew := hok.few
 have hinp := hok.net.inputs
 have hns : (nSrc X.N : Int) = (X.N.ps.length : Int) + X.N.inputs := by unfold nSrc; omega
 have hmw := hX.chip.mesh
 have hmok := hok.chip.mesh
 unfold PlnX.net chpC at htg ⊢
 refine enter (C := Tryz.cx) (F := Tryz.fx87) (args := [_, _, _]) Tryz.func87 rfl rfl rfl Tryz.ok87 (St.start w []) ?_
 repeat' (conv => whnf); first | (refine VNew.mk fun b4 => ?_) | (refine VSeq.go ?_)
 all_goals (conv => whnf)
 rename_i b3
 refine VLoop.mk (α := Nat) (fun k => k ≤ nSrc X.N) (fun k => [(1000000, .tuple #[]), (2, .slice p cores.length c), (3, .pointer (some ⟨b3, 0, none⟩)), (4, .pointer (some ⟨b4, 0, none⟩)), (6, .int .i64 0), (7, .int .i64 (costK X.N X.C cores k : Int)), (8, .int .i64 (k : Int))])
  (fun _ => [.row b3 39 [.slice X.pn X.N.ps.length X.cn, .int .i64 X.N.inputs, .slice X.qs X.N.syns.length X.cs], .row b4 33 [.int .i64 X.C.mesh.wide, .int .i64 X.C.mesh.high, .int .i64 X.C.mesh.room, .int .i64 X.C.nr, .int .i64 X.C.sy, .int .i64 X.C.en, .int .i64 X.C.bits, .slice X.pd X.C.dead.length X.cd]]) (fun k => nSrc X.N - k) 0 (Nat.zero_le _) aE aH ?_
 intro k hk
 rcases Nat.lt_or_ge k (nSrc X.N) with hlt | hge
 ·have hnx := costK_next X.N X.C cores k
  have hle := costK_le (N := X.N) hok.chip cores k
  have hsl := srcLinks_le (N := X.N) hok.chip cores (k : Int)
  have htg2 := htg (k : Int) (by unfold I64; omega)
  have hho2 := hho k (by omega)
  have hhr := home_range hA (key := (k : Int)) (by omega)
  have hsome := cores_some hA (k : Int)
  obtain ⟨hcr, hcl⟩ := coresM_range (N := X.N) hok.chip cores (k : Int)
  have htk := fun hne => tree_known hA (key := (k : Int)) (by omega) hne
  have hSok : OutsOk (srcTree X.N X.C cores (k : Int)) := Gm.tree_ok _ _ _ _
  have hSl : (srcTree X.N X.C cores (k : Int)).length = nCores X.C := tree_length ..
  have hnc := nCores_ok hok.chip
  obtain ⟨home, hhome⟩ : ∃ h, homeM X.N cores (k : Int) = h := ⟨_, rfl⟩
  obtain ⟨CO, hCO⟩ : ∃ S, coresM X.N X.C cores (k : Int) = S := ⟨_, rfl⟩
  obtain ⟨ST, hST⟩ : ∃ S, srcTree X.N X.C cores (k : Int) = S := ⟨_, rfl⟩
  rw [hhome] at hho2 hhr htk
  rw [hCO] at htg2 hsome hcr hcl htk
  rw [hST] at hnx hsl htk hSok hSl
  have harea := area_ok hmok
  have hrt := fun (hne : tgtM X.N X.N.syns (k : Int) ≠ []) (w' : World) p c b o h => by
   have := refTree_any X.C.mesh hmw home (by unfold I64; omega) CO hcr (by omega) p c b o w' h
   rw [htk hne] at this
   exact this
  have hrl := fun po co bo oo (w' : World) => rlinks_any ST hSok (by omega) po co bo oo w'
  obtain ⟨m, hm⟩ : ∃ m, linksM ST = m := ⟨_, rfl⟩
  rw [hm] at hnx hsl hrl
  obtain ⟨n0, hn0⟩ : ∃ n, costK X.N X.C cores k = n := ⟨_, rfl⟩
  rw [hn0] at hnx hle ⊢
  unfold spcC at hrt
  clear htg hho htk hhome hCO hST
  repeat' (conv => whnf); first | (refine VHs.is ?_; refine VHs.is ?_; refine VHs.mk [.row b3 39 [.slice X.pn X.N.ps.length X.cn, .int .i64 X.N.inputs, .slice X.qs X.N.syns.length X.cs], .row b4 33 [.int .i64 X.C.mesh.wide, .int .i64 X.C.mesh.high, .int .i64 X.C.mesh.room, .int .i64 X.C.nr, .int .i64 X.C.sy, .int .i64 X.C.en, .int .i64 X.C.bits, .slice X.pd X.C.dead.length X.cd]] aH ?_) | (refine VCall.isF 126 ?_; (refine VCall.genR (fun w' hw' => htg2 w' (hkeep w' _ hw') (h1.keep hw' (by simp))) ?_; rintro ⟨q, cq⟩ hq; dsimp only at hq ⊢)) | (refine VCall.isF 127 ?_; (refine VCall.valR (fun w' hw' => hho2 w' (h1.keep hw' (by simp))) ?_)) | (refine VCall.isF 128 ?_; (refine VCall.genR (fun w' hw' => Exists.elim (Sl.own (f := intV) (l := CO) (k := 1) hw' aT (fun _ => rfl) rfl) fun b1 hb1 => hrt (hsome.1 (by omega)) w' _ _ b1 0 hb1) ?_; rintro ⟨q2, cq2⟩ hq2; dsimp only at hq2 ⊢)) | (refine VCall.isF 132 ?_; (refine VCall.valR (fun w' hw' => Exists.elim (Sl.own (f := intV) (l := ST) (k := 1) hw' aT (fun _ => rfl) rfl) fun b1 hb1 => hrl _ _ b1 0 w' hb1) ?_)) | (refine VSeq.go ?_) | (refine VB.is ?_; refine VB.yes (by omega) fun _ => ?_) | (refine VB.split (fun _ => ?_) (fun _ => ?_)) | (refine VLd.is ?_; refine VLd.mk (.row aT (by rfl)) ?_) | (refine VAr.is ?_; refine oA ?_) | (refine VKeep.is ?_; refine VKeep.mk aH ?_)
  all_goals (conv => whnf)
  ·rw [if_pos (hsome.1 (by omega))] at hnx
   refine VNext.mk (k + 1) (by omega) (by omega) ?_ aH
   rw [hnx, show ((n0 + m : Nat) : Int) = (n0 : Int) + (m : Int) by omega]
   exact aE
  ·rw [if_neg (fun h => absurd (hsome.2 h) (by omega))] at hnx
   refine VNext.mk (k + 1) (by omega) (by omega) ?_ aH
   rw [hnx, show ((n0 + 0 : Nat) : Int) = (n0 : Int) by omega]
   exact aE
 have hkn : k = nSrc X.N := by omega
 rw [hkn, costK_all]
 rw [hkn] at hge
 repeat' (conv => whnf); first | (refine VSeq.go ?_) | (refine VB.is ?_; refine VB.no (by omega) fun _ => ?_) | (refine VLd.is ?_; refine VLd.mk (.row aT (by rfl)) ?_) | (refine VAr.is ?_; refine oA ?_)
 all_goals (conv => whnf)
 exact ⟨fun w' hw' => ⟨rfl, hw'.le .nil⟩⟩

end Go.Proofs
