import Derived.Test.YtjjcoiicikaaiaaGreatPlaceMapsRa
set_option linter.unusedVariables false
set_option linter.unusedSimpArgs false
set_option maxHeartbeats 4000000

namespace Go.Gm

def unL (n : Nat) (cores : List Int) : List Int := (List.range n).map fun (k : Nat) => (useN cores (k : Int) : Int)

def urL (n : Nat) (l : List Syn) (cores : List Int) : List Int := (List.range n).map fun (k : Nat) => (useR l cores (k : Int) : Int)

theorem unL_len (n : Nat) (cores : List Int) : (unL n cores).length = n := by unfold unL; simp

theorem urL_len (n : Nat) (l : List Syn) (cores : List Int) : (urL n l cores).length = n := by unfold urL; simp

theorem unL_get {n : Nat} {cores : List Int} {k : Nat} (hk : k < n) : (unL n cores)[k]? = some (useN cores (k : Int) : Int) := by
 unfold unL
 rw [List.getElem?_map, List.getElem?_range hk]; rfl

theorem urL_get {n : Nat} {l : List Syn} {cores : List Int} {k : Nat} (hk : k < n) : (urL n l cores)[k]? = some (useR l cores (k : Int) : Int) := by
 unfold urL
 rw [List.getElem?_map, List.getElem?_range hk]; rfl

theorem unL_next {n : Nat} {cores : List Int} {i c : Nat} (h : cores[i]? = some (c : Int)) : unL n (cores.take (i + 1)) = (unL n (cores.take i)).set c ((useN (cores.take i) (c : Int) : Int) + 1) := by
 have e : cores.take (i + 1) = cores.take i ++ [(c : Int)] := by rw [List.take_add_one, h]; rfl
 apply List.ext_getElem?
 intro j
 by_cases hj : j < n
 ·rw [unL_get hj, e, useN_snoc]
  by_cases hjc : c = j
  ·subst hjc
   rw [if_pos rfl, List.getElem?_set_self (by rw [unL_len]; exact hj)]
   rfl
  ·rw [if_neg (by omega), List.getElem?_set_ne hjc, unL_get hj]
   rfl
 ·rw [List.getElem?_eq_none (by rw [unL_len]; omega), List.getElem?_eq_none (by rw [List.length_set, unL_len]; omega)]

theorem useR_take {l : List Syn} {i : Nat} {s : Syn} (h : l[i]? = some s) (cores : List Int) (k : Int) : useR (l.take (i + 1)) cores k = useR (l.take i) cores k + if 0 ≤ s.to ∧ cores[s.to.toNat]? = some k then 1 else 0 := by
 unfold useR
 rw [List.take_add_one, h, Option.toList_some, List.countP_append]
 by_cases hk : 0 ≤ s.to ∧ cores[s.to.toNat]? = some k
 ·rw [if_pos hk, List.countP_cons, if_pos (decide_eq_true hk)]; rfl
 ·rw [if_neg hk, List.countP_cons, if_neg (fun h => hk (of_decide_eq_true h))]; rfl

theorem urL_next {n : Nat} {l : List Syn} {cores : List Int} {i c : Nat} {s : Syn} (h : l[i]? = some s) (h0 : 0 ≤ s.to) (hc : cores[s.to.toNat]? = some (c : Int)) : urL n (l.take (i + 1)) cores = (urL n (l.take i) cores).set c ((useR (l.take i) cores (c : Int) : Int) + 1) := by
 apply List.ext_getElem?
 intro j
 by_cases hj : j < n
 ·rw [urL_get hj, useR_take h]
  by_cases hjc : c = j
  ·subst hjc
   rw [if_pos ⟨h0, hc⟩, List.getElem?_set_self (by rw [urL_len]; exact hj)]
   rfl
  ·rw [if_neg (fun h => hjc (by have := h.2; rw [hc] at this; have := Option.some.inj this; omega)), List.getElem?_set_ne hjc, urL_get hj]
   rfl
 ·rw [List.getElem?_eq_none (by rw [urL_len]; omega), List.getElem?_eq_none (by rw [List.length_set, urL_len]; omega)]

theorem urL_skip {n : Nat} {l : List Syn} {cores : List Int} {i : Nat} {s : Syn} (h : l[i]? = some s) (hc : ¬ s.to.toNat < cores.length) : urL n (l.take (i + 1)) cores = urL n (l.take i) cores := by
 unfold urL
 congr 1
 funext k
 rw [useR_take h, if_neg (fun h => by rw [List.getElem?_eq_none (by omega)] at h; cases h.2)]
 rfl

theorem unL_nil (n : Nat) : unL n [] = List.replicate n 0 := by
 unfold unL
 have e : (fun (k : Nat) => (useN [] (k : Int) : Int)) = fun _ => 0 := by funext k; unfold useN; simp
 rw [e, List.map_const', List.length_range]

theorem urL_nil (n : Nat) (cores : List Int) : urL n [] cores = List.replicate n 0 := by
 unfold urL
 have e : (fun (k : Nat) => (useR [] cores (k : Int) : Int)) = fun _ => 0 := by funext k; unfold useR; simp
 rw [e, List.map_const', List.length_range]

def rfitA (C : Chp) (l : List Syn) (cores : List Int) : Prop := fitsA C l cores ∧ ∀ c ∈ cores, c ∉ C.dead

theorem rfitA_iff {C : Chp} {l : List Syn} {cores : List Int} (hn : (nCores C : Int) = C.mesh.wide * C.mesh.high) (hcr : ∀ k ∈ cores, 0 ≤ k ∧ k < C.mesh.wide * C.mesh.high) :
  rfitA C l cores ↔ ∀ k : Nat, k < nCores C → ((useN cores (k : Int) : Int) ≤ C.nr ∧ (useR l cores (k : Int) : Int) ≤ C.sy) ∧ ¬ (0 < useN cores (k : Int) ∧ (k : Int) ∈ C.dead) := by
 have hpos : ∀ k : Int, 0 < useN cores k ↔ k ∈ cores := fun k => by
  unfold useN
  rw [List.countP_pos_iff]
  constructor
  ·rintro ⟨a, ha, he⟩
   have := of_decide_eq_true he
   subst this; exact ha
  ·intro h; exact ⟨k, h, decide_eq_true rfl⟩
 constructor
 ·rintro ⟨h1, h2⟩ k hk
  exact ⟨h1 k hk, fun h => h2 _ ((hpos _).1 h.1) h.2⟩
 ·intro h
  refine ⟨fun k hk => (h k hk).1, fun c hc hd => ?_⟩
  have hr := hcr c hc
  obtain ⟨k, rfl⟩ : ∃ k : Nat, c = (k : Int) := ⟨c.toNat, by omega⟩
  exact (h k (by omega)).2 ⟨(hpos _).2 hc, hd⟩

end Go.Gm

namespace Go.Proofs

open Go Go.Vx Go.Gm

theorem both_any (X : PlnX) (w : World) (hX : PlnRd X w) :
  Calls Tryz.prog 65 #[.agg X.net.toArray, .agg (chpC X.C X.pd X.cd).toArray] w fun e w' => e = .returned (.int .i64 (Gm.planE X.N X.C)) ∧ St w [] [] w' := by
 obtain ⟨hN, hC, hcc, ⟨bd, od, hd⟩, ⟨bp, op, hp⟩, ⟨bs, os, hs⟩⟩ := hX
 have hin := hN.inputs
 unfold I64 at hin
 have hm := fun (w' : World) hp hs => refNetCheck_any X.N hN X.pn X.cn bp op X.qs X.cs bs os w' hp hs
 have hm2 := fun (w' : World) hd => refCheckChip_any X.C hC X.pd X.cd bd od hcc w' hd
 unfold PlnX.net
 unfold chpC at hm2 ⊢
 refine enter (C := Tryz.cx) (F := Tryz.fx65) (args := [_, _]) Tryz.func65 rfl rfl rfl Tryz.ok65 (St.start w []) ?_
 unfold Gm.planE
 by_cases h1 : netchk X.N ≠ 0
 ·rw [if_pos h1]
  obtain ⟨E, hE⟩ : ∃ E, netchk X.N = E := ⟨_, rfl⟩
  rw [hE] at hm h1 ⊢
  repeat' (conv => whnf); first | (refine VCall.isF 58 ?_; (refine VCall.valR (fun w' hw' => hm w' (hp.keep hw' (by simp)) (hs.keep hw' (by simp))) ?_)) | (refine VSeq.go ?_) | (refine VB.is ?_; refine VB.yes (by omega) fun _ => ?_) | (refine VLd.is ?_; refine VLd.mk (.row aT (by rfl)) ?_) | (refine VNew.mk fun _ => ?_)
  all_goals (conv => whnf)
  all_goals first
   | exact ⟨fun w' hw' => ⟨rfl, hw'.le .nil⟩⟩
   | (exfalso; omega)
 rw [if_neg h1]
 have h1 := Decidable.not_not.1 h1
 rw [h1] at hm
 by_cases h2 : chipE X.C ≠ 0
 ·rw [if_pos h2]
  obtain ⟨E, hE⟩ : ∃ E, chipE X.C = E := ⟨_, rfl⟩
  rw [hE] at hm2 h2 ⊢
  repeat' (conv => whnf); first | (refine VCall.isF 58 ?_; (refine VCall.valR (fun w' hw' => hm w' (hp.keep hw' (by simp)) (hs.keep hw' (by simp))) ?_)) | (refine VCall.isF 17 ?_; (refine VCall.valR (fun w' hw' => hm2 w' (hd.keep hw' (by simp))) ?_)) | (refine VSeq.go ?_) | (refine VB.is ?_; refine VB.yes (by omega) fun _ => ?_) | (refine VB.is ?_; refine VB.no (by omega) fun _ => ?_) | (refine VB.split (fun _ => ?_) (fun _ => ?_)) | (refine VLd.is ?_; refine VLd.mk (.row aT (by rfl)) ?_) | (refine VNew.mk fun _ => ?_) | (refine VAr.is ?_; refine oA ?_)
  all_goals (conv => whnf)
  all_goals first
   | exact ⟨fun w' hw' => ⟨rfl, hw'.le .nil⟩⟩
   | (exfalso; omega)
 rw [if_neg h2]
 have h2 := Decidable.not_not.1 h2
 rw [h2] at hm2
 obtain ⟨g1, g2, g3, g4, g5, g6⟩ := netchk_zero.1 h1
 repeat' (conv => whnf); first | (refine VCall.isF 58 ?_; (refine VCall.valR (fun w' hw' => hm w' (hp.keep hw' (by simp)) (hs.keep hw' (by simp))) ?_)) | (refine VCall.isF 17 ?_; (refine VCall.valR (fun w' hw' => hm2 w' (hd.keep hw' (by simp))) ?_)) | (refine VSeq.go ?_) | (refine VB.is ?_; refine VB.yes (by omega) fun _ => ?_) | (refine VB.is ?_; refine VB.no (by omega) fun _ => ?_) | (refine VB.split (fun _ => ?_) (fun _ => ?_)) | (refine VLd.is ?_; refine VLd.mk (.row aT (by rfl)) ?_) | (refine VNew.mk fun _ => ?_) | (refine VAr.is ?_; refine oA ?_)
 all_goals (conv => whnf)
 all_goals first
  | exact ⟨fun w' hw' => ⟨by rw [if_pos (by omega)]; rfl, hw'.le .nil⟩⟩
  | exact ⟨fun w' hw' => ⟨by rw [if_neg (by omega)]; rfl, hw'.le .nil⟩⟩

theorem rfits_any (X : PlnX) (w : World) (hX : PlnRd X w) (hok : PlanOk X.N X.C) (cores : List Int) (hcr : ∀ k ∈ cores, 0 ≤ k ∧ k < X.C.mesh.wide * X.C.mesh.high) (hlen : cores.length ≤ X.N.ps.length) (p : Option Addr) (c b o : Nat) (h1 : Sl w intV 1 cores p cores.length b o) :
  Calls Tryz.prog 67 #[.agg X.net.toArray, .agg (chpC X.C X.pd X.cd).toArray, .slice p cores.length c] w fun e w' => ∃ r : Bool, e = .returned (.bool r) ∧ (r = true ↔ rfitA X.C X.N.syns cores) ∧ St w [] [] w' := by
 obtain ⟨hnc, hn1, hn2⟩ := nCores_ok hok.chip
 have hiff := rfitA_iff (l := X.N.syns) hnc hcr
 obtain ⟨n, hn⟩ : ∃ n, nCores X.C = n := ⟨_, rfl⟩
 rw [hn] at hnc hn1 hn2 hiff
 obtain ⟨hN, hC, hcc, ⟨bd, od, hd⟩, ⟨bp, op, hp⟩, ⟨bs, os, hs⟩⟩ := hX
 have hdf := hC.few
 have hfs := hok.net.fewS
 have hfn := hok.net.few
 have hto : ∀ s ∈ X.N.syns, 0 ≤ s.to ∧ s.to.toNat < X.N.ps.length := fun s h => by have := (hok.net.syns s h).2.1; omega
 have c1 := hok.chip.nr
 have c2 := hok.chip.sy
 have hrep := flat_rep (f := intV) (x := (0 : Int)) n
 have hbN : ∀ (l : List Int) (k : Int), useN l k ≤ l.length := fun l k => List.countP_le_length
 have hbR : ∀ (l : List Syn) (cs : List Int) (k : Int), useR l cs k ≤ l.length := fun l cs k => List.countP_le_length
 unfold PlnX.net chpC
 refine enter (C := Tryz.cx) (F := Tryz.fx67) (args := [_, _, _]) Tryz.func67 rfl rfl rfl Tryz.ok67 (St.start w []) ?_
 repeat' (conv => whnf); first | (refine VNew.mk fun b4 => ?_) | (refine VAr.is ?_; refine VAr.is ?_; refine VAr.mul hnc.symm (by omega) (by omega) ?_) | (refine VMk.is ?_; refine VMk.mk (by omega) (by omega) (by (try dsimp only); omega) (by omega) fun g => ?_) | (refine VSeq.is ?_; refine VSeq.isN 3 rfl ?_; rename_i b3; refine VSeq.cut (at_ := 3) (α := Nat × Nat) (fun _ => True) (fun z => [(1000000, .tuple #[]), (2, .slice p cores.length c), (3, .pointer (some ⟨b3, 0, none⟩)), (4, .pointer (some ⟨b4, 0, none⟩)), (6, .bool false), (7, .int .i64 (n : Int)), (8, .slice (some ⟨z.1, 0, none⟩) n n), (9, .slice (some ⟨z.2, 0, none⟩) n n)]) (fun z => .row b3 39 [.slice X.pn X.N.ps.length X.cn, .int .i64 X.N.inputs, .slice X.qs X.N.syns.length X.cs] :: .row b4 33 [.int .i64 X.C.mesh.wide, .int .i64 X.C.mesh.high, .int .i64 X.C.mesh.room, .int .i64 X.C.nr, .int .i64 X.C.sy, .int .i64 X.C.en, .int .i64 X.C.bits, .slice X.pd X.C.dead.length X.cd] :: [.vec (some ⟨z.1, 0, none⟩) n n 3 1 (repL [.int .i64 0] n), .vec (some ⟨z.2, 0, none⟩) n n 3 1 (repL [.int .i64 0] n)]) ?_ ?_) | (refine VSeq.go ?_) | (refine VLd.is ?_; refine VLd.mk (.row aT (by rfl)) ?_) | (refine VHs.mk _ (.refl _) ?_) | (refine And.intro ?_ ?_)
 all_goals (conv => whnf)
 any_goals (rename_i u; first | exact VMid.mk (u, g) trivial aE aH | exact VMid.mk (g, u) trivial aE aH)
 rintro ⟨g8, g9⟩ _
 dsimp only
 repeat' (conv => whnf); first | (refine VSeq.go ?_) | (refine VB.is ?_; refine VB.no (by omega) fun _ => ?_) | (refine VLd.is ?_; refine VLd.mk (.row aT (by rfl)) ?_)
 all_goals (conv => whnf)
 refine VLoop.mk (α := Nat) (fun i => i ≤ cores.length) (fun i => [(1000000, .tuple #[]), (2, .slice p cores.length c), (3, .pointer (some ⟨b3, 0, none⟩)), (4, .pointer (some ⟨b4, 0, none⟩)), (6, .bool false), (7, .int .i64 (n : Int)), (8, .slice (some ⟨g8, 0, none⟩) n n), (9, .slice (some ⟨g9, 0, none⟩) n n), (10, .int .i64 (i : Int))])
  (fun i => .row b3 39 [.slice X.pn X.N.ps.length X.cn, .int .i64 X.N.inputs, .slice X.qs X.N.syns.length X.cs] :: .row b4 33 [.int .i64 X.C.mesh.wide, .int .i64 X.C.mesh.high, .int .i64 X.C.mesh.room, .int .i64 X.C.nr, .int .i64 X.C.sy, .int .i64 X.C.en, .int .i64 X.C.bits, .slice X.pd X.C.dead.length X.cd] :: [.vec (some ⟨g8, 0, none⟩) n n 3 1 (flat intV (unL n (cores.take i))), .vec (some ⟨g9, 0, none⟩) n n 3 1 (repL [.int .i64 0] n)]) (fun i => cores.length - i) 0 (Nat.zero_le _) aE ?_ ?_
 ·rw [List.take_zero, unL_nil, ← hrep]
  exact aH
 intro i hi
 rcases Nat.lt_or_ge i cores.length with hlt | hge
 ·obtain ⟨kz, hkz⟩ := h1.get hlt
  have hkr := hcr kz (List.mem_of_getElem? hkz)
  obtain ⟨k, rfl⟩ : ∃ k : Nat, kz = (k : Int) := ⟨kz.toNat, by omega⟩
  have hkn : k < n := by omega
  have hg := unL_get (cores := cores.take i) hkn
  have hnx := unL_next (n := n) hkz
  have hbb := hbN (cores.take i) (k : Int)
  rw [List.length_take] at hbb
  have hUl := unL_len n (cores.take i)
  obtain ⟨U, hU⟩ : ∃ U, unL n (cores.take i) = U := ⟨_, rfl⟩
  obtain ⟨u, hu⟩ : ∃ u, useN (cores.take i) (k : Int) = u := ⟨_, rfl⟩
  rw [hU, hu] at hg hnx
  rw [hU] at hUl ⊢
  rw [hu] at hbb
  clear hiff
  repeat' (conv => whnf); first | (refine VIx.is ?_; refine VIx.mk (h1.ptr (by omega)) (by omega) (by omega) ?_) | (refine VLd.is ?_; refine VLd.mk (Rd.cast (h1.rd0 (by simp) (fun _ => rfl) hkz rfl) (by first | omega | (dsimp only; omega) | rfl)) ?_) | (refine VIx.is ?_; refine VIx.mk rfl (by omega) (by omega) ?_) | (refine VLd.is ?_; refine VLd.mk (Rd.cast (.vec aT (sub_flat0 (f := intV) (k := 1) (fun _ => rfl) hg rfl)) (by first | omega | (dsimp only; omega) | rfl)) ?_) | (refine VSt.is ?_; refine VSt.is ?_; refine VSt.cast (off' := k * 1) (by first | omega | (dsimp only; omega) | rfl) (VSt.vec aT (upd_flat0 (f := intV) (k := 1) (y := (u : Int) + 1) (fun _ => rfl) hg rfl) rfl ?_)) | (refine VSeq.go ?_) | (refine VB.is ?_; refine VB.yes (by omega) fun _ => ?_) | (refine VAr.is ?_; refine oA ?_)
  all_goals (conv => whnf)
  refine VNext.mk (i + 1) (by omega) (by omega) aE ?_
  rw [hnx]
  exact aH
 rw [List.take_of_length_le hge]
 have hUl := unL_len n cores
 have hUg := fun {k : Nat} h => unL_get (n := n) (cores := cores) (k := k) h
 obtain ⟨U, hU⟩ : ∃ U, unL n cores = U := ⟨_, rfl⟩
 rw [hU] at hUl hUg ⊢
 repeat' (conv => whnf); first | (refine VSeq.go ?_) | (refine VB.is ?_; refine VB.no (by omega) fun _ => ?_) | (refine VLd.is ?_; refine VLd.mk (.row aT (by rfl)) ?_)
 all_goals (conv => whnf)
 refine VLoop.mk (α := Nat) (fun i => i ≤ X.N.syns.length) (fun i => [(1000000, .tuple #[]), (2, .slice p cores.length c), (3, .pointer (some ⟨b3, 0, none⟩)), (4, .pointer (some ⟨b4, 0, none⟩)), (6, .bool false), (7, .int .i64 (n : Int)), (8, .slice (some ⟨g8, 0, none⟩) n n), (9, .slice (some ⟨g9, 0, none⟩) n n), (11, .int .i64 (i : Int))])
  (fun i => .row b3 39 [.slice X.pn X.N.ps.length X.cn, .int .i64 X.N.inputs, .slice X.qs X.N.syns.length X.cs] :: .row b4 33 [.int .i64 X.C.mesh.wide, .int .i64 X.C.mesh.high, .int .i64 X.C.mesh.room, .int .i64 X.C.nr, .int .i64 X.C.sy, .int .i64 X.C.en, .int .i64 X.C.bits, .slice X.pd X.C.dead.length X.cd] :: [.vec (some ⟨g8, 0, none⟩) n n 3 1 (flat intV U), .vec (some ⟨g9, 0, none⟩) n n 3 1 (flat intV (urL n (X.N.syns.take i) cores))]) (fun i => X.N.syns.length - i) 0 (Nat.zero_le _) aE ?_ ?_
 ·rw [List.take_zero, urL_nil, ← hrep]
  exact aH
 clear hi hge
 intro i hi
 rcases Nat.lt_or_ge i X.N.syns.length with hlt | hge
 ·obtain ⟨s, hsi⟩ := hs.get hlt
  have hsr := hto s (List.mem_of_getElem? hsi)
  have hsk := fun h => urL_skip (n := n) (cores := cores) hsi h
  have hgo : s.to.toNat < cores.length → ∃ k : Nat, cores[s.to.toNat]? = some (k : Int) ∧ k < n := fun h => by
   have hg := List.getElem?_eq_getElem h
   have hr := hcr _ (List.getElem_mem h)
   exact ⟨(cores[s.to.toNat]).toNat, by rw [hg]; congr 1; omega, by omega⟩
  have hnx := fun {k : Nat} h => urL_next (n := n) (c := k) (cores := cores) hsi hsr.1 h
  have hg := fun {k : Nat} h => urL_get (n := n) (l := X.N.syns.take i) (cores := cores) (k := k) h
  have hbb := fun (k : Nat) => hbR (X.N.syns.take i) cores (k : Int)
  have hRl := urL_len n (X.N.syns.take i) cores
  obtain ⟨R, hR⟩ : ∃ R, urL n (X.N.syns.take i) cores = R := ⟨_, rfl⟩
  rw [hR] at hRl ⊢
  rw [hR] at hsk
  have hnx2 : ∀ k : Nat, cores[s.to.toNat]? = some (k : Int) → urL n (X.N.syns.take (i + 1)) cores = R.set k ((useR (X.N.syns.take i) cores (k : Int) : Int) + 1) := fun k h => by rw [hnx h, hR]
  have hg2 : ∀ k : Nat, k < n → R[k]? = some (useR (X.N.syns.take i) cores (k : Int) : Int) := fun k h => by rw [← hR]; exact hg h
  have hsx : sub (synV s) 1 1 = some [.int .i64 s.to] := rfl
  clear hiff hnx hg hR hto hUg
  rcases Nat.lt_or_ge s.to.toNat cores.length with hin | hout
  ·obtain ⟨k, hck, hkn⟩ := hgo hin
   have hnx3 := hnx2 k hck
   have hg3 := hg2 k hkn
   have hb3 := hbb k
   rw [List.length_take] at hb3
   obtain ⟨u, hu⟩ : ∃ u, useR (X.N.syns.take i) cores (k : Int) = u := ⟨_, rfl⟩
   rw [hu] at hnx3 hg3 hb3
   clear hgo hnx2 hg2 hbb hsk
   repeat' (conv => whnf); first | (refine VIx.is ?_; refine VIx.mk (hs.ptr (by omega)) (by omega) (by omega) ?_) | (refine VLd.is ?_; refine VLd.mk (Rd.cast (hs.rd (o := 1) (s := 1) (by simp) (fun _ => rfl) hsi hsx) (by first | omega | (dsimp only; omega) | rfl)) ?_) | (refine VIx.is ?_; refine VIx.mk (h1.ptr (by omega)) (by omega) (by omega) ?_) | (refine VLd.is ?_; refine VLd.mk (Rd.cast (h1.rd0 (by simp) (fun _ => rfl) hck rfl) (by first | omega | (dsimp only; omega) | rfl)) ?_) | (refine VIx.is ?_; refine VIx.mk rfl (by omega) (by omega) ?_) | (refine VLd.is ?_; refine VLd.mk (Rd.cast (.vec aT (sub_flat0 (f := intV) (k := 1) (fun _ => rfl) hg3 rfl)) (by first | omega | (dsimp only; omega) | rfl)) ?_) | (refine VSt.is ?_; refine VSt.is ?_; refine VSt.cast (off' := k * 1) (by first | omega | (dsimp only; omega) | rfl) (VSt.vec aT (upd_flat0 (f := intV) (k := 1) (y := (u : Int) + 1) (fun _ => rfl) hg3 rfl) rfl ?_)) | (refine VSeq.go ?_) | (refine VB.is ?_; refine VB.yes (by omega) fun _ => ?_) | (refine VLd.is ?_; refine VLd.mk (.row aT (by rfl)) ?_) | (refine VAr.is ?_; refine oA ?_)
   all_goals (conv => whnf)
   refine VNext.mk (i + 1) (by omega) (by omega) aE ?_
   rw [hnx3]
   exact aH
  ·have hsk := hsk (by omega)
   clear hgo hnx2 hg2 hbb
   repeat' (conv => whnf); first | (refine VIx.is ?_; refine VIx.mk (hs.ptr (by omega)) (by omega) (by omega) ?_) | (refine VLd.is ?_; refine VLd.mk (Rd.cast (hs.rd (o := 1) (s := 1) (by simp) (fun _ => rfl) hsi hsx) (by first | omega | (dsimp only; omega) | rfl)) ?_) | (refine VSeq.go ?_) | (refine VB.is ?_; refine VB.yes (by omega) fun _ => ?_) | (refine VB.is ?_; refine VB.no (by omega) fun _ => ?_) | (refine VLd.is ?_; refine VLd.mk (.row aT (by rfl)) ?_) | (refine VAr.is ?_; refine oA ?_)
   all_goals (conv => whnf)
   refine VNext.mk (i + 1) (by omega) (by omega) aE ?_
   rw [hsk]
   exact aH
 rw [List.take_of_length_le hge]
 have hRl := urL_len n X.N.syns cores
 have hRg := fun {k : Nat} h => urL_get (n := n) (l := X.N.syns) (cores := cores) (k := k) h
 obtain ⟨R, hR⟩ : ∃ R, urL n X.N.syns cores = R := ⟨_, rfl⟩
 rw [hR] at hRl hRg ⊢
 repeat' (conv => whnf); first | (refine VSeq.go ?_) | (refine VB.is ?_; refine VB.no (by omega) fun _ => ?_) | (refine VLd.is ?_; refine VLd.mk (.row aT (by rfl)) ?_)
 all_goals (conv => whnf)
 refine VLoop.mk (α := Nat) (fun i => i ≤ n ∧ ∀ k : Nat, k < i → ((useN cores (k : Int) : Int) ≤ X.C.nr ∧ (useR X.N.syns cores (k : Int) : Int) ≤ X.C.sy) ∧ ¬ (0 < useN cores (k : Int) ∧ (k : Int) ∈ X.C.dead)) (fun i => [(1000000, .tuple #[]), (4, .pointer (some ⟨b4, 0, none⟩)), (6, .bool false), (7, .int .i64 (n : Int)), (8, .slice (some ⟨g8, 0, none⟩) n n), (9, .slice (some ⟨g9, 0, none⟩) n n), (13, .int .i64 (i : Int))])
  (fun _ => .row b3 39 [.slice X.pn X.N.ps.length X.cn, .int .i64 X.N.inputs, .slice X.qs X.N.syns.length X.cs] :: .row b4 33 [.int .i64 X.C.mesh.wide, .int .i64 X.C.mesh.high, .int .i64 X.C.mesh.room, .int .i64 X.C.nr, .int .i64 X.C.sy, .int .i64 X.C.en, .int .i64 X.C.bits, .slice X.pd X.C.dead.length X.cd] :: [.vec (some ⟨g8, 0, none⟩) n n 3 1 (flat intV U), .vec (some ⟨g9, 0, none⟩) n n 3 1 (flat intV R)]) (fun i => n - i) 0 ⟨Nat.zero_le _, fun k hk => by omega⟩ aE aH ?_
 clear hi hge
 rintro i ⟨hi, hall⟩
 rcases Nat.lt_or_ge i n with hlt | hge
 ·have hu := hUg hlt
  have hr := hRg hlt
  have b1 := hbN cores (i : Int)
  have b2 := hbR X.N.syns cores (i : Int)
  have hno : ¬ (((useN cores (i : Int) : Int) ≤ X.C.nr ∧ (useR X.N.syns cores (i : Int) : Int) ≤ X.C.sy) ∧ ¬ (0 < useN cores (i : Int) ∧ (i : Int) ∈ X.C.dead)) → ¬ rfitA X.C X.N.syns cores := fun h h2 => h (hiff.1 h2 i hlt)
  have hyes : (((useN cores (i : Int) : Int) ≤ X.C.nr ∧ (useR X.N.syns cores (i : Int) : Int) ≤ X.C.sy) ∧ ¬ (0 < useN cores (i : Int) ∧ (i : Int) ∈ X.C.dead)) → ∀ k : Nat, k < i + 1 → ((useN cores (k : Int) : Int) ≤ X.C.nr ∧ (useR X.N.syns cores (k : Int) : Int) ≤ X.C.sy) ∧ ¬ (0 < useN cores (k : Int) ∧ (k : Int) ∈ X.C.dead) := fun h k hk => by
   rcases Nat.lt_or_ge k i with h2 | h2
   ·exact hall k h2
   ·have e : k = i := by omega
    subst e
    exact h
  obtain ⟨u1, hu1⟩ : ∃ u, useN cores (i : Int) = u := ⟨_, rfl⟩
  obtain ⟨u2, hu2⟩ : ∃ u, useR X.N.syns cores (i : Int) = u := ⟨_, rfl⟩
  rw [hu1] at hu b1 hno hyes
  rw [hu2] at hr b2 hno hyes
  clear hall hiff hUg hRg hbN hbR hto hU hR
  repeat' (conv => whnf); first | (refine VHs.is ?_; refine VHs.is ?_; refine VHs.mk (.row b3 39 [.slice X.pn X.N.ps.length X.cn, .int .i64 X.N.inputs, .slice X.qs X.N.syns.length X.cs] :: .row b4 33 [.int .i64 X.C.mesh.wide, .int .i64 X.C.mesh.high, .int .i64 X.C.mesh.room, .int .i64 X.C.nr, .int .i64 X.C.sy, .int .i64 X.C.en, .int .i64 X.C.bits, .slice X.pd X.C.dead.length X.cd] :: [.vec (some ⟨g8, 0, none⟩) n n 3 1 (flat intV U), .vec (some ⟨g9, 0, none⟩) n n 3 1 (flat intV R)]) aH ?_) | (refine VIx.is ?_; refine VIx.mk rfl (by omega) (by omega) ?_) | (refine VLd.is ?_; refine VLd.mk (Rd.cast (.vec aT (sub_flat0 (f := intV) (k := 1) (fun _ => rfl) hu rfl)) (by first | omega | (dsimp only; omega) | rfl)) ?_) | (refine VLd.is ?_; refine VLd.mk (Rd.cast (.vec aT (sub_flat0 (f := intV) (k := 1) (fun _ => rfl) hr rfl)) (by first | omega | (dsimp only; omega) | rfl)) ?_) | (refine VCall.isF 52 ?_; (refine VCall.genR (fun w' hw' => rhasL_any X.C.dead (by omega) (i : Int) _ _ bd od w' (hd.keep hw' (by simp))) ?_; intro cc hcc; cases cc <;> simp only [Bool.false_eq_true, false_iff, true_iff] at hcc)) | (refine VSeq.go ?_) | (refine VB.is ?_; refine VB.yes (by omega) fun _ => ?_) | (refine VB.split (fun _ => ?_) (fun _ => ?_)) | (refine VLd.is ?_; refine VLd.mk (.row aT (by rfl)) ?_) | (refine VAr.is ?_; refine oA ?_)
  all_goals (conv => whnf)
  all_goals first
   | exact ⟨fun w' hw' => ⟨false, rfl, by simp only [Bool.false_eq_true, false_iff]; exact hno (fun h => by first | omega | exact h.2 ⟨by omega, hcc⟩), hw'.le .nil⟩⟩
   | exact VNext.mk (i + 1) ⟨by omega, hyes ⟨by omega, fun h => by first | omega | exact hcc h.2⟩⟩ (by omega) aE aH
 have hok2 : rfitA X.C X.N.syns cores := hiff.2 fun k hk => hall k (by omega)
 repeat' (conv => whnf); first | (refine VSeq.go ?_) | (refine VB.is ?_; refine VB.no (by omega) fun _ => ?_) | (refine VLd.is ?_; refine VLd.mk (.row aT (by rfl)) ?_)
 all_goals (conv => whnf)
 exact ⟨fun w' hw' => ⟨true, rfl, by simp [hok2], hw'.le .nil⟩⟩

end Go.Proofs
