import Derived.Test.YtjjcoiicikaaiaaGreatPlaceMapsMx
set_option linter.unusedVariables false
set_option linter.unusedSimpArgs false
set_option maxHeartbeats 4000000

namespace Go.Gm

theorem chk_fits {N : Net} {C : Chp} {cores : List Int} (h : coreE C cores = 0) : rfitA C N.syns cores ↔ fitsA C N.syns cores := by
 unfold rfitA
 exact ⟨fun h => h.1, fun h2 => ⟨h2, fun c hc => (coreE_zero.1 h c hc).2⟩⟩

def isTgt (N : Net) (cores : List Int) (key k : Int) (l : List Syn) : Bool := l.any fun s => decide (keyM N s.frm = key ∧ cores[s.to.toNat]? = some k)

theorem isTgt_next {N : Net} {cores : List Int} {key k : Int} {l : List Syn} {i : Nat} {s : Syn} (h : l[i]? = some s) : isTgt N cores key k (l.take (i + 1)) = (isTgt N cores key k (l.take i) || decide (keyM N s.frm = key ∧ cores[s.to.toNat]? = some k)) := by
 unfold isTgt
 rw [List.take_add_one, h, Option.toList_some, List.any_append]
 simp

def tgtC (N : Net) (cores : List Int) (key : Int) (n : Nat) : List Int := ((List.range n).map fun (k : Nat) => (k : Int)).filter fun k => isTgt N cores key k N.syns

theorem tgtC_all (N : Net) (C : Chp) (cores : List Int) (key : Int) : tgtC N cores key (nCores C) = coresM N C cores key := by
 unfold tgtC coresM
 congr 1
 funext k
 unfold isTgt
 rw [Bool.eq_iff_iff, List.any_eq_true, decide_eq_true_eq]
 constructor
 ·rintro ⟨s, hs, h⟩
  exact ⟨s, hs, of_decide_eq_true h⟩
 ·rintro ⟨s, hs, h⟩
  exact ⟨s, hs, decide_eq_true h⟩

theorem tgtC_next (N : Net) (cores : List Int) (key : Int) (n : Nat) : tgtC N cores key (n + 1) = tgtC N cores key n ++ if isTgt N cores key (n : Int) N.syns = true then [(n : Int)] else [] := by
 unfold tgtC
 rw [List.range_succ, List.map_append, List.filter_append]
 congr 1
 simp only [List.map_cons, List.map_nil, List.filter_cons, List.filter_nil]

theorem tgtC_len (N : Net) (cores : List Int) (key : Int) (n : Nat) : (tgtC N cores key n).length ≤ n := by
 unfold tgtC
 refine Nat.le_trans (List.length_filter_le _ _) ?_
 simp

def linkF (x : Int) (k : Nat) : Nat := ((List.range k).map fun (j : Nat) => ((2 ^ j : Nat) : Int)).countP fun b => decide (hasB x b)

theorem linkF_next (x : Int) (k : Nat) : linkF x (k + 1) = linkF x k + if hasB x ((2 ^ k : Nat) : Int) then 1 else 0 := by
 unfold linkF
 rw [List.range_succ, List.map_append, List.countP_append]
 congr 1
 simp only [List.map_cons, List.map_nil]
 generalize ((2 ^ k : Nat) : Int) = b
 by_cases h2 : hasB x b <;> simp [h2]

theorem linkF_four (x : Int) : linkF x 4 = linkN x := rfl

theorem linkF_le (x : Int) (k : Nat) : linkF x k ≤ k := by
 unfold linkF
 refine Nat.le_trans List.countP_le_length ?_
 simp

end Go.Gm

namespace Go.Proofs

open Go Go.Vx Go.Gm

theorem rCheck_any (X : PlnX) (w : World) (hX : PlnRd X w) (cores : List Int) (hcw : ∀ k ∈ cores, I64 k) (hlc : cores.length ≤ 1000000) (p : Option Addr) (c b o : Nat) (h1 : Sl w intV 1 cores p cores.length b o) :
  Calls Tryz.prog 38 #[.agg X.net.toArray, .agg (chpC X.C X.pd X.cd).toArray, .slice p cores.length c] w fun e w' => e = .returned (.int .i64 (asgE X.N X.C cores)) ∧ St w [] [] w' := by
 have hbo := fun (w' : World) h => both_any X w' h
 have hfi := fun (w' : World) h hok hcr hl => rfits_any X w' h hok cores hcr hl p c b o
 rw [asgE_chk]
 obtain ⟨bd, od, hd⟩ := hX.dead
 have hdf := hX.chip.few
 by_cases he : Gm.planE X.N X.C ≠ 0
 ·rw [if_pos he]
  obtain ⟨E, hE⟩ : ∃ E, Gm.planE X.N X.C = E := ⟨_, rfl⟩
  rw [hE] at hbo he ⊢
  unfold PlnX.net chpC at hbo ⊢
  refine enter (C := Tryz.cx) (F := Tryz.fx38) (args := [_, _, _]) Tryz.func38 rfl rfl rfl Tryz.ok38 (St.start w []) ?_
  repeat' (conv => whnf); first | (refine VCall.isF 65 ?_; (refine VCall.valR (fun w' hw' => hbo w' (hX.keep hw')) ?_)) | (refine VSeq.go ?_) | (refine VB.is ?_; refine VB.yes (by omega) fun _ => ?_) | (refine VLd.is ?_; refine VLd.mk (.row aT (by rfl)) ?_) | (refine VNew.mk fun _ => ?_)
  all_goals (conv => whnf)
  all_goals first
   | exact ⟨fun w' hw' => ⟨rfl, hw'.le .nil⟩⟩
   | (exfalso; omega)
 have he0 := Decidable.not_not.1 he
 have hok := planE_zero he0
 rw [if_neg he]
 rw [he0] at hbo
 obtain ⟨hnc, hn1, hn2⟩ := nCores_ok hok.chip
 obtain ⟨n, hn⟩ : ∃ n, nCores X.C = n := ⟨_, rfl⟩
 have hfn := hok.net.few
 have hkeep := fun (w' : World) (H : HP) (hw' : St w [] H w') => hX.keep hw'
 unfold chkA
 unfold PlnX.net chpC at hbo hfi ⊢
 refine enter (C := Tryz.cx) (F := Tryz.fx38) (args := [_, _, _]) Tryz.func38 rfl rfl rfl Tryz.ok38 (St.start w []) ?_
 by_cases hln : cores.length ≠ X.N.ps.length
 ·rw [if_pos hln]
  repeat' (conv => whnf); first | (refine VCall.isF 65 ?_; (refine VCall.valR (fun w' hw' => hbo w' (hkeep w' _ hw')) ?_)) | (refine VSeq.go ?_) | (refine VB.is ?_; refine VB.yes (by omega) fun _ => ?_) | (refine VB.is ?_; refine VB.no (by omega) fun _ => ?_) | (refine VLd.is ?_; refine VLd.mk (.row aT (by rfl)) ?_) | (refine VNew.mk fun _ => ?_)
  all_goals (conv => whnf)
  exact ⟨fun w' hw' => ⟨rfl, hw'.le .nil⟩⟩
 rw [if_neg hln]
 have hln := Decidable.not_not.1 hln
 repeat' (conv => whnf); first | (refine VCall.isF 65 ?_; (refine VCall.valR (fun w' hw' => hbo w' (hkeep w' _ hw')) ?_)) | (refine VNew.mk fun b4 => ?_) | (refine VSeq.go ?_) | (refine VB.is ?_; refine VB.no (by omega) fun _ => ?_) | (refine VLd.is ?_; refine VLd.mk (.row aT (by rfl)) ?_)
 all_goals (conv => whnf)
 rename_i b3 q1 q2
 refine VLoop.mk (α := Nat) (fun i => i ≤ cores.length ∧ coreE X.C cores = coreE X.C (cores.drop i)) (fun i => [(1000000, .tuple #[]), (2, .slice p cores.length c), (3, .pointer (some ⟨b3, 0, none⟩)), (4, .pointer (some ⟨b4, 0, none⟩)), (6, .int .i64 0), (8, .int .i64 (i : Int))])
  (fun i => [.row b3 39 [.slice X.pn X.N.ps.length X.cn, .int .i64 X.N.inputs, .slice X.qs X.N.syns.length X.cs], .row b4 33 [.int .i64 X.C.mesh.wide, .int .i64 X.C.mesh.high, .int .i64 X.C.mesh.room, .int .i64 X.C.nr, .int .i64 X.C.sy, .int .i64 X.C.en, .int .i64 X.C.bits, .slice X.pd X.C.dead.length X.cd]]) (fun i => cores.length - i) 0 ⟨Nat.zero_le _, rfl⟩ aE aH ?_
 rintro i ⟨hi, hcd⟩
 rcases Nat.lt_or_ge i cores.length with hlt | hge
 ·obtain ⟨k, hk⟩ := h1.get hlt
  have hkw := hcw k (List.mem_of_getElem? hk)
  unfold I64 at hkw
  have hbad : ¬ (0 ≤ k ∧ k ≤ X.C.mesh.wide * X.C.mesh.high - 1) → coreE X.C cores = 3 := fun h => hcd.trans (coreE_bad hk h)
  have hdead : (0 ≤ k ∧ k ≤ X.C.mesh.wide * X.C.mesh.high - 1) → k ∈ X.C.dead → coreE X.C cores = 25 := fun h h2 => hcd.trans (coreE_down hk h h2)
  have hnext : (0 ≤ k ∧ k ≤ X.C.mesh.wide * X.C.mesh.high - 1) → k ∉ X.C.dead → coreE X.C cores = coreE X.C (cores.drop (i + 1)) := fun h h2 => hcd.trans (coreE_next hk h h2)
  rw [← hnc, hn] at hbad hdead hnext
  rw [hn] at hnc hn1 hn2
  clear hcd hbo hfi
  repeat' (conv => whnf); first | (refine VHs.is ?_; refine VHs.is ?_; refine VHs.mk [.row b4 33 [.int .i64 X.C.mesh.wide, .int .i64 X.C.mesh.high, .int .i64 X.C.mesh.room, .int .i64 X.C.nr, .int .i64 X.C.sy, .int .i64 X.C.en, .int .i64 X.C.bits, .slice X.pd X.C.dead.length X.cd]] aH ?_) | (refine VIx.is ?_; refine VIx.mk (h1.ptr (by omega)) (by omega) (by omega) ?_) | (refine VLd.is ?_; refine VLd.mk (Rd.cast (h1.rd0 (by simp) (fun _ => rfl) hk rfl) (by first | omega | (dsimp only; omega) | rfl)) ?_) | (refine VCall.isF 51 ?_; refine VCall.inl (F := Tryz.fx51) Tryz.func51 rfl rfl rfl Tryz.ok51 ?_) | (refine VAr.is ?_; refine VAr.is ?_; refine VAr.mul hnc.symm (by omega) (by omega) ?_) | (refine VCall.isF 52 ?_; (refine VCall.genR (fun w' hw' => rhasL_any X.C.dead (by omega) k _ _ bd od w' (hd.keep hw' (by simp))) ?_; intro c1 hc1; cases c1 <;> simp only [Bool.false_eq_true, false_iff, true_iff] at hc1)) | (refine VSeq.go ?_) | (refine VB.is ?_; refine VB.yes (by omega) fun _ => ?_) | (refine VB.split (fun _ => ?_) (fun _ => ?_)) | (refine VLd.is ?_; refine VLd.mk (.row aT (by rfl)) ?_) | (refine VAr.is ?_; refine oA ?_)
  all_goals (conv => whnf)
  all_goals first
   | exact ⟨fun w' hw' => ⟨by rw [hbad (by omega)]; rfl, hw'.le .nil⟩⟩
   | exact ⟨fun w' hw' => ⟨by rw [hdead (by omega) hc1]; rfl, hw'.le .nil⟩⟩
   | exact VNext.mk (i + 1) ⟨by omega, hnext (by omega) hc1⟩ (by omega) aE aH
 have hc0 : coreE X.C cores = 0 := by rw [hcd, List.drop_eq_nil_of_le hge]; rfl
 have hcz := coreE_zero.1 hc0
 have hff := chk_fits (N := X.N) hc0
 rw [if_neg (by rw [hc0]; simp)]
 have hfi := fun w' h h1 => hfi w' h hok (fun k hk => (hcz k hk).1) (by omega) h1
 repeat' (conv => whnf); first | (refine VCall.isF 67 ?_; (refine VCall.genR (fun w' hw' => hfi w' (hkeep w' _ hw') (h1.keep hw' (by simp))) ?_; intro r hr; rw [hff] at hr; cases r <;> simp only [Bool.false_eq_true, false_iff, true_iff] at hr)) | (refine VSeq.go ?_) | (refine VB.is ?_; refine VB.no (by omega) fun _ => ?_) | (refine VLd.is ?_; refine VLd.mk (.row aT (by rfl)) ?_)
 all_goals (conv => whnf)
 all_goals first
  | exact ⟨fun w' hw' => ⟨by rw [if_pos hr]; rfl, hw'.le .nil⟩⟩
  | exact ⟨fun w' hw' => ⟨by rw [if_neg (Decidable.not_not.2 hr)]; rfl, hw'.le .nil⟩⟩

theorem rlinks_any (o : List Int) (ho : OutsOk o) (hol : o.length ≤ 65536) (po : Option Addr) (co bo oo : Nat) (w : World) (h1 : Sl w intV 1 o po o.length bo oo) :
  Calls Tryz.prog 132 #[.slice po o.length co] w fun e w' => e = .returned (.int .i64 (linksM o : Int)) ∧ St w [] [] w' := by
 refine enter (C := Tryz.cx) (F := Tryz.fx132) (args := [_]) Tryz.func132 rfl rfl rfl Tryz.ok132 (St.start w []) ?_
 repeat' (conv => whnf); first | (refine VSeq.go ?_) | (refine VB.is ?_; refine VB.yes (by omega) fun _ => ?_) | (refine VB.is ?_; refine VB.no (by omega) fun _ => ?_) | (refine VB.split (fun _ => ?_) (fun _ => ?_)) | (refine VLd.is ?_; refine VLd.mk (.row aT (by rfl)) ?_) | (refine VNew.mk fun _ => ?_) | (refine VAr.is ?_; refine oA ?_)
 all_goals (conv => whnf)
 refine VLoop.mk (α := Nat) (fun i => i ≤ o.length) (fun i => [(1000000, .tuple #[]), (0, .slice po o.length co), (2, .int .i64 0), (3, .int .i64 (linksM (o.take i) : Int)), (4, .int .i64 (i : Int))])
  (fun _ => []) (fun i => o.length - i) 0 (Nat.zero_le _) aE aH ?_
 intro i hi
 rcases Nat.lt_or_ge i o.length with hlt | hge
 ·obtain ⟨v, hv⟩ := h1.get hlt
  have hvr := ho v (List.mem_of_getElem? hv)
  have hnx := linksM_take hv
  have hb := linksM_le (o.take i)
  rw [List.length_take] at hb
  obtain ⟨n0, hn0⟩ : ∃ n, linksM (o.take i) = n := ⟨_, rfl⟩
  rw [hn0] at hnx hb ⊢
  repeat' (conv => whnf); first | (refine VSeq.go ?_) | (refine VB.is ?_; refine VB.yes (by omega) fun _ => ?_) | (refine VB.is ?_; refine VB.no (by omega) fun _ => ?_) | (refine VB.split (fun _ => ?_) (fun _ => ?_)) | (refine VLd.is ?_; refine VLd.mk (.row aT (by rfl)) ?_) | (refine VNew.mk fun _ => ?_) | (refine VAr.is ?_; refine oA ?_)
  all_goals (conv => whnf)
  refine VLoop.mk (α := Nat) (fun k => k ≤ 4) (fun k => [(1000000, .tuple #[]), (0, .slice po o.length co), (2, .int .i64 0), (3, .int .i64 ((n0 + linkF v k : Nat) : Int)), (4, .int .i64 (i : Int)), (5, .int .i64 ((2 ^ k : Nat) : Int))])
   (fun _ => []) (fun k => 4 - k) 0 (by omega) aE aH ?_
  intro k hk
  rcases Nat.lt_or_ge k 4 with hk4 | hk4
  ·have hp1 : 2 ^ (k + 1) = 2 * 2 ^ k := by rw [Nat.pow_succ]; omega
   have hp2 : 2 ^ k ≤ 8 := by
    have : (2 : Nat) ^ k ≤ 2 ^ 3 := Nat.pow_le_pow_right (by omega) (by omega)
    omega
   have hfn := linkF_next v k
   have hfl := linkF_le v k
   obtain ⟨m, hm⟩ : ∃ m, linkF v k = m := ⟨_, rfl⟩
   obtain ⟨m2, hm2⟩ : ∃ m, linkF v (k + 1) = m := ⟨_, rfl⟩
   obtain ⟨pw, hpw⟩ : ∃ pw, 2 ^ k = pw := ⟨_, rfl⟩
   obtain ⟨pw2, hpw2⟩ : ∃ pw, 2 ^ (k + 1) = pw := ⟨_, rfl⟩
   have hhas : hasB v (pw : Int) ↔ ((v.toNat &&& (pw : Int).toNat : Nat) : Int) ≠ 0 := by
    unfold hasB
    omega
   rw [hm, hm2, hpw] at hfn
   rw [hm] at hfl ⊢
   rw [hpw, hpw2] at hp1
   rw [hpw] at hp2 ⊢
   repeat' (conv => whnf); first | (refine VIx.is ?_; refine VIx.mk (h1.ptr (by omega)) (by omega) (by omega) ?_) | (refine VLd.is ?_; refine VLd.mk (Rd.cast (h1.rd0 (by simp) (fun _ => rfl) hv rfl) (by first | omega | (dsimp only; omega) | rfl)) ?_) | (refine VBit.is ?_; refine VBit.and (by omega) (by omega) ?_) | (refine VSeq.go ?_) | (refine VB.is ?_; refine VB.yes (by omega) fun _ => ?_) | (refine VB.split (fun _ => ?_) (fun _ => ?_)) | (refine VAr.is ?_; refine oA ?_)
   all_goals (conv => whnf)
   ·rw [if_pos (hhas.2 (by omega))] at hfn
    refine VNext.mk (k + 1) (by omega) (by omega) ?_ aH
    dsimp only
    rw [hm2, hpw2, hp1, hfn, show ((2 * pw : Nat) : Int) = 2 * (pw : Int) by omega, show ((n0 + (m + 1) : Nat) : Int) = ((n0 + m : Nat) : Int) + 1 by omega]
    exact aE
   ·rw [if_neg (fun h => absurd (hhas.1 h) (by omega))] at hfn
    refine VNext.mk (k + 1) (by omega) (by omega) ?_ aH
    dsimp only
    rw [hm2, hpw2, hp1, hfn, show ((2 * pw : Nat) : Int) = 2 * (pw : Int) by omega, show ((n0 + (m + 0) : Nat) : Int) = ((n0 + m : Nat) : Int) by omega]
    exact aE
  have e : k = 4 := by omega
  subst e
  rw [linkF_four]
  repeat' (conv => whnf); first | (refine VSeq.go ?_) | (refine VB.is ?_; refine VB.yes (by omega) fun _ => ?_) | (refine VB.is ?_; refine VB.no (by omega) fun _ => ?_) | (refine VB.split (fun _ => ?_) (fun _ => ?_)) | (refine VLd.is ?_; refine VLd.mk (.row aT (by rfl)) ?_) | (refine VNew.mk fun _ => ?_) | (refine VAr.is ?_; refine oA ?_)
  all_goals (conv => whnf)
  refine VNext.mk (i + 1) (by omega) (by omega) ?_ aH
  rw [hnx]
  exact aE
 rw [List.take_of_length_le hge]
 repeat' (conv => whnf); first | (refine VSeq.go ?_) | (refine VB.is ?_; refine VB.yes (by omega) fun _ => ?_) | (refine VB.is ?_; refine VB.no (by omega) fun _ => ?_) | (refine VB.split (fun _ => ?_) (fun _ => ?_)) | (refine VLd.is ?_; refine VLd.mk (.row aT (by rfl)) ?_) | (refine VNew.mk fun _ => ?_) | (refine VAr.is ?_; refine oA ?_)
 all_goals (conv => whnf)
 exact ⟨fun w' hw' => ⟨rfl, hw'.le .nil⟩⟩

theorem rkey_any (N : Net) (hl : N.ps.length ≤ 1024) (pn : Option Addr) (cn : Nat) (iv sv : Value) (hone : oneAll [iv, sv] = true) (f : Int) (hf : -1000000 ≤ f ∧ f ≤ 1000000000) (w : World) :
  Calls Tryz.prog 81 #[.agg #[.slice pn N.ps.length cn, iv, sv], .int .i64 f] w fun e w' => e = .returned (.int .i64 (keyM N f)) ∧ St w [] [] w' := by
 refine enter (C := Tryz.cx) (F := Tryz.fx81) (args := [_, _]) Tryz.func81 rfl rfl rfl Tryz.ok81 (St.start w []) ?_
 unfold keyM
 repeat' (conv => whnf); first | (refine VSeq.go ?_) | (refine VB.is ?_; refine VB.yes (by omega) fun _ => ?_) | (refine VB.is ?_; refine VB.no (by omega) fun _ => ?_) | (refine VB.split (fun _ => ?_) (fun _ => ?_)) | (refine VLd.is ?_; refine VLd.mk (.row aT (by rfl)) ?_) | (refine VNew.mk fun _ => ?_) | (refine VAr.is ?_; refine oA ?_)
 all_goals (conv => whnf)
 all_goals first
  | exact ⟨fun w' hw' => ⟨by rw [if_pos (by omega)]; rfl, hw'.le .nil⟩⟩
  | exact ⟨fun w' hw' => ⟨by rw [if_neg (by omega)]; rfl, hw'.le .nil⟩⟩

theorem rhome_any (N : Net) (hl : N.ps.length ≤ 1024) (pn : Option Addr) (cn : Nat) (iv sv : Value) (hone : oneAll [iv, sv] = true) (cores : List Int) (hln : cores.length = N.ps.length) (k : Nat) (hk : k ≤ 1000000) (p : Option Addr) (c b o : Nat) (w : World) (h1 : Sl w intV 1 cores p cores.length b o) :
  Calls Tryz.prog 127 #[.agg #[.slice pn N.ps.length cn, iv, sv], .slice p cores.length c, .int .i64 (k : Int)] w fun e w' => e = .returned (.int .i64 (homeM N cores (k : Int))) ∧ St w [] [] w' := by
 refine enter (C := Tryz.cx) (F := Tryz.fx127) (args := [_, _, _]) Tryz.func127 rfl rfl rfl Tryz.ok127 (St.start w []) ?_
 unfold homeM
 rcases Nat.lt_or_ge k cores.length with hlt | hge
 ·obtain ⟨v, hv⟩ := h1.get hlt
  rw [if_pos (by omega), Int.toNat_natCast, hv, Option.getD_some]
  repeat' (conv => whnf); first | (refine VIx.is ?_; refine VIx.mk (h1.ptr (by omega)) (by omega) (by omega) ?_) | (refine VLd.is ?_; refine VLd.mk (Rd.cast (h1.rd0 (by simp) (fun _ => rfl) hv rfl) (by first | omega | (dsimp only; omega) | rfl)) ?_) | (refine VSeq.go ?_) | (refine VB.is ?_; refine VB.yes (by omega) fun _ => ?_) | (refine VLd.is ?_; refine VLd.mk (.row aT (by rfl)) ?_) | (refine VNew.mk fun _ => ?_)
  all_goals (conv => whnf)
  exact ⟨fun w' hw' => ⟨rfl, hw'.le .nil⟩⟩
 ·rw [if_neg (by omega)]
  repeat' (conv => whnf); first | (refine VSeq.go ?_) | (refine VB.is ?_; refine VB.yes (by omega) fun _ => ?_) | (refine VB.is ?_; refine VB.no (by omega) fun _ => ?_) | (refine VB.split (fun _ => ?_) (fun _ => ?_)) | (refine VLd.is ?_; refine VLd.mk (.row aT (by rfl)) ?_) | (refine VNew.mk fun _ => ?_) | (refine VAr.is ?_; refine oA ?_)
  all_goals (conv => whnf)
  exact ⟨fun w' hw' => ⟨rfl, hw'.le .nil⟩⟩

end Go.Proofs
