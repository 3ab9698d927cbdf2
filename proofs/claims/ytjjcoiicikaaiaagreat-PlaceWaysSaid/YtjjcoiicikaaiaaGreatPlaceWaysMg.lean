import Derived.Test.YtjjcoiicikaaiaaGreatPlaceWaysPv
import Derived.Test.YtjjcoiicikaaiaaGreatPlaceWaysNa
import Derived.Test.YtjjcoiicikaaiaaGreatPlaceWaysPg
set_option linter.unusedVariables false
set_option linter.unusedSimpArgs false
set_option maxHeartbeats 4000000
section

namespace Go.Gm

def cntK (o : List Int) (i k : Nat) : Nat := linksM (o.take i) + linkK (o[i]?.getD 0) k

theorem linksM_take {o : List Int} {i : Nat} {v : Int} (h : o[i]? = some v) : linksM (o.take (i + 1)) = linksM (o.take i) + linkN v := by
 unfold linksM
 rw [List.take_add_one, h, Option.toList_some, List.map_append, List.sum_append]
 simp

theorem cntK_zero (o : List Int) : cntK o 0 0 = 0 := rfl

theorem cntK_next {o : List Int} {i k : Nat} {v : Int} (h : o[i]? = some v) : cntK o i (k + 1) = cntK o i k + if ((2 ^ k : Nat) : Int) ≠ 16 ∧ hasB v ((2 ^ k : Nat) : Int) then 1 else 0 := by
 unfold cntK
 rw [h, Option.getD_some, linkK_next]; omega

theorem cntK_row {o : List Int} {i : Nat} {v : Int} (h : o[i]? = some v) : cntK o i 5 = cntK o (i + 1) 0 := by
 unfold cntK
 rw [linksM_take h, h, Option.getD_some, linkK_five]
 rfl

theorem cntK_end (o : List Int) : cntK o o.length 0 = linksM o := by
 unfold cntK
 rw [List.take_length]
 rfl

theorem linksM_le (o : List Int) : linksM o ≤ 4 * o.length := by
 unfold linksM
 induction o with
 | nil => simp
 | cons v o ih =>
  rw [List.map_cons, List.sum_cons, List.length_cons]
  have : linkN v ≤ 4 := by unfold linkN; exact List.countP_le_length ..
  omega

theorem cntK_le (o : List Int) (i k : Nat) : cntK o i k ≤ 4 * o.length + k := by
 have h1 := linksM_le (o.take i)
 have h2 := linkK_le (o[i]?.getD 0) k
 rw [List.length_take] at h1
 unfold cntK
 omega

end Go.Gm

namespace Go.Proofs

open Go Go.Vx Go.Gm

theorem plinks_any (o : List Int) (ho : OutsOk o) (hol : o.length ≤ 65536) (t1 t2 t3 : Value) (hone : oneAll [t1, t2, t3] = true) (po : Option Addr) (co bo oo : Nat) (w : World) (h1 : Sl w intV 1 o po o.length bo oo) :
  Calls Tryz.prog 73 #[.agg #[t1, t2, t3, .slice po o.length co]] w fun e w' => e = .returned (.int .i64 (linksM o : Int)) ∧ St w [] [] w' := by
 refine enter (C := Tryz.cx) (F := Tryz.fx73) (args := [_]) Tryz.func73 rfl rfl rfl Tryz.ok73 (St.start w []) ?_
 repeat' (conv => whnf); first | (refine VNew.mk fun b3 => ?_) | (refine VCall.isF 111 ?_; refine VCall.inl (F := Tryz.fx111) Tryz.func111 rfl rfl rfl Tryz.ok111 ?_) | (refine VRange.go (ms := []) rfl fun hokx hoky l d L hL => ?_) | (refine VSeq.go ?_) | (refine VLd.is ?_; refine VLd.mk (.row aT (by rfl)) ?_) | (refine VSt.is ?_; refine VSt.row aT (by rfl) (by first | rfl | assumption) ?_)
 all_goals (conv => whnf)
 rename_i bx bc
 refine outs_iter o ho hol t1 t2 t3 po co bo oo h1 l b3 (α := Nat) (fun i k n => n = cntK o i k) (fun n => L .ready none :: .obj d (.deferred (some [])) :: .row bc 3 [.int .i64 (n : Int)] :: []) 0 (cntK_zero o).symm aH ?_ ?_ ?_ ?_
 ·rintro i k v n hv hk hb rfl
  have hnx := cntK_next (k := k) hv
  have hle := cntK_le o i k
  have hp2 : 2 ^ k ≤ 16 := by
   have : (2 : Nat) ^ k ≤ 2 ^ 4 := Nat.pow_le_pow_right (by omega) (by omega)
   omega
  obtain ⟨n, hn⟩ : ∃ n, cntK o i k = n := ⟨_, rfl⟩
  obtain ⟨pw, hpw⟩ : ∃ pw, 2 ^ k = pw := ⟨_, rfl⟩
  rw [hpw] at hnx hb hp2 ⊢
  rw [hn] at hnx hle ⊢
  refine VYield.go hL hokx hoky aT rfl ?_
  repeat' (conv => whnf); first | (refine VBegin.is ?_; refine VBegin.mk aT ?_) | (refine VNew.mk fun b4 => ?_) | (refine VSeq.go ?_) | (refine VB.split (fun _ => ?_) (fun _ => ?_)) | (refine VLd.is ?_; refine VLd.mk (.row aT (by rfl)) ?_) | (refine VSt.is ?_; refine VSt.row aT (by rfl) (by first | rfl | assumption) ?_) | (refine VAr.is ?_; refine oA ?_)
  all_goals (conv => whnf)
  ·refine VRound.mk aT ?_
   rw [if_pos ⟨by omega, hb⟩] at hnx
   exact .inl ⟨rfl, n + 1, hnx.symm, by exact aH⟩
  ·refine VRound.mk aT ?_
   rw [if_neg (fun h => absurd h.1 (by omega))] at hnx
   exact .inl ⟨rfl, n, hnx.symm, by exact aH⟩
 ·rintro i k v n hv hk hb rfl
  have hnx := cntK_next (k := k) hv
  rw [if_neg (fun h => hb h.2)] at hnx
  exact hnx.symm
 ·rintro i v n hv rfl
  exact cntK_row hv
 ·rintro n rfl
  rw [cntK_end]
  repeat' (conv => whnf); first | (refine VEnd.is ?_; refine VEnd.mk aT (by simp) ?_) | (refine VUn.is ?_; refine VUn.mk aT ?_) | (refine VSeq.go ?_) | (refine VLd.is ?_; refine VLd.mk (.row aT (by rfl)) ?_)
  all_goals (conv => whnf)
  exact ⟨fun w' hw' => ⟨rfl, hw'.le .nil⟩⟩

end Go.Proofs
end

section

namespace Go.Gm

def costK (N : Net) (C : Chp) (cores : List Int) (k : Nat) : Nat := ((((List.range k).map fun (j : Nat) => (j : Int)).filter fun key => decide (∃ s ∈ N.syns, keyM N s.frm = key)).map fun key => linksM (srcTree N C cores key)).sum

theorem tgt_some {N : Net} {key : Int} : (∃ s ∈ N.syns, keyM N s.frm = key) ↔ tgtM N N.syns key ≠ [] := by
 constructor
 ·rintro ⟨s, hs, hk⟩ he
  have := mem_tgtM.2 ⟨s, hs, hk, rfl⟩
  rw [he] at this
  cases this
 ·intro h
  obtain ⟨t, ht⟩ := List.exists_mem_of_ne_nil _ h
  obtain ⟨s, hs, hk, _⟩ := mem_tgtM.1 ht
  exact ⟨s, hs, hk⟩

theorem costK_next (N : Net) (C : Chp) (cores : List Int) (k : Nat) : costK N C cores (k + 1) = costK N C cores k + if tgtM N N.syns (k : Int) ≠ [] then linksM (srcTree N C cores (k : Int)) else 0 := by
 unfold costK
 rw [List.range_succ, List.map_append, List.filter_append, List.map_append, List.sum_append]
 congr 1
 simp only [List.map_cons, List.map_nil]
 by_cases h : tgtM N N.syns (k : Int) ≠ []
 ·rw [if_pos h, List.filter_cons, if_pos (decide_eq_true (tgt_some.2 h))]
  simp
 ·rw [if_neg h, List.filter_cons, if_neg (fun h2 => h (tgt_some.1 (of_decide_eq_true h2)))]
  simp

theorem srcLinks_le {N : Net} {C : Chp} (h : ChpOk C) (cores : List Int) (key : Int) : linksM (srcTree N C cores key) ≤ 256 := by
 have h1 := linksM_le (srcTree N C cores key)
 have h2 := (nCores_ok h).2.2
 have h3 : (srcTree N C cores key).length = nCores C := tree_length ..
 omega

theorem costK_le {N : Net} {C : Chp} (h : ChpOk C) (cores : List Int) : ∀ k, costK N C cores k ≤ 256 * k
 | 0 => Nat.le_refl _
 | k + 1 => by
  have h1 := costK_le (N := N) h cores k
  have h2 := srcLinks_le (N := N) h cores (k : Int)
  rw [costK_next]
  split <;> omega

end Go.Gm

namespace Go.Proofs

open Go Go.Vx Go.Gm

theorem asgE_chk (N : Net) (C : Chp) (cores : List Int) : asgE N C cores = if Gm.planE N C ≠ 0 then Gm.planE N C else chkA N C cores := rfl

theorem planned_bad (X : PlnX) (w : World) (hX : PlnRd X w) (he : Gm.planE X.N X.C ≠ 0) (cs : Value) (hone : cs.oneCell' = true) :
  Calls Tryz.prog 68 #[.agg X.net.toArray, .agg (chpC X.C X.pd X.cd).toArray, cs] w fun e w' => e = .returned (.tuple #[.pointer none, .int .i64 (Gm.planE X.N X.C)]) ∧ St w [] [] w' := by
 have hnp := fun (w' : World) h => newPlanner_bad X w' h he
 obtain ⟨E, hE⟩ : ∃ E, Gm.planE X.N X.C = E := ⟨_, rfl⟩
 rw [hE] at hnp he ⊢
 unfold PlnX.net chpC at hnp ⊢
 refine enter (C := Tryz.cx) (F := Tryz.fx68) (args := [_, _, _]) Tryz.func68 rfl rfl rfl Tryz.ok68 (St.start w []) ?_
 repeat' (conv => whnf); first | (refine VCall.isF 60 ?_; (refine VCall.valR (fun w' hw' => hnp w' (hX.keep hw')) ?_)) | (refine VSeq.go ?_) | (refine VB.is ?_; refine VB.yes (by omega) fun _ => ?_) | (refine VLd.is ?_; refine VLd.mk (.row aT (by rfl)) ?_) | (refine VNew.mk fun _ => ?_)
 all_goals (conv => whnf)
 all_goals first
  | exact ⟨fun w' hw' => ⟨rfl, hw'.le .nil⟩⟩
  | (exfalso; omega)

theorem planned_any (X : PlnX) (w : World) (hX : PlnRd X w) (he : Gm.planE X.N X.C = 0) (cores : List Int) (hcw : ∀ k ∈ cores, I64 k) (hlc : cores.length ≤ 1000000) (p : Option Addr) (c b o : Nat) (h1 : Sl w intV 1 cores p cores.length b o) :
  Calls Tryz.prog 68 #[.agg X.net.toArray, .agg (chpC X.C X.pd X.cd).toArray, .slice p cores.length c] w fun e w' => ∃ x : PlnM, e = .returned (.tuple #[.pointer (some ⟨x.b, 0, none⟩), .int .i64 (chkA X.N X.C cores)]) ∧ PlnUp X X.N.syns x ∧ St w [] (plnH X x) w' := by
 have hnp := fun (w' : World) h => newPlanner_any X w' h he
 have hck := fun (x : PlnM) (w' : World) => pcheck_any X x cores hcw hlc p c b o w'
 have hok := planE_zero he
 unfold PlnX.net chpC at hnp ⊢
 refine enter (C := Tryz.cx) (F := Tryz.fx68) (args := [_, _, _]) Tryz.func68 rfl rfl rfl Tryz.ok68 (St.start w []) ?_
 repeat' (conv => whnf); first | (refine VCall.isF 60 ?_; (refine VCall.genR (fun w' hw' => hnp w' (hX.keep hw')) ?_; rintro x hup)) | (refine VCall.isF 107 ?_; (refine VCall.valR (fun w' hw' => hck x w' (PlnAt.of hok hup (hX.keep hw') hw' aH) (h1.keep hw' (by simp))) ?_)) | (refine VSeq.go ?_) | (refine VB.is ?_; refine VB.no (by omega) fun _ => ?_) | (refine VLd.is ?_; refine VLd.mk (.row aT (by rfl)) ?_) | (refine VNew.mk fun _ => ?_)
 all_goals (conv => whnf)
 exact ⟨fun w' hw' => ⟨x, rfl, hup, hw'.le aH⟩⟩

end Go.Proofs
end

section
section

set_option linter.unusedVariables false

namespace Go.Proofs

open Go Go.Vx Go.Gm

end Go.Proofs

end

section


namespace Go.Proofs

open Go Go.Vx Go.Gm

end Go.Proofs

end
end

section

namespace Go.Gm

end Go.Gm

namespace Go.Proofs

open Go Go.Vx Go.Gm

end Go.Proofs
end

section

namespace Go.Gm

end Go.Gm

namespace Go.Proofs

open Go Go.Vx Go.Gm

end Go.Proofs
end

section

namespace Go.Proofs

open Go Go.Vx Go.Gm

theorem home_range {N : Net} {C : Chp} {cores : List Int} (h : AsgOk N C cores) {key : Int} (hk : 0 ≤ key) : 0 ≤ homeM N cores key ∧ homeM N cores key < C.mesh.wide * C.mesh.high := by
 have hn := nCores_ok h.plan.chip
 unfold homeM
 split
 ·rename_i hlt
  have hl : key.toNat < cores.length := by rw [h.len]; omega
  rw [List.getElem?_eq_getElem hl, Option.getD_some]
  exact (h.core _ (List.getElem_mem hl)).1
 ·omega

end Go.Proofs
end

section

namespace Go.Proofs

open Go Go.Vx Go.Gm

def etyV (x : Ety) : List Value := [.int .i64 x.key, .int .i64 x.mask, .int .i64 x.outs]

theorem find_any (l : List Ety) (hl : ∀ x ∈ l, EtyOk x) (hlen : l.length ≤ 65536) (key : Int) (hk : 0 ≤ key ∧ key ≤ 65535) (p : Option Addr) (c b o : Nat) (w : World) (h1 : Sl w etyV 3 l p l.length b o) :
  Calls Tryz.prog 122 #[.slice p l.length c, .int .i64 key] w fun e w' => e = .returned (.tuple #[.int .i64 ((findE l key).getD 0), .bool (findE l key).isSome]) ∧ St w [] [] w' := by
 refine enter (C := Tryz.cx) (F := Tryz.fx122) (args := [_, _]) Tryz.func122 rfl rfl rfl Tryz.ok122 (St.start w []) ?_
 repeat' (conv => whnf); first | (refine VNew.mk fun b3 => ?_) | (refine VCall.isF 158 ?_; refine VCall.inl (F := Tryz.fx158) Tryz.func158 rfl rfl rfl Tryz.ok158 ?_) | (refine VSeq.go ?_)
 all_goals (conv => whnf)
 refine VLoop.mk (α := Nat) (fun j => j ≤ l.length ∧ ∀ y ∈ l.take j, hits key y = false) (fun j => [(1000000, .tuple #[]), (0, .slice p l.length c), (1, .func (.func 160) #[] #[.pointer (some ⟨b3, 0, none⟩)]), (4, .int .i64 0), (7, .int .i64 (l.length : Int)), (8, .int .i64 (j : Int))])
  (fun _ => [.row b3 3 [.int .i64 key]]) (fun j => l.length - j) 0 ⟨Nat.zero_le _, by simp⟩ aE aH ?_
 rintro j ⟨hj, hb⟩
 rcases Nat.lt_or_ge j l.length with hlt | hge
 ·obtain ⟨x, hx⟩ := h1.get hlt
  have hxo := hl x (List.mem_of_getElem? hx)
  have hxk := hxo.key
  have hxm := hxo.mask
  have hfd := fun h => findE_at (key := key) hx h hb
  have hnx : hits key x = false → ∀ y ∈ l.take (j + 1), hits key y = false := fun h y hy => by
   rw [List.take_add_one, hx] at hy
   rcases List.mem_append.1 hy with hy | hy
   ·exact hb y hy
   ·simp only [Option.toList_some, List.mem_singleton] at hy
    rw [hy]; exact h
  have hiff : hits key x = true ↔ band key x.mask = x.key := by unfold hits; rw [decide_eq_true_eq]
  have hbd := band_le key x.mask
  obtain ⟨bd, hbdv⟩ : ∃ bd, band key x.mask = bd := ⟨_, rfl⟩
  have hbdv2 : ((key.toNat &&& x.mask.toNat : Nat) : Int) = bd := hbdv
  rw [hbdv] at hiff hbd
  have hxv : sub (etyV x) 0 3 = some [.int .i64 x.key, .int .i64 x.mask, .int .i64 x.outs] := rfl
  have hxo2 : sub (etyV x) 2 1 = some [.int .i64 x.outs] := rfl
  clear hl hb hxo
  repeat' (conv => whnf); first | (refine VNew.mk fun b4 => ?_) | (refine VIx.is ?_; refine VIx.mk (h1.ptr (by omega)) (by omega) (by omega) ?_) | (refine VLd.is ?_; refine VLd.mk (Rd.cast (h1.rd0 (by simp) (fun _ => rfl) hx hxv) (by first | omega | (dsimp only; omega) | rfl)) ?_) | (refine VLd.is ?_; refine VLd.mk (Rd.cast (h1.rd (o := 2) (s := 1) (by simp) (fun _ => rfl) hx hxo2) (by first | omega | (dsimp only; omega) | rfl)) ?_) | (refine VCall.isF 160 ?_; refine VCall.inl (F := Tryz.fx160) Tryz.func160 rfl rfl rfl Tryz.ok160 ?_) | (refine VBit.is ?_; refine VBit.is ?_; refine VBit.and (by omega) (by omega) ?_; rw [hbdv2]) | (refine VSeq.go ?_) | (refine VB.is ?_; refine VB.yes (by omega) fun _ => ?_) | (refine VB.is ?_; refine VB.no (by omega) fun _ => ?_) | (refine VB.split (fun _ => ?_) (fun _ => ?_)) | (refine VLd.is ?_; refine VLd.mk (.row aT (by rfl)) ?_) | (refine VAr.is ?_; refine oA ?_)
  all_goals (conv => whnf)
  ·rw [hfd (hiff.2 (by omega))]
   exact ⟨fun w' hw' => ⟨rfl, hw'.le .nil⟩⟩
  ·refine VNext.mk (j + 1) ⟨by omega, hnx ?_⟩ (by omega) aE aH
   cases hh : hits key x with
   | false => rfl
   | true => exact absurd (hiff.1 hh) (by omega)
 have hjl : j = l.length := by omega
 subst hjl
 rw [List.take_length] at hb
 rw [findE_none hb]
 repeat' (conv => whnf); first | (refine VSeq.go ?_) | (refine VB.is ?_; refine VB.yes (by omega) fun _ => ?_) | (refine VB.is ?_; refine VB.no (by omega) fun _ => ?_)
 all_goals (conv => whnf)
 exact ⟨fun w' hw' => ⟨rfl, hw'.le .nil⟩⟩

theorem join_any (x y : Ety) (hx : EtyOk x) (hy : EtyOk y) (w : World) :
  Calls Tryz.prog 161 #[.agg (etyV x).toArray, .agg (etyV y).toArray] w fun e w' => e = .returned (.tuple #[.agg (etyV ((joinE x y).getD ⟨0, 0, 0⟩)).toArray, .bool (joinE x y).isSome]) ∧ St w [] [] w' := by
 have hxk := hx.key
 have hxm := hx.mask
 have hyk := hy.key
 have hym := hy.mask
 have hd := bxor_lt hxk hyk
 have hl1 := bless_le x.key (bxor x.key y.key)
 have hl2 := bless_le x.mask (bxor x.key y.key)
 have hjE : joinE x y = if x.mask ≠ y.mask ∨ x.outs ≠ y.outs ∨ ¬ isPow (bxor x.key y.key) then none else some ⟨bless x.key (bxor x.key y.key), bless x.mask (bxor x.key y.key), x.outs⟩ := rfl
 obtain ⟨d, hdd⟩ : ∃ d, bxor x.key y.key = d := ⟨_, rfl⟩
 have hdn : ((x.key.toNat ^^^ y.key.toNat : Nat) : Int) = d := hdd
 rw [hdd] at hd hl1 hl2 hjE
 have hln1 : ((x.key.toNat - (x.key.toNat &&& d.toNat) : Nat) : Int) = bless x.key d := rfl
 have hln2 : ((x.mask.toNat - (x.mask.toNat &&& d.toNat) : Nat) : Int) = bless x.mask d := rfl
 obtain ⟨l1, hl1d⟩ : ∃ l1, bless x.key d = l1 := ⟨_, rfl⟩
 obtain ⟨l2, hl2d⟩ : ∃ l2, bless x.mask d = l2 := ⟨_, rfl⟩
 rw [hl1d] at hln1 hl1 hjE
 rw [hl2d] at hln2 hl2 hjE
 obtain ⟨dn, hdnn⟩ : ∃ dn : Nat, d = (dn : Int) := ⟨d.toNat, by omega⟩
 subst hdnn
 have hoc := fun w' => onesCount_any dn (by omega) w'
 unfold etyV
 clear hdd hl1d hl2d
 refine enter (C := Tryz.cx) (F := Tryz.fx161) (args := [_, _]) Tryz.func161 rfl rfl rfl Tryz.ok161 (St.start w []) ?_
 repeat' (conv => whnf); first | (refine VNew.mk fun b4 => ?_) | (refine VBit.is ?_; refine VBit.is ?_; first | (refine VBit.xor (by omega) (by omega) ?_; rw [hdn]) | (refine VBit.less (by omega) (by omega) ?_; first | rw [hln1] | rw [hln2])) | (refine VCall.isF 186 ?_; (refine VCall.genR (fun w' _ => hoc w') ?_; rintro n hn)) | (refine VAr.is ?_; refine VAr.is ?_; refine VAr.u64g (by omega) (by omega) fun c hc => ?_; have hcd := Int.ofNat.inj hc; clear hc; subst hcd) | (refine VSeq.go ?_) | (refine VB.split (fun _ => ?_) (fun _ => ?_)) | (refine VLd.is ?_; refine VLd.mk (.row aT (by rfl)) ?_) | (refine VSt.is ?_; refine VSt.row aT (by rfl) (by first | rfl | assumption) ?_)
 all_goals (conv => whnf)
 all_goals first
  | (rw [hjE, if_pos (.inl (by omega))]
     exact ⟨fun w' hw' => ⟨rfl, hw'.le .nil⟩⟩)
  | (rw [hjE, if_pos (.inr (.inl (by omega)))]
     exact ⟨fun w' hw' => ⟨rfl, hw'.le .nil⟩⟩)
  | (rw [hjE, if_pos (.inr (.inr fun h => absurd (hn.2 h) (by omega)))]
     exact ⟨fun w' hw' => ⟨rfl, hw'.le .nil⟩⟩)
  | (rw [hjE, if_neg (by
    rintro (h | h | h)
    ·omega
    ·omega
    ·exact h (hn.1 (by omega)))]
     exact ⟨fun w' hw' => ⟨rfl, hw'.le .nil⟩⟩)

theorem validE (x : Ety) (hx : EtyOk x) (w : World) : Calls Tryz.prog 119 #[.agg (etyV x).toArray] w fun e w' => e = .returned (.bool true) ∧ St w [] [] w' := by
 have hxk := hx.key
 have hxm := hx.mask
 have hxo := hx.outs
 have hb : bless x.key x.mask = 0 := by
  have := hx.fits
  unfold bless band at *
  omega
 have hln1 : ((x.key.toNat - (x.key.toNat &&& x.mask.toNat) : Nat) : Int) = bless x.key x.mask := rfl
 unfold etyV
 refine enter (C := Tryz.cx) (F := Tryz.fx119) (args := [_]) Tryz.func119 rfl rfl rfl Tryz.ok119 (St.start w []) ?_
 repeat' (conv => whnf); first | (refine VNew.mk fun b4 => ?_) | (refine VBit.is ?_; refine VBit.is ?_; (refine VBit.less (by omega) (by omega) ?_; rw [hln1, hb])) | (refine VSeq.go ?_) | (refine VB.is ?_; refine VB.yes (by omega) fun _ => ?_) | (refine VLd.is ?_; refine VLd.mk (.row aT (by rfl)) ?_)
 all_goals (conv => whnf)
 all_goals first
  | exact ⟨fun w' hw' => ⟨rfl, hw'.le .nil⟩⟩
  | (exfalso; omega)

theorem noBadE (l : List Ety) (hl : ∀ x ∈ l, EtyOk x) (hlen : l.length ≤ 65536) (p : Option Addr) (c b o : Nat) (w : World) (h1 : Sl w etyV 3 l p l.length b o) :
  Calls Tryz.prog 117 #[.slice p l.length c, .func (.func 118) #[] #[]] w fun e w' => e = .returned (.bool false) ∧ St w [] [] w' := by
 refine enter (C := Tryz.cx) (F := Tryz.fx117) (args := [_, _]) Tryz.func117 rfl rfl rfl Tryz.ok117 (St.start w []) ?_
 repeat' (conv => whnf); first | (refine VCall.isF 158 ?_; refine VCall.inl (F := Tryz.fx158) Tryz.func158 rfl rfl rfl Tryz.ok158 ?_) | (refine VSeq.go ?_)
 all_goals (conv => whnf)
 refine VLoop.mk (α := Nat) (fun j => j ≤ l.length) (fun j => [(1000000, .tuple #[]), (0, .slice p l.length c), (1, .func (.func 118) #[] #[]), (4, .int .i64 0), (7, .int .i64 (l.length : Int)), (8, .int .i64 (j : Int))])
  (fun _ => []) (fun j => l.length - j) 0 (Nat.zero_le _) aE aH ?_
 rintro j hj
 rcases Nat.lt_or_ge j l.length with hlt | hge
 ·obtain ⟨x, hx⟩ := h1.get hlt
  have hv := fun w' => validE x (hl x (List.mem_of_getElem? hx)) w'
  have hxv : sub (etyV x) 0 3 = some [.int .i64 x.key, .int .i64 x.mask, .int .i64 x.outs] := rfl
  unfold etyV at hv
  repeat' (conv => whnf); first | (refine VNew.mk fun b4 => ?_) | (refine VIx.is ?_; refine VIx.mk (h1.ptr (by omega)) (by omega) (by omega) ?_) | (refine VLd.is ?_; refine VLd.mk (Rd.cast (h1.rd0 (by simp) (fun _ => rfl) hx hxv) (by first | omega | (dsimp only; omega) | rfl)) ?_) | (refine VCall.isF 118 ?_; refine VCall.inl (F := Tryz.fx118) Tryz.func118 rfl rfl rfl Tryz.ok118 ?_) | (refine VCall.isF 119 ?_; (refine VCall.valR (fun w' _ => hv w') ?_)) | (refine VSeq.go ?_) | (refine VB.is ?_; refine VB.yes (by omega) fun _ => ?_) | (refine VLd.is ?_; refine VLd.mk (.row aT (by rfl)) ?_) | (refine VAr.is ?_; refine oA ?_)
  all_goals (conv => whnf)
  exact VNext.mk (j + 1) (by omega) (by omega) aE aH
 have hjl : j = l.length := by omega
 subst hjl
 repeat' (conv => whnf); first | (refine VSeq.go ?_) | (refine VB.is ?_; refine VB.yes (by omega) fun _ => ?_) | (refine VB.is ?_; refine VB.no (by omega) fun _ => ?_)
 all_goals (conv => whnf)
 exact ⟨fun w' hw' => ⟨rfl, hw'.le .nil⟩⟩

theorem noBadK (l : List Int) (hl : ∀ x ∈ l, 0 ≤ x ∧ x ≤ 65535) (hlen : l.length ≤ 65536) (p : Option Addr) (c b o : Nat) (w : World) (h1 : Sl w intV 1 l p l.length b o) :
  Calls Tryz.prog 120 #[.slice p l.length c, .func (.func 121) #[] #[]] w fun e w' => e = .returned (.bool false) ∧ St w [] [] w' := by
 refine enter (C := Tryz.cx) (F := Tryz.fx120) (args := [_, _]) Tryz.func120 rfl rfl rfl Tryz.ok120 (St.start w []) ?_
 repeat' (conv => whnf); first | (refine VCall.isF 159 ?_; refine VCall.inl (F := Tryz.fx159) Tryz.func159 rfl rfl rfl Tryz.ok159 ?_) | (refine VSeq.go ?_)
 all_goals (conv => whnf)
 refine VLoop.mk (α := Nat) (fun j => j ≤ l.length) (fun j => [(1000000, .tuple #[]), (0, .slice p l.length c), (1, .func (.func 121) #[] #[]), (4, .int .i64 0), (7, .int .i64 (l.length : Int)), (8, .int .i64 (j : Int))])
  (fun _ => []) (fun j => l.length - j) 0 (Nat.zero_le _) aE aH ?_
 rintro j hj
 rcases Nat.lt_or_ge j l.length with hlt | hge
 ·obtain ⟨x, hx⟩ := h1.get hlt
  have hv := hl x (List.mem_of_getElem? hx)
  repeat' (conv => whnf); first | (refine VIx.is ?_; refine VIx.mk (h1.ptr (by omega)) (by omega) (by omega) ?_) | (refine VLd.is ?_; refine VLd.mk (Rd.cast (h1.rd0 (by simp) (fun _ => rfl) hx rfl) (by first | omega | (dsimp only; omega) | rfl)) ?_) | (refine VCall.isF 121 ?_; refine VCall.inl (F := Tryz.fx121) Tryz.func121 rfl rfl rfl Tryz.ok121 ?_) | (refine VSeq.go ?_) | (refine VB.is ?_; refine VB.yes (by omega) fun _ => ?_) | (refine VB.is ?_; refine VB.no (by omega) fun _ => ?_) | (refine VAr.is ?_; refine oA ?_)
  all_goals (conv => whnf)
  exact VNext.mk (j + 1) (by omega) (by omega) aE aH
 have hjl : j = l.length := by omega
 subst hjl
 repeat' (conv => whnf); first | (refine VSeq.go ?_) | (refine VB.is ?_; refine VB.yes (by omega) fun _ => ?_) | (refine VB.is ?_; refine VB.no (by omega) fun _ => ?_)
 all_goals (conv => whnf)
 exact ⟨fun w' hw' => ⟨rfl, hw'.le .nil⟩⟩

end Go.Proofs
end
