import Derived.Test.YtjjcoiicikaaiaaGreatPlaceRowsMs
import Derived.Test.YtjjcoiicikaaiaaGreatPlaceRowsPg
import Derived.Test.YtjjcoiicikaaiaaGreatPlaceRowsQw
set_option linter.unusedVariables false
set_option linter.unusedSimpArgs false
set_option maxHeartbeats 4000000
section

namespace Go.Gm

def cntK (o : List Int) (i k : Nat) : Nat := linksM (o.take i) + linkK (o[i]?.getD 0) k

theorem linksM_take {o : List Int} {i : Nat} {v : Int} (h : o[i]? = some v) : linksM (o.take (i + 1)) = linksM (o.take i) + linkN v := by
 unfold linksM
 rw [List.take_add_one, h, Option.toList_some, List.map_append, List.sum_append]
 simp

theorem cntK_zero (o : List Int) : cntK o 0 0 = 0 := rfl

theorem cntK_next {o : List Int} {i k : Nat} {v : Int} (h : o[i]? = some v) : cntK o i (k + 1) = cntK o i k + if ((2 ^ k : Nat) : Int) ≠ 16 ∧ hasB v ((2 ^ k : Nat) : Int) then 1 else 0 := by
 unfold cntK
 rw [h, Option.getD_some, linkK_next]; omega

theorem cntK_row {o : List Int} {i : Nat} {v : Int} (h : o[i]? = some v) : cntK o i 5 = cntK o (i + 1) 0 := by
 unfold cntK
 rw [linksM_take h, h, Option.getD_some, linkK_five]
 rfl

theorem cntK_end (o : List Int) : cntK o o.length 0 = linksM o := by
 unfold cntK
 rw [List.take_length]
 rfl

theorem linksM_le (o : List Int) : linksM o ≤ 4 * o.length := by
 unfold linksM
 induction o with
 | nil => simp
 | cons v o ih =>
  rw [List.map_cons, List.sum_cons, List.length_cons]
  have : linkN v ≤ 4 := by unfold linkN; exact List.countP_le_length ..
  omega

theorem cntK_le (o : List Int) (i k : Nat) : cntK o i k ≤ 4 * o.length + k := by
 have h1 := linksM_le (o.take i)
 have h2 := linkK_le (o[i]?.getD 0) k
 rw [List.length_take] at h1
 unfold cntK
 omega

end Go.Gm

namespace Go.Proofs

open Go Go.Vx Go.Gm

theorem plinks_any (o : List Int) (ho : OutsOk o) (hol : o.length ≤ 65536) (t1 t2 t3 : Value) (hone : oneAll [t1, t2, t3] = true) (po : Option Addr) (co bo oo : Nat) (w : World) (h1 : Sl w intV 1 o po o.length bo oo) :
  Calls Tryz.prog 73 #[.agg #[t1, t2, t3, .slice po o.length co]] w fun e w' => e = .returned (.int .i64 (linksM o : Int)) ∧ St w [] [] w' := by
 refine enter (C := Tryz.cx) (F := Tryz.fx73) (args := [_]) Tryz.func73 rfl rfl rfl Tryz.ok73 (St.start w []) ?_
 repeat' (conv => whnf); first | (refine VNew.mk fun b3 => ?_) | (refine VCall.isF 111 ?_; refine VCall.inl (F := Tryz.fx111) Tryz.func111 rfl rfl rfl Tryz.ok111 ?_) | (refine VRange.go (ms := []) rfl fun hokx hoky l d L hL => ?_) | (refine VSeq.go ?_) | (refine VLd.is ?_; refine VLd.mk (.row aT (by rfl)) ?_) | (refine VSt.is ?_; refine VSt.row aT (by rfl) (by first | rfl | assumption) ?_)
 all_goals (conv => whnf)
 rename_i bx bc
 refine outs_iter o ho hol t1 t2 t3 po co bo oo h1 l b3 (α := Nat) (fun i k n => n = cntK o i k) (fun n => L .ready none :: .obj d (.deferred (some [])) :: .row bc 3 [.int .i64 (n : Int)] :: []) 0 (cntK_zero o).symm aH ?_ ?_ ?_ ?_
 ·rintro i k v n hv hk hb rfl
  have hnx := cntK_next (k := k) hv
  have hle := cntK_le o i k
  have hp2 : 2 ^ k ≤ 16 := by
   have : (2 : Nat) ^ k ≤ 2 ^ 4 := Nat.pow_le_pow_right (by omega) (by omega)
   omega
  obtain ⟨n, hn⟩ : ∃ n, cntK o i k = n := ⟨_, rfl⟩
  obtain ⟨pw, hpw⟩ : ∃ pw, 2 ^ k = pw := ⟨_, rfl⟩
  rw [hpw] at hnx hb hp2 ⊢
  rw [hn] at hnx hle ⊢
  refine VYield.go hL hokx hoky aT rfl ?_
  repeat' (conv => whnf); first | (refine VBegin.is ?_; refine VBegin.mk aT ?_) | (refine VNew.mk fun b4 => ?_) | (refine VSeq.go ?_) | (refine VB.split (fun _ => ?_) (fun _ => ?_)) | (refine VLd.is ?_; refine VLd.mk (.row aT (by rfl)) ?_) | (refine VSt.is ?_; refine VSt.row aT (by rfl) (by first | rfl | assumption) ?_) | (refine VAr.is ?_; refine oA ?_)
  all_goals (conv => whnf)
  ·refine VRound.mk aT ?_
   rw [if_pos ⟨by omega, hb⟩] at hnx
   exact .inl ⟨rfl, n + 1, hnx.symm, by exact aH⟩
  ·refine VRound.mk aT ?_
   rw [if_neg (fun h => absurd h.1 (by omega))] at hnx
   exact .inl ⟨rfl, n, hnx.symm, by exact aH⟩
 ·rintro i k v n hv hk hb rfl
  have hnx := cntK_next (k := k) hv
  rw [if_neg (fun h => hb h.2)] at hnx
  exact hnx.symm
 ·rintro i v n hv rfl
  exact cntK_row hv
 ·rintro n rfl
  rw [cntK_end]
  repeat' (conv => whnf); first | (refine VEnd.is ?_; refine VEnd.mk aT (by simp) ?_) | (refine VUn.is ?_; refine VUn.mk aT ?_) | (refine VSeq.go ?_) | (refine VLd.is ?_; refine VLd.mk (.row aT (by rfl)) ?_)
  all_goals (conv => whnf)
  exact ⟨fun w' hw' => ⟨rfl, hw'.le .nil⟩⟩

end Go.Proofs
end

section

namespace Go.Gm

def costK (N : Net) (C : Chp) (cores : List Int) (k : Nat) : Nat := ((((List.range k).map fun (j : Nat) => (j : Int)).filter fun key => decide (∃ s ∈ N.syns, keyM N s.frm = key)).map fun key => linksM (srcTree N C cores key)).sum

theorem tgt_some {N : Net} {key : Int} : (∃ s ∈ N.syns, keyM N s.frm = key) ↔ tgtM N N.syns key ≠ [] := by
 constructor
 ·rintro ⟨s, hs, hk⟩ he
  have := mem_tgtM.2 ⟨s, hs, hk, rfl⟩
  rw [he] at this
  cases this
 ·intro h
  obtain ⟨t, ht⟩ := List.exists_mem_of_ne_nil _ h
  obtain ⟨s, hs, hk, _⟩ := mem_tgtM.1 ht
  exact ⟨s, hs, hk⟩

theorem costK_next (N : Net) (C : Chp) (cores : List Int) (k : Nat) : costK N C cores (k + 1) = costK N C cores k + if tgtM N N.syns (k : Int) ≠ [] then linksM (srcTree N C cores (k : Int)) else 0 := by
 unfold costK
 rw [List.range_succ, List.map_append, List.filter_append, List.map_append, List.sum_append]
 congr 1
 simp only [List.map_cons, List.map_nil]
 by_cases h : tgtM N N.syns (k : Int) ≠ []
 ·rw [if_pos h, List.filter_cons, if_pos (decide_eq_true (tgt_some.2 h))]
  simp
 ·rw [if_neg h, List.filter_cons, if_neg (fun h2 => h (tgt_some.1 (of_decide_eq_true h2)))]
  simp

theorem srcLinks_le {N : Net} {C : Chp} (h : ChpOk C) (cores : List Int) (key : Int) : linksM (srcTree N C cores key) ≤ 256 := by
 have h1 := linksM_le (srcTree N C cores key)
 have h2 := (nCores_ok h).2.2
 have h3 : (srcTree N C cores key).length = nCores C := tree_length ..
 omega

theorem costK_le {N : Net} {C : Chp} (h : ChpOk C) (cores : List Int) : ∀ k, costK N C cores k ≤ 256 * k
 | 0 => Nat.le_refl _
 | k + 1 => by
  have h1 := costK_le (N := N) h cores k
  have h2 := srcLinks_le (N := N) h cores (k : Int)
  rw [costK_next]
  split <;> omega

end Go.Gm

namespace Go.Proofs

open Go Go.Vx Go.Gm

theorem asgE_chk (N : Net) (C : Chp) (cores : List Int) : asgE N C cores = if Gm.planE N C ≠ 0 then Gm.planE N C else chkA N C cores := rfl

theorem planned_bad (X : PlnX) (w : World) (hX : PlnRd X w) (he : Gm.planE X.N X.C ≠ 0) (cs : Value) (hone : cs.oneCell' = true) :
  Calls Tryz.prog 68 #[.agg X.net.toArray, .agg (chpC X.C X.pd X.cd).toArray, cs] w fun e w' => e = .returned (.tuple #[.pointer none, .int .i64 (Gm.planE X.N X.C)]) ∧ St w [] [] w' := by
 have hnp := fun (w' : World) h => newPlanner_bad X w' h he
 obtain ⟨E, hE⟩ : ∃ E, Gm.planE X.N X.C = E := ⟨_, rfl⟩
 rw [hE] at hnp he ⊢
 unfold PlnX.net chpC at hnp ⊢
 refine enter (C := Tryz.cx) (F := Tryz.fx68) (args := [_, _, _]) Tryz.func68 rfl rfl rfl Tryz.ok68 (St.start w []) ?_
 repeat' (conv => whnf); first | (refine VCall.isF 60 ?_; (refine VCall.valR (fun w' hw' => hnp w' (hX.keep hw')) ?_)) | (refine VSeq.go ?_) | (refine VB.is ?_; refine VB.yes (by omega) fun _ => ?_) | (refine VLd.is ?_; refine VLd.mk (.row aT (by rfl)) ?_) | (refine VNew.mk fun _ => ?_)
 all_goals (conv => whnf)
 all_goals first
  | exact ⟨fun w' hw' => ⟨rfl, hw'.le .nil⟩⟩
  | (exfalso; omega)

theorem planned_any (X : PlnX) (w : World) (hX : PlnRd X w) (he : Gm.planE X.N X.C = 0) (cores : List Int) (hcw : ∀ k ∈ cores, I64 k) (hlc : cores.length ≤ 1000000) (p : Option Addr) (c b o : Nat) (h1 : Sl w intV 1 cores p cores.length b o) :
  Calls Tryz.prog 68 #[.agg X.net.toArray, .agg (chpC X.C X.pd X.cd).toArray, .slice p cores.length c] w fun e w' => ∃ x : PlnM, e = .returned (.tuple #[.pointer (some ⟨x.b, 0, none⟩), .int .i64 (chkA X.N X.C cores)]) ∧ PlnUp X X.N.syns x ∧ St w [] (plnH X x) w' := by
 have hnp := fun (w' : World) h => newPlanner_any X w' h he
 have hck := fun (x : PlnM) (w' : World) => pcheck_any X x cores hcw hlc p c b o w'
 have hok := planE_zero he
 unfold PlnX.net chpC at hnp ⊢
 refine enter (C := Tryz.cx) (F := Tryz.fx68) (args := [_, _, _]) Tryz.func68 rfl rfl rfl Tryz.ok68 (St.start w []) ?_
 repeat' (conv => whnf); first | (refine VCall.isF 60 ?_; (refine VCall.genR (fun w' hw' => hnp w' (hX.keep hw')) ?_; rintro x hup)) | (refine VCall.isF 107 ?_; (refine VCall.valR (fun w' hw' => hck x w' (PlnAt.of hok hup (hX.keep hw') hw' aH) (h1.keep hw' (by simp))) ?_)) | (refine VSeq.go ?_) | (refine VB.is ?_; refine VB.no (by omega) fun _ => ?_) | (refine VLd.is ?_; refine VLd.mk (.row aT (by rfl)) ?_) | (refine VNew.mk fun _ => ?_)
 all_goals (conv => whnf)
 exact ⟨fun w' hw' => ⟨x, rfl, hup, hw'.le aH⟩⟩

end Go.Proofs
end

section

namespace Go.Gm

def keysK (N : Net) (k : Nat) : List Int := ((List.range k).map fun (j : Nat) => (j : Int)).filter fun key => decide (∃ s ∈ N.syns, keyM N s.frm = key)

theorem keysK_all (N : Net) : keysK N (nSrc N) = keysM N := rfl

theorem keysK_next (N : Net) (k : Nat) : keysK N (k + 1) = keysK N k ++ if tgtM N N.syns (k : Int) ≠ [] then [(k : Int)] else [] := by
 unfold keysK
 rw [List.range_succ, List.map_append, List.filter_append]
 congr 1
 simp only [List.map_cons, List.map_nil]
 by_cases h : tgtM N N.syns (k : Int) ≠ []
 ·rw [if_pos h, List.filter_cons, if_pos (decide_eq_true (tgt_some.2 h))]; rfl
 ·rw [if_neg h, List.filter_cons, if_neg (fun h2 => h (tgt_some.1 (of_decide_eq_true h2)))]; rfl

theorem keysK_mem {N : Net} {k : Nat} {x : Int} (h : x ∈ keysK N k) : 0 ≤ x ∧ x < k := by
 unfold keysK at h
 rw [List.mem_filter, List.mem_map] at h
 obtain ⟨⟨j, hj, rfl⟩, _⟩ := h
 rw [List.mem_range] at hj
 omega

theorem keysK_asc (N : Net) (k : Nat) : (keysK N k).Pairwise fun a b => a < b := by
 unfold keysK
 refine List.Pairwise.filter _ ?_
 rw [List.pairwise_map]
 exact List.pairwise_lt_range.imp fun h => by omega

theorem keysK_len (N : Net) (k : Nat) : (keysK N k).length ≤ k := by
 unfold keysK
 refine Nat.le_trans (List.length_filter_le _ _) ?_
 simp

def tabF (T : Int → List Int) (keys : List Int) (en : Int) (r : Nat) : List Ety :=
 if ((tableM T keys r).length : Int) ≤ en then tableM T keys r else mergeM (tableM T keys r) ((tableM T keys r).map (·.key))

structure MapM where
 cores : List Int
 slots : List Int
 quant : QR
 rows : List (List RowE)
 tables : List (List Ety)
 waves : List Int
 cost : Int
 load : Int
 steps : Int

def mapNone : MapM := ⟨[], [], qNone, [], [], [], 0, 0, 0⟩

def synQs (N : Net) (q : List Int) : List (Syn × Int) := N.syns.zip q

def tablesF (N : Net) (C : Chp) (cores : List Int) : List (List Ety) := (List.range (nCores C)).map (tabF (srcTree N C cores) (keysM N) C.en)

def mapErr (N : Net) (C : Chp) (cores : List Int) : Int := if asgE N C cores ≠ 0 then asgE N C cores else if ∃ t ∈ tablesF N C cores, ¬ (t.length : Int) ≤ C.en then 15 else 0

def wavesF (N : Net) (C : Chp) (cores : List Int) : List (List Int) := wavesM (srcTree N C cores) C.mesh.room (keysM N)

def mapRes (N : Net) (C : Chp) (cores : List Int) : MapM := if mapErr N C cores ≠ 0 then mapNone else
 ⟨cores, slotsM cores, quantRes N C.bits, (List.range (nCores C)).map fun (k : Nat) => rowsM N cores (synQs N (quantRes N C.bits).quots) (k : Int), tablesF N C cores,
  (List.range (nSrc N)).map fun (k : Nat) => waveOf (wavesF N C cores) (k : Int), (costM N C cores : Int), (mostM ((keysM N).map (srcTree N C cores)) : Int), (stepsM C.mesh.wide (srcTree N C cores) (homeM N cores) (coresM N C cores) (wavesF N C cores) : Int)⟩

end Go.Gm
end
