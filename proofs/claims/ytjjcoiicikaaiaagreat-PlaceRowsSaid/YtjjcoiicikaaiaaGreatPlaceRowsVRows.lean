import Derived.Test.YtjjcoiicikaaiaaGreatPlaceRowsMz
import Derived.Test.YtjjcoiicikaaiaaGreatPlaceRowsMm
import Derived.Test.YtjjcoiicikaaiaaGreatPlaceRowsWm
set_option linter.unusedVariables false
set_option linter.unusedSimpArgs false
set_option maxHeartbeats 4000000

namespace Go.Proofs

open Go Go.Vx Go.Gm

def pairW (o : Out) : Prop := I64 o.1 ∧ I64 o.2

theorem keyP2 : KeyTy 79 outA pairW := ⟨Tryz.lawA2, fun x hx => key_arr Tryz.rowA2 Tryz.deepA2 Tryz.fldA2 Tryz.cellsA2 x.1 x.2 hx.1 hx.2, outA_inj⟩

theorem lkey_any (N : Net) (hl : N.ps.length ≤ 1024) (pn : Option Addr) (cn : Nat) (iv sv : Value) (hone : oneAll [iv, sv] = true) (f : Int) (hf : -1000000 ≤ f ∧ f ≤ 1000000000) (w : World) :
  Calls Tryz.prog 32 #[.agg #[.slice pn N.ps.length cn, iv, sv], .int .i64 f] w fun e w' => e = .returned (.int .i64 (keyM N f)) ∧ St w [] [] w' := by
 refine enter (C := Tryz.cx) (F := Tryz.fx32) (args := [_, _]) Tryz.func32 rfl rfl rfl Tryz.ok32 (St.start w []) ?_
 unfold keyM
 repeat' (conv => whnf); first | (refine VSeq.go ?_) | (refine VB.is ?_; refine VB.no (by omega) fun _ => ?_) | (refine VB.split (fun _ => ?_) (fun _ => ?_)) | (refine VLd.is ?_; refine VLd.mk (.row aT (by rfl)) ?_) | (refine VNew.mk fun _ => ?_) | (refine VAr.is ?_; refine oA ?_)
 all_goals (conv => whnf)
 all_goals first
  | exact ⟨fun w' hw' => ⟨by rw [if_pos (by omega)]; rfl, hw'.le .nil⟩⟩
  | exact ⟨fun w' hw' => ⟨by rw [if_neg (by omega)]; rfl, hw'.le .nil⟩⟩

theorem PlaceRows_bad (X : PlnX) (cores : List Int) (hcw : ∀ k ∈ cores, I64 k) (p : Option Addr) (c b o : Nat) (w : World) (hX : PlnRi X w) (h1 : Sl w intV 1 cores p cores.length b o) (he : mapErr X.N X.C cores ≠ 0) :
  Calls Tryz.prog 8 #[.agg X.net.toArray, .agg (chpC X.C X.pd X.cd).toArray, .slice p cores.length c] w fun e w' => e = .returned (.bool true) ∧ St w [] [] w' := by
 have hf := fun (w' : World) => few7_any X w'
 have g1 := fun hl (w' : World) h => placeMap_any X w' h cores hcw hl p c b o
 obtain ⟨R, hR⟩ : ∃ R, mapRes X.N X.C cores = R := ⟨_, rfl⟩
 obtain ⟨E, hE⟩ : ∃ E, mapErr X.N X.C cores = E := ⟨_, rfl⟩
 rw [hR, hE] at g1
 rw [hE] at he
 simp only [mapV, quantC, List.cons_append, List.nil_append] at g1
 unfold PlnX.net chpC at hf g1
 unfold PlnX.net chpC
 refine enter (C := Tryz.cx) (F := Tryz.fx8) (args := [_, _, _]) Tryz.func8 rfl rfl rfl Tryz.ok8 (St.start w []) ?_
 repeat' (conv => whnf); first | (refine VNew.mk fun bb => ?_) | (refine VCall.isF 31 ?_; refine VCall.inl (F := Tryz.fx31) Tryz.func31 rfl rfl rfl Tryz.ok31 ?_) | (refine VCall.isF 15 ?_; (refine VCall.valR (fun w' _ => works7_any w') ?_)) | (refine VCall.isF 19 ?_; (refine VCall.genR (fun w' hw' => hf w') ?_; rintro r hrr)) | (refine VCall.isF 26 ?_; (refine VCall.genR (fun w' hw' => g1 (by omega) w' (hX.rd hw' (by have := hrr.1 rfl; omega)) (h1.keep hw' (by simp))) ?_; rintro y hy)) | (refine VSeq.go ?_) | (refine VB.is ?_; refine VB.no (by omega) fun _ => ?_) | (refine VB.split (fun _ => ?_) (fun _ => ?_)) | (refine boolE_split (fun h => ?_) (fun h => ?_) <;> subst h) | (refine VLd.is ?_; refine VLd.mk (.row aT (by rfl)) ?_) | (refine VSt.is ?_; refine VSt.row aT (by rfl) (by first | rfl | assumption) ?_)
 all_goals (conv => whnf)
 all_goals exact ⟨fun w' hw' => ⟨rfl, hw'.le .nil⟩⟩

structure RwsIs (N : Net) (C : Chp) (cores : List Int) (Q : List Int) (n : Nat) (y : MapP) : Prop where
 rows : y.rr.map (·.l) = (List.range n).map fun (k : Nat) => rowsM N cores (synQs N Q) (k : Int)
 okR : ∀ r ∈ y.rr, r.ok
 tabs : y.tt.map (·.l) = tablesF N C cores
 slots : ∃ g, y.ps = some ⟨g, 0, none⟩
 syns : 0 < N.syns.length → ∃ g, y.y.ps = some ⟨g, 0, none⟩
 scales : ∃ g, y.y.pz = some ⟨g, 0, none⟩
 pr : ∃ g, y.pr = some ⟨g, 0, none⟩
 pt : ∃ g, y.pt = some ⟨g, 0, none⟩

theorem PlaceRows_good (X : PlnX) (cores : List Int) (hcw : ∀ k ∈ cores, I64 k) (p : Option Addr) (c b o : Nat) (w : World) (hX : PlnRi X w) (h1 : Sl w intV 1 cores p cores.length b o) (he : mapErr X.N X.C cores = 0) :
  Calls Tryz.prog 8 #[.agg X.net.toArray, .agg (chpC X.C X.pd X.cd).toArray, .slice p cores.length c] w fun e w' => e = .returned (.bool true) ∧ St w [] [] w' := by
 have hf := fun (w' : World) => few7_any X w'
 have g1 := fun hl (w' : World) h => placeMap_any X w' h cores hcw hl p c b o
 have hasg : asgE X.N X.C cores = 0 := by
  refine Decidable.byContradiction fun hn => hn ?_
  unfold mapErr at he
  rw [if_pos hn] at he
  exact he
 have hA := asgE_zero hasg
 have hOk := hA.plan.net
 have hbits := hA.plan.chip.bits
 have hhalf := half_ok hbits
 obtain ⟨half, hhf⟩ : ∃ half, halfM X.C.bits = half := ⟨_, rfl⟩
 rw [hhf] at hhalf
 have hq0 : qErr X.N X.C.bits = 0 := by
  unfold qErr
  rw [netchk_zero.2 hOk, if_neg (by simp), if_neg (by omega)]
 have hres : quantRes X.N X.C.bits = ⟨X.N.ps, X.N.inputs, X.N.syns.map (synQ (scalesM X.N half)), scalesM X.N half, X.N.syns.map (quotS (scalesM X.N half)), errsM (scalesM X.N half) X.N.syns X.N.ps.length, X.N.syns.all fun s => decide (offS (scalesM X.N half) s = 0)⟩ := by
  unfold quantRes
  rw [if_neg (by omega), ← hhf]
  rfl
 have hqb := fun s hs => quot_bounds hOk hhalf (s := s) hs
 have hF := qfacts (N := X.N) (wts_of hOk) (fun s hs => by have := (hOk.syns s hs).2.1; omega) hhalf.1
 obtain ⟨hcells, hn1, hn64⟩ := nCores_ok hA.plan.chip
 obtain ⟨n, hn⟩ : ∃ n, nCores X.C = n := ⟨_, rfl⟩
 rw [hn] at hcells hn1 hn64
 have hcl := hA.len
 have hcfew := hOk.few
 have hcsome := hOk.some
 have hfits := hA.fits
 have htabs : ∀ t ∈ tablesF X.N X.C cores, (t.length : Int) ≤ X.C.en := fun t ht => by
  refine Decidable.byContradiction fun hb => ?_
  unfold mapErr at he
  rw [if_neg (by rw [hasg]; simp), if_pos ⟨t, ht, hb⟩] at he
  exact absurd he (by decide)
 have hmr : mapRes X.N X.C cores = ⟨cores, slotsM cores, quantRes X.N X.C.bits, (List.range (nCores X.C)).map fun (k : Nat) => rowsM X.N cores (synQs X.N (quantRes X.N X.C.bits).quots) (k : Int), tablesF X.N X.C cores,
  (List.range (nSrc X.N)).map fun (k : Nat) => waveOf (wavesF X.N X.C cores) (k : Int), (costM X.N X.C cores : Int), (mostM ((keysM X.N).map (srcTree X.N X.C cores)) : Int), (stepsM X.C.mesh.wide (srcTree X.N X.C cores) (homeM X.N cores) (coresM X.N X.C cores) (wavesF X.N X.C cores) : Int)⟩ := by
  unfold mapRes
  rw [if_neg (by rw [he]; simp)]
 rw [hres] at hmr
 dsimp only at hmr
 rw [hn] at hmr
 obtain ⟨Z, hZ⟩ : ∃ Z, scalesM X.N half = Z := ⟨_, rfl⟩
 rw [hZ] at hmr hqb hF
 have hZl := hF.len
 have hsll : (slotsM cores).length = cores.length := by unfold slotsM; rw [List.length_map, List.length_range]
 have htl : (tablesF X.N X.C cores).length = n := by unfold tablesF; rw [List.length_map, List.length_range, hn]
 rw [hmr, he] at g1
 have hg : ∃ (lp lq le lw : Nat) (ex : Bool) (co lo st : Int), ∀ (hl : cores.length ≤ 1000000) (w' : World), PlnRd X w' → Sl w' intV 1 cores p cores.length b o → Calls Tryz.prog 26 #[.agg X.net.toArray, .agg (chpC X.C X.pd X.cd).toArray, .slice p cores.length c] w' fun e w'' => ∃ y : MapP, e = .returned (.tuple #[.agg #[.slice y.pc cores.length y.cc, .slice y.ps cores.length y.cs, .slice y.y.pp lp y.y.cp, .int .i64 X.N.inputs, .slice y.y.ps X.N.syns.length y.y.cs, .slice y.y.pz cores.length y.y.cz, .slice y.y.pq lq y.y.cq, .slice y.y.pe le y.y.ce, .bool ex, .slice y.pr n y.cr, .slice y.pt n y.ct, .slice y.pw lw y.cw, .int .i64 co, .int .i64 lo, .int .i64 st], .int .i64 0]) ∧ RwsIs X.N X.C cores (X.N.syns.map (quotS Z)) n y ∧ St w' [] (.vec y.pc cores.length y.cc 3 1 (flat intV cores) :: .vec y.ps cores.length y.cs 3 1 (flat intV (slotsM cores)) :: .vec y.pr n y.cr 80 1 (flat rrV y.rr) :: .vec y.pt n y.ct 84 1 (flat erV y.tt) :: .vec y.y.ps X.N.syns.length y.y.cs 70 4 (flat synV (X.N.syns.map (synQ Z))) :: .vec y.y.pz cores.length y.y.cz 3 1 (flat intV Z) :: (y.rr.map rrE ++ y.tt.map erE)) w'' := by
  refine ⟨X.N.ps.length, X.N.syns.length, X.N.ps.length, nSrc X.N, (X.N.syns.all fun s => decide (offS Z s = 0)), (costM X.N X.C cores : Int), (mostM ((keysM X.N).map (srcTree X.N X.C cores)) : Int), (stepsM X.C.mesh.wide (srcTree X.N X.C cores) (homeM X.N cores) (coresM X.N X.C cores) (wavesF X.N X.C cores) : Int), fun hl w' h2 h3 => (g1 hl w' h2 h3).mono fun e w'' ⟨y, e1, hy, e3⟩ => ?_⟩
  have hrl : y.rr.length = n := by
   have := congrArg List.length hy.rows
   simpa using this
  have htl2 : y.tt.length = n := by
   have := congrArg List.length hy.tables
   rw [List.length_map] at this
   rw [this]; exact htl
  have hqe : (errsM Z X.N.syns X.N.ps.length).length = X.N.ps.length := by unfold errsM; simp
  unfold mapH quantH at e3
  dsimp only at e3
  simp only [List.length_map, List.length_range, hsll, hrl, htl2, hZl, hqe, ← hcl] at e3
  refine ⟨y, ?_, ⟨hy.rows, hy.okR, hy.tables, ?_, ?_, ?_, ?_, ?_⟩, e3.le (by simp only [List.cons_append, List.nil_append]; exact aH)⟩
  ·rw [e1]
   unfold mapV quantC
   dsimp only
   simp only [List.length_map, List.length_range, hsll, hrl, htl2, hZl, hqe, hcl]
   rfl
  ·exact (vec_facts (e3.own (.vec y.ps cores.length y.cs 3 1 (flat intV (slotsM cores))) (by simp))).2.1 (by omega)
  ·exact (vec_facts (e3.own (.vec y.y.ps X.N.syns.length y.y.cs 70 4 (flat synV (X.N.syns.map (synQ Z)))) (by simp))).2.1
  ·exact (vec_facts (e3.own (.vec y.y.pz cores.length y.y.cz 3 1 (flat intV Z)) (by simp))).2.1 (by omega)
  ·exact (vec_facts (e3.own (.vec y.pr n y.cr 80 1 (flat rrV y.rr)) (by simp))).2.1 (by omega)
  ·exact (vec_facts (e3.own (.vec y.pt n y.ct 84 1 (flat erV y.tt)) (by simp))).2.1 (by omega)
 obtain ⟨lp, lq, le, lw, ex, co, lo, st, hg⟩ := hg
 clear g1 hmr
 obtain ⟨SY, hSY⟩ : ∃ SY, X.N.syns.map (synQ Z) = SY := ⟨_, rfl⟩
 obtain ⟨SL, hSL⟩ : ∃ SL, slotsM cores = SL := ⟨_, rfl⟩
 rw [hSY, hSL] at hg
 unfold PlnX.net chpC at hf hg
 unfold PlnX.net chpC
 refine enter (C := Tryz.cx) (F := Tryz.fx8) (args := [_, _, _]) Tryz.func8 rfl rfl rfl Tryz.ok8 (St.start w []) ?_
 refine VSeq.go ?_
 repeat' (conv => whnf); first | (refine VNew.mk fun b4 => ?_)
 all_goals (conv => whnf)
 rename_i b3
 repeat' (conv => whnf); first | (refine VSeq.is ?_; refine VSeq.isN 7 rfl ?_; refine VSeq.cut (at_ := 7) (α := Nat × MapP) (fun z => RwsIs X.N X.C cores (X.N.syns.map (quotS Z)) n z.2) (fun z => [(1000000, .tuple #[]), (2, .slice p cores.length c), (3, .pointer (some ⟨b3, 0, none⟩)), (4, .pointer (some ⟨b4, 0, none⟩)), (6, .bool false), (7, .pointer (some ⟨z.1, 0, none⟩)), (9, .int .i64 (n : Int))]) (fun z => .row b3 39 [.slice X.pn X.N.ps.length X.cn, .int .i64 X.N.inputs, .slice X.qs X.N.syns.length X.cs] :: .row b4 26 [.int .i64 X.C.mesh.wide, .int .i64 X.C.mesh.high, .int .i64 X.C.mesh.room, .int .i64 X.C.nr, .int .i64 X.C.sy, .int .i64 X.C.en, .int .i64 X.C.bits, .slice X.pd X.C.dead.length X.cd] :: .row z.1 57 [.slice z.2.pc cores.length z.2.cc, .slice z.2.ps cores.length z.2.cs, .slice z.2.y.pp lp z.2.y.cp, .int .i64 X.N.inputs, .slice z.2.y.ps X.N.syns.length z.2.y.cs, .slice z.2.y.pz cores.length z.2.y.cz, .slice z.2.y.pq lq z.2.y.cq, .slice z.2.y.pe le z.2.y.ce, .bool ex, .slice z.2.pr n z.2.cr, .slice z.2.pt n z.2.ct, .slice z.2.pw lw z.2.cw, .int .i64 co, .int .i64 lo, .int .i64 st] :: (.vec z.2.pc cores.length z.2.cc 3 1 (flat intV cores) :: .vec z.2.ps cores.length z.2.cs 3 1 (flat intV SL) :: .vec z.2.pr n z.2.cr 80 1 (flat rrV z.2.rr) :: .vec z.2.pt n z.2.ct 84 1 (flat erV z.2.tt) :: .vec z.2.y.ps X.N.syns.length z.2.y.cs 70 4 (flat synV SY) :: .vec z.2.y.pz cores.length z.2.y.cz 3 1 (flat intV Z) :: (z.2.rr.map rrE ++ z.2.tt.map erE))) ?_ ?_) | (refine VNew.mk fun bb => ?_) | (refine VB.is ?_; refine VB.is ?_; refine VB.no (p := ¬ _) (fun h => h (by simp)) fun _ => ?_) | (refine VCall.isF 31 ?_; refine VCall.inl (F := Tryz.fx31) Tryz.func31 rfl rfl rfl Tryz.ok31 ?_) | (refine VCall.isF 15 ?_; (refine VCall.valR (fun w' _ => works7_any w') ?_)) | (refine VCall.isF 19 ?_; (refine VCall.genR (fun w' hw' => hf w') ?_; rintro r hrr)) | (refine VCall.isF 26 ?_; (refine VCall.genR (fun w' hw' => hg (by omega) w' (hX.rd hw' (by have := hrr.1 rfl; omega)) (h1.keep hw' (by simp))) ?_; rintro y hy)) | (refine VAr.is ?_; refine VAr.is ?_; refine VAr.mul hcells.symm (by omega) (by omega) ?_) | (refine VCall.isF 25 ?_; (refine VCall.valR (fun w' hw' => Exists.elim (Sl.own (f := intV) (l := cores) (p := y.pc) (cap := y.cc) (k := 1) hw' aT (fun _ => rfl) rfl) fun b1 hb1 => equal7_self cores (by omega) _ _ b1 0 _ _ b o w' hb1 (h1.keep hw' (by simp))) ?_)) | (refine VSeq.go ?_) | (refine VB.is ?_; refine VB.yes (by omega) fun _ => ?_) | (refine VB.is ?_; refine VB.no (by omega) fun _ => ?_) | (refine VB.split (fun _ => ?_) (fun _ => ?_)) | (refine boolE_split (fun h => ?_) (fun h => ?_) <;> subst h) | (refine VLd.is ?_; refine VLd.mk (.row aT (by rfl)) ?_) | (refine VSt.is ?_; refine VSt.row aT (by rfl) (by first | rfl | assumption) ?_)
 all_goals (conv => whnf)
 any_goals first
  | exact VMid.mk (bb, y) hy aE aH
  | exact VRet.mk fun w' hw' => ⟨rfl, hw'.le .nil⟩
  | fail
 rintro ⟨b7, y⟩ ⟨hrows, hokR, htb, ⟨gs, hgs⟩, hgy, ⟨gz, hgz⟩, ⟨gr, hgr⟩, ⟨gt, hgt⟩⟩
 dsimp only at hrows hokR htb hgs hgy hgz hgr hgt ⊢
 clear hf hg hasg he
 rw [hgs, hgz, hgr, hgt]
 have hcore := hA.core
 have hu0 : usesM (cores.take 0) n = List.replicate n 0 := range_const 0 n
 have hrl : y.rr.length = n := by
  have := congrArg List.length hrows
  simpa using this
 have httl : y.tt.length = n := by
  have := congrArg List.length htb
  rw [List.length_map] at this
  rw [this]; exact htl
 repeat' (conv => whnf); first | (refine VNew.mk fun bm => ?_) | (refine VMk.is ?_; refine VMk.mk (by omega) (by omega) (by (try dsimp only); omega) (by omega) fun g11 => ?_) | (refine VSeq.go ?_)
 all_goals (conv => whnf)
 refine VLoop.mk (α := Nat × List (Value × Value)) (fun z => z.1 ≤ cores.length ∧ MapF outA pairW natV z.2 (whoF cores z.1)) (fun z => [(1000000, .tuple #[]), (2, .slice p cores.length c), (3, .pointer (some ⟨b3, 0, none⟩)), (4, .pointer (some ⟨b4, 0, none⟩)), (6, .bool false), (7, .pointer (some ⟨b7, 0, none⟩)), (9, .int .i64 (n : Int)), (10, .map (some bm)), (11, .slice (some ⟨g11, 0, none⟩) n n), (12, .int .i64 (z.1 : Int))])
  (fun z => .mapk bm z.2 :: .vec (some ⟨g11, 0, none⟩) n n 3 1 (flat intV (usesM (cores.take z.1) n)) :: .row b3 39 [.slice X.pn X.N.ps.length X.cn, .int .i64 X.N.inputs, .slice X.qs X.N.syns.length X.cs] :: .row b4 26 [.int .i64 X.C.mesh.wide, .int .i64 X.C.mesh.high, .int .i64 X.C.mesh.room, .int .i64 X.C.nr, .int .i64 X.C.sy, .int .i64 X.C.en, .int .i64 X.C.bits, .slice X.pd X.C.dead.length X.cd] :: .row b7 57 [.slice y.pc cores.length y.cc, .slice (some ⟨gs, 0, none⟩) cores.length y.cs, .slice y.y.pp lp y.y.cp, .int .i64 X.N.inputs, .slice y.y.ps X.N.syns.length y.y.cs, .slice (some ⟨gz, 0, none⟩) cores.length y.y.cz, .slice y.y.pq lq y.y.cq, .slice y.y.pe le y.y.ce, .bool ex, .slice (some ⟨gr, 0, none⟩) n y.cr, .slice (some ⟨gt, 0, none⟩) n y.ct, .slice y.pw lw y.cw, .int .i64 co, .int .i64 lo, .int .i64 st] :: (.vec y.pc cores.length y.cc 3 1 (flat intV cores) :: .vec (some ⟨gs, 0, none⟩) cores.length y.cs 3 1 (flat intV SL) :: .vec (some ⟨gr, 0, none⟩) n y.cr 80 1 (flat rrV y.rr) :: .vec (some ⟨gt, 0, none⟩) n y.ct 84 1 (flat erV y.tt) :: .vec y.y.ps X.N.syns.length y.y.cs 70 4 (flat synV SY) :: .vec (some ⟨gz, 0, none⟩) cores.length y.y.cz 3 1 (flat intV Z) :: (y.rr.map rrE ++ y.tt.map erE))) (fun z => cores.length - z.1) (0, []) ⟨Nat.zero_le _, MapF.nil⟩ aE (by dsimp only; rw [hu0, ← flat_ints]; exact aH) ?_
 rintro ⟨i, m⟩ ⟨hi, hm⟩
 dsimp only at hi hm ⊢
 rcases Nat.lt_or_ge i cores.length with hlt | hge
 ·obtain ⟨kc, hkc⟩ := h1.get hlt
  have hkc0 := (hcore kc (List.mem_of_getElem? hkc)).1
  obtain ⟨k, hk⟩ : ∃ k : Nat, kc = (k : Int) := ⟨kc.toNat, by omega⟩
  subst hk
  have hkn : k < n := by omega
  have hsl := slot_get hkc
  rw [hSL] at hsl
  have hpl := plc_get hkc
  have hsa := slot_all hkc
  have hft := (hfits k (by omega)).1
  have hun := usesM_next hkn hkc
  have huo : (usesM (cores.take i) n)[k]? = some (useN (cores.take i) (k : Int) : Int) := range_get hkn
  have hul := useN_le cores (k : Int) (i := i) (j := cores.length) hi
  rw [List.take_length] at hul
  have hcc : useN cores (k : Int) ≤ cores.length := List.countP_le_length
  have hw0 := whoF_none hlt
  have hwn := whoF_next hlt
  rw [hpl] at hw0 hwn
  obtain ⟨un, hune⟩ : ∃ un, useN (cores.take i) (k : Int) = un := ⟨_, rfl⟩
  rw [hune] at hsl hsa hun huo hw0 hwn hul
  have hpw : pairW ((k : Int), (un : Int)) := ⟨by unfold I64; dsimp only; omega, by unfold I64; dsimp only; omega⟩
  have hlk := fun {H : HP} {u : Ent → HP} {r : HP} {kk : Option Value → Prop} (hat : At H (.mapk bm m) u r) hkk => MapF.get (T := 79) (k := kk) keyP2 hat hm ((k : Int), (un : Int)) hpw (fun _ => hkk) (fun y hy => absurd (hw0.symm.trans hy) (by simp))
  have hput := fun {H : HP} {u : Ent → HP} {r : HP} {kk : HP → Prop} (hat : At H (.mapk bm m) u r) hkk => MapF.put (T := 79) (k := kk) keyP2 hat hm ((k : Int), (un : Int)) hpw (i : Nat) hkk
  repeat' (conv => whnf); first | (refine VIx.is ?_; refine VIx.mk (h1.ptr (by omega)) (by omega) (by omega) ?_) | (refine VLd.is ?_; refine VLd.mk (Rd.cast (h1.rd0 (by simp) (fun _ => rfl) hkc rfl) (by first | omega | (dsimp only; omega) | rfl)) ?_) | (refine VIx.is ?_; refine VIx.mk rfl (by omega) (by omega) ?_) | (refine VLd.is ?_; refine VLd.mk (Rd.cast (.vec aT (sub_flat0 (f := intV) (k := 1) (fun _ => rfl) hsl rfl)) (by first | omega | (dsimp only; omega) | rfl)) ?_) | (refine VLd.is ?_; refine VLd.mk (Rd.cast (.vec aT (sub_flat0 (f := intV) (k := 1) (fun _ => rfl) huo rfl)) (by first | omega | (dsimp only; omega) | rfl)) ?_) | (refine VLkK.is ?_; refine VLkK.is ?_; refine hlk aT ?_) | (refine VUpK.is ?_; refine VUpK.is ?_; refine hput aT fun m2 hm2 => ?_) | (refine VSt.is ?_; refine VSt.is ?_; refine VSt.cast (off' := k * 1) (by first | omega | (dsimp only; omega) | rfl) (VSt.vec aT (upd_flat0 (f := intV) (k := 1) (y := (un : Int) + 1) (fun _ => rfl) huo rfl) rfl ?_)) | (refine VSeq.go ?_) | (refine VB.is ?_; refine VB.yes (by omega) fun _ => ?_) | (refine VB.is ?_; refine VB.no (by omega) fun _ => ?_) | (refine VLd.is ?_; refine VLd.mk (.row aT (by rfl)) ?_) | (refine VAr.is ?_; refine oA ?_) | (refine VHs.mk _ (.refl _) ?_)
  all_goals (conv => whnf)
  exact VNext.mk (i + 1, m2) ⟨by dsimp only; omega, hm2.congr fun q => hwn q⟩ (by dsimp only; omega) aE (by dsimp only; rw [hun]; exact aH)
 have hie : i = cores.length := by omega
 subst hie
 rw [List.take_length]
 clear hi hge hu0
 obtain ⟨sq, hsq⟩ : ∃ sq, synQs X.N (X.N.syns.map (quotS Z)) = sq := ⟨_, rfl⟩
 rw [hsq] at hrows
 have hn0 : nxtM X.N cores (sq.take 0) n = List.replicate n 0 := range_const 0 n
 have hsynl := hOk.syns
 have hfs := hOk.fewS
 obtain ⟨bp, op, hss⟩ := hX.syns
 have hinp := hOk.inputs
 have hfewS := hA.plan.few
 repeat' (conv => whnf); first | (refine VMk.is ?_; refine VMk.mk (by omega) (by omega) (by (try dsimp only); omega) (by omega) fun g15 => ?_) | (refine VSeq.go ?_) | (refine VB.is ?_; refine VB.no (by omega) fun _ => ?_)
 all_goals (conv => whnf)
 refine VLoop.mk (α := Nat) (fun i => i ≤ X.N.syns.length) (fun i => [(1000000, .tuple #[]), (2, .slice p cores.length c), (3, .pointer (some ⟨b3, 0, none⟩)), (4, .pointer (some ⟨b4, 0, none⟩)), (6, .bool false), (7, .pointer (some ⟨b7, 0, none⟩)), (9, .int .i64 (n : Int)), (10, .map (some bm)), (11, .slice (some ⟨g11, 0, none⟩) n n), (15, .slice (some ⟨g15, 0, none⟩) n n), (16, .int .i64 (i : Int))])
  (fun i => .vec (some ⟨g15, 0, none⟩) n n 3 1 (flat intV (nxtM X.N cores (sq.take i) n)) :: .mapk bm m :: .vec (some ⟨g11, 0, none⟩) n n 3 1 (flat intV (usesM cores n)) :: .row b3 39 [.slice X.pn X.N.ps.length X.cn, .int .i64 X.N.inputs, .slice X.qs X.N.syns.length X.cs] :: .row b4 26 [.int .i64 X.C.mesh.wide, .int .i64 X.C.mesh.high, .int .i64 X.C.mesh.room, .int .i64 X.C.nr, .int .i64 X.C.sy, .int .i64 X.C.en, .int .i64 X.C.bits, .slice X.pd X.C.dead.length X.cd] :: .row b7 57 [.slice y.pc cores.length y.cc, .slice (some ⟨gs, 0, none⟩) cores.length y.cs, .slice y.y.pp lp y.y.cp, .int .i64 X.N.inputs, .slice y.y.ps X.N.syns.length y.y.cs, .slice (some ⟨gz, 0, none⟩) cores.length y.y.cz, .slice y.y.pq lq y.y.cq, .slice y.y.pe le y.y.ce, .bool ex, .slice (some ⟨gr, 0, none⟩) n y.cr, .slice (some ⟨gt, 0, none⟩) n y.ct, .slice y.pw lw y.cw, .int .i64 co, .int .i64 lo, .int .i64 st] :: (.vec y.pc cores.length y.cc 3 1 (flat intV cores) :: .vec (some ⟨gs, 0, none⟩) cores.length y.cs 3 1 (flat intV SL) :: .vec (some ⟨gr, 0, none⟩) n y.cr 80 1 (flat rrV y.rr) :: .vec (some ⟨gt, 0, none⟩) n y.ct 84 1 (flat erV y.tt) :: .vec y.y.ps X.N.syns.length y.y.cs 70 4 (flat synV SY) :: .vec (some ⟨gz, 0, none⟩) cores.length y.y.cz 3 1 (flat intV Z) :: (y.rr.map rrE ++ y.tt.map erE))) (fun i => X.N.syns.length - i) 0 (Nat.zero_le _) aE (by rw [hn0, ← flat_ints]; exact aH) ?_
 rintro i hi
 rcases Nat.lt_or_ge i X.N.syns.length with hlt | hge
 ·obtain ⟨s, hs⟩ : ∃ s, X.N.syns[i]? = some s := ⟨_, List.getElem?_eq_getElem hlt⟩
  have hsm := List.mem_of_getElem? hs
  obtain ⟨t, z, hte, htl', hzt, hzb, hqn, _⟩ := hqb s hsm
  have hfr := (hsynl s hsm).1
  unfold srcOk at hfr
  have hsc : scOf Z s = z := by unfold scOf; rw [hte, Int.toNat_natCast, hzt]; rfl
  obtain ⟨f1, f2, f3, f4, f5⟩ := hF.syn s hsm
  rw [hsc] at f4 f5
  have hsy : SY[i]? = some (synQ Z s) := by rw [← hSY, List.getElem?_map, hs]; rfl
  have hsqs : synQ Z s = ⟨s.frm, s.to, quotS Z s * z, s.dl⟩ := by rw [← hsc]; rfl
  rw [hsqs] at hsy
  have hx : sq[i]? = some (s, quotS Z s) := by
   rw [← hsq]; unfold synQs
   rw [List.getElem?_zip_eq_some]
   exact ⟨hs, by rw [List.getElem?_map, hs]; rfl⟩
  have htc : t < cores.length := by omega
  obtain ⟨kc, hkc⟩ := h1.get htc
  have hkc0 := (hcore kc (List.mem_of_getElem? hkc)).1
  obtain ⟨k, hk⟩ : ∃ k : Nat, kc = (k : Int) := ⟨kc.toNat, by omega⟩
  subst hk
  have hkn : k < n := by omega
  have hto : cores[s.to.toNat]? = some (k : Int) := by rw [hte, Int.toNat_natCast]; exact hkc
  obtain ⟨⟨rp, rc, rl⟩, hrow⟩ : ∃ row, y.rr[k]? = some row := ⟨_, List.getElem?_eq_getElem (by omega)⟩
  have hrle : rl = rowsM X.N cores sq (k : Int) := by
   have := congrArg (fun L => L[k]?) hrows
   rw [List.getElem?_map, hrow, range_get hkn] at this
   simpa using this
  have hat := rowsM_at (N := X.N) (cores := cores) hx hto
  rw [← hrle] at hat
  have hnx := nxtM_next (N := X.N) (cores := cores) (l := sq.take i) (x := (s, quotS Z s)) hkn hto
  rw [← take_snoc hx] at hnx
  have hno : (nxtM X.N cores (sq.take i) n)[k]? = some ((rowsM X.N cores (sq.take i) (k : Int)).length : Int) := range_get hkn
  have hnl := (List.getElem?_eq_some_iff.1 hat).1
  obtain ⟨nx, hnxe⟩ : ∃ nx, (rowsM X.N cores (sq.take i) (k : Int)).length = nx := ⟨_, rfl⟩
  rw [hnxe] at hat hnx hno hnl
  have hrll : rl.length ≤ X.N.syns.length := by
   rw [hrle, ← hsq]
   unfold rowsM synQs
   rw [List.length_map]
   refine Nat.le_trans (List.length_filter_le ..) ?_
   rw [List.length_zip]; omega
  obtain ⟨g, rfl⟩ := hokR _ (List.mem_of_getElem? hrow) (by dsimp only; omega)
  have hsl := slot_get hkc
  have hxr : rowOf X.N cores s (quotS Z s) = ⟨keyM X.N s.frm, (useN (cores.take t) (k : Int) : Int), quotS Z s, s.dl⟩ := by
   unfold rowOf
   rw [hte, Int.toNat_natCast, hsl]; rfl
  have hwa := whoF_at (cores := cores) (t := t) (i := cores.length) (Nat.le_refl _) htc
  rw [plc_get hkc] at hwa
  have hus := useN_le cores (k : Int) (i := t) (j := cores.length) (by omega)
  rw [List.take_length] at hus
  have hcc : useN cores (k : Int) ≤ cores.length := List.countP_le_length
  dsimp only at hat
  rw [hxr] at hat
  obtain ⟨un, hune⟩ : ∃ un, useN (cores.take t) (k : Int) = un := ⟨_, rfl⟩
  rw [hune] at hat hwa hus
  have hpw : pairW ((k : Int), (un : Int)) := ⟨by unfold I64; dsimp only; omega, by unfold I64; dsimp only; omega⟩
  have hlk := fun {H : HP} {u : Ent → HP} {r : HP} {kk : Option Value → Prop} (hat : At H (.mapk bm m) u r) (hkk : kk (some (.int .i64 (t : Int)))) => MapF.get (T := 79) (k := kk) keyP2 hat hm ((k : Int), (un : Int)) hpw (fun h0 => absurd (h0.symm.trans hwa) (by simp)) (fun y hy => by rw [hwa] at hy; cases hy; exact hkk)
  have hky := fun (w' : World) => lkey_any X.N hcfew X.pn X.cn (.int .i64 X.N.inputs) (.slice X.qs X.N.syns.length X.cs) (by rfl) s.frm (by omega) w'
  obtain ⟨ky, hkye⟩ : ∃ ky, keyM X.N s.frm = ky := ⟨_, rfl⟩
  rw [hkye] at hky hat
  obtain ⟨qv, hqv⟩ : ∃ q, quotS Z s = q := ⟨_, rfl⟩
  rw [hqv] at hat hsy f4 f5
  obtain ⟨pr, hpr⟩ : ∃ pr, qv * z = pr := ⟨_, rfl⟩
  rw [hpr] at hsy f4 f5
  obtain ⟨gy, hgy'⟩ := hgy (by omega)
  rw [hgy']
  have hv2 : sub (synV ⟨s.frm, s.to, pr, s.dl⟩) 0 4 = some [.int .i64 s.frm, .int .i64 (t : Int), .int .i64 pr, .int .i64 s.dl] := synV_at (s := ⟨s.frm, s.to, pr, s.dl⟩) hte
  have hvr : sub (flat rrV y.rr) (k * 1) 1 = some [.slice (some ⟨g, 0, none⟩) rl.length rc] := sub_flat0 (f := rrV) (k := 1) (fun _ => rfl) hrow rfl
  have hqm : Ent.vec (some ⟨g, 0, none⟩) rl.length rc 82 4 (flat rwV rl) ∈ y.rr.map rrE := List.mem_map_of_mem (f := rrE) (List.mem_of_getElem? hrow)
  have hse : sub (flat rwV rl) (nx * 4) 4 = some [.int .i64 ky, .int .i64 (un : Int), .int .i64 qv, .int .i64 s.dl] := sub_flat0 (f := rwV) (k := 4) (fun _ => rfl) hat rfl
  repeat' (conv => whnf); first | (refine VB.is ?_; refine VB.is ?_; refine VB.no (p := ¬ _) (fun h => h (by simp)) fun _ => ?_) | (refine VNew.mk fun bn => ?_) | (refine VIx.is ?_; refine VIx.mk (h1.ptr (by omega)) (by omega) (by omega) ?_) | (refine VLd.is ?_; refine VLd.mk (Rd.cast (h1.rd0 (by simp) (fun _ => rfl) hkc rfl) (by first | omega | (dsimp only; omega) | rfl)) ?_) | (refine VIx.is ?_; refine VIx.mk rfl (by omega) (by omega) ?_) | (refine VLd.is ?_; refine VLd.mk (Rd.cast (.vec aT (hvr)) (by first | omega | (dsimp only; omega) | rfl)) ?_) | (refine VLd.is ?_; refine VLd.mk (Rd.cast (.vec aT (sub_flat0 (f := intV) (k := 1) (fun _ => rfl) hno rfl)) (by first | omega | (dsimp only; omega) | rfl)) ?_) | (refine VLd.is ?_; refine VLd.mk (Rd.cast (.vec aT (sub_flat0 (f := intV) (k := 1) (fun _ => rfl) hzt rfl)) (by first | omega | (dsimp only; omega) | rfl)) ?_) | (refine VLd.is ?_; refine VLd.mk (Rd.cast (.vec aT (sub_flat0 (f := synV) (k := 4) (fun _ => rfl) hsy hv2)) (by first | omega | (dsimp only; omega) | rfl)) ?_) | (refine VLd.is ?_; refine VLd.atB g ?_; refine VLd.mk (Rd.cast (Rd.mVec (by (repeat (first | exact hqm | exact List.mem_append_left _ hqm | apply List.mem_cons_of_mem | apply List.mem_append_right)); first | done | fail) hse) (by first | omega | (dsimp only; omega) | rfl)) ?_) | (refine VLkK.is ?_; refine VLkK.is ?_; refine hlk aT ?_) | (refine VCall.isF 32 ?_; (refine VCall.valR (fun w' hw' => hky w') ?_)) | (refine VAr.is ?_; refine VAr.is ?_; refine VAr.mul hpr (by omega) (by omega) ?_) | (refine VSt.is ?_; refine VSt.is ?_; refine VSt.cast (off' := k * 1) (by first | omega | (dsimp only; omega) | rfl) (VSt.vec aT (upd_flat0 (f := intV) (k := 1) (y := (nx : Int) + 1) (fun _ => rfl) hno rfl) rfl ?_)) | (refine VSeq.go ?_) | (refine VB.is ?_; refine VB.yes (by omega) fun _ => ?_) | (refine VB.is ?_; refine VB.no (by omega) fun _ => ?_) | (refine VLd.is ?_; refine VLd.mk (.row aT (by rfl)) ?_) | (refine VSt.is ?_; refine VSt.row aT (by rfl) (by first | rfl | assumption) ?_) | (refine VAr.is ?_; refine oA ?_) | (refine VKeep.is ?_; refine VKeep.mk aH ?_) | (refine VHs.mk _ (.refl _) ?_)
  all_goals (conv => whnf)
  exact VNext.mk (i + 1) (by omega) (by omega) aE (by rw [hnx]; exact aH)
 have hie : i = X.N.syns.length := by omega
 subst hie
 have hsqa : sq.take X.N.syns.length = sq := List.take_of_length_le (by rw [← hsq]; unfold synQs; rw [List.length_zip]; omega)
 rw [hsqa]
 have hrn : ∀ k : Int, (rowsM X.N cores sq k).length = useR X.N.syns cores k := fun k => by
  rw [← hsq]
  exact rowsM_len X.N cores _ (by rw [List.length_map]) (fun s hs => by have := (hsynl s hs).2.1; omega) k
 clear hi hge hm hqb hF
 repeat' (conv => whnf); first | (refine VSeq.go ?_) | (refine VB.is ?_; refine VB.no (by omega) fun _ => ?_) | (refine VB.split (fun _ => ?_) (fun _ => ?_)) | (refine VLd.is ?_; refine VLd.mk (.row aT (by rfl)) ?_) | (refine VNew.mk fun _ => ?_) | (refine VAr.is ?_; refine oA ?_)
 all_goals (conv => whnf)
 refine VLoop.mk (α := Nat) (fun i => i ≤ n) (fun i => [(1000000, .tuple #[]), (4, .pointer (some ⟨b4, 0, none⟩)), (6, .bool false), (7, .pointer (some ⟨b7, 0, none⟩)), (9, .int .i64 (n : Int)), (11, .slice (some ⟨g11, 0, none⟩) n n), (15, .slice (some ⟨g15, 0, none⟩) n n), (22, .int .i64 (i : Int))])
  (fun i => .vec (some ⟨g15, 0, none⟩) n n 3 1 (flat intV (nxtM X.N cores sq n)) :: .vec (some ⟨g11, 0, none⟩) n n 3 1 (flat intV (usesM cores n)) :: .row b4 26 [.int .i64 X.C.mesh.wide, .int .i64 X.C.mesh.high, .int .i64 X.C.mesh.room, .int .i64 X.C.nr, .int .i64 X.C.sy, .int .i64 X.C.en, .int .i64 X.C.bits, .slice X.pd X.C.dead.length X.cd] :: .row b7 57 [.slice y.pc cores.length y.cc, .slice (some ⟨gs, 0, none⟩) cores.length y.cs, .slice y.y.pp lp y.y.cp, .int .i64 X.N.inputs, .slice y.y.ps X.N.syns.length y.y.cs, .slice (some ⟨gz, 0, none⟩) cores.length y.y.cz, .slice y.y.pq lq y.y.cq, .slice y.y.pe le y.y.ce, .bool ex, .slice (some ⟨gr, 0, none⟩) n y.cr, .slice (some ⟨gt, 0, none⟩) n y.ct, .slice y.pw lw y.cw, .int .i64 co, .int .i64 lo, .int .i64 st] :: (.vec y.pc cores.length y.cc 3 1 (flat intV cores) :: .vec (some ⟨gs, 0, none⟩) cores.length y.cs 3 1 (flat intV SL) :: .vec (some ⟨gr, 0, none⟩) n y.cr 80 1 (flat rrV y.rr) :: .vec (some ⟨gt, 0, none⟩) n y.ct 84 1 (flat erV y.tt) :: .vec y.y.ps X.N.syns.length y.y.cs 70 4 (flat synV SY) :: .vec (some ⟨gz, 0, none⟩) cores.length y.y.cz 3 1 (flat intV Z) :: (y.rr.map rrE ++ y.tt.map erE))) (fun i => n - i) 0 (Nat.zero_le _) aE aH ?_
 rintro i hi
 rcases Nat.lt_or_ge i n with hlt | hge
 ·obtain ⟨⟨rp, rc, rl⟩, hrow⟩ : ∃ row, y.rr[i]? = some row := ⟨_, List.getElem?_eq_getElem (by omega)⟩
  have hrle : rl = rowsM X.N cores sq (i : Int) := by
   have := congrArg (fun L => L[i]?) hrows
   rw [List.getElem?_map, hrow, range_get hlt] at this
   simpa using this
  obtain ⟨⟨tp, tc, tl⟩, htr⟩ : ∃ row, y.tt[i]? = some row := ⟨_, List.getElem?_eq_getElem (by omega)⟩
  have htle : (tl.length : Int) ≤ X.C.en := by
   have := congrArg (fun L => L[i]?) htb
   rw [List.getElem?_map, htr] at this
   exact htabs tl (List.mem_of_getElem? this.symm)
  have hno : (nxtM X.N cores sq n)[i]? = some ((rl.length : Nat) : Int) := by rw [hrle]; exact range_get hlt
  have huo : (usesM cores n)[i]? = some (useN cores (i : Int) : Int) := range_get hlt
  obtain ⟨ft1, ft2⟩ := hfits i (by omega)
  rw [← hrn, ← hrle] at ft2
  have hvr : sub (flat rrV y.rr) (i * 1) 1 = some [.slice rp rl.length rc] := sub_flat0 (f := rrV) (k := 1) (fun _ => rfl) hrow rfl
  have hvt : sub (flat erV y.tt) (i * 1) 1 = some [.slice tp tl.length tc] := sub_flat0 (f := erV) (k := 1) (fun _ => rfl) htr rfl
  obtain ⟨un, hune⟩ : ∃ un, useN cores (i : Int) = un := ⟨_, rfl⟩
  rw [hune] at huo ft1
  repeat' (conv => whnf); first | (refine VB.is ?_; refine VB.is ?_; refine VB.no (p := ¬ _) (fun h => h (by simp)) fun _ => ?_) | (refine VIx.is ?_; refine VIx.mk rfl (by omega) (by omega) ?_) | (refine VLd.is ?_; refine VLd.mk (Rd.cast (.vec aT (hvr)) (by first | omega | (dsimp only; omega) | rfl)) ?_) | (refine VLd.is ?_; refine VLd.mk (Rd.cast (.vec aT (hvt)) (by first | omega | (dsimp only; omega) | rfl)) ?_) | (refine VLd.is ?_; refine VLd.mk (Rd.cast (.vec aT (sub_flat0 (f := intV) (k := 1) (fun _ => rfl) hno rfl)) (by first | omega | (dsimp only; omega) | rfl)) ?_) | (refine VLd.is ?_; refine VLd.mk (Rd.cast (.vec aT (sub_flat0 (f := intV) (k := 1) (fun _ => rfl) huo rfl)) (by first | omega | (dsimp only; omega) | rfl)) ?_) | (refine VSeq.go ?_) | (refine VB.is ?_; refine VB.yes (by omega) fun _ => ?_) | (refine VB.is ?_; refine VB.no (by omega) fun _ => ?_) | (refine VLd.is ?_; refine VLd.mk (.row aT (by rfl)) ?_) | (refine VAr.is ?_; refine oA ?_) | (refine VHs.mk _ (.refl _) ?_)
  all_goals (conv => whnf)
  exact VNext.mk (i + 1) (by omega) (by omega) aE (HLe.refl _)
 have hin : i = n := by omega
 subst hin
 repeat' (conv => whnf); first | (refine VCall.isF 15 ?_; (refine VCall.valR (fun w' _ => works7_any w') ?_)) | (refine VSeq.go ?_) | (refine VB.is ?_; refine VB.no (by omega) fun _ => ?_)
 all_goals (conv => whnf)
 exact ⟨fun w' hw' => ⟨rfl, hw'.le .nil⟩⟩

theorem PlaceRows_any (X : PlnX) (cores : List Int) (hcw : ∀ k ∈ cores, I64 k) (p : Option Addr) (c b o : Nat) (w : World) (hX : PlnRi X w) (h1 : Sl w intV 1 cores p cores.length b o) :
  Calls Tryz.prog 8 #[.agg X.net.toArray, .agg (chpC X.C X.pd X.cd).toArray, .slice p cores.length c] w fun e w' => e = .returned (.bool true) ∧ St w [] [] w' := by
 by_cases he : mapErr X.N X.C cores = 0
 ·exact PlaceRows_good X cores hcw p c b o w hX h1 he
 ·exact PlaceRows_bad X cores hcw p c b o w hX h1 he

end Go.Proofs
