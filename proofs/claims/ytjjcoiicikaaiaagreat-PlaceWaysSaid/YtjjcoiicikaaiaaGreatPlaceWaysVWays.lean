import Derived.Test.YtjjcoiicikaaiaaGreatPlaceWaysRuq
import Derived.Test.YtjjcoiicikaaiaaGreatPlaceWaysRup
set_option linter.unusedVariables false
set_option linter.unusedSimpArgs false
set_option maxHeartbeats 4000000

namespace Go.Gm

theorem maxI_spec : ∀ (l : List Int) (a : Int), a ≤ l.foldl max a ∧ (∀ x ∈ l, x ≤ l.foldl max a) ∧ (l.foldl max a = a ∨ l.foldl max a ∈ l)
 | [], a => ⟨Int.le_refl _, by simp, .inl rfl⟩
 | x :: l, a => by
  obtain ⟨h1, h2, h3⟩ := maxI_spec l (max a x)
  rw [List.foldl_cons]
  refine ⟨by omega, fun y hy => ?_, ?_⟩
  ·rcases List.mem_cons.1 hy with rfl | hy
   ·omega
   ·exact h2 y hy
  ·rcases h3 with h3 | h3
   ·rcases Int.le_total a x with h | h
    ·right; rw [h3, Int.max_eq_right h]; exact List.mem_cons_self
    ·left; rw [h3, Int.max_eq_left h]
   ·exact .inr (List.mem_cons_of_mem _ h3)

def wavL (N : Net) (C : Chp) (cores : List Int) : List Int := (List.range (nSrc N)).map fun (k : Nat) => waveOf (wavesF N C cores) (k : Int)

theorem wavL_get {N : Net} {C : Chp} {cores : List Int} {k : Nat} (h : k < nSrc N) : (wavL N C cores)[k]? = some (waveOf (wavesF N C cores) (k : Int)) := by
 unfold wavL; rw [List.getElem?_map, List.getElem?_range h]; rfl

theorem wavL_max (N : Net) (C : Chp) (cores : List Int) : (wavL N C cores).foldl max (-1) = ((wavesF N C cores).length : Int) - 1 := by
 obtain ⟨h1, h2, h3⟩ := maxI_spec (wavL N C cores) (-1)
 have hle : ∀ x ∈ wavL N C cores, x ≤ ((wavesF N C cores).length : Int) - 1 := fun x hx => by
  unfold wavL at hx
  obtain ⟨k, _, rfl⟩ := List.mem_map.1 hx
  have := (waveOf_ge (wavesF N C cores) (k : Int)).2
  omega
 rcases Nat.eq_zero_or_pos (wavesF N C cores).length with h0 | h0
 ·rcases h3 with h3 | h3
  ·omega
  ·have := hle _ h3; omega
 ·obtain ⟨l, hl⟩ : ∃ l, (wavesF N C cores)[(wavesF N C cores).length - 1]? = some l := ⟨_, List.getElem?_eq_getElem (by omega)⟩
  have hne : l ≠ [] := wave_ne (keysM N) [] (by simp) l (List.mem_of_getElem? hl)
  obtain ⟨key, hk⟩ := List.exists_mem_of_ne_nil _ hne
  have hkm := (keys_src (waves_mem.1 ⟨l, List.mem_of_getElem? hl, hk⟩)).1
  have hw := (waveOf_iff (waves_nodup N C cores) (w := (wavesF N C cores).length - 1)).2 ⟨l, hl, hk⟩
  have hm : waveOf (wavesF N C cores) key ∈ wavL N C cores := by
   unfold wavL
   exact List.mem_map.2 ⟨key.toNat, List.mem_range.2 (by omega), by rw [Int.toNat_of_nonneg hkm.1]⟩
  have := h2 _ hm
  rcases h3 with h3 | h3
  ·omega
  ·have := hle _ h3; omega

theorem waves_few (N : Net) (C : Chp) (cores : List Int) : (wavesF N C cores).length ≤ nSrc N := by
 have h1 : (wavesF N C cores).length ≤ (wavesF N C cores).flatten.length := by
  have h : ∀ ws : List (List Int), (∀ w ∈ ws, w ≠ []) → ws.length ≤ ws.flatten.length := by
   intro ws
   induction ws with
   | nil => intro _; simp
   | cons x l ih =>
    intro h
    have h2 := ih fun w hw => h w (List.mem_cons_of_mem _ hw)
    have h3 := List.length_pos_iff.2 (h x List.mem_cons_self)
    rw [List.flatten_cons, List.length_append, List.length_cons]
    omega
  exact h _ (wave_ne (keysM N) [] (by simp))
 have h2 : (wavesF N C cores).flatten.length = (keysM N).length := (waves_perm _ _ _).length_eq
 have h3 : (keysM N).length ≤ nSrc N := keysK_len N (nSrc N)
 omega

def pkK (N : Net) (C : Chp) (cores : List Int) (w k : Nat) : List Pkt := (((List.range k).map fun (j : Nat) => (j : Int)).filter fun j => decide (waveOf (wavesF N C cores) j = (w : Int))).map fun j => ⟨(homeM N cores j).toNat, j⟩

theorem pkK_next (N : Net) (C : Chp) (cores : List Int) (w k : Nat) : pkK N C cores w (k + 1) = pkK N C cores w k ++ if waveOf (wavesF N C cores) (k : Int) = (w : Int) then [⟨(homeM N cores (k : Int)).toNat, (k : Int)⟩] else [] := by
 unfold pkK
 rw [List.range_succ, List.map_append, List.filter_append, List.map_append]
 by_cases h : waveOf (wavesF N C cores) (k : Int) = (w : Int) <;> simp [h]

theorem pkK_all (N : Net) (C : Chp) (cores : List Int) (w : Nat) : pkK N C cores w (nSrc N) = (wvC N C cores w).pk := rfl

theorem pkK_len (N : Net) (C : Chp) (cores : List Int) (w k : Nat) : (pkK N C cores w k).length ≤ k := by
 unfold pkK
 rw [List.length_map]
 refine Nat.le_trans (List.length_filter_le _ _) ?_
 simp

def lastT (A : List (Nat × Nat × Nat)) : Nat := (A.map fun a => a.2.2 + 1).foldl max 0

theorem lastT_next {A : List (Nat × Nat × Nat)} {i : Nat} {a : Nat × Nat × Nat} (h : A[i]? = some a) : lastT (A.take (i + 1)) = max (lastT (A.take i)) (a.2.2 + 1) := by
 unfold lastT
 rw [take_snoc h, List.map_append, List.foldl_append]; rfl

theorem lastT_le {A : List (Nat × Nat × Nat)} {m : Nat} (h : ∀ a ∈ A, a.2.2 + 1 ≤ m) : lastT A ≤ m := by
 unfold lastT
 rcases (foldl_maxN (A.map fun a => a.2.2 + 1) 0).2.2 with h1 | h1
 ·omega
 ·obtain ⟨a, ha, he⟩ := List.mem_map.1 h1
  rw [← he]; exact h a ha

def lastS (N : Net) (C : Chp) (cores : List Int) (w : Nat) : Nat := ((List.range w).map fun v => lastT (wvS N C cores v).arr).sum

theorem lastS_next (N : Net) (C : Chp) (cores : List Int) (w : Nat) : lastS N C cores (w + 1) = lastS N C cores w + lastT (wvS N C cores w).arr := by
 unfold lastS
 rw [List.range_succ, List.map_append, List.sum_append]; simp

theorem lastT_wave {N : Net} {C : Chp} {cores : List Int} (hA : AsgOk N C cores) {w : Nat} (hw : w < (wavesF N C cores).length) : lastT (wvS N C cores w).arr ≤ (wvD N C cores w + 1) * wvL N C cores w ∧ lastT (wvS N C cores w).arr ≤ 960 := by
 have h := lastT_le (m := (wvD N C cores w + 1) * wvL N C cores w) fun a (ha : a ∈ (wvS N C cores w).arr) => wv_time hA hw (p := a.1) (r := a.2.1) (t := a.2.2) ha
 obtain ⟨_, h2, h3⟩ := wv_ok hA hw
 have : (wvD N C cores w + 1) * wvL N C cores w ≤ 15 * 64 := Nat.mul_le_mul (by omega) h2
 exact ⟨h, by omega⟩

theorem lastS_le {N : Net} {C : Chp} {cores : List Int} (hA : AsgOk N C cores) : ∀ w, w ≤ (wavesF N C cores).length → lastS N C cores w ≤ (((wavesF N C cores).take w).map fun l => (reachM C.mesh.wide (homeM N cores) (coresM N C cores) l + 1) * mostM (l.map (srcTree N C cores))).sum ∧ lastS N C cores w ≤ w * 960
 | 0, _ => by simp [lastS]
 | w + 1, h => by
  obtain ⟨ih, ih2⟩ := lastS_le hA w (by omega)
  obtain ⟨h1, h2⟩ := lastT_wave hA (by omega : w < (wavesF N C cores).length)
  have hl : (wavesF N C cores)[w]? = some (wvT N C cores w) := by
   unfold wvT
   rw [List.getElem?_eq_getElem (by omega : w < (wavesF N C cores).length)]; rfl
  rw [lastS_next, List.take_add_one, hl, Option.toList_some, List.map_append, List.sum_append, List.map_singleton, List.sum_singleton]
  refine ⟨Nat.add_le_add ih h1, by omega⟩

theorem lastS_all {N : Net} {C : Chp} {cores : List Int} (hA : AsgOk N C cores) : lastS N C cores (wavesF N C cores).length ≤ stepsM C.mesh.wide (srcTree N C cores) (homeM N cores) (coresM N C cores) (wavesF N C cores) := by
 have := (lastS_le hA _ (Nat.le_refl _)).1
 rw [List.take_length] at this
 exact this

theorem wave_want {N : Net} {C : Chp} {cores : List Int} (hA : AsgOk N C cores) {w : Nat} (hw : w < (wavesF N C cores).length) {p : Nat} {key : Int} (hp : (wvK N C cores w)[p]? = some key) : ∀ r, r < nCores C → (arrN p (wvS N C cores w).arr r : Int) = wantV N cores key N.syns r := by
 intro r hr
 have h := (wv_arr hA hw hp).2 r hr
 unfold arrN
 rw [h]
 unfold wantV
 have : (r : Int) ∈ coresM N C cores key ↔ ∃ s ∈ N.syns, keyM N s.frm = key ∧ cores[s.to.toNat]? = some (r : Int) := by
  rw [mem_coresM]
  exact ⟨fun h => h.2, fun h => ⟨⟨by omega, by omega⟩, h⟩⟩
 by_cases h1 : (r : Int) ∈ coresM N C cores key
 ·rw [if_pos h1, if_pos (this.1 h1)]; rfl
 ·rw [if_neg h1, if_neg (fun h2 => h1 (this.2 h2))]; rfl

end Go.Gm

namespace Go.Proofs

open Go Go.Vx Go.Gm

theorem _root_.Go.Vx.Sl.ownW {α : Type} {f : α → List Value} {k : Nat} {l : List α} {w0 w : World} {M : List Nat} {H : HP} {p : Option Addr} {n cap e : Nat} (hs : St w0 M H w) (hm : Ent.vec p n cap e k (flat f l) ∈ H) (hk : ∀ x, (f x).length = k) (hl : l.length = n) : ∃ b, Sl w f k l p n b 0 := by
 obtain ⟨u, r, hat⟩ := At.ofMem hm
 exact Sl.own hs hat hk hl

theorem plnRi_keep {X : PlnX} {w w' : World} {H : HP} (h : PlnRi X w) (hw' : St w [] H w') : PlnRi X w' := by
 obtain ⟨h1, h2, h3, ⟨b4, o4, h4⟩, ⟨b5, o5, h5⟩, ⟨b6, o6, h6⟩⟩ := h
 exact ⟨h1, h2, h3, ⟨b4, o4, h4.keep hw' (by simp)⟩, ⟨b5, o5, h5.keep hw' (by simp)⟩, ⟨b6, o6, h6.keep hw' (by simp)⟩⟩

theorem waveRun_any {N : Net} {C : Chp} {cores : List Int} (hA : AsgOk N C cores) {v : Nat} (hv : v < (wavesF N C cores).length) (tt : List ERow) (htb : tt.map (·.l) = tablesF N C cores) (hen : ∀ t ∈ tablesF N C cores, (t.length : Int) ≤ C.en) (pt : Option Addr) (ct bt ot : Nat) (w : World) (hts : Sl w erV 1 tt pt tt.length bt ot) (htt : ∀ z ∈ tt, ∃ b o, Sl w etyV 3 z.l z.p z.l.length b o)
  (pl : Option Addr) (cl bl ol : Nat) (hpl : Sl w pkV 4 (wvC N C cores v).pk pl (wvC N C cores v).pk.length bl ol) :
  Calls Tryz.prog 44 #[.agg #[.int .i64 C.mesh.wide, .int .i64 C.mesh.high, .int .i64 C.mesh.room], .slice pt tt.length ct, .slice pl (wvC N C cores v).pk.length cl, .int .i64 10000] w fun e w' => ∃ z : Option Addr × Nat × Nat, e = .returned (.tuple #[.agg #[.slice z.1 (wvS N C cores v).arr.length z.2.1, .slice none 0 0, .slice (some ⟨z.2.2, 0, none⟩) (nCores C) (nCores C), .int .i64 0], .int .i64 0]) ∧ (0 < (wvS N C cores v).arr.length → ∃ g, z.1 = some ⟨g, 0, none⟩) ∧ St w [] [.vec z.1 (wvS N C cores v).arr.length z.2.1 112 3 (flat arV (wvS N C cores v).arr)] w' := by
 have hn := nCores_ok hA.plan.chip
 have hfew := hA.plan.few
 have hinp := hA.plan.net.inputs
 have hce := hA.plan.chip.en
 have htl : tt.length = nCores C := by
  have := congrArg List.length htb
  rw [List.length_map] at this
  rw [this]; unfold tablesF; rw [List.length_map, List.length_range]
 have hpkl : (wvC N C cores v).pk.length ≤ nSrc N := by rw [← pkK_all]; exact pkK_len N C cores v (nSrc N)
 have hns : nSrc N ≤ 1024 := by unfold nSrc; omega
 have hpos : 0 < (wvC N C cores v).pk.length := by
  obtain ⟨l, hl⟩ : ∃ l, (wavesF N C cores)[v]? = some l := ⟨_, List.getElem?_eq_getElem hv⟩
  have hne : l ≠ [] := wave_ne (keysM N) [] (by simp) l (List.mem_of_getElem? hl)
  have h1 : (wvC N C cores v).pk.length = (wvK N C cores v).length := List.length_map _
  rw [h1, (wvK_perm hl).length_eq]
  exact List.length_pos_iff.2 hne
 have hz : ∀ z ∈ tt, z.l.length ≤ 1024 ∧ ∀ e ∈ z.l, EtyOk e := fun z hz => by
  have hm : z.l ∈ tablesF N C cores := by rw [← htb]; exact List.mem_map_of_mem (f := (·.l)) hz
  have h1 := hen _ hm
  refine ⟨by omega, ?_⟩
  unfold tablesF at hm
  obtain ⟨r, _, hr⟩ := List.mem_map.1 hm
  rw [← hr]
  exact (tabF_good (T := srcTree N C cores) (fun k => tree_ok _ _ _ _) (keys := keysM N) (fun k hk => by have := (keys_src hk).1; unfold nSrc at *; omega) C.en r).1
 have hsrc : ∀ u ∈ (wvC N C cores v).pk, (u.src : Int) < C.mesh.wide * C.mesh.high ∧ 0 ≤ u.key ∧ u.key ≤ 65535 := fun u hu => by
  obtain ⟨k, hk, rfl⟩ := List.mem_map.1 hu
  have h1 := (keys_src (wvK_keys hk)).1
  have h2 := Gm.home_range hA k h1.1
  refine ⟨?_, h1.1, by unfold nSrc at h1; dsimp only; omega⟩
  show ((homeM N cores k).toNat : Int) < _
  omega
 have hout : ∀ p r, 0 ≤ (wvC N C cores v).outs p r ∧ (wvC N C cores v).outs p r < 32 := fun p r => by
  show 0 ≤ (srcTree N C cores ((wvK N C cores v)[p]?.getD 0))[r]?.getD 0 ∧ (srcTree N C cores ((wvK N C cores v)[p]?.getD 0))[r]?.getD 0 < 32
  cases h : (srcTree N C cores ((wvK N C cores v)[p]?.getD 0))[r]? with
  | none => rw [Option.getD_none]; omega
  | some x => rw [Option.getD_some]; exact (tree_ok _ _ _ _ : OutsOk (srcTree N C cores _)) x (List.mem_of_getElem? h)
 refine (meshRun_any (wvC N C cores v) (wv_ok hA hv).1 hA.plan.chip.mesh hn.1 tt htb.symm htl pt ct bt ot w hts htt hz (by omega) hpos pl cl bl ol hpl hsrc hout 10000 (by omega) (wv_done hA hv)).mono fun e w'' h => ?_
 obtain ⟨z, e1, e2⟩ := h
 exact ⟨z, e1, (vec_facts (e2.own _ List.mem_cons_self)).2.1, e2⟩

theorem PlaceWays_bad (X : PlnX) (cores : List Int) (hcw : ∀ k ∈ cores, I64 k) (p : Option Addr) (c b o : Nat) (w : World) (hX : PlnRi X w) (h1 : Sl w intV 1 cores p cores.length b o) (he : mapErr X.N X.C cores ≠ 0) :
  Calls Tryz.prog 14 #[.agg X.net.toArray, .agg (chpC X.C X.pd X.cd).toArray, .slice p cores.length c] w fun e w' => e = .returned (.bool true) ∧ St w [] [] w' := by
 have hf := fun (w' : World) => few7_any X w'
 have g1 := fun hl (w' : World) h => placeMap_any X w' h cores hcw hl p c b o
 obtain ⟨R, hR⟩ : ∃ R, mapRes X.N X.C cores = R := ⟨_, rfl⟩
 obtain ⟨E, hE⟩ : ∃ E, mapErr X.N X.C cores = E := ⟨_, rfl⟩
 rw [hR, hE] at g1
 rw [hE] at he
 simp only [mapV, quantC, List.cons_append, List.nil_append] at g1
 unfold PlnX.net chpC at hf g1
 unfold PlnX.net chpC
 refine enter (C := Tryz.cx) (F := Tryz.fx14) (args := [_, _, _]) Tryz.func14 rfl rfl rfl Tryz.ok14 (St.start w []) ?_
 repeat' (conv => whnf); first | (refine VNew.mk fun bb => ?_) | (refine VCall.isF 31 ?_; refine VCall.inl (F := Tryz.fx31) Tryz.func31 rfl rfl rfl Tryz.ok31 ?_) | (refine VCall.isF 15 ?_; (refine VCall.valR (fun w' _ => works7_any w') ?_)) | (refine VCall.isF 19 ?_; (refine VCall.genR (fun w' hw' => hf w') ?_; rintro r hrr)) | (refine VCall.isF 26 ?_; (refine VCall.genR (fun w' hw' => g1 (by omega) w' (hX.rd hw' (by have := hrr.1 rfl; omega)) (h1.keep hw' (by simp))) ?_; rintro y hy)) | (refine VSeq.go ?_) | (refine VB.is ?_; refine VB.no (by omega) fun _ => ?_) | (refine VB.split (fun _ => ?_) (fun _ => ?_)) | (refine boolE_split (fun h => ?_) (fun h => ?_) <;> subst h) | (refine VLd.is ?_; refine VLd.mk (.row aT (by rfl)) ?_) | (refine VSt.is ?_; refine VSt.row aT (by rfl) (by first | rfl | assumption) ?_)
 all_goals (conv => whnf)
 all_goals exact ⟨fun w' hw' => ⟨rfl, hw'.le .nil⟩⟩

structure WysIs (N : Net) (C : Chp) (cores : List Int) (y : MapP) : Prop where
 tabs : y.tt.map (·.l) = tablesF N C cores
 okT : ∀ r ∈ y.tt, r.ok
 pt : ∃ g, y.pt = some ⟨g, 0, none⟩
 pw : 0 < nSrc N → ∃ g, y.pw = some ⟨g, 0, none⟩

set_option maxHeartbeats 8000000 in
theorem PlaceWays_good (X : PlnX) (cores : List Int) (hcw : ∀ k ∈ cores, I64 k) (p : Option Addr) (c b o : Nat) (w : World) (hX : PlnRi X w) (h1 : Sl w intV 1 cores p cores.length b o) (he : mapErr X.N X.C cores = 0) :
  Calls Tryz.prog 14 #[.agg X.net.toArray, .agg (chpC X.C X.pd X.cd).toArray, .slice p cores.length c] w fun e w' => e = .returned (.bool true) ∧ St w [] [] w' := by
 have hf := fun (w' : World) => few7_any X w'
 have g1 := fun hl (w' : World) h => placeMap_any X w' h cores hcw hl p c b o
 have hasg : asgE X.N X.C cores = 0 := by
  refine Decidable.byContradiction fun hn => hn ?_
  unfold mapErr at he
  rw [if_pos hn] at he
  exact he
 have hA := asgE_zero hasg
 have hOk := hA.plan.net
 have hbits := hA.plan.chip.bits
 have hhalf := half_ok hbits
 obtain ⟨half, hhf⟩ : ∃ half, halfM X.C.bits = half := ⟨_, rfl⟩
 rw [hhf] at hhalf
 have hq0 : qErr X.N X.C.bits = 0 := by
  unfold qErr
  rw [netchk_zero.2 hOk, if_neg (by simp), if_neg (by omega)]
 have hres : quantRes X.N X.C.bits = ⟨X.N.ps, X.N.inputs, X.N.syns.map (synQ (scalesM X.N half)), scalesM X.N half, X.N.syns.map (quotS (scalesM X.N half)), errsM (scalesM X.N half) X.N.syns X.N.ps.length, X.N.syns.all fun s => decide (offS (scalesM X.N half) s = 0)⟩ := by
  unfold quantRes
  rw [if_neg (by omega), ← hhf]
  rfl
 have hqb := fun s hs => quot_bounds hOk hhalf (s := s) hs
 have hF := qfacts (N := X.N) (wts_of hOk) (fun s hs => by have := (hOk.syns s hs).2.1; omega) hhalf.1
 obtain ⟨hcells, hn1, hn64⟩ := nCores_ok hA.plan.chip
 obtain ⟨n, hn⟩ : ∃ n, nCores X.C = n := ⟨_, rfl⟩
 rw [hn] at hcells hn1 hn64
 have hcl := hA.len
 have hcfew := hOk.few
 have hcsome := hOk.some
 have hfits := hA.fits
 have htabs : ∀ t ∈ tablesF X.N X.C cores, (t.length : Int) ≤ X.C.en := fun t ht => by
  refine Decidable.byContradiction fun hb => ?_
  unfold mapErr at he
  rw [if_neg (by rw [hasg]; simp), if_pos ⟨t, ht, hb⟩] at he
  exact absurd he (by decide)
 have hmr : mapRes X.N X.C cores = ⟨cores, slotsM cores, quantRes X.N X.C.bits, (List.range (nCores X.C)).map fun (k : Nat) => rowsM X.N cores (synQs X.N (quantRes X.N X.C.bits).quots) (k : Int), tablesF X.N X.C cores,
  (List.range (nSrc X.N)).map fun (k : Nat) => waveOf (wavesF X.N X.C cores) (k : Int), (costM X.N X.C cores : Int), (mostM ((keysM X.N).map (srcTree X.N X.C cores)) : Int), (stepsM X.C.mesh.wide (srcTree X.N X.C cores) (homeM X.N cores) (coresM X.N X.C cores) (wavesF X.N X.C cores) : Int)⟩ := by
  unfold mapRes
  rw [if_neg (by rw [he]; simp)]
 rw [hres] at hmr
 dsimp only at hmr
 rw [hn] at hmr
 obtain ⟨Z, hZ⟩ : ∃ Z, scalesM X.N half = Z := ⟨_, rfl⟩
 rw [hZ] at hmr hqb hF
 have hZl := hF.len
 have hsll : (slotsM cores).length = cores.length := by unfold slotsM; rw [List.length_map, List.length_range]
 have htl : (tablesF X.N X.C cores).length = n := by unfold tablesF; rw [List.length_map, List.length_range, hn]
 rw [hmr, he] at g1
 obtain ⟨ns, hns⟩ : ∃ ns, nSrc X.N = ns := ⟨_, rfl⟩
 have hinp := hOk.inputs
 have hfewS := hA.plan.few
 have hns2 : (ns : Int) = X.N.ps.length + X.N.inputs := by rw [← hns]; unfold nSrc; omega
 have hwavL : (List.range (nSrc X.N)).map (fun (k : Nat) => waveOf (wavesF X.N X.C cores) (k : Int)) = wavL X.N X.C cores := rfl
 rw [hwavL] at g1
 have hwvl : (wavL X.N X.C cores).length = ns := by unfold wavL; rw [List.length_map, List.length_range, hns]
 obtain ⟨stp, hstp⟩ : ∃ stp, stepsM X.C.mesh.wide (srcTree X.N X.C cores) (homeM X.N cores) (coresM X.N X.C cores) (wavesF X.N X.C cores) = stp := ⟨_, rfl⟩
 rw [hstp] at g1
 have hg : ∃ (lp lq le : Nat) (ex : Bool) (co lo : Int), ∀ (hl : cores.length ≤ 1000000) (w' : World), PlnRd X w' → Sl w' intV 1 cores p cores.length b o → Calls Tryz.prog 26 #[.agg X.net.toArray, .agg (chpC X.C X.pd X.cd).toArray, .slice p cores.length c] w' fun e w'' => ∃ y : MapP, e = .returned (.tuple #[.agg #[.slice y.pc cores.length y.cc, .slice y.ps cores.length y.cs, .slice y.y.pp lp y.y.cp, .int .i64 X.N.inputs, .slice y.y.ps X.N.syns.length y.y.cs, .slice y.y.pz cores.length y.y.cz, .slice y.y.pq lq y.y.cq, .slice y.y.pe le y.y.ce, .bool ex, .slice y.pr n y.cr, .slice y.pt n y.ct, .slice y.pw ns y.cw, .int .i64 co, .int .i64 lo, .int .i64 (stp : Int)], .int .i64 0]) ∧ WysIs X.N X.C cores y ∧ St w' [] (.vec y.pc cores.length y.cc 3 1 (flat intV cores) :: .vec y.pt n y.ct 84 1 (flat erV y.tt) :: .vec y.pw ns y.cw 3 1 (flat intV (wavL X.N X.C cores)) :: y.tt.map erE) w'' := by
  refine ⟨X.N.ps.length, X.N.syns.length, X.N.ps.length, (X.N.syns.all fun s => decide (offS Z s = 0)), (costM X.N X.C cores : Int), (mostM ((keysM X.N).map (srcTree X.N X.C cores)) : Int), fun hl w' h2 h3 => (g1 hl w' h2 h3).mono fun e w'' ⟨y, e1, hy, e3⟩ => ?_⟩
  have hrl : y.rr.length = n := by
   have := congrArg List.length hy.rows
   simpa using this
  have htl2 : y.tt.length = n := by
   have := congrArg List.length hy.tables
   rw [List.length_map] at this
   rw [this]; exact htl
  have hqe : (errsM Z X.N.syns X.N.ps.length).length = X.N.ps.length := by unfold errsM; simp
  unfold mapH quantH at e3
  dsimp only at e3
  simp only [List.length_map, List.length_range, hsll, hrl, htl2, hZl, hqe, hwvl, ← hcl] at e3
  refine ⟨y, ?_, ⟨hy.tables, hy.okT, ?_, ?_⟩, e3.le (by simp only [List.cons_append, List.nil_append]; exact aH)⟩
  ·rw [e1]
   unfold mapV quantC
   dsimp only
   simp only [List.length_map, List.length_range, hsll, hrl, htl2, hZl, hqe, hwvl, hcl]
   rfl
  ·exact (vec_facts (e3.own (.vec y.pt n y.ct 84 1 (flat erV y.tt)) (by simp))).2.1 (by omega)
  ·intro h0
   exact (vec_facts (e3.own (.vec y.pw ns y.cw 3 1 (flat intV (wavL X.N X.C cores))) (by simp))).2.1 (by omega)
 obtain ⟨lp, lq, le, ex, co, lo, hg⟩ := hg
 clear g1 hmr
 have hwmax := wavL_max X.N X.C cores
 have hwfew := waves_few X.N X.C cores
 obtain ⟨WV, hWV⟩ : ∃ WV, wavL X.N X.C cores = WV := ⟨_, rfl⟩
 rw [hWV] at hg hwmax hwvl
 obtain ⟨nw, hnw⟩ : ∃ nw, (wavesF X.N X.C cores).length = nw := ⟨_, rfl⟩
 rw [hnw] at hwmax hwfew
 unfold PlnX.net chpC at hf hg
 unfold PlnX.net chpC
 refine enter (C := Tryz.cx) (F := Tryz.fx14) (args := [_, _, _]) Tryz.func14 rfl rfl rfl Tryz.ok14 (St.start w []) ?_
 refine VSeq.go ?_
 repeat' (conv => whnf); first | (refine VNew.mk fun b4 => ?_)
 all_goals (conv => whnf)
 rename_i b3
 repeat' (conv => whnf); first | (refine VSeq.is ?_; refine VSeq.isN 7 rfl ?_; refine VSeq.cut (at_ := 7) (α := Nat × MapP) (fun z => WysIs X.N X.C cores z.2) (fun z => [(1000000, .tuple #[]), (3, .pointer (some ⟨b3, 0, none⟩)), (4, .pointer (some ⟨b4, 0, none⟩)), (6, .bool false), (7, .pointer (some ⟨z.1, 0, none⟩)), (9, .int .i64 ((X.N.ps.length : Int) + X.N.inputs))]) (fun z => .row b3 39 [.slice X.pn X.N.ps.length X.cn, .int .i64 X.N.inputs, .slice X.qs X.N.syns.length X.cs] :: .row b4 26 [.int .i64 X.C.mesh.wide, .int .i64 X.C.mesh.high, .int .i64 X.C.mesh.room, .int .i64 X.C.nr, .int .i64 X.C.sy, .int .i64 X.C.en, .int .i64 X.C.bits, .slice X.pd X.C.dead.length X.cd] :: .row z.1 57 [.slice z.2.pc cores.length z.2.cc, .slice z.2.ps cores.length z.2.cs, .slice z.2.y.pp lp z.2.y.cp, .int .i64 X.N.inputs, .slice z.2.y.ps X.N.syns.length z.2.y.cs, .slice z.2.y.pz cores.length z.2.y.cz, .slice z.2.y.pq lq z.2.y.cq, .slice z.2.y.pe le z.2.y.ce, .bool ex, .slice z.2.pr n z.2.cr, .slice z.2.pt n z.2.ct, .slice z.2.pw ns z.2.cw, .int .i64 co, .int .i64 lo, .int .i64 (stp : Int)] :: (.vec z.2.pc cores.length z.2.cc 3 1 (flat intV cores) :: .vec z.2.pt n z.2.ct 84 1 (flat erV z.2.tt) :: .vec z.2.pw ns z.2.cw 3 1 (flat intV WV) :: z.2.tt.map erE)) ?_ ?_) | (refine VNew.mk fun bb => ?_) | (refine VCall.isF 31 ?_; refine VCall.inl (F := Tryz.fx31) Tryz.func31 rfl rfl rfl Tryz.ok31 ?_) | (refine VCall.isF 15 ?_; (refine VCall.valR (fun w' _ => works7_any w') ?_)) | (refine VCall.isF 19 ?_; (refine VCall.genR (fun w' hw' => hf w') ?_; rintro r hrr)) | (refine VCall.isF 26 ?_; (refine VCall.genR (fun w' hw' => hg (by omega) w' (hX.rd hw' (by have := hrr.1 rfl; omega)) (h1.keep hw' (by simp))) ?_; rintro y hy)) | (refine VSeq.go ?_) | (refine VB.is ?_; refine VB.yes (by omega) fun _ => ?_) | (refine VB.is ?_; refine VB.no (by omega) fun _ => ?_) | (refine VB.split (fun _ => ?_) (fun _ => ?_)) | (refine boolE_split (fun h => ?_) (fun h => ?_) <;> subst h) | (refine VLd.is ?_; refine VLd.mk (.row aT (by rfl)) ?_) | (refine VSt.is ?_; refine VSt.row aT (by rfl) (by first | rfl | assumption) ?_) | (refine VAr.is ?_; refine oA ?_)
 all_goals (conv => whnf)
 any_goals first
  | exact VMid.mk (bb, y) hy aE aH
  | exact VRet.mk fun w' hw' => ⟨rfl, hw'.le .nil⟩
  | fail
 rintro ⟨b7, y⟩ ⟨htb, hokT, ⟨gt, hgt⟩, hgw⟩
 dsimp only at htb hokT hgt hgw ⊢
 clear hf hg hasg he
 rw [hgt, ← hns2]
 rw [hns] at hgw
 have htn : y.tt.length = n := by
  have := congrArg List.length htb
  rw [List.length_map] at this
  rw [this]; exact htl
 have hmx0 : (WV.take 0).foldl max (-1) = (-1 : Int) := rfl
 have hWVg : ∀ {k : Nat}, k < ns → WV[k]? = some (waveOf (wavesF X.N X.C cores) (k : Int)) := fun hk => by rw [← hWV]; exact wavL_get (by omega)
 have hwb := fun (k : Nat) => waveOf_ge (wavesF X.N X.C cores) (k : Int)
 rw [hnw] at hwb
 repeat' (conv => whnf); first | (refine VSeq.go ?_) | (refine VB.is ?_; refine VB.yes (by omega) fun _ => ?_) | (refine VB.is ?_; refine VB.no (by omega) fun _ => ?_) | (refine VLd.is ?_; refine VLd.mk (.row aT (by rfl)) ?_) | (refine VAr.is ?_; refine oA ?_)
 all_goals (conv => whnf)
 refine VLoop.mk (α := Nat) (fun k => k ≤ ns ∧ -1 ≤ (WV.take k).foldl max (-1) ∧ (WV.take k).foldl max (-1) ≤ 256) (fun k => [(1000000, .tuple #[]), (3, .pointer (some ⟨b3, 0, none⟩)), (4, .pointer (some ⟨b4, 0, none⟩)), (6, .bool false), (7, .pointer (some ⟨b7, 0, none⟩)), (9, .int .i64 (ns : Int)), (10, .int .i64 ((WV.take k).foldl max (-1))), (11, .int .i64 0), (12, .int .i64 (k : Int))]) (fun k => .row b3 39 [.slice X.pn X.N.ps.length X.cn, .int .i64 X.N.inputs, .slice X.qs X.N.syns.length X.cs] :: .row b4 26 [.int .i64 X.C.mesh.wide, .int .i64 X.C.mesh.high, .int .i64 X.C.mesh.room, .int .i64 X.C.nr, .int .i64 X.C.sy, .int .i64 X.C.en, .int .i64 X.C.bits, .slice X.pd X.C.dead.length X.cd] :: .row b7 57 [.slice y.pc cores.length y.cc, .slice y.ps cores.length y.cs, .slice y.y.pp lp y.y.cp, .int .i64 X.N.inputs, .slice y.y.ps X.N.syns.length y.y.cs, .slice y.y.pz cores.length y.y.cz, .slice y.y.pq lq y.y.cq, .slice y.y.pe le y.y.ce, .bool ex, .slice y.pr n y.cr, .slice (some ⟨gt, 0, none⟩) n y.ct, .slice y.pw ns y.cw, .int .i64 co, .int .i64 lo, .int .i64 (stp : Int)] :: (.vec y.pc cores.length y.cc 3 1 (flat intV cores) :: .vec (some ⟨gt, 0, none⟩) n y.ct 84 1 (flat erV y.tt) :: .vec y.pw ns y.cw 3 1 (flat intV WV) :: y.tt.map erE)) (fun k => ns - k) 0 ⟨Nat.zero_le _, by rw [hmx0]; omega⟩ aE aH ?_
 rintro k ⟨hk, hm1, hm2⟩
 rcases Nat.lt_or_ge k ns with hlt | hge
 ·obtain ⟨gw, rfl'⟩ := hgw (by omega)
  rw [rfl']
  have hwg := hWVg hlt
  have hwk := hwb k
  obtain ⟨wk, hwke⟩ : ∃ wk, waveOf (wavesF X.N X.C cores) (k : Int) = wk := ⟨_, rfl⟩
  rw [hwke] at hwg hwk
  have hnx : (WV.take (k + 1)).foldl max (-1) = max ((WV.take k).foldl max (-1)) wk := by rw [take_snoc hwg, List.foldl_append]; rfl
  obtain ⟨mx, hmx⟩ : ∃ mx, (WV.take k).foldl max (-1) = mx := ⟨_, rfl⟩
  rw [hmx] at hm1 hm2 hnx ⊢
  repeat' (conv => whnf); first | (refine VIx.is ?_; refine VIx.mk rfl (by omega) (by omega) ?_) | (refine VLd.is ?_; refine VLd.mk (Rd.cast (.vec aT (sub_flat0 (f := intV) (k := 1) (fun _ => rfl) hwg rfl)) (by first | omega | (dsimp only; omega) | rfl)) ?_) | (refine VSeq.go ?_) | (refine VB.is ?_; refine VB.yes (by omega) fun _ => ?_) | (refine VB.is ?_; refine VB.no (by omega) fun _ => ?_) | (refine VLd.is ?_; refine VLd.mk (.row aT (by rfl)) ?_) | (refine VAr.is ?_; refine oA ?_)
  all_goals (conv => whnf)
  exact VNext.mk (k + 1) ⟨by omega, by rw [hnx]; omega, by rw [hnx]; omega⟩ (by omega) (by rw [hnx]; exact aE) aH
 have hke : ns = k := by omega
 subst hke
 have hta : WV.take ns = WV := List.take_of_length_le (by omega)
 rw [hta, hwmax]
 clear hm1 hm2
 have hcells2 := hcells
 have hls0 : lastS X.N X.C cores 0 = 0 := rfl
 repeat' (conv => whnf); first | (refine VSeq.go ?_) | (refine VB.is ?_; refine VB.yes (by omega) fun _ => ?_) | (refine VB.is ?_; refine VB.no (by omega) fun _ => ?_) | (refine VLd.is ?_; refine VLd.mk (.row aT (by rfl)) ?_) | (refine VAr.is ?_; refine oA ?_)
 all_goals (conv => whnf)
 refine VLoop.mk (α := Nat) (fun v => v ≤ nw) (fun v => [(1000000, .tuple #[]), (3, .pointer (some ⟨b3, 0, none⟩)), (4, .pointer (some ⟨b4, 0, none⟩)), (6, .bool false), (7, .pointer (some ⟨b7, 0, none⟩)), (9, .int .i64 (ns : Int)), (10, .int .i64 ((nw : Int) - 1)), (11, .int .i64 (lastS X.N X.C cores v : Int)), (13, .int .i64 (v : Int))]) (fun v => .row b3 39 [.slice X.pn X.N.ps.length X.cn, .int .i64 X.N.inputs, .slice X.qs X.N.syns.length X.cs] :: .row b4 26 [.int .i64 X.C.mesh.wide, .int .i64 X.C.mesh.high, .int .i64 X.C.mesh.room, .int .i64 X.C.nr, .int .i64 X.C.sy, .int .i64 X.C.en, .int .i64 X.C.bits, .slice X.pd X.C.dead.length X.cd] :: .row b7 57 [.slice y.pc cores.length y.cc, .slice y.ps cores.length y.cs, .slice y.y.pp lp y.y.cp, .int .i64 X.N.inputs, .slice y.y.ps X.N.syns.length y.y.cs, .slice y.y.pz cores.length y.y.cz, .slice y.y.pq lq y.y.cq, .slice y.y.pe le y.y.ce, .bool ex, .slice y.pr n y.cr, .slice (some ⟨gt, 0, none⟩) n y.ct, .slice y.pw ns y.cw, .int .i64 co, .int .i64 lo, .int .i64 (stp : Int)] :: (.vec y.pc cores.length y.cc 3 1 (flat intV cores) :: .vec (some ⟨gt, 0, none⟩) n y.ct 84 1 (flat erV y.tt) :: .vec y.pw ns y.cw 3 1 (flat intV WV) :: y.tt.map erE)) (fun v => nw - v) 0 (Nat.zero_le _) (by rw [hls0]; exact aE) aH ?_
 rintro v hv
 rcases Nat.lt_or_ge v nw with hvl | hvg
 ·obtain ⟨gw, hgw2⟩ := hgw (by omega)
  rw [hgw2]
  have hp0 : pkK X.N X.C cores v 0 = [] := rfl
  have hlsb := (lastS_le hA v (by omega)).2
  have hlw := (lastT_wave hA (w := v) (by omega)).2
  repeat' (conv => whnf); first | (refine VSeq.go ?_) | (refine VB.is ?_; refine VB.yes (by omega) fun _ => ?_) | (refine VB.is ?_; refine VB.no (by omega) fun _ => ?_) | (refine VLd.is ?_; refine VLd.mk (.row aT (by rfl)) ?_) | (refine VAr.is ?_; refine oA ?_)
  all_goals (conv => whnf)
  refine VLoop.mk (α := Nat × Option Addr × Nat) (fun x => x.1 ≤ ns ∧ (0 < (pkK X.N X.C cores v x.1).length → ∃ g, x.2.1 = some ⟨g, 0, none⟩)) (fun x => [(1000000, .tuple #[]), (3, .pointer (some ⟨b3, 0, none⟩)), (4, .pointer (some ⟨b4, 0, none⟩)), (6, .bool false), (7, .pointer (some ⟨b7, 0, none⟩)), (9, .int .i64 (ns : Int)), (10, .int .i64 ((nw : Int) - 1)), (11, .int .i64 (lastS X.N X.C cores v : Int)), (13, .int .i64 (v : Int)), (14, .slice x.2.1 (pkK X.N X.C cores v x.1).length x.2.2), (15, .int .i64 (x.1 : Int))])
   (fun x => .vec x.2.1 (pkK X.N X.C cores v x.1).length x.2.2 102 4 (flat pkV (pkK X.N X.C cores v x.1)) :: .row b3 39 [.slice X.pn X.N.ps.length X.cn, .int .i64 X.N.inputs, .slice X.qs X.N.syns.length X.cs] :: .row b4 26 [.int .i64 X.C.mesh.wide, .int .i64 X.C.mesh.high, .int .i64 X.C.mesh.room, .int .i64 X.C.nr, .int .i64 X.C.sy, .int .i64 X.C.en, .int .i64 X.C.bits, .slice X.pd X.C.dead.length X.cd] :: .row b7 57 [.slice y.pc cores.length y.cc, .slice y.ps cores.length y.cs, .slice y.y.pp lp y.y.cp, .int .i64 X.N.inputs, .slice y.y.ps X.N.syns.length y.y.cs, .slice y.y.pz cores.length y.y.cz, .slice y.y.pq lq y.y.cq, .slice y.y.pe le y.y.ce, .bool ex, .slice y.pr n y.cr, .slice (some ⟨gt, 0, none⟩) n y.ct, .slice (some ⟨gw, 0, none⟩) ns y.cw, .int .i64 co, .int .i64 lo, .int .i64 (stp : Int)] :: (.vec y.pc cores.length y.cc 3 1 (flat intV cores) :: .vec (some ⟨gt, 0, none⟩) n y.ct 84 1 (flat erV y.tt) :: .vec (some ⟨gw, 0, none⟩) ns y.cw 3 1 (flat intV WV) :: y.tt.map erE)) (fun x => ns - x.1) (0, none, 0) ⟨Nat.zero_le _, fun h => absurd h (by simp [hp0])⟩ (by dsimp only; rw [hp0]; exact aE) ?_ ?_
  ·dsimp only
   rw [hp0]
   refine HLe.trans ?_ (HLe.nilv (e := 102) (size := 4) (.refl _))
   exact aH
  rintro ⟨k, q, d⟩ ⟨hk, hqq⟩
  dsimp only at hk hqq ⊢
  rcases Nat.lt_or_ge k ns with hlt | hge
  ·have hwg := hWVg hlt
   have hwk := hwb k
   have hnx := pkK_next X.N X.C cores v k
   have hpl := pkK_len X.N X.C cores v k
   by_cases hwv : waveOf (wavesF X.N X.C cores) (k : Int) = (v : Int)
   ·rw [if_pos hwv] at hnx
    rw [hwv] at hwg
    obtain ⟨hh1, hh2⟩ := Gm.home_range hA (k : Int) (by omega)
    obtain ⟨hm, hhm⟩ : ∃ hm : Nat, homeM X.N cores (k : Int) = (hm : Int) := ⟨_, (Int.toNat_of_nonneg hh1).symm⟩
    have hho := fun (w' : World) (bc : Nat) (h : Sl w' intV 1 cores y.pc cores.length bc 0) => home7_any X.N cores hcl (by omega) y.pc y.cc bc 0 w' h (.slice y.ps cores.length y.cs) (.slice y.y.pp lp y.y.cp) (.int .i64 X.N.inputs) (.slice y.y.ps X.N.syns.length y.y.cs) (.slice y.y.pz cores.length y.y.cz) (.slice y.y.pq lq y.y.cq) (.slice y.y.pe le y.y.ce) (.bool ex) (.slice y.pr n y.cr) (.slice (some ⟨gt, 0, none⟩) n y.ct) (.slice (some ⟨gw, 0, none⟩) ns y.cw) (.int .i64 co) (.int .i64 lo) (.int .i64 (stp : Int)) rfl k (by omega)
    rw [hhm] at hho
    rw [hhm, Int.toNat_natCast] at hnx
    have hfl : flat pkV (pkK X.N X.C cores v (k + 1)) = flat pkV (pkK X.N X.C cores v k) ++ [.int .i64 0, .int .i64 (hm : Int), .int .i64 (k : Int), .int .i64 0] := by rw [hnx, flat_append]; rfl
    have hfll : (pkK X.N X.C cores v (k + 1)).length = (pkK X.N X.C cores v k).length + 1 := by rw [hnx, List.length_append]; rfl
    repeat' (conv => whnf); first | (refine VIx.is ?_; refine VIx.mk rfl (by omega) (by omega) ?_) | (refine VLd.is ?_; refine VLd.mk (Rd.cast (.vec aT (sub_flat0 (f := intV) (k := 1) (fun _ => rfl) hwg rfl)) (by first | omega | (dsimp only; omega) | rfl)) ?_) | (refine VCall.isF 43 ?_; (refine VCall.valR (fun w' hw' => Exists.elim (Sl.own (f := intV) (l := cores) (p := y.pc) (cap := y.cc) (k := 1) hw' aT (fun _ => rfl) rfl) fun bc hbc => hho w' bc hbc) ?_)) | (refine VNew.mk fun bn => ?_) | (refine VAp.is ?_; refine VAp.own aT (.at_ (.vec aT rfl)) (by simp [Value.oneCell']) (by (try dsimp only); omega) (by simp only [maxLen]; omega) fun p' c' hp' => ?_) | (refine VSeq.go ?_) | (refine VB.is ?_; refine VB.yes (by omega) fun _ => ?_) | (refine VLd.is ?_; refine VLd.mk (.row aT (by rfl)) ?_) | (refine VAr.is ?_; refine oA ?_)
    all_goals (conv => whnf)
    exact VNext.mk (k + 1, p', c') ⟨by dsimp only; omega, fun _ => hp' (by omega)⟩ (by dsimp only; omega) (by dsimp only; rw [hfll]; exact aE) (by dsimp only; rw [hfll, hfl]; exact aH)
   ·rw [if_neg hwv, List.append_nil] at hnx
    obtain ⟨wk, hwke⟩ : ∃ wk, waveOf (wavesF X.N X.C cores) (k : Int) = wk := ⟨_, rfl⟩
    rw [hwke] at hwg hwk hwv
    repeat' (conv => whnf); first | (refine VIx.is ?_; refine VIx.mk rfl (by omega) (by omega) ?_) | (refine VLd.is ?_; refine VLd.mk (Rd.cast (.vec aT (sub_flat0 (f := intV) (k := 1) (fun _ => rfl) hwg rfl)) (by first | omega | (dsimp only; omega) | rfl)) ?_) | (refine VSeq.go ?_) | (refine VB.is ?_; refine VB.yes (by omega) fun _ => ?_) | (refine VB.is ?_; refine VB.no (by omega) fun _ => ?_) | (refine VLd.is ?_; refine VLd.mk (.row aT (by rfl)) ?_) | (refine VAr.is ?_; refine oA ?_)
    all_goals (conv => whnf)
    exact VNext.mk (k + 1, q, d) ⟨by dsimp only; omega, by dsimp only; rw [hnx]; exact hqq⟩ (by dsimp only; omega) (by dsimp only; rw [hnx]; exact aE) (by dsimp only; rw [hnx]; exact aH)
  have hke : ns = k := by omega
  subst hke
  have hpka := pkK_all X.N X.C cores v
  rw [hns] at hpka
  have hpkl := pkK_len X.N X.C cores v ns
  rw [hpka] at hpkl hqq ⊢
  have hvw : v < (wavesF X.N X.C cores).length := by omega
  have hpkpos : 0 < (wvC X.N X.C cores v).pk.length := by
   obtain ⟨l, hl⟩ : ∃ l, (wavesF X.N X.C cores)[v]? = some l := ⟨_, List.getElem?_eq_getElem hvw⟩
   have hne : l ≠ [] := wave_ne (keysM X.N) [] (by simp) l (List.mem_of_getElem? hl)
   have h1 : (wvC X.N X.C cores v).pk.length = (wvK X.N X.C cores v).length := List.length_map _
   rw [h1, (wvK_perm hl).length_eq]
   exact List.length_pos_iff.2 hne
  have hrun := fun (w' : World) (bt bl : Nat) h1 h2 h3 => waveRun_any hA hvw y.tt htb htabs (some ⟨gt, 0, none⟩) y.ct bt 0 w' h1 h2 q d bl 0 h3
  rw [htn, hn] at hrun
  have hwant := fun {i : Nat} {key : Int} (h : (wvK X.N X.C cores v)[i]? = some key) => wave_want hA hvw h
  have harl : (wvS X.N X.C cores v).arr.length ≤ 1000000 := by
   obtain ⟨ent, snt, h⟩ := run_inv (wv_ok hA hvw).1 10000
   have h2 := h.arr_few
   have h3 : (wvC X.N X.C cores v).pk.length * (wvC X.N X.C cores v).n ≤ 1024 * 64 := Nat.mul_le_mul (by omega) (by show nCores X.C ≤ 64; omega)
   exact Nat.le_trans h2 (by omega)
  have hain : ∀ a ∈ (wvS X.N X.C cores v).arr, a.2.1 < nCores X.C := fun a ha => ((wv_done hA hvw).ar a.1 a.2.1 a.2.2 ha).2.1
  have hpkg : ∀ {i : Nat}, i < (wvC X.N X.C cores v).pk.length → ∃ (u : Pkt) (key : Int), (wvC X.N X.C cores v).pk[i]? = some u ∧ u.key = key ∧ (wvK X.N X.C cores v)[i]? = some key ∧ 0 ≤ key ∧ key ≤ 65535 := fun {i} hi => by
   have h1 : (wvC X.N X.C cores v).pk.length = (wvK X.N X.C cores v).length := List.length_map _
   obtain ⟨key, hk⟩ : ∃ key, (wvK X.N X.C cores v)[i]? = some key := ⟨_, List.getElem?_eq_getElem (by omega)⟩
   have h2 : (wvC X.N X.C cores v).pk[i]? = some ⟨(homeM X.N cores key).toNat, key⟩ := by
    show ((wvK X.N X.C cores v).map fun k => (⟨(homeM X.N cores k).toNat, k⟩ : Pkt))[i]? = _
    rw [List.getElem?_map, hk]; rfl
   have h3 := (keys_src (wvK_keys (List.mem_of_getElem? hk))).1
   exact ⟨_, key, h2, rfl, hk, h3.1, by omega⟩
  have hlsn := lastS_next X.N X.C cores v
  have har960 : ∀ a ∈ (wvS X.N X.C cores v).arr, a.2.2 ≤ 960 := fun a ha => by
   have h1 := wv_time hA hvw (p := a.1) (r := a.2.1) (t := a.2.2) ha
   obtain ⟨_, h2, h3⟩ := wv_ok hA hvw
   have : (wvD X.N X.C cores v + 1) * wvL X.N X.C cores v ≤ 15 * 64 := Nat.mul_le_mul (by omega) h2
   omega
  obtain ⟨PK, hPK⟩ : ∃ PK, (wvC X.N X.C cores v).pk = PK := ⟨_, rfl⟩
  obtain ⟨AR, hAR⟩ : ∃ AR, (wvS X.N X.C cores v).arr = AR := ⟨_, rfl⟩
  rw [hPK] at hpkl hpkpos hrun hpkg hqq ⊢
  rw [hAR] at hrun hwant harl hain hlsn hlw har960
  repeat' (conv => whnf); first | (refine VCall.isF 44 ?_; (refine VCall.genR (fun w' hw' => Exists.elim (Sl.own (f := erV) (l := y.tt) (k := 1) hw' aT (fun _ => rfl) htn) fun bt hbt => Exists.elim (Sl.own (f := pkV) (l := PK) (k := 4) hw' aT (fun _ => rfl) rfl) fun bl hbl => hrun w' bt bl hbt (fun z hz => Exists.elim (Sl.ownW (f := etyV) (l := z.l) (p := z.p) (cap := z.c) (e := 98) (k := 3) hw' (by (repeat (first | exact (List.mem_map_of_mem (f := erE) hz) | exact List.mem_append_left _ (List.mem_map_of_mem (f := erE) hz) | apply List.mem_cons_of_mem | apply List.mem_append_right)); first | done | fail) (fun _ => rfl) rfl) fun b h => ⟨b, 0, h⟩) hbl) ?_; rintro ⟨pa, ca, mb⟩ hpaa; dsimp only at hpaa ⊢)) | (refine VNew.mk fun b16 => ?_) | (refine VSeq.go ?_) | (refine VB.is ?_; refine VB.no (by omega) fun _ => ?_) | (refine VLd.is ?_; refine VLd.mk (.row aT (by rfl)) ?_) | (refine VSt.is ?_; refine VSt.row aT (by rfl) (by first | rfl | assumption) ?_)
  all_goals (conv => whnf)
  refine VLoop.mk (α := Nat) (fun i => i ≤ PK.length) (fun i => [(1000000, .tuple #[]), (3, .pointer (some ⟨b3, 0, none⟩)), (4, .pointer (some ⟨b4, 0, none⟩)), (6, .bool false), (7, .pointer (some ⟨b7, 0, none⟩)), (9, .int .i64 (ns : Int)), (10, .int .i64 ((nw : Int) - 1)), (11, .int .i64 (lastS X.N X.C cores v : Int)), (13, .int .i64 (v : Int)), (14, .slice q PK.length d), (16, .pointer (some ⟨b16, 0, none⟩)), (18, .int .i64 0), (19, .int .i64 (i : Int))])
   (fun i => .row b16 107 [.slice pa AR.length ca, .slice none 0 0, .slice (some ⟨mb, 0, none⟩) n n, .int .i64 0] :: .vec pa AR.length ca 112 3 (flat arV AR) :: .vec q PK.length d 102 4 (flat pkV PK) :: .row b3 39 [.slice X.pn X.N.ps.length X.cn, .int .i64 X.N.inputs, .slice X.qs X.N.syns.length X.cs] :: .row b4 26 [.int .i64 X.C.mesh.wide, .int .i64 X.C.mesh.high, .int .i64 X.C.mesh.room, .int .i64 X.C.nr, .int .i64 X.C.sy, .int .i64 X.C.en, .int .i64 X.C.bits, .slice X.pd X.C.dead.length X.cd] :: .row b7 57 [.slice y.pc cores.length y.cc, .slice y.ps cores.length y.cs, .slice y.y.pp lp y.y.cp, .int .i64 X.N.inputs, .slice y.y.ps X.N.syns.length y.y.cs, .slice y.y.pz cores.length y.y.cz, .slice y.y.pq lq y.y.cq, .slice y.y.pe le y.y.ce, .bool ex, .slice y.pr n y.cr, .slice (some ⟨gt, 0, none⟩) n y.ct, .slice (some ⟨gw, 0, none⟩) ns y.cw, .int .i64 co, .int .i64 lo, .int .i64 (stp : Int)] :: (.vec y.pc cores.length y.cc 3 1 (flat intV cores) :: .vec (some ⟨gt, 0, none⟩) n y.ct 84 1 (flat erV y.tt) :: .vec (some ⟨gw, 0, none⟩) ns y.cw 3 1 (flat intV WV) :: y.tt.map erE)) (fun i => PK.length - i) 0 (Nat.zero_le _) aE aH ?_
  rintro i hi
  rcases Nat.lt_or_ge i PK.length with hil | hig
  ·obtain ⟨u, key, hu, hk1, hk2, hk3, hk4⟩ := hpkg hil
   have hwa := hwant hk2
   have hus : sub (pkV u) 2 1 = some [.int .i64 key] := by rw [← hk1]; rfl
   have harr := fun (w' : World) (h : PlnRi X w') (bc : Nat) h1 (ba : Nat) h2 => arrived_any X cores hA w' h y.pc y.cc bc 0 h1 (.slice y.ps cores.length y.cs) (.slice y.y.pp lp y.y.cp) (.int .i64 X.N.inputs) (.slice y.y.ps X.N.syns.length y.y.cs) (.slice y.y.pz cores.length y.y.cz) (.slice y.y.pq lq y.y.cq) (.slice y.y.pe le y.y.ce) (.bool ex) (.slice y.pr n y.cr) (.slice (some ⟨gt, 0, none⟩) n y.ct) (.slice (some ⟨gw, 0, none⟩) ns y.cw) (.int .i64 co) (.int .i64 lo) (.int .i64 (stp : Int)) rfl key ⟨hk3, hk4⟩ i (by omega) AR harl pa ca ba 0 h2 hain hwa
   unfold PlnX.net chpC at harr
   obtain ⟨gq, rfl⟩ : ∃ g, q = some ⟨g, 0, none⟩ := hqq hpkpos
   repeat' (conv => whnf); first | (refine VIx.is ?_; refine VIx.mk rfl (by omega) (by omega) ?_) | (refine VLd.is ?_; refine VLd.mk (Rd.cast (.vec aT (sub_flat (f := pkV) (k := 4) (o := 2) (s := 1) (fun _ => rfl) hu hus)) (by first | omega | (dsimp only; omega) | rfl)) ?_) | (refine VCall.isF 45 ?_; (refine VCall.valR (fun w' hw' => Exists.elim (Sl.own (f := intV) (l := cores) (p := y.pc) (cap := y.cc) (k := 1) hw' aT (fun _ => rfl) rfl) fun bc hbc => Exists.elim (Sl.own (f := arV) (l := AR) (p := pa) (cap := ca) (k := 3) hw' aT (fun _ => rfl) rfl) fun ba hba => harr w' (plnRi_keep hX hw') bc hbc ba hba) ?_)) | (refine VSeq.go ?_) | (refine VB.is ?_; refine VB.yes (by omega) fun _ => ?_) | (refine VLd.is ?_; refine VLd.mk (.row aT (by rfl)) ?_) | (refine VAr.is ?_; refine oA ?_) | (refine VHs.mk _ (.refl _) ?_)
   all_goals (conv => whnf)
   exact VNext.mk (i + 1) (by omega) (by omega) aE aH
  have hie : i = PK.length := by omega
  subst hie
  have hl0 : lastT (AR.take 0) = 0 := rfl
  repeat' (conv => whnf); first | (refine VSeq.go ?_) | (refine VB.is ?_; refine VB.yes (by omega) fun _ => ?_) | (refine VB.is ?_; refine VB.no (by omega) fun _ => ?_) | (refine VLd.is ?_; refine VLd.mk (.row aT (by rfl)) ?_) | (refine VAr.is ?_; refine oA ?_)
  all_goals (conv => whnf)
  refine VLoop.mk (α := Nat) (fun i => i ≤ AR.length ∧ lastT (AR.take i) ≤ 961) (fun i => [(1000000, .tuple #[]), (3, .pointer (some ⟨b3, 0, none⟩)), (4, .pointer (some ⟨b4, 0, none⟩)), (6, .bool false), (7, .pointer (some ⟨b7, 0, none⟩)), (9, .int .i64 (ns : Int)), (10, .int .i64 ((nw : Int) - 1)), (11, .int .i64 (lastS X.N X.C cores v : Int)), (13, .int .i64 (v : Int)), (16, .pointer (some ⟨b16, 0, none⟩)), (18, .int .i64 (lastT (AR.take i) : Int)), (20, .int .i64 (i : Int))])
   (fun i => .row b16 107 [.slice pa AR.length ca, .slice none 0 0, .slice (some ⟨mb, 0, none⟩) n n, .int .i64 0] :: .vec pa AR.length ca 112 3 (flat arV AR) :: .row b3 39 [.slice X.pn X.N.ps.length X.cn, .int .i64 X.N.inputs, .slice X.qs X.N.syns.length X.cs] :: .row b4 26 [.int .i64 X.C.mesh.wide, .int .i64 X.C.mesh.high, .int .i64 X.C.mesh.room, .int .i64 X.C.nr, .int .i64 X.C.sy, .int .i64 X.C.en, .int .i64 X.C.bits, .slice X.pd X.C.dead.length X.cd] :: .row b7 57 [.slice y.pc cores.length y.cc, .slice y.ps cores.length y.cs, .slice y.y.pp lp y.y.cp, .int .i64 X.N.inputs, .slice y.y.ps X.N.syns.length y.y.cs, .slice y.y.pz cores.length y.y.cz, .slice y.y.pq lq y.y.cq, .slice y.y.pe le y.y.ce, .bool ex, .slice y.pr n y.cr, .slice (some ⟨gt, 0, none⟩) n y.ct, .slice (some ⟨gw, 0, none⟩) ns y.cw, .int .i64 co, .int .i64 lo, .int .i64 (stp : Int)] :: (.vec y.pc cores.length y.cc 3 1 (flat intV cores) :: .vec (some ⟨gt, 0, none⟩) n y.ct 84 1 (flat erV y.tt) :: .vec (some ⟨gw, 0, none⟩) ns y.cw 3 1 (flat intV WV) :: y.tt.map erE)) (fun i => AR.length - i) 0 ⟨Nat.zero_le _, by rw [hl0]; omega⟩ (by rw [hl0]; exact aE) aH ?_
  rintro i ⟨hi, hlb⟩
  rcases Nat.lt_or_ge i AR.length with hil | hig2
  ·obtain ⟨a, ha⟩ : ∃ a, AR[i]? = some a := ⟨_, List.getElem?_eq_getElem hil⟩
   have hva : sub (arV a) 2 1 = some [.int .i64 (a.2.2 : Int)] := rfl
   have hat := har960 a (List.mem_of_getElem? ha)
   have hnx := lastT_next ha
   obtain ⟨lt, hlt⟩ : ∃ lt, lastT (AR.take i) = lt := ⟨_, rfl⟩
   rw [hlt] at hnx hlb ⊢
   have hmx : max (lt : Int) ((a.2.2 : Int) + 1) = ((max lt (a.2.2 + 1) : Nat) : Int) := by omega
   obtain ⟨ga, rfl⟩ : ∃ g, pa = some ⟨g, 0, none⟩ := hpaa (by omega)
   repeat' (conv => whnf); first | (refine VIx.is ?_; refine VIx.mk rfl (by omega) (by omega) ?_) | (refine VLd.is ?_; refine VLd.mk (Rd.cast (.vec aT (sub_flat (f := arV) (k := 3) (o := 2) (s := 1) (fun _ => rfl) ha hva)) (by first | omega | (dsimp only; omega) | rfl)) ?_) | (refine VSeq.go ?_) | (refine VB.is ?_; refine VB.yes (by omega) fun _ => ?_) | (refine VLd.is ?_; refine VLd.mk (.row aT (by rfl)) ?_) | (refine VAr.is ?_; refine oA ?_)
   all_goals (conv => whnf)
   exact VNext.mk (i + 1) ⟨by omega, by rw [hnx]; omega⟩ (by omega) (by rw [hnx, ← hmx]; exact aE) aH
  have hie2 : i = AR.length := by omega
  subst hie2
  rw [List.take_length] at hlb ⊢
  have hcast : (lastS X.N X.C cores v : Int) + (lastT AR : Int) = (lastS X.N X.C cores (v + 1) : Int) := by rw [hlsn]; omega
  repeat' (conv => whnf); first | (refine VSeq.go ?_) | (refine VB.is ?_; refine VB.yes (by omega) fun _ => ?_) | (refine VB.is ?_; refine VB.no (by omega) fun _ => ?_) | (refine VLd.is ?_; refine VLd.mk (.row aT (by rfl)) ?_) | (refine VAr.is ?_; refine oA ?_)
  all_goals (conv => whnf)
  exact VNext.mk (v + 1) (by omega) (by omega) (by rw [← hcast]; exact aE) aH
 have hve : nw = v := by omega
 subst hve
 have hlsa := lastS_all hA
 rw [hnw, hstp] at hlsa
 obtain ⟨LS, hLS⟩ : ∃ LS, lastS X.N X.C cores nw = LS := ⟨_, rfl⟩
 rw [hLS] at hlsa ⊢
 obtain ⟨bp, op, hss⟩ := hX.syns
 have hsynl := hOk.syns
 have hfs := hOk.fewS
 repeat' (conv => whnf); first | (refine VSeq.go ?_) | (refine VB.is ?_; refine VB.yes (by omega) fun _ => ?_) | (refine VB.is ?_; refine VB.no (by omega) fun _ => ?_) | (refine VLd.is ?_; refine VLd.mk (.row aT (by rfl)) ?_) | (refine VAr.is ?_; refine oA ?_)
 all_goals (conv => whnf)
 refine VLoop.mk (α := Nat) (fun i => i ≤ X.N.syns.length) (fun i => [(1000000, .tuple #[]), (3, .pointer (some ⟨b3, 0, none⟩)), (6, .bool false), (7, .pointer (some ⟨b7, 0, none⟩)), (11, .int .i64 (LS : Int)), (21, .int .i64 (i : Int))]) (fun i => .row b3 39 [.slice X.pn X.N.ps.length X.cn, .int .i64 X.N.inputs, .slice X.qs X.N.syns.length X.cs] :: .row b7 57 [.slice y.pc cores.length y.cc, .slice y.ps cores.length y.cs, .slice y.y.pp lp y.y.cp, .int .i64 X.N.inputs, .slice y.y.ps X.N.syns.length y.y.cs, .slice y.y.pz cores.length y.y.cz, .slice y.y.pq lq y.y.cq, .slice y.y.pe le y.y.ce, .bool ex, .slice y.pr n y.cr, .slice (some ⟨gt, 0, none⟩) n y.ct, .slice y.pw ns y.cw, .int .i64 co, .int .i64 lo, .int .i64 (stp : Int)] :: (.vec y.pc cores.length y.cc 3 1 (flat intV cores) :: .vec (some ⟨gt, 0, none⟩) n y.ct 84 1 (flat erV y.tt) :: .vec y.pw ns y.cw 3 1 (flat intV WV) :: y.tt.map erE)) (fun i => X.N.syns.length - i) 0 (Nat.zero_le _) aE aH ?_
 rintro i hi
 rcases Nat.lt_or_ge i X.N.syns.length with hlt | hge
 ·obtain ⟨s, hs⟩ := hss.get hlt
  have hsm := List.mem_of_getElem? hs
  have hfr := (hsynl s hsm).1
  unfold srcOk at hfr
  have v0 : sub (synV s) 0 1 = some [.int .i64 s.frm] := rfl
  have hkr := key_range hOk hsm
  obtain ⟨ky, hkye⟩ : ∃ ky : Nat, keyM X.N s.frm = (ky : Int) := ⟨(keyM X.N s.frm).toNat, by omega⟩
  have hky := fun (w' : World) => lkey_any X.N hcfew X.pn X.cn (.int .i64 X.N.inputs) (.slice X.qs X.N.syns.length X.cs) (by rfl) s.frm (by omega) w'
  rw [hkye] at hky hkr
  have hkm : (ky : Int) ∈ keysM X.N := by
   unfold keysM
   rw [List.mem_filter, decide_eq_true_eq]
   exact ⟨List.mem_map.2 ⟨ky, List.mem_range.2 (by omega), rfl⟩, s, hsm, hkye⟩
  obtain ⟨l, hl1, hl2⟩ := (waves_mem (N := X.N) (C := X.C) (cores := cores)).2 hkm
  obtain ⟨wj, hwj⟩ := List.getElem?_of_mem hl1
  have hwo := (waveOf_iff (waves_nodup X.N X.C cores) (w := wj)).2 ⟨l, hwj, hl2⟩
  have hwg := hWVg (k := ky) (by omega)
  rw [hwo] at hwg
  have hwb2 := hwb ky
  rw [hwo] at hwb2
  obtain ⟨gw, hgw2⟩ := hgw (by omega)
  rw [hgw2]
  repeat' (conv => whnf); first | (refine VIx.is ?_; refine VIx.mk (hss.ptr (by omega)) (by omega) (by omega) ?_) | (refine VLd.is ?_; refine VLd.mk (Rd.cast (hss.rd (o := 0) (s := 1) (by simp) (fun _ => rfl) hs v0) (by first | omega | (dsimp only; omega) | rfl)) ?_) | (refine VCall.isF 32 ?_; (refine VCall.valR (fun w' hw' => hky w') ?_)) | (refine VIx.is ?_; refine VIx.mk rfl (by omega) (by omega) ?_) | (refine VLd.is ?_; refine VLd.mk (Rd.cast (.vec aT (sub_flat0 (f := intV) (k := 1) (fun _ => rfl) hwg rfl)) (by first | omega | (dsimp only; omega) | rfl)) ?_) | (refine VSeq.go ?_) | (refine VB.is ?_; refine VB.yes (by omega) fun _ => ?_) | (refine VB.is ?_; refine VB.no (by omega) fun _ => ?_) | (refine VLd.is ?_; refine VLd.mk (.row aT (by rfl)) ?_) | (refine VAr.is ?_; refine oA ?_) | (refine VKeep.is ?_; refine VKeep.mk aH ?_) | (refine VHs.mk _ (.refl _) ?_)
  all_goals (conv => whnf)
  exact VNext.mk (i + 1) (by omega) (by omega) aE aH
 have hie : i = X.N.syns.length := by omega
 subst hie
 repeat' (conv => whnf); first | (refine VCall.isF 15 ?_; (refine VCall.valR (fun w' _ => works7_any w') ?_)) | (refine VSeq.go ?_) | (refine VB.is ?_; refine VB.yes (by omega) fun _ => ?_) | (refine VB.is ?_; refine VB.no (by omega) fun _ => ?_) | (refine VLd.is ?_; refine VLd.mk (.row aT (by rfl)) ?_)
 all_goals (conv => whnf)
 exact ⟨fun w' hw' => ⟨rfl, hw'.le .nil⟩⟩

theorem PlaceWays_any (X : PlnX) (cores : List Int) (hcw : ∀ k ∈ cores, I64 k) (p : Option Addr) (c b o : Nat) (w : World) (hX : PlnRi X w) (h1 : Sl w intV 1 cores p cores.length b o) :
  Calls Tryz.prog 14 #[.agg X.net.toArray, .agg (chpC X.C X.pd X.cd).toArray, .slice p cores.length c] w fun e w' => e = .returned (.bool true) ∧ St w [] [] w' := by
 by_cases he : mapErr X.N X.C cores = 0
 ·exact PlaceWays_good X cores hcw p c b o w hX h1 he
 ·exact PlaceWays_bad X cores hcw p c b o w hX h1 he

end Go.Proofs
