import Derived.Test.YtjjcoiicikaaiaaGreatPlaceMapsRgf
import Derived.Test.YtjjcoiicikaaiaaGreatPlaceMapsRgg
import Derived.Test.YtjjcoiicikaaiaaGreatPlaceMapsQr
import Derived.Test.YtjjcoiicikaaiaaGreatPlaceMapsSm1
set_option linter.unusedVariables false
set_option linter.unusedSimpArgs false
set_option maxHeartbeats 4000000

namespace Go.Proofs

open Go Go.Vx Go.Gm

def rrrE (r : RRow) : Ent := .vec r.p r.l.length r.c 165 4 (flat rwV r.l)

theorem rrrE_snoc (p : Option Addr) (c : Nat) (l : List RowE) (x : RowE) : rrrE ⟨p, c, l ++ [x]⟩ = .vec p (l.length + 1) c 165 4 (flat rwV l ++ [.int .i64 x.key, .int .i64 x.slot, .int .i64 x.wt, .int .i64 x.dl]) := by
 unfold rrrE
 rw [List.length_append, flat_append]
 rfl

def rmapH (z : MapP) (R : MapM) : HP := .vec z.pc R.cores.length z.cc 3 1 (flat intV R.cores) :: .vec z.ps R.slots.length z.cs 3 1 (flat intV R.slots) :: .vec z.pr z.rr.length z.cr 164 1 (flat rrV z.rr) :: .vec z.pt z.tt.length z.ct 177 1 (flat erV z.tt) :: .vec z.pw R.waves.length z.cw 3 1 (flat intV R.waves) :: (quantH z.y R.quant ++ (z.rr.map rrrE ++ z.tt.map rerE))

theorem rs_facts {X : PlnX} {cores : List Int} (hA : AsgOk X.N X.C cores) {x : RSrc} (h : RsOk X cores x) : (0 ≤ x.home ∧ x.home < X.C.mesh.wide * X.C.mesh.high) ∧ x.tg.length ≤ 64 ∧ (∀ t ∈ x.tg, 0 ≤ t ∧ t < X.C.mesh.wide * X.C.mesh.high) ∧ OutsOk x.o ∧ x.o.length ≤ 64 := by
 have hk := h.key
 have hn := nCores_ok hA.plan.chip
 have h5 : x.o.length = nCores X.C := by rw [h.o]; exact tree_length ..
 refine ⟨by rw [h.home]; exact mhome_range hA hk.1, by rw [h.tg]; exact cores_len hA.plan.chip cores x.key, fun t ht => core_range hA (key := x.key) (by rw [← h.tg]; exact ht), by rw [h.o]; exact Gm.tree_ok _ _ _ _, by omega⟩

theorem rs_tg {w0 w : World} {M : List Nat} {H : HP} (hs : St w0 M H w) {L : List RSrc} (hm : ∀ e ∈ L.flatMap rsH, e ∈ H) : ∀ x ∈ L, ∃ b o, Sl w intV 1 x.tg x.pg x.tg.length b o := fun x hx => by
 obtain ⟨b, h⟩ := Sl.ownM (l := x.tg) (f := intV) (k := 1) (p := x.pg) (cap := x.cg) (e := 3) hs (hm _ (List.mem_flatMap.2 ⟨x, hx, List.mem_cons_self⟩)) (fun _ => rfl) rfl
 exact ⟨b, 0, h⟩

theorem rs_o {w0 w : World} {M : List Nat} {H : HP} (hs : St w0 M H w) {L : List RSrc} (hm : ∀ e ∈ L.flatMap rsH, e ∈ H) : ∀ x ∈ L, ∃ b o, Sl w intV 1 x.o x.po x.o.length b o := fun x hx => by
 obtain ⟨b, h⟩ := Sl.ownM (l := x.o) (f := intV) (k := 1) (p := x.po) (cap := x.co) (e := 3) hs (hm _ (List.mem_flatMap.2 ⟨x, hx, List.mem_cons_of_mem _ List.mem_cons_self⟩)) (fun _ => rfl) rfl
 exact ⟨b, 0, h⟩

theorem refMap_bad (X : PlnX) (w : World) (hX : PlnRd X w) (cores : List Int) (hcw : ∀ k ∈ cores, I64 k) (hlc : cores.length ≤ 1000000) (p : Option Addr) (c b o : Nat) (h1 : Sl w intV 1 cores p cores.length b o) (hbad : asgE X.N X.C cores ≠ 0) :
  Calls Tryz.prog 27 #[.agg X.net.toArray, .agg (chpC X.C X.pd X.cd).toArray, .slice p cores.length c] w fun e w' => e = .returned (.tuple #[.agg (mapV mpNil mapNone).toArray, .int .i64 (asgE X.N X.C cores)]) ∧ St w [] [] w' := by
 have hc := fun (w' : World) hX h1 => rCheck_any X w' hX cores hcw hlc p c b o h1
 obtain ⟨E, hE⟩ : ∃ E, asgE X.N X.C cores = E := ⟨_, rfl⟩
 rw [hE] at hc hbad ⊢
 unfold PlnX.net chpC at hc ⊢
 refine enter (C := Tryz.cx) (F := Tryz.fx27) (args := [_, _, _]) Tryz.func27 rfl rfl rfl Tryz.ok27 (St.start w []) ?_
 repeat' (conv => whnf); first | (refine VNew.mk fun b3 => ?_) | (refine VCall.isF 38 ?_; (refine VCall.valR (fun w' hw' => hc w' (hX.keep hw') (h1.keep hw' (by simp))) ?_)) | (refine VSeq.go ?_) | (refine VB.is ?_; refine VB.yes (by omega) fun _ => ?_) | (refine VLd.is ?_; refine VLd.mk (.row aT (by rfl)) ?_) | (refine VSt.is ?_; refine VSt.row aT (by rfl) (by first | rfl | assumption) ?_)
 all_goals (conv => whnf)
 all_goals first
  | exact ⟨fun w' hw' => ⟨rfl, hw'.le .nil⟩⟩
  | (exfalso; omega)

theorem refMap_good (X : PlnX) (w : World) (hX : PlnRd X w) (cores : List Int) (hcw : ∀ k ∈ cores, I64 k) (p : Option Addr) (c b o : Nat) (h1 : Sl w intV 1 cores p cores.length b o) (hA : AsgOk X.N X.C cores) (hasg : asgE X.N X.C cores = 0) :
  Calls Tryz.prog 27 #[.agg X.net.toArray, .agg (chpC X.C X.pd X.cd).toArray, .slice p cores.length c] w fun e w' => ∃ z : MapP, e = .returned (.tuple #[.agg (mapV z (mapRes X.N X.C cores)).toArray, .int .i64 (mapErr X.N X.C cores)]) ∧ MapIs z (mapRes X.N X.C cores) ∧ St w [] (rmapH z (mapRes X.N X.C cores)) w' := by
 have hcl : cores.length ≤ 1024 := by
  have h1 := hA.len
  have h2 := hA.plan.net.few
  omega
 have hc := fun (w' : World) hX h1 => rCheck_any X w' hX cores hcw (by omega) p c b o h1
 rw [hasg] at hc
 obtain ⟨hcells, hn1, hn64⟩ := nCores_ok hA.plan.chip
 obtain ⟨n, hn⟩ : ∃ n, nCores X.C = n := ⟨_, rfl⟩
 rw [hn] at hcells hn1 hn64
 have hns : nSrc X.N ≤ 256 := by
  have := hA.plan.few
  have := hA.plan.net.inputs
  unfold nSrc; omega
 have hsl := fun (w' : World) h1 => rslots_any cores hcw (by omega) p c b o w' h1
 unfold PlnX.net chpC at hc ⊢
 refine enter (C := Tryz.cx) (F := Tryz.fx27) (args := [_, _, _]) Tryz.func27 rfl rfl rfl Tryz.ok27 (St.start w []) ?_
 refine VSeq.go ?_
 repeat' (conv => whnf); first | (refine VNew.mk fun b6 => ?_)
 all_goals (conv => whnf)
 rename_i b3 b4
 repeat' (conv => whnf); first | (refine VCall.isF 38 ?_; (refine VCall.valR (fun w' hw' => hc w' (hX.keep hw') (h1.keep hw' (by simp))) ?_)) | (refine VSeq.is ?_; refine VSeq.isN 5 rfl ?_; refine VSeq.cut (at_ := 5) (α := Nat × Nat × (Option Addr × Nat) × (Option Addr × Nat)) (fun z => 0 < cores.length → ∃ g, z.2.2.2.1 = some ⟨g, 0, none⟩) (fun z => [(1000000, .tuple #[]), (2, .slice p cores.length c), (3, .pointer (some ⟨b3, 0, none⟩)), (4, .pointer (some ⟨b4, 0, none⟩)), (6, .pointer (some ⟨b6, 0, none⟩)), (7, .int .i64 0), (9, .pointer (some ⟨z.1, 0, none⟩))]) (fun z => .row z.1 63 [.slice z.2.2.1.1 cores.length z.2.2.1.2, .slice z.2.2.2.1 cores.length z.2.2.2.2, .slice none 0 0, .int .i64 0, .slice none 0 0, .slice none 0 0, .slice none 0 0, .slice none 0 0, .bool false, .slice (some ⟨z.2.1, 0, none⟩) n n, .slice none 0 0, .slice none 0 0, .int .i64 0, .int .i64 0, .int .i64 0] :: .row b3 39 [.slice X.pn X.N.ps.length X.cn, .int .i64 X.N.inputs, .slice X.qs X.N.syns.length X.cs] :: .row b4 33 [.int .i64 X.C.mesh.wide, .int .i64 X.C.mesh.high, .int .i64 X.C.mesh.room, .int .i64 X.C.nr, .int .i64 X.C.sy, .int .i64 X.C.en, .int .i64 X.C.bits, .slice X.pd X.C.dead.length X.cd] :: .row b6 63 [.slice none 0 0, .slice none 0 0, .slice none 0 0, .int .i64 0, .slice none 0 0, .slice none 0 0, .slice none 0 0, .slice none 0 0, .bool false, .slice none 0 0, .slice none 0 0, .slice none 0 0, .int .i64 0, .int .i64 0, .int .i64 0] :: .vec z.2.2.1.1 cores.length z.2.2.1.2 3 1 (flat intV cores) :: .vec z.2.2.2.1 cores.length z.2.2.2.2 3 1 (flat intV (slotsM cores)) :: [.vec (some ⟨z.2.1, 0, none⟩) n n 164 1 (repL [.slice none 0 0] n)]) ?_ ?_) | (refine VHs.is ?_; refine VHs.is ?_; refine VHs.mk [.row b4 33 [.int .i64 X.C.mesh.wide, .int .i64 X.C.mesh.high, .int .i64 X.C.mesh.room, .int .i64 X.C.nr, .int .i64 X.C.sy, .int .i64 X.C.en, .int .i64 X.C.bits, .slice X.pd X.C.dead.length X.cd]] aH ?_) | (refine VCall.isF 80 ?_; (refine VCall.genR (fun w' hw' => hsl w' (h1.keep hw' (by simp))) ?_; rintro ⟨ps, cs⟩ hps; dsimp only at hps ⊢)) | (refine VAp.is ?_; refine VAp.own aT (h1.src (by simp) (fun _ => rfl)) (flat_one_cell (by simp [intV, Value.oneCell'])) (by (try dsimp only); omega) (by simp only [maxLen]; omega) (fun pc cc hpc => ?_); simp only [Nat.zero_add, List.nil_append]) | (refine VAr.is ?_; refine VAr.is ?_; refine VAr.mul hcells.symm (by omega) (by omega) ?_) | (refine VMk.is ?_; refine VMk.mk (by omega) (by omega) (by (try dsimp only); omega) (by omega) fun gr => ?_) | (refine VNew.mk fun bb => ?_) | (refine VSeq.go ?_) | (refine VB.is ?_; refine VB.no (by omega) fun _ => ?_) | (refine VLd.is ?_; refine VLd.mk (.row aT (by rfl)) ?_) | (refine VSt.is ?_; refine VSt.row aT (by rfl) (by first | rfl | assumption) ?_) | (refine VKeep.is ?_; refine VKeep.mk aH ?_) | (refine And.intro ?_ ?_)
 all_goals (conv => whnf)
 any_goals exact VMid.mk (_, gr, (pc, cc), (ps, cs)) hps aE aH
 rintro ⟨bm, gr, ⟨pc, cc⟩, ⟨ps, cs⟩⟩ hps0
 dsimp only at hps0 ⊢
 clear hc hsl
 have hrd := hX
 obtain ⟨hNw, hchipwf, _, _, ⟨bp, op, hps⟩, ⟨bs, os, hss⟩⟩ := hX
 have hbits := hA.plan.chip.bits
 have hq0 : qErr X.N X.C.bits = 0 := by
  unfold qErr
  rw [netchk_zero.2 hA.plan.net, if_neg (by simp), if_neg (by omega)]
 have hqz := fun (w' : World) h1 h2 => refQuantise_any X.N hNw X.C.bits (by unfold I64; omega) X.pn X.cn bp op X.qs X.cs bs os w' h1 h2
 rw [hq0] at hqz
 obtain ⟨Q, hQ⟩ : ∃ Q, quantRes X.N X.C.bits = Q := ⟨_, rfl⟩
 rw [hQ] at hqz
 have hqz : ∀ (w' : World), Sl w' parV 8 X.N.ps X.pn X.N.ps.length bp op → Sl w' synV 4 X.N.syns X.qs X.N.syns.length bs os → Calls Tryz.prog 21 #[.agg #[.slice X.pn X.N.ps.length X.cn, .int .i64 X.N.inputs, .slice X.qs X.N.syns.length X.cs], .int .i64 X.C.bits] w' fun e w'' => ∃ y : QP, e = .returned (.tuple #[.agg (quantC y Q).toArray, .int .i64 0]) ∧ (0 < Q.quots.length → ∃ g, y.pq = some ⟨g, 0, none⟩) ∧ St w' [] (quantH y Q) w'' := fun w' h1 h2 => (hqz w' h1 h2).mono fun e w'' ⟨y, g1, _, g3⟩ => ⟨y, g1, (vec_facts (g3.own (.vec y.pq Q.quots.length y.cq 3 1 (flat intV Q.quots)) (by simp [quantH]))).2.1, g3⟩
 unfold quantC at hqz
 repeat' (conv => whnf); first | (refine VCall.isF 21 ?_; (refine VCall.genR (fun w' hw' => hqz w' (hps.keep hw' (by simp)) (hss.keep hw' (by simp))) ?_; rintro y hyq)) | (refine VSeq.go ?_) | (refine VLd.is ?_; refine VLd.mk (.row aT (by rfl)) ?_) | (refine VSt.is ?_; refine VSt.row aT (by rfl) (by first | rfl | assumption) ?_)
 all_goals (conv => whnf)
 clear hqz
 have hsll : (slotsM cores).length = cores.length := by unfold slotsM; rw [List.length_map, List.length_range]
 obtain ⟨SL, hSL⟩ : ∃ SL, slotsM cores = SL := ⟨_, rfl⟩
 rw [hSL] at hsll ⊢
 have hQq : Q.quots.length = X.N.syns.length := by
  rw [← hQ]
  unfold quantRes
  rw [hq0, if_neg (by simp)]
  unfold quantM
  simp
 obtain ⟨sq, hsq⟩ : ∃ sq, synQs X.N Q.quots = sq := ⟨_, rfl⟩
 have hsqg : ∀ {j s q}, X.N.syns[j]? = some s → Q.quots[j]? = some q → sq[j]? = some (s, q) := fun {j s q} h1 h2 => by
  rw [← hsq]; unfold synQs
  rw [List.getElem?_zip_eq_some]
  exact ⟨h1, h2⟩
 have hrE : flat rrV (List.replicate n (⟨none, 0, []⟩ : RRow)) = repL [.slice none 0 0] n := (flat_rep (f := rrV) (x := (⟨none, 0, []⟩ : RRow)) n).symm
 have hsE : (List.replicate n (⟨none, 0, []⟩ : RRow)).map rrrE = List.replicate n (.vec none 0 0 165 4 []) := by rw [List.map_replicate]; rfl
 have hsynl := hA.plan.net.syns
 have hcore := hA.core
 have hfs : X.N.syns.length ≤ 8192 := hA.plan.net.fewS
 refine VLoop.mk (α := Nat × List RRow) (fun z => z.1 ≤ X.N.syns.length ∧ z.2.map (·.l) = rowsK X.N cores (sq.take z.1) n ∧ ∀ r ∈ z.2, r.ok) (fun z => [(1000000, .tuple #[]), (2, .slice p cores.length c), (3, .pointer (some ⟨b3, 0, none⟩)), (4, .pointer (some ⟨b4, 0, none⟩)), (6, .pointer (some ⟨b6, 0, none⟩)), (7, .int .i64 0), (9, .pointer (some ⟨bm, 0, none⟩)), (10, .int .i64 (z.1 : Int))])
  (fun z => .row bm 63 [.slice pc cores.length cc, .slice ps cores.length cs, .slice y.pp Q.ps.length y.cp, .int .i64 Q.inp, .slice y.ps Q.syns.length y.cs, .slice y.pz Q.scales.length y.cz, .slice y.pq Q.quots.length y.cq, .slice y.pe Q.errs.length y.ce, .bool Q.exact, .slice (some ⟨gr, 0, none⟩) n n, .slice none 0 0, .slice none 0 0, .int .i64 0, .int .i64 0, .int .i64 0] :: .vec (some ⟨gr, 0, none⟩) n n 164 1 (flat rrV z.2) :: .row b3 39 [.slice X.pn X.N.ps.length X.cn, .int .i64 X.N.inputs, .slice X.qs X.N.syns.length X.cs] :: .row b4 33 [.int .i64 X.C.mesh.wide, .int .i64 X.C.mesh.high, .int .i64 X.C.mesh.room, .int .i64 X.C.nr, .int .i64 X.C.sy, .int .i64 X.C.en, .int .i64 X.C.bits, .slice X.pd X.C.dead.length X.cd] :: .row b6 63 [.slice none 0 0, .slice none 0 0, .slice none 0 0, .int .i64 0, .slice none 0 0, .slice none 0 0, .slice none 0 0, .slice none 0 0, .bool false, .slice none 0 0, .slice none 0 0, .slice none 0 0, .int .i64 0, .int .i64 0, .int .i64 0] :: .vec pc cores.length cc 3 1 (flat intV cores) :: .vec ps cores.length cs 3 1 (flat intV SL) :: .vec y.pp Q.ps.length y.cp 74 8 (flat parV Q.ps) :: .vec y.ps Q.syns.length y.cs 70 4 (flat synV Q.syns) :: .vec y.pz Q.scales.length y.cz 3 1 (flat intV Q.scales) :: .vec y.pq Q.quots.length y.cq 3 1 (flat intV Q.quots) :: .vec y.pe Q.errs.length y.ce 3 1 (flat intV Q.errs) :: z.2.map rrrE) (fun z => X.N.syns.length - z.1) (0, List.replicate n ⟨none, 0, []⟩) ⟨Nat.zero_le _, ?_, ?_⟩ aE ?_ ?_
 ·dsimp only
  rw [List.map_replicate]
  unfold rowsK
  rw [map_rep]; rfl
 ·intro r hr
  rw [List.eq_of_mem_replicate hr]
  intro h; cases h
 ·dsimp only
  rw [hrE, hsE]
  refine HLe.permL (HLe.nilvs ?_ n) (A' := _) (A := List.replicate n (.vec none 0 0 165 4 []) ++ (.row bm 63 [.slice pc cores.length cc, .slice ps cores.length cs, .slice y.pp Q.ps.length y.cp, .int .i64 Q.inp, .slice y.ps Q.syns.length y.cs, .slice y.pz Q.scales.length y.cz, .slice y.pq Q.quots.length y.cq, .slice y.pe Q.errs.length y.ce, .bool Q.exact, .slice (some ⟨gr, 0, none⟩) n n, .slice none 0 0, .slice none 0 0, .int .i64 0, .int .i64 0, .int .i64 0] :: .vec (some ⟨gr, 0, none⟩) n n 164 1 (repL [.slice none 0 0] n) :: .row b3 39 [.slice X.pn X.N.ps.length X.cn, .int .i64 X.N.inputs, .slice X.qs X.N.syns.length X.cs] :: .row b4 33 [.int .i64 X.C.mesh.wide, .int .i64 X.C.mesh.high, .int .i64 X.C.mesh.room, .int .i64 X.C.nr, .int .i64 X.C.sy, .int .i64 X.C.en, .int .i64 X.C.bits, .slice X.pd X.C.dead.length X.cd] :: .row b6 63 [.slice none 0 0, .slice none 0 0, .slice none 0 0, .int .i64 0, .slice none 0 0, .slice none 0 0, .slice none 0 0, .slice none 0 0, .bool false, .slice none 0 0, .slice none 0 0, .slice none 0 0, .int .i64 0, .int .i64 0, .int .i64 0] :: .vec pc cores.length cc 3 1 (flat intV cores) :: .vec ps cores.length cs 3 1 (flat intV SL) :: .vec y.pp Q.ps.length y.cp 74 8 (flat parV Q.ps) :: .vec y.ps Q.syns.length y.cs 70 4 (flat synV Q.syns) :: .vec y.pz Q.scales.length y.cz 3 1 (flat intV Q.scales) :: .vec y.pq Q.quots.length y.cq 3 1 (flat intV Q.quots) :: .vec y.pe Q.errs.length y.ce 3 1 (flat intV Q.errs) :: ([] : HP))) ?_
  ·exact aH
  ·exact List.perm_append_comm (l₁ := .row bm 63 [.slice pc cores.length cc, .slice ps cores.length cs, .slice y.pp Q.ps.length y.cp, .int .i64 Q.inp, .slice y.ps Q.syns.length y.cs, .slice y.pz Q.scales.length y.cz, .slice y.pq Q.quots.length y.cq, .slice y.pe Q.errs.length y.ce, .bool Q.exact, .slice (some ⟨gr, 0, none⟩) n n, .slice none 0 0, .slice none 0 0, .int .i64 0, .int .i64 0, .int .i64 0] :: .vec (some ⟨gr, 0, none⟩) n n 164 1 (repL [.slice none 0 0] n) :: .row b3 39 [.slice X.pn X.N.ps.length X.cn, .int .i64 X.N.inputs, .slice X.qs X.N.syns.length X.cs] :: .row b4 33 [.int .i64 X.C.mesh.wide, .int .i64 X.C.mesh.high, .int .i64 X.C.mesh.room, .int .i64 X.C.nr, .int .i64 X.C.sy, .int .i64 X.C.en, .int .i64 X.C.bits, .slice X.pd X.C.dead.length X.cd] :: .row b6 63 [.slice none 0 0, .slice none 0 0, .slice none 0 0, .int .i64 0, .slice none 0 0, .slice none 0 0, .slice none 0 0, .slice none 0 0, .bool false, .slice none 0 0, .slice none 0 0, .slice none 0 0, .int .i64 0, .int .i64 0, .int .i64 0] :: .vec pc cores.length cc 3 1 (flat intV cores) :: .vec ps cores.length cs 3 1 (flat intV SL) :: .vec y.pp Q.ps.length y.cp 74 8 (flat parV Q.ps) :: .vec y.ps Q.syns.length y.cs 70 4 (flat synV Q.syns) :: .vec y.pz Q.scales.length y.cz 3 1 (flat intV Q.scales) :: .vec y.pq Q.quots.length y.cq 3 1 (flat intV Q.quots) :: .vec y.pe Q.errs.length y.ce 3 1 (flat intV Q.errs) :: ([] : HP))
 rintro ⟨i, rr⟩ ⟨hi, hrr, hrk⟩
 dsimp only at hi hrr hrk ⊢
 have hrl : rr.length = n := by
  have := congrArg List.length hrr
  rw [List.length_map] at this
  rw [this]; unfold rowsK; simp
 rcases Nat.lt_or_ge i X.N.syns.length with hlt | hge
 ·-- cut<
  obtain ⟨s, hsi⟩ := hss.get hlt
  have hsm := List.mem_of_getElem? hsi
  have hto := (hsynl s hsm).2.1
  have hsw := hNw.syns s hsm
  have hfr := (hsynl s hsm).1
  unfold srcOk at hfr
  obtain ⟨t, ht⟩ : ∃ t : Nat, s.to = (t : Int) := ⟨s.to.toNat, by omega⟩
  have htl : t < cores.length := by rw [hA.len]; omega
  obtain ⟨kc, hkc⟩ := h1.get htl
  have hkc0 := (hcore kc (List.mem_of_getElem? hkc)).1
  obtain ⟨k, hk⟩ : ∃ k : Nat, kc = (k : Int) := ⟨kc.toNat, by omega⟩
  subst hk
  have hkn : k < n := by omega
  obtain ⟨row, hrow⟩ : ∃ row, rr[k]? = some row := ⟨_, List.getElem?_eq_getElem (by omega)⟩
  obtain ⟨q, hq⟩ : ∃ q, Q.quots[i]? = some q := ⟨_, List.getElem?_eq_getElem (by omega)⟩
  obtain ⟨sv, hsv⟩ : ∃ sv, SL[t]? = some sv := ⟨_, List.getElem?_eq_getElem (by omega)⟩
  obtain ⟨gq, hgq⟩ := hyq (by omega)
  obtain ⟨gs, rfl⟩ := hps0 (by omega)
  have hkc2 := fun (w' : World) => rkey_any X.N hA.plan.net.few X.pn X.cn (.int .i64 X.N.inputs) (.slice X.qs X.N.syns.length X.cs) (by rfl) s.frm (by have := hA.plan.net.inputs; have := hA.plan.few; omega) w'
  have hxr : rowOf X.N cores s q = ⟨keyM X.N s.frm, sv, q, s.dl⟩ := by
   unfold rowOf
   rw [hSL, ht, Int.toNat_natCast, hsv]; rfl
  have hnx := rowsK_next X.N cores (sq.take i) (x := (s, q)) (n := n) (k := k) hkn (by dsimp only; rw [ht, Int.toNat_natCast]; exact hkc)
  dsimp only at hnx
  rw [hxr] at hnx
  have htk : sq.take (i + 1) = sq.take i ++ [(s, q)] := by rw [List.take_add_one, hsqg hsi hq]; rfl
  have hrwl : rowsM X.N cores (sq.take i) (k : Int) = row.l := by
   have := congrArg (fun L => L[k]?) hrr
   rw [List.getElem?_map, hrow] at this
   unfold rowsK at this
   rw [List.getElem?_map, List.getElem?_range hkn] at this
   simpa using this.symm
  rw [hrwl] at hnx
  have hrll : row.l.length ≤ i := by
   rw [← hrwl]
   unfold rowsM
   rw [List.length_map]
   have := List.length_filter_le (fun x : Syn × Int => decide (cores[x.1.to.toNat]? = some (k : Int))) (sq.take i)
   rw [List.length_take] at this
   omega
  obtain ⟨ky, hky⟩ : ∃ ky, keyM X.N s.frm = ky := ⟨_, rfl⟩
  rw [hky] at hkc2 hnx
  rw [hgq]
  repeat' (conv => whnf); first | (refine VHs.is ?_; refine VHs.is ?_; refine VHs.mk [.row _ 70 [.int .i64 s.frm, .int .i64 (t : Int), .int .i64 s.wt, .int .i64 s.dl], .row b3 39 [.slice X.pn X.N.ps.length X.cn, .int .i64 X.N.inputs, .slice X.qs X.N.syns.length X.cs], .row bm 63 [.slice pc cores.length cc, .slice (some ⟨gs, 0, none⟩) cores.length cs, .slice y.pp Q.ps.length y.cp, .int .i64 Q.inp, .slice y.ps Q.syns.length y.cs, .slice y.pz Q.scales.length y.cz, .slice (some ⟨gq, 0, none⟩) Q.quots.length y.cq, .slice y.pe Q.errs.length y.ce, .bool Q.exact, .slice (some ⟨gr, 0, none⟩) n n, .slice none 0 0, .slice none 0 0, .int .i64 0, .int .i64 0, .int .i64 0], .vec (some ⟨gs, 0, none⟩) cores.length cs 3 1 (flat intV SL), .vec (some ⟨gr, 0, none⟩) n n 164 1 (flat rrV rr), .vec (some ⟨gq, 0, none⟩) Q.quots.length y.cq 3 1 (flat intV Q.quots)] aH ?_) | (refine VNew.mk fun bn => ?_) | (refine VIx.is ?_; refine VIx.mk (hss.ptr (by omega)) (by omega) (by omega) ?_) | (refine VLd.is ?_; refine VLd.mk (Rd.cast (hss.rd0 (by simp) (fun _ => rfl) hsi (synV_at ht)) (by first | omega | (dsimp only; omega) | rfl)) ?_) | (refine VIx.is ?_; refine VIx.mk (h1.ptr (by omega)) (by omega) (by omega) ?_) | (refine VLd.is ?_; refine VLd.mk (Rd.cast (h1.rd0 (by simp) (fun _ => rfl) hkc rfl) (by first | omega | (dsimp only; omega) | rfl)) ?_) | (refine VIx.is ?_; refine VIx.mk rfl (by omega) (by omega) ?_) | (refine VLd.is ?_; refine VLd.mk (Rd.cast (.vec aT (sub_flat0 (f := rrV) (k := 1) (fun _ => rfl) hrow rfl)) (by first | omega | (dsimp only; omega) | rfl)) ?_) | (refine VLd.is ?_; refine VLd.mk (Rd.cast (.vec aT (sub_flat0 (f := intV) (k := 1) (fun _ => rfl) hsv rfl)) (by first | omega | (dsimp only; omega) | rfl)) ?_) | (refine VLd.is ?_; refine VLd.mk (Rd.cast (.vec aT (sub_flat0 (f := intV) (k := 1) (fun _ => rfl) hq rfl)) (by first | omega | (dsimp only; omega) | rfl)) ?_) | (refine VCall.isF 81 ?_; (refine VCall.valR (fun w' hw' => hkc2 w') ?_)) | (refine VAp.is ?_; refine VAp.seg (f := rrrE) (l := rr) aS hrow rfl (.at_ (.vec aT rfl)) (by simp [Value.oneCell']) (by (try dsimp only); omega) (by simp only [maxLen]; omega) fun p1 c1 hp1 => ?_) | (refine VSt.is ?_; refine VSt.is ?_; refine VSt.cast (off' := k * 1) (by first | omega | (dsimp only; omega) | rfl) (VSt.vec aT (upd_flat0 (f := rrV) (k := 1) (y := ⟨p1, c1, row.l ++ [⟨ky, sv, q, s.dl⟩]⟩) (fun _ => rfl) hrow (rrV_upd _ _ _ _)) rfl ?_)) | (refine VSeq.go ?_) | (refine VB.is ?_; refine VB.yes (by omega) fun _ => ?_) | (refine VLd.is ?_; refine VLd.mk (.row aT (by rfl)) ?_) | (refine VSt.is ?_; refine VSt.row aT (by rfl) (by first | rfl | assumption) ?_) | (refine VAr.is ?_; refine oA ?_) | (refine VKeep.is ?_; refine VKeep.mk aH ?_)
  all_goals (conv => whnf)
  all_goals refine VNext.mk (i + 1, rr.set k ⟨p1, c1, row.l ++ [⟨ky, sv, q, s.dl⟩]⟩) ⟨by dsimp only; omega, ?_, fun r hr => ?_⟩ (by dsimp only; omega) aE ?_
  ·dsimp only
   rw [htk, hnx, ← hrr, List.map_set]
  ·rcases List.mem_or_eq_of_mem_set hr with h | rfl
   ·exact hrk r h
   ·exact fun _ => hp1 (by omega)
  ·dsimp only
   refine HLe.permL ?_ (put_seg (f := rrrE) aS (by omega))
   rw [rrrE_snoc]
   exact aH
  -- >cut
 have hil : i = X.N.syns.length := by omega
 subst hil
 have htkA : sq.take X.N.syns.length = sq := List.take_of_length_le (by rw [← hsq]; unfold synQs; rw [List.length_zip]; omega)
 rw [htkA] at hrr
 clear hcore hsynl hrE hsE hsqg hge hi
 have hso := fun (w' : World) hX h1 => rsources_any X w' hX cores hA p c b o h1
 obtain ⟨good, hgd⟩ : ∃ good : Bool, good = true ↔ ∀ i, i < nCores X.C → ((tabF (srcTree X.N X.C cores) (keysM X.N) X.C.en i).length : Int) ≤ X.C.en := by
  by_cases h : ∀ i, i < nCores X.C → ((tabF (srcTree X.N X.C cores) (keysM X.N) X.C.en i).length : Int) ≤ X.C.en
  ·exact ⟨true, by simp only [true_iff]; exact h⟩
  ·exact ⟨false, by simp only [Bool.false_eq_true, false_iff]; exact h⟩
 have hmw : X.C.mesh.wf := hchipwf.mesh
 have htb := fun (L : List RSrc) hLk hLo (w' : World) lp lc bq h1 h2 => rtabs_any X hmw cores hA hns L hLk hLo lp lc bq 0 w' h1 h2 good hgd
 unfold PlnX.net chpC at hso
 unfold chpC at htb
 repeat' (conv => whnf); first | (refine VCall.isF 82 ?_; (refine VCall.genR (fun w' hw' => hso w' (hrd.keep hw') (h1.keep hw' (by simp))) ?_; rintro ⟨L, lp, lc⟩ ⟨hLk, hLo, hlp⟩; dsimp only at hLk hLo hlp ⊢)) | (refine VCall.isF 83 ?_; (refine VCall.genR (fun w' hw' => Exists.elim (Sl.own (f := rsV) (l := L) (k := 4) hw' aT (fun _ => rfl) rfl) fun bq hbq => htb L hLk hLo w' lp lc bq hbq (rs_tg hw' fun e he => (by (repeat (first | exact he | exact List.mem_append_left _ he | apply List.mem_cons_of_mem | apply List.mem_append_right)); first | done | fail))) ?_; rintro ⟨tp, tt⟩ ⟨htt, htk⟩; dsimp only at htt htk ⊢; cases good)) | (refine VSeq.go ?_) | (refine VB.is ?_; refine VB.no (by omega) fun _ => ?_) | (refine VLd.is ?_; refine VLd.mk (.row aT (by rfl)) ?_) | (refine VSt.is ?_; refine VSt.row aT (by rfl) (by first | rfl | assumption) ?_)
 all_goals (conv => whnf)
 ·have hb : ¬ ∀ i, i < nCores X.C → ((tabF (srcTree X.N X.C cores) (keysM X.N) X.C.en i).length : Int) ≤ X.C.en := fun h => absurd (hgd.2 h) Bool.false_ne_true
  obtain ⟨i, hb⟩ := Classical.not_forall.1 hb
  obtain ⟨hi, hb⟩ := Classical.not_imp.1 hb
  have h15 := mapErr_bad (N := X.N) (C := X.C) (cores := cores) hasg hi hb
  have hmr : mapRes X.N X.C cores = mapNone := by unfold mapRes; rw [h15, if_pos (by simp)]
  rw [h15, hmr]
  exact ⟨fun w' hw' => ⟨mpNil, rfl, mpNil_is, hw'.le aH⟩⟩
 have he0 := mapErr_ok (N := X.N) (C := X.C) (cores := cores) hasg (hgd.1 rfl)
 obtain ⟨htt2, gtp, rfl⟩ := htt rfl
 clear hso htb hgd
 have hfew := hA.plan.few
 have hinp := hA.plan.net.inputs
 have hsome := hA.plan.net.some
 have hnsI : (nSrc X.N : Int) = (X.N.ps.length : Int) + X.N.inputs := by unfold nSrc; omega
 have hLl : L.length ≤ 256 := by
  have h1 := congrArg List.length hLk
  rw [List.length_map] at h1
  have := keysK_len X.N (nSrc X.N)
  rw [keysK_all] at this
  omega
 obtain ⟨tp, htp⟩ : ∃ tp : Option Addr, some ⟨gtp, 0, none⟩ = tp := ⟨_, rfl⟩
 rw [htp]
 refine VLoop.mk (α := Nat × Option Addr × Nat) (fun z => z.1 ≤ nSrc X.N ∧ (0 < z.1 → ∃ g, z.2.1 = some ⟨g, 0, none⟩)) (fun z => [(1000000, .tuple #[]), (2, .slice p cores.length c), (3, .pointer (some ⟨b3, 0, none⟩)), (4, .pointer (some ⟨b4, 0, none⟩)), (6, .pointer (some ⟨b6, 0, none⟩)), (7, .int .i64 0), (9, .pointer (some ⟨bm, 0, none⟩)), (13, .slice lp L.length lc), (15, .int .i64 (z.1 : Int))])
  (fun z => .row bm 63 [.slice pc cores.length cc, .slice ps cores.length cs, .slice y.pp Q.ps.length y.cp, .int .i64 Q.inp, .slice y.ps Q.syns.length y.cs, .slice y.pz Q.scales.length y.cz, .slice y.pq Q.quots.length y.cq, .slice y.pe Q.errs.length y.ce, .bool Q.exact, .slice (some ⟨gr, 0, none⟩) n n, .slice tp tt.length tt.length, .slice z.2.1 z.1 z.2.2, .int .i64 0, .int .i64 0, .int .i64 0] :: .vec z.2.1 z.1 z.2.2 3 1 (flat intV (List.replicate z.1 (-1))) :: .vec (some ⟨gr, 0, none⟩) n n 164 1 (flat rrV rr) :: .vec lp L.length lc 175 4 (flat rsV L) :: .vec tp tt.length tt.length 177 1 (flat erV tt) :: .row b3 39 [.slice X.pn X.N.ps.length X.cn, .int .i64 X.N.inputs, .slice X.qs X.N.syns.length X.cs] :: .row b4 33 [.int .i64 X.C.mesh.wide, .int .i64 X.C.mesh.high, .int .i64 X.C.mesh.room, .int .i64 X.C.nr, .int .i64 X.C.sy, .int .i64 X.C.en, .int .i64 X.C.bits, .slice X.pd X.C.dead.length X.cd] :: .row b6 63 [.slice none 0 0, .slice none 0 0, .slice none 0 0, .int .i64 0, .slice none 0 0, .slice none 0 0, .slice none 0 0, .slice none 0 0, .bool false, .slice none 0 0, .slice none 0 0, .slice none 0 0, .int .i64 0, .int .i64 0, .int .i64 0] :: .vec pc cores.length cc 3 1 (flat intV cores) :: .vec ps cores.length cs 3 1 (flat intV SL) :: .vec y.pp Q.ps.length y.cp 74 8 (flat parV Q.ps) :: .vec y.ps Q.syns.length y.cs 70 4 (flat synV Q.syns) :: .vec y.pz Q.scales.length y.cz 3 1 (flat intV Q.scales) :: .vec y.pq Q.quots.length y.cq 3 1 (flat intV Q.quots) :: .vec y.pe Q.errs.length y.ce 3 1 (flat intV Q.errs) :: (L.flatMap rsH ++ (tt.map rerE ++ rr.map rrrE))) (fun z => nSrc X.N - z.1) (0, none, 0) ⟨Nat.zero_le _, fun h => absurd h (Nat.lt_irrefl _)⟩ aE ?_ ?_
 ·dsimp only
  refine HLe.permL (HLe.nilv aH) (.swap _ _ _)
 rintro ⟨k, wp, wc⟩ ⟨hk, hwp⟩
 dsimp only at hk hwp ⊢
 rcases Nat.lt_or_ge k (nSrc X.N) with hlt | hge
 ·-- cut<
  repeat' (conv => whnf); first | (refine VNew.mk fun bn => ?_) | (refine VAp.is ?_; refine VAp.own aT (.at_ (.vec aT rfl)) (by simp [Value.oneCell']) (by (try dsimp only); omega) (by simp only [maxLen]; omega) fun p1 c1 hp1 => ?_) | (refine VSeq.go ?_) | (refine VB.is ?_; refine VB.yes (by omega) fun _ => ?_) | (refine VLd.is ?_; refine VLd.mk (.row aT (by rfl)) ?_) | (refine VSt.is ?_; refine VSt.row aT (by rfl) (by first | rfl | assumption) ?_) | (refine VAr.is ?_; refine oA ?_)
  all_goals (conv => whnf)
  refine VNext.mk (k + 1, p1, c1) ⟨by dsimp only; omega, fun _ => hp1 (by omega)⟩ (by dsimp only; omega) aE ?_
  dsimp only
  rw [List.replicate_succ', flat_append]
  exact aH
  -- >cut
 have hkn : k = nSrc X.N := by omega
 subst hkn
 clear hk hge
 obtain ⟨T, hT⟩ : ∃ T, srcTree X.N X.C cores = T := ⟨_, rfl⟩
 have hLf := fun x hx => rs_facts hA (hLo x hx)
 have hLT : ∀ x ∈ L, x.o = T x.key ∧ OutsOk x.o ∧ x.o.length ≤ 64 := fun x hx => ⟨by rw [← hT]; exact (hLo x hx).o, (hLf x hx).2.2.2⟩
 have hroom := hA.plan.chip.mesh.room
 have hwv := fun (w' : World) lp lc bq h1 h2 => rwaves_any X.C hroom X.pd X.cd T L hLT hLl lp lc bq 0 w' h1 h2
 rw [hLk] at hwv
 have hWF : wavesM T X.C.mesh.room (keysM X.N) = wavesF X.N X.C cores := by rw [← hT]; rfl
 rw [hWF] at hwv
 have hnd : (wavesF X.N X.C cores).flatten.Nodup := by
  have h1 := waves_perm (srcTree X.N X.C cores) X.C.mesh.room (keysM X.N)
  refine h1.nodup_iff.2 ?_
  rw [← keysK_all]
  exact (keysK_asc X.N (nSrc X.N)).imp fun h => by omega
 obtain ⟨WF, hWFe⟩ : ∃ WF, wavesF X.N X.C cores = WF := ⟨_, rfl⟩
 rw [hWFe] at hwv hnd
 have hw0 : (List.range (nSrc X.N)).map (fun (j : Nat) => waveOf (WF.take 0) (j : Int)) = List.replicate (nSrc X.N) (-1) := by
  rw [List.take_zero]
  exact range_const (-1) (nSrc X.N)
 obtain ⟨gw, rfl⟩ := hwp (by omega)
 unfold chpC at hwv
 repeat' (conv => whnf); first | (refine VCall.isF 84 ?_; (refine VCall.genR (fun w' hw' => Exists.elim (Sl.own (f := rsV) (l := L) (k := 4) hw' aT (fun _ => rfl) rfl) fun bq hbq => hwv w' lp lc bq hbq (rs_o hw' fun e he => (by (repeat (first | exact he | exact List.mem_append_left _ he | apply List.mem_cons_of_mem | apply List.mem_append_right)); first | done | fail))) ?_; rintro ⟨W, wq, wqc⟩ ⟨hWk, hWo, hwq, hWl⟩; dsimp only at hWk hWo hwq hWl ⊢)) | (refine VSeq.go ?_) | (refine VB.is ?_; refine VB.no (by omega) fun _ => ?_) | (refine VLd.is ?_; refine VLd.mk (.row aT (by rfl)) ?_) | (refine VAr.is ?_; refine oA ?_)
 all_goals (conv => whnf)
 refine VLoop.mk (α := Nat × List Int × Nat) (fun z => z.1 ≤ W.length ∧ z.2.1 = (List.range (nSrc X.N)).map (fun (j : Nat) => waveOf (WF.take z.1) (j : Int)) ∧ z.2.2 = stepsM X.C.mesh.wide T (homeM X.N cores) (coresM X.N X.C cores) (WF.take z.1) ∧ z.2.2 ≤ 300000 * z.1) (fun z => [(1000000, .tuple #[]), (2, .slice p cores.length c), (3, .pointer (some ⟨b3, 0, none⟩)), (4, .pointer (some ⟨b4, 0, none⟩)), (6, .pointer (some ⟨b6, 0, none⟩)), (7, .int .i64 0), (9, .pointer (some ⟨bm, 0, none⟩)), (13, .slice lp L.length lc), (16, .slice wq W.length wqc), (17, .int .i64 (z.1 : Int))])
  (fun z => .row bm 63 [.slice pc cores.length cc, .slice ps cores.length cs, .slice y.pp Q.ps.length y.cp, .int .i64 Q.inp, .slice y.ps Q.syns.length y.cs, .slice y.pz Q.scales.length y.cz, .slice y.pq Q.quots.length y.cq, .slice y.pe Q.errs.length y.ce, .bool Q.exact, .slice (some ⟨gr, 0, none⟩) n n, .slice tp tt.length tt.length, .slice (some ⟨gw, 0, none⟩) (nSrc X.N) wc, .int .i64 0, .int .i64 0, .int .i64 (z.2.2 : Int)] :: .vec (some ⟨gw, 0, none⟩) (nSrc X.N) wc 3 1 (flat intV z.2.1) :: .vec wq W.length wqc 166 1 (flat rvV W) :: .vec (some ⟨gr, 0, none⟩) n n 164 1 (flat rrV rr) :: .vec lp L.length lc 175 4 (flat rsV L) :: .vec tp tt.length tt.length 177 1 (flat erV tt) :: .row b3 39 [.slice X.pn X.N.ps.length X.cn, .int .i64 X.N.inputs, .slice X.qs X.N.syns.length X.cs] :: .row b4 33 [.int .i64 X.C.mesh.wide, .int .i64 X.C.mesh.high, .int .i64 X.C.mesh.room, .int .i64 X.C.nr, .int .i64 X.C.sy, .int .i64 X.C.en, .int .i64 X.C.bits, .slice X.pd X.C.dead.length X.cd] :: .row b6 63 [.slice none 0 0, .slice none 0 0, .slice none 0 0, .int .i64 0, .slice none 0 0, .slice none 0 0, .slice none 0 0, .slice none 0 0, .bool false, .slice none 0 0, .slice none 0 0, .slice none 0 0, .int .i64 0, .int .i64 0, .int .i64 0] :: .vec pc cores.length cc 3 1 (flat intV cores) :: .vec ps cores.length cs 3 1 (flat intV SL) :: .vec y.pp Q.ps.length y.cp 74 8 (flat parV Q.ps) :: .vec y.ps Q.syns.length y.cs 70 4 (flat synV Q.syns) :: .vec y.pz Q.scales.length y.cz 3 1 (flat intV Q.scales) :: .vec y.pq Q.quots.length y.cq 3 1 (flat intV Q.quots) :: .vec y.pe Q.errs.length y.ce 3 1 (flat intV Q.errs) :: (W.map rvE ++ (L.flatMap rsH ++ (tt.map rerE ++ rr.map rrrE)))) (fun z => W.length - z.1) (0, List.replicate (nSrc X.N) (-1), 0) ⟨Nat.zero_le _, hw0.symm, by simp [stepsM], Nat.le_refl _⟩ aE (by dsimp only; exact aH) ?_
 rintro ⟨k, wv, sm⟩ ⟨hk, hwve, hsm, hsl⟩
 dsimp only at hk hwve hsm hsl ⊢
 rcases Nat.lt_or_ge k W.length with hlt | hge
 ·obtain ⟨wx, hwx⟩ : ∃ wx, W[k]? = some wx := ⟨_, List.getElem?_eq_getElem hlt⟩
  obtain ⟨hwL, hwp2, hwl⟩ := hWo wx (List.mem_of_getElem? hwx)
  obtain ⟨gq, rfl⟩ := hwq (by omega)
  have hwk : WF[k]? = some (wx.l.map (·.key)) := by rw [← hWk, List.getElem?_map, hwx]; rfl
  have hwm : Ent.vec wx.p wx.l.length wx.c 175 4 (flat rsV wx.l) ∈ W.map rvE := List.mem_map_of_mem (f := rvE) (List.mem_of_getElem? hwx)
  have hvx : sub (flat rvV W) (k * 1) 1 = some [.slice wx.p wx.l.length wx.c] := sub_flat0 (f := rvV) (k := 1) (fun _ => rfl) hwx rfl
  have hrc := fun (w' : World) bq h1 h2 => rreach_any X.C.mesh hmw hA.plan.chip.mesh X.C rfl X.pd X.cd wx.l (fun x hx => ⟨(hLf x (hwL x hx)).1, (hLf x (hwL x hx)).2.1, (hLf x (hwL x hx)).2.2.1⟩) (by omega) wx.p wx.c bq 0 w' h1 h2
  have hld := fun (w' : World) bq h1 h2 => rload_any wx.l (fun x hx => (hLf x (hwL x hx)).2.2.2) (by omega) wx.p wx.c bq 0 w' h1 h2
  rw [rreach_eq (home := homeM X.N cores) (tg := coresM X.N X.C cores) fun x hx => ⟨(hLo x (hwL x hx)).home, (hLo x (hwL x hx)).tg⟩] at hrc
  rw [rmost_eq (T := T) fun x hx => (hLT x (hwL x hx)).1] at hld
  have hkr : ∀ x ∈ wx.l, 0 ≤ x.key ∧ x.key < nSrc X.N := fun x hx => (hLo x (hwL x hx)).key
  have hrcb : reachM X.C.mesh.wide (homeM X.N cores) (coresM X.N X.C cores) (wx.l.map (·.key)) ≤ 1000 := reach_le (X := X) hA fun q hq => by
   obtain ⟨x, hx, rfl⟩ := List.mem_map.1 hq
   exact (hkr x hx).1
  have hmtb : mostM ((wx.l.map (·.key)).map T) ≤ 256 := by
   have := most_le _ (IsMax.of ((wx.l.map (·.key)).map T))
   rw [List.length_map, List.length_map] at this
   omega
  have hstep : stepsM X.C.mesh.wide T (homeM X.N cores) (coresM X.N X.C cores) (WF.take (k + 1)) = sm + (reachM X.C.mesh.wide (homeM X.N cores) (coresM X.N X.C cores) (wx.l.map (·.key)) + 1) * mostM ((wx.l.map (·.key)).map T) := by
   rw [hsm]
   unfold stepsM
   rw [List.take_add_one, hwk, Option.toList_some, List.map_append, List.sum_append]
   simp
  obtain ⟨rc, hrce⟩ : ∃ rc, reachM X.C.mesh.wide (homeM X.N cores) (coresM X.N X.C cores) (wx.l.map (·.key)) = rc := ⟨_, rfl⟩
  obtain ⟨mt, hmte⟩ : ∃ mt, mostM ((wx.l.map (·.key)).map T) = mt := ⟨_, rfl⟩
  rw [hrce] at hrc hrcb hstep
  rw [hmte] at hld hmtb hstep
  have hpr : (rc + 1) * mt ≤ 1001 * 256 := Nat.mul_le_mul (by omega) (by omega)
  obtain ⟨pr, hpre⟩ : ∃ pr, (rc + 1) * mt = pr := ⟨_, rfl⟩
  rw [hpre] at hpr hstep
  have hprI : ((rc : Int) + 1) * (mt : Int) = (pr : Int) := by rw [← hpre]; simp
  obtain ⟨sm2, hsm2⟩ : ∃ sm2, sm + pr = sm2 := ⟨_, rfl⟩
  rw [hsm2] at hstep
  have hI2 : (sm : Int) + (pr : Int) = (sm2 : Int) := by omega
  unfold chpC at hrc
  have hst : ∀ (w' : World) (H : HP), St w [] H w' → (∀ e ∈ L.flatMap rsH, e ∈ H) → (∀ x ∈ wx.l, ∃ b o, Sl w' intV 1 x.tg x.pg x.tg.length b o) ∧ (∀ x ∈ wx.l, ∃ b o, Sl w' intV 1 x.o x.po x.o.length b o) := fun w' H hw' hm => ⟨fun x hx => rs_tg hw' hm x (hwL x hx), fun x hx => rs_o hw' hm x (hwL x hx)⟩
  repeat' (conv => whnf); first | (refine VHs.is ?_; refine VHs.is ?_; refine VHs.mk (.row bm 63 [.slice pc cores.length cc, .slice ps cores.length cs, .slice y.pp Q.ps.length y.cp, .int .i64 Q.inp, .slice y.ps Q.syns.length y.cs, .slice y.pz Q.scales.length y.cz, .slice y.pq Q.quots.length y.cq, .slice y.pe Q.errs.length y.ce, .bool Q.exact, .slice (some ⟨gr, 0, none⟩) n n, .slice tp tt.length tt.length, .slice (some ⟨gw, 0, none⟩) (nSrc X.N) wc, .int .i64 0, .int .i64 0, .int .i64 (sm : Int)] :: .vec (some ⟨gq, 0, none⟩) W.length wqc 166 1 (flat rvV W) :: .row b3 39 [.slice X.pn X.N.ps.length X.cn, .int .i64 X.N.inputs, .slice X.qs X.N.syns.length X.cs] :: .row b4 33 [.int .i64 X.C.mesh.wide, .int .i64 X.C.mesh.high, .int .i64 X.C.mesh.room, .int .i64 X.C.nr, .int .i64 X.C.sy, .int .i64 X.C.en, .int .i64 X.C.bits, .slice X.pd X.C.dead.length X.cd] :: .row b6 63 [.slice none 0 0, .slice none 0 0, .slice none 0 0, .int .i64 0, .slice none 0 0, .slice none 0 0, .slice none 0 0, .slice none 0 0, .bool false, .slice none 0 0, .slice none 0 0, .slice none 0 0, .int .i64 0, .int .i64 0, .int .i64 0] :: (W.map rvE ++ L.flatMap rsH)) aH ?_) | (refine VIx.is ?_; refine VIx.mk rfl (by omega) (by omega) ?_) | (refine VLd.is ?_; refine VLd.mk (Rd.cast (.vec aT (hvx)) (by first | omega | (dsimp only; omega) | rfl)) ?_) | (refine VCall.isF 85 ?_; (refine VCall.valR (fun w' hw' => Exists.elim (Sl.ownM (f := rsV) (l := wx.l) (k := 4) hw' (by (repeat (first | exact hwm | exact List.mem_append_left _ hwm | apply List.mem_cons_of_mem | apply List.mem_append_right)); first | done | fail) (fun _ => rfl) rfl) fun bq hbq => hrc w' bq hbq (hst w' _ hw' fun e he => (by (repeat (first | exact he | exact List.mem_append_left _ he | apply List.mem_cons_of_mem | apply List.mem_append_right)); first | done | fail)).1) ?_)) | (refine VCall.isF 86 ?_; (refine VCall.valR (fun w' hw' => Exists.elim (Sl.ownM (f := rsV) (l := wx.l) (k := 4) hw' (by (repeat (first | exact hwm | exact List.mem_append_left _ hwm | apply List.mem_cons_of_mem | apply List.mem_append_right)); first | done | fail) (fun _ => rfl) rfl) fun bq hbq => hld w' bq hbq (hst w' _ hw' fun e he => (by (repeat (first | exact he | exact List.mem_append_left _ he | apply List.mem_cons_of_mem | apply List.mem_append_right)); first | done | fail)).2) ?_)) | (refine VAr.is ?_; refine VAr.is ?_; refine VAr.mul hprI (by omega) (by omega) ?_) | (refine VSeq.go ?_) | (refine VB.is ?_; refine VB.yes (by omega) fun _ => ?_) | (refine VLd.is ?_; refine VLd.mk (.row aT (by rfl)) ?_) | (refine VSt.is ?_; refine VSt.row aT (by rfl) (by first | rfl | assumption) ?_) | (refine VAr.is ?_; refine oA ?_) | (refine VKeep.is ?_; refine VKeep.mk aH ?_)
  all_goals (conv => whnf)
  clear hrc hld
  refine VLoop.mk (α := Nat × List Int) (fun z => z.1 ≤ wx.l.length ∧ z.2 = (List.range (nSrc X.N)).map (fun (j : Nat) => wvAt WF k z.1 (j : Int))) (fun z => [(1000000, .tuple #[]), (2, .slice p cores.length c), (3, .pointer (some ⟨b3, 0, none⟩)), (4, .pointer (some ⟨b4, 0, none⟩)), (6, .pointer (some ⟨b6, 0, none⟩)), (7, .int .i64 0), (9, .pointer (some ⟨bm, 0, none⟩)), (13, .slice lp L.length lc), (16, .slice (some ⟨gq, 0, none⟩) W.length wqc), (17, .int .i64 (k : Int)), (18, .int .i64 (z.1 : Int))])
   (fun z => .row bm 63 [.slice pc cores.length cc, .slice ps cores.length cs, .slice y.pp Q.ps.length y.cp, .int .i64 Q.inp, .slice y.ps Q.syns.length y.cs, .slice y.pz Q.scales.length y.cz, .slice y.pq Q.quots.length y.cq, .slice y.pe Q.errs.length y.ce, .bool Q.exact, .slice (some ⟨gr, 0, none⟩) n n, .slice tp tt.length tt.length, .slice (some ⟨gw, 0, none⟩) (nSrc X.N) wc, .int .i64 0, .int .i64 0, .int .i64 (sm2 : Int)] :: .vec (some ⟨gw, 0, none⟩) (nSrc X.N) wc 3 1 (flat intV z.2) :: .vec (some ⟨gq, 0, none⟩) W.length wqc 166 1 (flat rvV W) :: .vec (some ⟨gr, 0, none⟩) n n 164 1 (flat rrV rr) :: .vec lp L.length lc 175 4 (flat rsV L) :: .vec tp tt.length tt.length 177 1 (flat erV tt) :: .row b3 39 [.slice X.pn X.N.ps.length X.cn, .int .i64 X.N.inputs, .slice X.qs X.N.syns.length X.cs] :: .row b4 33 [.int .i64 X.C.mesh.wide, .int .i64 X.C.mesh.high, .int .i64 X.C.mesh.room, .int .i64 X.C.nr, .int .i64 X.C.sy, .int .i64 X.C.en, .int .i64 X.C.bits, .slice X.pd X.C.dead.length X.cd] :: .row b6 63 [.slice none 0 0, .slice none 0 0, .slice none 0 0, .int .i64 0, .slice none 0 0, .slice none 0 0, .slice none 0 0, .slice none 0 0, .bool false, .slice none 0 0, .slice none 0 0, .slice none 0 0, .int .i64 0, .int .i64 0, .int .i64 0] :: .vec pc cores.length cc 3 1 (flat intV cores) :: .vec ps cores.length cs 3 1 (flat intV SL) :: .vec y.pp Q.ps.length y.cp 74 8 (flat parV Q.ps) :: .vec y.ps Q.syns.length y.cs 70 4 (flat synV Q.syns) :: .vec y.pz Q.scales.length y.cz 3 1 (flat intV Q.scales) :: .vec y.pq Q.quots.length y.cq 3 1 (flat intV Q.quots) :: .vec y.pe Q.errs.length y.ce 3 1 (flat intV Q.errs) :: (W.map rvE ++ (L.flatMap rsH ++ (tt.map rerE ++ rr.map rrrE)))) (fun z => wx.l.length - z.1) (0, wv) ⟨Nat.zero_le _, by rw [hwve]; exact List.map_congr_left fun j _ => (wvAt_zero WF k (j : Int)).symm⟩ aE (by rw [← hI2]; exact aH) ?_
  rintro ⟨i, wv2⟩ ⟨hi, hwv2⟩
  dsimp only at hi hwv2 ⊢
  rcases Nat.lt_or_ge i wx.l.length with hil | hig
  ·-- cut<
   obtain ⟨x, hx⟩ : ∃ x, wx.l[i]? = some x := ⟨_, List.getElem?_eq_getElem hil⟩
   have hkx := hkr x (List.mem_of_getElem? hx)
   obtain ⟨kx, hkxe⟩ : ∃ kx : Nat, x.key = (kx : Int) := ⟨x.key.toNat, by omega⟩
   have hkxn : kx < nSrc X.N := by omega
   obtain ⟨g, hg⟩ := hwp2 (by omega)
   have hse : sub (flat rsV wx.l) (i * 4) 1 = some [.int .i64 (kx : Int)] := sub_flat0 (f := rsV) (k := 4) (s := 1) (fun _ => rfl) hx (by unfold rsV; rw [hkxe]; rfl)
   have hwm2 := hwm
   rw [hg] at hwm2
   have hvx2 := hvx
   rw [hg] at hvx2
   have hxk : (wx.l.map (·.key))[i]? = some (kx : Int) := by rw [List.getElem?_map, hx, ← hkxe]; rfl
   have hold : wv2[kx]? = some (wvAt WF k i (kx : Int)) := by rw [hwv2]; exact range_get hkxn
   have hnx := range_set (f := fun (j : Nat) => wvAt WF k i (j : Int)) (g := fun (j : Nat) => wvAt WF k (i + 1) (j : Int)) hkxn fun j hj => by
    rw [wvAt_next hwk hxk, if_neg (by omega)]
   rw [← hwv2, wvAt_next hwk hxk, if_pos rfl] at hnx
   repeat' (conv => whnf); first | (refine VIx.is ?_; refine VIx.mk rfl (by omega) (by omega) ?_) | (refine VLd.is ?_; refine VLd.mk (Rd.cast (.vec aT (hvx2)) (by first | omega | (dsimp only; omega) | rfl)) ?_) | (refine VLd.is ?_; refine VLd.atB g ?_; refine VLd.mk (Rd.cast (Rd.mVec (by (repeat (first | exact hwm2 | exact List.mem_append_left _ hwm2 | apply List.mem_cons_of_mem | apply List.mem_append_right)); first | done | fail) hse) (by first | omega | (dsimp only; omega) | rfl)) ?_) | (refine VSt.is ?_; refine VSt.is ?_; refine VSt.cast (off' := kx * 1) (by first | omega | (dsimp only; omega) | rfl) (VSt.vec aT (upd_flat0 (f := intV) (k := 1) (y := (k : Int)) (fun _ => rfl) hold rfl) rfl ?_)) | (refine VSeq.go ?_) | (refine VB.is ?_; refine VB.yes (by omega) fun _ => ?_) | (refine VLd.is ?_; refine VLd.mk (.row aT (by rfl)) ?_) | (refine VAr.is ?_; refine oA ?_) | (refine VHs.mk _ (.refl _) ?_)
   all_goals (conv => whnf)
   refine VNext.mk (i + 1, wv2.set kx (k : Int)) ⟨by dsimp only; omega, by dsimp only; rw [hnx]⟩ (by dsimp only; omega) aE aH
   -- >cut
  have hie : i = wx.l.length := by omega
  subst hie
  have hrow : wv2 = (List.range (nSrc X.N)).map (fun (j : Nat) => waveOf (WF.take (k + 1)) (j : Int)) := by
   rw [hwv2]
   refine List.map_congr_left fun j _ => ?_
   have := wvAt_row hnd hwk (j : Int)
   rw [List.length_map] at this
   exact this
  repeat' (conv => whnf); first | (refine VIx.is ?_; refine VIx.mk rfl (by omega) (by omega) ?_) | (refine VLd.is ?_; refine VLd.mk (Rd.cast (.vec aT (hvx)) (by first | omega | (dsimp only; omega) | rfl)) ?_) | (refine VSeq.go ?_) | (refine VB.is ?_; refine VB.no (by omega) fun _ => ?_) | (refine VAr.is ?_; refine oA ?_)
  all_goals (conv => whnf)
  exact VNext.mk (k + 1, wv2, sm2) ⟨by dsimp only; omega, hrow, hstep.symm, by dsimp only; omega⟩ (by dsimp only; omega) aE aH
 have hke : k = W.length := by omega
 subst hke
 have hWFl : WF.take W.length = WF := List.take_of_length_le (by rw [← hWk, List.length_map]; exact Nat.le_refl _)
 rw [hWFl] at hwve hsm
 have hco := fun (w' : World) hX h1 => rcost_any X w' hX cores hA p c b o h1
 have hlo := fun (w' : World) bq h1 h2 => rload_any L (fun x hx => (hLf x hx).2.2.2) (by omega) lp lc bq 0 w' h1 h2
 rw [rmost_eq (T := T) fun x hx => (hLT x hx).1, hLk] at hlo
 unfold PlnX.net chpC at hco
 repeat' (conv => whnf); first | (refine VCall.isF 87 ?_; (refine VCall.valR (fun w' hw' => hco w' (hrd.keep hw') (h1.keep hw' (by simp))) ?_)) | (refine VCall.isF 86 ?_; (refine VCall.valR (fun w' hw' => Exists.elim (Sl.own (f := rsV) (l := L) (k := 4) hw' aT (fun _ => rfl) rfl) fun bq hbq => hlo w' bq hbq (rs_o hw' fun e he => (by (repeat (first | exact he | exact List.mem_append_left _ he | apply List.mem_cons_of_mem | apply List.mem_append_right)); first | done | fail))) ?_)) | (refine VSeq.go ?_) | (refine VB.is ?_; refine VB.no (by omega) fun _ => ?_) | (refine VLd.is ?_; refine VLd.mk (.row aT (by rfl)) ?_) | (refine VSt.is ?_; refine VSt.row aT (by rfl) (by first | rfl | assumption) ?_)
 all_goals (conv => whnf)
 have hmr : mapRes X.N X.C cores = ⟨cores, SL, Q, rr.map (·.l), tt.map (·.l), wv, (costM X.N X.C cores : Int), (mostM ((keysM X.N).map T) : Int), (sm : Int)⟩ := by
  have hrr' : rr.map (·.l) = (List.range (nCores X.C)).map fun (k : Nat) => rowsM X.N cores (synQs X.N (quantRes X.N X.C.bits).quots) (k : Int) := by
   rw [hrr, hn, hQ, hsq]; rfl
  unfold mapRes
  rw [if_neg (by rw [he0]; simp), ← hrr', ← htt2, hwve, ← hSL, hQ, hsm, hWFe, hT]
 have hwvl : wv.length = nSrc X.N := by rw [hwve, List.length_map, List.length_range]
 rw [he0, hmr]
 refine ⟨fun w' hw' => ⟨⟨pc, cc, ps, cs, y, some ⟨gr, 0, none⟩, n, rr, tp, tt.length, tt, some ⟨gw, 0, none⟩, wc⟩, ?_, ⟨rfl, rfl, hrk, htk⟩, hw'.le ?_⟩⟩
 ·unfold mapV quantC
  dsimp only
  rw [hsll, hrl, hwvl]
  rfl
 ·unfold rmapH quantH
  dsimp only
  rw [hsll, hrl, hwvl]
  simp only [List.cons_append, List.nil_append]
  exact aH

theorem refMap_any (X : PlnX) (w : World) (hX : PlnRd X w) (cores : List Int) (hcw : ∀ k ∈ cores, I64 k) (hlc : cores.length ≤ 1000000) (p : Option Addr) (c b o : Nat) (h1 : Sl w intV 1 cores p cores.length b o) :
  Calls Tryz.prog 27 #[.agg X.net.toArray, .agg (chpC X.C X.pd X.cd).toArray, .slice p cores.length c] w fun e w' => ∃ z : MapP, e = .returned (.tuple #[.agg (mapV z (mapRes X.N X.C cores)).toArray, .int .i64 (mapErr X.N X.C cores)]) ∧ MapIs z (mapRes X.N X.C cores) ∧ St w [] (rmapH z (mapRes X.N X.C cores)) w' := by
 by_cases hasg : asgE X.N X.C cores = 0
 ·exact refMap_good X w hX cores hcw p c b o h1 (asgE_zero hasg) hasg
 ·have he : mapErr X.N X.C cores = asgE X.N X.C cores := by unfold mapErr; rw [if_pos hasg]
  have hr : mapRes X.N X.C cores = mapNone := by unfold mapRes; rw [he, if_pos hasg]
  refine (refMap_bad X w hX cores hcw hlc p c b o h1 hasg).mono fun e w' h => ?_
  rw [he, hr]
  exact ⟨mpNil, h.1, mpNil_is, h.2.le (HLe.permL (HLe.nilv (HLe.nilv (HLe.nilv (HLe.nilv (HLe.nilv (HLe.nilv (HLe.nilv (HLe.nilv (HLe.nilv (HLe.nilv .nil)))))))))) (.refl _))⟩

end Go.Proofs
