import Derived.Test.YtephkjicokbckaaGreatDoorVerifyReachesRg
import Derived.Test.YtephkjicokbckaaGreatDoorVerifyReachesRcp
import Derived.Test.YtephkjicokbckaaGreatDoorVerifyReachesKy
set_option linter.unusedVariables false

set_option linter.unusedSimpArgs false

namespace Go.Proofs

open Go Go.Vx Go.Gm

structure RSameNet (x y : RSim) : Prop where
  N : y.N = x.N
  pn : y.pn = x.pn
  cn : y.cn = x.cn
  qs : y.qs = x.qs
  cs : y.cs = x.cs

theorem RSameNet.trans {x y z : RSim} (h : RSameNet x y) (h2 : RSameNet y z) : RSameNet x z := ⟨h2.N.trans h.N, h2.pn.trans h.pn, h2.cn.trans h.cn, h2.qs.trans h.qs, h2.cs.trans h.cs⟩

theorem rcopy_any (x : RSim) (hx : RRun x) (w : World) (hr : RSimRd w x) :
    Calls Tryz.prog 70 #[.pointer (some ⟨x.b, 0, none⟩)] w fun e w' => ∃ y : RSim, e = .returned (.pointer (some ⟨y.b, 0, none⟩)) ∧
      (RRun y ∧ RSameNet x y ∧ y.tick = x.tick ∧ smR y = smR x) ∧ St w [] (rsimH y) w' := by
  obtain ⟨hxo, hxs, hxt⟩ := hx
  obtain ⟨hc, hst, ⟨bd, od, hd⟩, hdue⟩ := hr
  have hNk := hxo.net
  have hpos := hNk.some
  have hfew := hNk.few
  have hsl := hxo.sts
  have h16 := hxo.due
  have hcells := hxo.cells
  obtain ⟨Ls, hLs⟩ : ∃ Ls, (x.D.map fun d => (⟨some ⟨d.g, 0, none⟩, d.cap, d.l⟩ : SlD Int)) = Ls := ⟨_, rfl⟩
  have hLl : Ls.length = x.D.length := by rw [← hLs, List.length_map]
  have hLm : Ls.map (·.l) = x.D.map (·.l) := by rw [← hLs, List.map_map]; rfl
  rw [hLs, ← hLl] at hd
  have h := RCopy_any x.b (.slice x.pn x.N.ps.length x.cn) (.int .i64 x.N.inputs) (.slice x.qs x.N.syns.length x.cs) x.tick (some ⟨x.sb, 0, none⟩) x.sc x.sts x.dp x.dc Ls (by omega) (by omega) (fun d hd => by rw [← hLs] at hd; obtain ⟨d0, h0, rfl⟩ := List.mem_map.1 hd; have := hcells d0 h0; dsimp only; omega) x.sb 0 bd od w ⟨rfl, rfl, rfl⟩ (by rw [hLl]; exact hc) hst hd (fun d hd => by rw [← hLs] at hd; obtain ⟨d0, h0, rfl⟩ := List.mem_map.1 hd; exact ⟨_, _, hdue d0 h0⟩)
  refine h.mono fun e w' ⟨y, h1, h2, h3⟩ => ?_
  have hyl : y.D.map (·.l) = x.D.map (·.l) := h2.trans hLm
  have hyL : y.D.length = 16 := by
    have := congrArg List.length hyl
    rw [List.length_map, List.length_map] at this
    omega
  have hg : ∃ g, y.dp = some ⟨g, 0, none⟩ := (vec_facts (h3.own (.vec y.dp y.D.length y.dc 26 1 (flat drowVs y.D)) (by simp [rcpH]))).2.1 (by omega)
  refine ⟨⟨y.b, x.N, x.pn, x.cn, x.qs, x.cs, x.tick, y.sb, y.sc, x.sts, y.dp, y.dc, y.D⟩, h1, ⟨⟨⟨hNk, hsl, hyL, fun d hd => ?_, hg⟩, hxs, hxt⟩, ⟨rfl, rfl, rfl, rfl, rfl⟩, rfl, ?_⟩, ?_⟩
  · have hm : d.l ∈ x.D.map (·.l) := by rw [← hyl]; exact List.mem_map_of_mem hd
    obtain ⟨d0, h0, h00⟩ := List.mem_map.1 hm
    rw [← h00]
    exact hcells d0 h0
  · unfold smR
    dsimp only
    rw [hyl]
  · have e : flat drowVs y.D = y.D.map drowV := by
      unfold flat drowVs
      exact List.map_eq_flatMap.symm
    unfold rcpH at h3
    rw [e] at h3
    exact h3

structure RNd where
  sim : RSim
  left : Int
  shown : SlD Bool
  run : SlD Evt

def rndV (x : RNd) : List Value := [.pointer (some ⟨x.sim.b, 0, none⟩), .int .i64 x.left, slV x.shown, slV x.run]

def rndH (x : RNd) : HP := .vec x.shown.p x.shown.l.length x.shown.c 4 1 (flat boolV x.shown.l) :: .vec x.run.p x.run.l.length x.run.c 64 2 (flat evtV x.run.l) :: rsimH x.sim

structure RNdRd (w : World) (x : RNd) : Prop where
  sim : RSimRd w x.sim
  shown : ∃ b o, Sl w boolV 1 x.shown.l x.shown.p x.shown.l.length b o
  run : ∃ b o, Sl w evtV 2 x.run.l x.run.p x.run.l.length b o

theorem RNdRd.of {w0 w : World} {M : List Nat} {H : HP} {x : RNd} (hs : St w0 M H w) (hl : HLe (rndH x) H) : RNdRd w x := by
  have h := hs.le hl
  obtain ⟨b1, h1⟩ := Sl.own (f := boolV) (l := x.shown.l) (cap := x.shown.c) (e := 4) (p := x.shown.p) (k := 1) h .here (fun _ => rfl) rfl
  obtain ⟨b2, h2⟩ := Sl.own (f := evtV) (l := x.run.l) (cap := x.run.c) (e := 64) (p := x.run.p) (k := 2) h (.there .here) (fun _ => rfl) rfl
  exact ⟨RSimRd.of h (by unfold rndH; exact aH), ⟨b1, 0, h1⟩, ⟨b2, 0, h2⟩⟩

theorem RSimRd.keep {w0 w : World} {H : HP} {x : RSim} (h : RSimRd w0 x) (hs : St w0 [] H w) : RSimRd w x := by
  obtain ⟨h1, h2, ⟨bd, od, h3⟩, h4⟩ := h
  exact ⟨h1.keep hs (by simp), h2.keep hs (by simp), ⟨bd, od, h3.keep hs (by simp)⟩, fun d hd => (h4 d hd).keep hs (by simp)⟩

theorem rSpk_go {N : Net} {x : RSim} (h : x.N = N) : spk (goFire x) = rSpk N (smR x) := by
  subst h
  unfold rSpk goFire smR
  rw [List.getElem?_map]

theorem go_call2 {w0 : World} {M : List Nat} {H : HP} {Z : HP → HP} {K : Value → HP → Prop} (x : RSim) (hx : RSimOk x) (ht : x.tick ≤ 1073741824) (hst : StaAll x.N x.sts) (ins : List Int) (hins : ∀ k ∈ ins, 0 ≤ k ∧ k ≤ 256) (hil : ins.length ≤ 65536)
    (bn on bs os : Nat) (hpar : Sl w0 parV 8 x.N.ps x.pn x.N.ps.length bn on) (hparM : bn ∉ M) (hsyn : Sl w0 synV 4 x.N.syns x.qs x.N.syns.length bs os) (hsynM : bs ∉ M)
    (p : Option Addr) (n c : Nat) (hn : n = ins.length) (bi oi : Nat) (hin : Sl w0 intV 1 ins p ins.length bi oi) (hinM : bi ∉ M) (hat : AtS H (rsimH x) Z)
    (hk : ∀ y : RGoY, ((0 < (spk (goFire x)).length → ∃ g, y.p = some ⟨g, 0, none⟩) ∧ RSimOk (x.next y) ∧ smR (x.next y) = refStep x.N (smR x) ins) →
      K (.slice y.p (spk (goFire x)).length y.cap) (.vec y.p (spk (goFire x)).length y.cap 3 1 (flat intV (spk (goFire x))) :: Z (rsimH (x.next y)))) :
    VCall Tryz.cx.P w0 M H 71 [.pointer (some ⟨x.b, 0, none⟩), .slice p n c] K := by
  subst hn
  refine VCall.turnV (α := RGoY) (fun y => .slice y.p (spk (goFire x)).length y.cap) (fun y => (0 < (spk (goFire x)).length → ∃ g, y.p = some ⟨g, 0, none⟩) ∧ RSimOk (x.next y) ∧ y.D.map (·.l) = (sent (goSrcs x ins) x.N.syns).foldl refAdd ((x.D.map (·.l)).tail ++ [List.replicate x.N.ps.length 0]))
    (fun y => rsimH (x.next y)) (fun y => [.vec y.p (spk (goFire x)).length y.cap 3 1 (flat intV (spk (goFire x)))]) hat (fun w hw hs => ?_) (fun y hy => hk y ⟨hy.1, hy.2.1, ?_⟩)
  · have hl : HLe (rsimH x) H := HLe.of_perm hat.perm
    obtain ⟨b1, o1, g1, m1⟩ := hpar.oldOut hparM hw hl (fun _ => rfl) (by omega)
    obtain ⟨b2, o2, g2, m2⟩ := hsyn.oldOut hsynM hw hl (fun _ => rfl) (by omega)
    obtain ⟨b3, o3, g3, m3⟩ := hin.oldOut hinM hw hl (fun _ => rfl) (by omega)
    exact rsimGo_any x hx hst ins hins hil p c b3 o3 w b1 o1 b2 o2 hs g1 m1 g2 m2 g3 m3 ht
  · have h3 := hy.2.2
    have e0 : (goFire x) = fire x.N.ps (smR x).sts (((smR x).D[0]?).getD []) := by
      unfold goFire smR
      rw [List.getElem?_map]
    unfold refStep refSrcs
    rw [← e0]
    unfold smR RSim.next RSim.put
    simp only [Sm.mk.injEq, true_and]
    exact h3

theorem RSimOk.row {x : RSim} (hx : RSimOk x) : ∃ d, x.D[0]? = some d ∧ d.l.length = x.N.ps.length := by
  have h := hx.due
  exact ⟨x.D[0]'(by omega), List.getElem?_eq_getElem _, hx.cells _ (List.getElem_mem _)⟩

theorem goFire_len {x : RSim} (h : RSimOk x) : (spk (goFire x)).length ≤ 1024 := by
  obtain ⟨d, h1, h2⟩ := h.row
  have h3 : (goFire x).length = x.N.ps.length := by
    unfold goFire
    rw [h1]
    exact fire_length h.sts h2
  have h4 := spkFrom_length (goFire x) 0
  have h5 := h.net.few
  unfold spk
  omega

theorem RRun.next {x : RSim} (hx : RRun x) (ht : x.tick < 10000) {y : RGoY} (hy : RSimOk (x.next y)) : RRun (x.next y) := by
  refine ⟨hy, ?_, by show x.tick + 1 ≤ 10000; omega⟩
  intro i p s h1 h2
  change x.N.ps[i]? = some p at h1
  change ((goFire x).map (·.1))[i]? = some s at h2
  obtain ⟨d, g1, g2⟩ := hx.ok.row
  have hlt : i < x.N.ps.length := (List.getElem?_eq_some_iff.1 h1).1
  have hsl := hx.ok.sts
  have e1 : x.sts[i]? = some (x.sts[i]'(by omega)) := List.getElem?_eq_getElem _
  have e2 : d.l[i]? = some (d.l[i]'(by omega)) := List.getElem?_eq_getElem _
  have e3 := fire_get h1 e1 e2
  unfold goFire at h2
  rw [g1] at h2
  rw [Option.map_some, Option.getD_some, List.getElem?_map, e3] at h2
  simp only [Option.map_some, Option.some.injEq] at h2
  subst h2
  exact tick_ok (hx.ok.net.ps p (List.mem_of_getElem? h1)) (hx.sta i p _ h1 e1) _

set_option maxHeartbeats 3200000 in
theorem goes_any (s : RNd) (hrun : RRun s.sim) (ht : s.sim.tick < 10000) (Ls : List MomD) (hpos : 0 < Ls.length) (h8 : Ls.length ≤ 8) (hsh : s.shown.l.length = Ls.length) (hrl : s.run.l.length ≤ 100000000) (ins : List Int) (hins : ∀ k ∈ ins, 0 ≤ k ∧ k ≤ 256) (hil : ins.length ≤ 65536)
    (count tick : Int) (hcl : 0 ≤ count ∧ count ≤ s.left ∧ s.left ≤ 9223372036854775807) (pl : Option Addr) (cl bl ol : Nat) (pi : Option Addr) (ci bi oi : Nat) (bn on bs os : Nat) (w : World) (hs : RNdRd w s)
    (hL : Sl w momV 2 Ls pl Ls.length bl ol) (hLo : ∀ x ∈ Ls, MomOk w x) (hin : Sl w intV 1 ins pi ins.length bi oi) (hpar : Sl w parV 8 s.sim.N.ps s.sim.pn s.sim.N.ps.length bn on) (hsyn : Sl w synV 4 s.sim.N.syns s.sim.qs s.sim.N.syns.length bs os) :
    Calls Tryz.prog 73 #[.agg (rndV s).toArray, .slice pl Ls.length cl, .slice pi ins.length ci, .int .i64 count, .int .i64 tick] w fun e w' => ∃ y : RNd, e = .returned (.agg (rndV y).toArray) ∧
      (RRun y.sim ∧ RSameNet s.sim y.sim ∧ y.sim.tick = s.sim.tick + 1 ∧ smR y.sim = refStep s.sim.N (smR s.sim) ins ∧ y.left = s.left - count ∧ y.shown.l = nextShown (Ls.map (·.mom)) s.shown.l (rSpk s.sim.N (smR s.sim)) ∧ y.run.l = s.run.l ++ atL tick ins ∧ (∃ g, y.shown.p = some ⟨g, 0, none⟩) ∧ (0 < y.run.l.length → ∃ g, y.run.p = some ⟨g, 0, none⟩)) ∧ St w [] (rndH y) w' := by
  obtain ⟨hsim, ⟨b1, o1, hshw⟩, ⟨b2, o2, hrn⟩⟩ := hs
  obtain ⟨X, left, ⟨psh, csh, SH⟩, ⟨prn, crn, RN⟩⟩ := s
  dsimp only at *
  rw [show rndV ⟨X, left, ⟨psh, csh, SH⟩, ⟨prn, crn, RN⟩⟩ = [.pointer (some ⟨X.b, 0, none⟩), .int .i64 left, .slice psh SH.length csh, .slice prn RN.length crn] from rfl]
  refine enter (C := Tryz.cx) (F := Tryz.fx73) (args := [_, _, _, _, _]) Tryz.func73 rfl rfl rfl Tryz.ok73 (St.start w []) ?_
  refine VSeq.go ?_
  repeat' (conv => whnf); first | (refine VNew.mk fun b10 => ?_)
  all_goals (conv => whnf)
  rename_i b5
  have hNk := hrun.ok.net
  refine VSeq.cut (at_ := 2) (α := (RSim × Nat) × Nat × SlD Evt) (fun z => RRun z.1.1 ∧ RSameNet X z.1.1 ∧ z.1.1.tick = X.tick ∧ smR z.1.1 = smR X ∧ z.2.2.l = RN)
    (fun z => [(1000000, .tuple #[]), (1, .slice pl Ls.length cl), (2, .slice pi ins.length ci), (4, .int .i64 tick), (5, .pointer (some ⟨b5, 0, none⟩)), (10, .pointer (some ⟨b10, 0, none⟩)), (11, .pointer (some ⟨z.1.2, 0, none⟩))])
    (fun z => .row z.1.2 121 [.pointer (some ⟨z.1.1.b, 0, none⟩), .int .i64 (left - count), .slice (some ⟨z.2.1, 0, none⟩) Ls.length Ls.length, slV z.2.2] :: .vec (some ⟨z.2.1, 0, none⟩) Ls.length Ls.length 4 1 (repL [.bool false] Ls.length) :: .vec z.2.2.p z.2.2.l.length z.2.2.c 64 2 (flat evtV z.2.2.l) ::
      .row b5 121 [.pointer (some ⟨X.b, 0, none⟩), .int .i64 left, .slice psh SH.length csh, .slice prn RN.length crn] :: .row b10 121 [.pointer none, .int .i64 0, .slice none 0 0, .slice none 0 0] :: rsimH z.1.1) ?_ ?_
  · repeat' (conv => whnf); first | (refine VCall.isF 70 ?_; (refine VCall.genR (fun w' hw' => rcopy_any X hrun w' (hsim.keep hw')) ?_; rintro y ⟨hy1, hy2, hy3, hy4⟩; generalize hR : rsimH y = R)) | (refine VNew.mk fun b11 => ?_) | (refine VMk.is ?_; refine VMk.mk (by omega) (by omega) (by (try dsimp only); omega) (by omega) fun g => ?_) | (refine VAp.is ?_; refine VAp.is ?_; refine VAp.own (q := prn) aT (hrn.src (by simp) (fun _ => rfl)) (flat_one_cell (by simp [evtV, Value.oneCell'])) (by (try dsimp only); omega) (by simp only [maxLen]; omega) fun p' cap' hp' => ?_; rw [Nat.zero_add RN.length] at hp' ⊢) | (refine VLd.is ?_; refine VLd.mk (.row aT (by rfl)) ?_) | (refine VSt.is ?_; refine VSt.row aT (by rfl) (by first | rfl | assumption) ?_) | (refine VAr.is ?_; refine oA ?_) | (refine VKeep.is ?_; refine VKeep.mk aH ?_) | (refine VHs.mk _ (.refl _) ?_) | (refine And.intro ?_ ?_)
    all_goals (conv => whnf)
    all_goals refine VMid.mk ((y, _), g, ⟨p', cap', RN⟩) ⟨hy1, hy2, hy3, hy4, rfl⟩ aE ?_
    all_goals (simp only [Int.toNat_natCast, slV, cellsL, repL, List.nil_append]; rw [hR])
    all_goals exact aH
  rintro ⟨⟨y, b11⟩, g, ⟨pr, cr, RN'⟩⟩ ⟨hy1, hy2, hy3, hy4, hy5⟩
  dsimp only at hy1 hy2 hy3 hy4 hy5 ⊢
  subst hy5
  rw [show repL [Value.bool false] Ls.length = flat boolV (List.replicate Ls.length false) from flat_rep (f := boolV) (x := false) Ls.length]
  have hXN := hy2.N
  repeat' (conv => whnf); first | (refine VSeq.go ?_) | (refine VB.is ?_; refine VB.no (by omega) fun _ => ?_) | (refine VLd.is ?_; refine VLd.mk (.row aT (by rfl)) ?_) | (refine VSt.is ?_; refine VSt.row aT (by rfl) (by first | rfl | assumption) ?_)
  all_goals (conv => whnf)
  refine VLoop.mk (α := Nat × SlD Evt) (fun z => z.1 ≤ ins.length ∧ z.2.l = RN' ++ atL tick (ins.take z.1)) (fun z => [(1000000, .tuple #[]), (1, .slice pl Ls.length cl), (2, .slice pi ins.length ci), (4, .int .i64 tick), (5, .pointer (some ⟨b5, 0, none⟩)), (10, .pointer (some ⟨b10, 0, none⟩)), (11, .pointer (some ⟨b11, 0, none⟩)), (12, .int .i64 (z.1 : Int))])
    (fun z => .row b11 121 [.pointer (some ⟨y.b, 0, none⟩), .int .i64 (left - count), .slice (some ⟨g, 0, none⟩) Ls.length Ls.length, slV z.2] :: .vec (some ⟨g, 0, none⟩) Ls.length Ls.length 4 1 (flat boolV (List.replicate Ls.length false)) :: .vec z.2.p z.2.l.length z.2.c 64 2 (flat evtV z.2.l) ::
      .row b5 121 [.pointer (some ⟨X.b, 0, none⟩), .int .i64 left, .slice psh SH.length csh, .slice prn RN'.length crn] :: .row b10 121 [.pointer none, .int .i64 0, .slice none 0 0, .slice none 0 0] :: rsimH y) (fun z => ins.length - z.1) (0, ⟨pr, cr, RN'⟩) ⟨by dsimp only; omega, by simp [atL]⟩ aE aH ?_
  rintro ⟨k, ⟨p1, c1, R1⟩⟩ ⟨hk, hR1⟩
  dsimp only at hk hR1 ⊢
  have hR1l : R1.length ≤ 100000000 + k := by
    rw [hR1, List.length_append]
    unfold atL
    rw [List.length_map, List.length_take]
    omega
  rcases Nat.lt_or_ge k ins.length with hlt | hge
  · obtain ⟨i, hi⟩ := hin.get hlt
    have htk : RN' ++ atL tick (ins.take (k + 1)) = R1 ++ [⟨tick, i⟩] := by
      rw [hR1, List.take_add_one, hi, Option.toList_some, List.append_assoc]
      unfold atL
      rw [List.map_append]
      rfl
    repeat' (conv => whnf); first | (refine VIx.is ?_; refine VIx.mk (hin.ptr (by omega)) (by omega) (by omega) ?_) | (refine VLd.is ?_; refine VLd.mk (Rd.cast (hin.rd0 (by simp) (fun _ => rfl) hi rfl) (by first | omega | (dsimp only; omega) | rfl)) ?_) | (refine VAp.is ?_; refine VAp.own aT (.at_ (.vec aT rfl)) (by simp [Value.oneCell']) (by (try dsimp only); omega) (by simp only [maxLen]; omega) fun p' cap' hp' => ?_) | (refine VSeq.go ?_) | (refine VB.is ?_; refine VB.yes (by omega) fun _ => ?_) | (refine VLd.is ?_; refine VLd.mk (.row aT (by rfl)) ?_) | (refine VSt.is ?_; refine VSt.row aT (by rfl) (by first | rfl | assumption) ?_) | (refine VNew.mk fun _ => ?_) | (refine VAr.is ?_; refine oA ?_) | (refine VKeep.is ?_; refine VKeep.mk aH ?_) | (refine VHs.mk _ (.refl _) ?_)
    all_goals (conv => whnf)
    refine VNext.mk (k + 1, ⟨p', cap', R1 ++ [⟨tick, i⟩]⟩) ⟨by dsimp only; omega, htk.symm⟩ (by dsimp only; omega) aE ?_
    dsimp only
    rw [show slV (⟨p', cap', R1 ++ [⟨tick, i⟩]⟩ : SlD Evt) = .slice p' (R1.length + 1) cap' by simp [slV], List.length_append, flat_append]
    exact aH
  have hki : k = ins.length := by omega
  subst hki
  rw [List.take_length] at hR1
  obtain ⟨sp, hsp⟩ : ∃ sp, rSpk X.N (smR X) = sp := ⟨_, rfl⟩
  obtain ⟨NS, hNS⟩ : ∃ NS, nextShown (Ls.map (·.mom)) SH sp = NS := ⟨_, rfl⟩
  have hNSl : NS.length = Ls.length := by rw [← hNS, nextShown_len, List.length_map]
  have hspe : spk (goFire y) = sp := by rw [rSpk_go hXN, hy4, hsp]
  have hspl : sp.length ≤ 1024 := by rw [← hspe]; exact goFire_len hy1.ok
  have hyt : y.tick < 10000 := by omega
  rw [hsp, hNS]
  have hrs := rep_set Ls.length hpos
  have hsh0 : shPart NS 0 = true :: List.replicate (Ls.length - 1) false := by
    rw [← hNS]
    have := shPart_zero (pat := Ls.map (·.mom)) (by rw [List.length_map]; exact hpos) SH sp
    rwa [List.length_map] at this
  repeat' (conv => whnf); first | (refine VCall.isF 71 ?_; (refine go_call2 y hy1.ok (by omega) hy1.sta ins hins hil bn on bs os (by rw [hXN, hy2.pn]; exact hpar) (by simp) (by rw [hXN, hy2.qs]; exact hsyn) (by simp) _ _ _ rfl bi oi hin (by simp) aS ?_; rintro yg ⟨hg1, hg2, hg3⟩; rw [hspe] at hg1 ⊢)) | (refine VSt.is ?_; refine VSt.cast (off' := 0 * 1) (by first | omega | (dsimp only; omega) | rfl) (VSt.vec aT (upd_flat0 (f := boolV) (k := 1) (y := true) (fun _ => rfl) (show (List.replicate Ls.length false)[0]? = some false by rw [List.getElem?_replicate, if_pos hpos]) rfl) rfl ?_)) | (refine VSeq.go ?_) | (refine VB.is ?_; refine VB.no (by omega) fun _ => ?_) | (refine VLd.is ?_; refine VLd.mk (.row aT (by rfl)) ?_) | (refine VIx.is ?_; refine VIx.mk rfl (by omega) (by omega) ?_)
  all_goals (conv => whnf)
  refine VLoop.mk (α := Nat) (fun j => j + 1 ≤ Ls.length) (fun j => [(1000000, .tuple #[]), (1, .slice pl Ls.length cl), (5, .pointer (some ⟨b5, 0, none⟩)), (10, .pointer (some ⟨b10, 0, none⟩)), (11, .pointer (some ⟨b11, 0, none⟩)), (13, .slice yg.p sp.length yg.cap), (14, .int .i64 ((j : Int) + 1))])
    (fun j => .row b11 121 [.pointer (some ⟨y.b, 0, none⟩), .int .i64 (left - count), .slice (some ⟨g, 0, none⟩) Ls.length Ls.length, .slice p1 R1.length c1] :: .vec (some ⟨g, 0, none⟩) Ls.length Ls.length 4 1 (flat boolV (shPart NS j)) :: .vec p1 R1.length c1 64 2 (flat evtV R1) ::
      .row b5 121 [.pointer (some ⟨X.b, 0, none⟩), .int .i64 left, .slice psh SH.length csh, .slice prn RN'.length crn] :: .row b10 121 [.pointer none, .int .i64 0, .slice none 0 0, .slice none 0 0] :: .vec yg.p sp.length yg.cap 3 1 (flat intV sp) :: rsimH (y.next yg)) (fun j => Ls.length - j) 0 (by omega) aE (by rw [hsh0, ← hrs]; exact aH) ?_
  rintro j hj
  rcases Nat.lt_or_ge (j + 1) Ls.length with hlt | hge
  · obtain ⟨b, hb⟩ : ∃ b, SH[j]? = some b := ⟨SH[j]'(by omega), List.getElem?_eq_getElem _⟩
    obtain ⟨x, hx⟩ := hL.get (i := j) (by omega)
    have hxm := List.mem_of_getElem? hx
    have hnx : NS[j + 1]? = some (shownAt (Ls.map (·.mom)) SH sp j) := by rw [← hNS]; exact nextShown_succ (by rw [List.length_map]; exact hlt) SH sp
    have hsa : shownAt (Ls.map (·.mom)) SH sp j = (b && decide (Shown x.mom sp)) := by
      unfold shownAt
      rw [hb, List.getElem?_map, hx]
      rfl
    rw [hsa] at hnx
    have hset := shPart_set hnx
    obtain ⟨b0, hb0⟩ : ∃ b0, (shPart NS j)[j + 1]? = some b0 := ⟨(shPart NS j)[j + 1]'(by rw [shPart_len (by omega)]; omega), List.getElem?_eq_getElem _⟩
    repeat' (conv => whnf); first | (refine VIx.is ?_; refine VIx.mk (hshw.ptr (by omega)) (by omega) (by omega) ?_) | (refine VIx.is ?_; refine VIx.mk (hL.ptr (by omega)) (by omega) (by omega) ?_) | (refine VLd.is ?_; refine VLd.mk (Rd.cast (hshw.rd0 (i := j) (by simp) (fun _ => rfl) hb rfl) (by first | omega | (dsimp only; omega) | rfl)) ?_) | (refine VLd.is ?_; refine VLd.mk (Rd.cast (hL.rd0 (i := j) (by simp) (fun _ => rfl) hx rfl) (by first | omega | (dsimp only; omega) | rfl)) ?_) | (refine VCall.isF 69 ?_; (refine VCall.genR (fun w' hw' => Exists.elim (Sl.own (f := intV) (l := sp) (cap := yg.cap) (e := 3) (p := yg.p) (k := 1) hw' aT (fun _ => rfl) rfl) fun bq hbq => shows_any x sp (by omega) yg.p yg.cap bq 0 w' ((hLo x hxm).keep hw') hbq) ?_; intro c hc)) | (refine VSt.is ?_; refine VSt.cast (off' := (j + 1) * 1) (by first | omega | (dsimp only; omega) | rfl) (VSt.vec aT (upd_flat0 (f := boolV) (k := 1) (y := _) (fun _ => rfl) hb0 rfl) rfl ?_)) | (refine VSeq.go ?_) | (refine VB.is ?_; refine VB.yes (by omega) fun _ => ?_) | (refine boolE_split (fun h => ?_) (fun h => ?_) <;> subst h) | (refine VLd.is ?_; refine VLd.mk (.row aT (by rfl)) ?_) | (refine VAr.is ?_; refine oA ?_) | (refine VIx.is ?_; refine VIx.mk rfl (by omega) (by omega) ?_) | (refine VKeep.is ?_; refine VKeep.mk aH ?_) | (refine VHs.mk _ (.refl _) ?_)
    all_goals (conv => whnf)
    · refine VNext.mk (j + 1) (by omega) (by omega) aE ?_
      have hcd : (true && decide (Shown x.mom sp)) = c := by
        cases c
        · simp only [Bool.true_and, decide_eq_false_iff_not]
          exact fun h => by have := hc.2 h; cases this
        · simp only [Bool.true_and, decide_eq_true_eq]
          exact hc.1 rfl
      rw [hcd] at hset
      rw [← hset]
      exact aH
    · refine VNext.mk (j + 1) (by omega) (by omega) aE ?_
      rw [Bool.false_and] at hset
      rw [← hset]
      exact aH
  rw [shPart_all (L := NS) (j := j) (by omega)]
  repeat' (conv => whnf); first | (refine VSeq.go ?_) | (refine VB.is ?_; refine VB.no (by omega) fun _ => ?_) | (refine VLd.is ?_; refine VLd.mk (.row aT (by rfl)) ?_) | (refine VSt.is ?_; refine VSt.row aT (by rfl) (by first | rfl | assumption) ?_)
  all_goals (conv => whnf)
  refine ⟨fun w' hw' => ?_⟩
  have hle : St w [] (rndH ⟨y.next yg, left - count, ⟨some ⟨g, 0, none⟩, Ls.length, NS⟩, ⟨p1, c1, R1⟩⟩) w' := hw'.le (by
    unfold rndH
    dsimp only
    rw [hNSl]
    exact aH)
  have hv := vec_facts (hle.own (.vec p1 R1.length c1 64 2 (flat evtV R1)) (by simp [rndH]))
  refine ⟨⟨y.next yg, left - count, ⟨some ⟨g, 0, none⟩, Ls.length, NS⟩, ⟨p1, c1, R1⟩⟩, ?_, ⟨hy1.next hyt hg2, ⟨hy2.N, hy2.pn, hy2.cn, hy2.qs, hy2.cs⟩, by show y.tick + 1 = _; rw [hy3], by rw [hg3, hXN, hy4], rfl, rfl, hR1, ⟨g, rfl⟩, hv.2.1⟩, hle⟩
  unfold rndV slV
  dsimp only
  rw [hNSl]
  rfl

end Go.Proofs
