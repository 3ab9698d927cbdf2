import Derived.Test.YtephkjicokbckaaGreatDoorVerifyReachesTo2
import Derived.Test.YtephkjicokbckaaGreatDoorVerifyReachesSx
import Derived.Test.YtephkjicokbckaaGreatDoorVerifyReachesWk
import Derived.Test.YtephkjicokbckaaGreatDoorCards
import Derived.Test.YtephkjicokbckaaGreatDoorVerifyReachesStp
section
set_option linter.unusedVariables false

set_option linter.unusedSimpArgs false

namespace Go.Proofs

open Go Go.Vx Go.Gm Go.RowKit Go.WideShapes Go.ChangeShapes Go.Deep Go.Joins

section

variable {H : Type} {enc : TypeId × Value → H} {W : World} {base b0 : Nat} {spare : Nat → Bool} {held : Bool} {r : Reach}

set_option maxRecDepth 100000 in
theorem open_env {v : Value} {d : DataW H} {p : List MemPlace} (hv : Value.okWide Tryz.prog W r b0 29 v) (h : DataW.Trod enc Tryz.prog W base spare held 29 v d p) :
    ∃ (s : Sur) (pf : Option Addr) (cf bf of : Nat) (px : Option Addr) (cx bx ox : Nat), v = .agg (envC pf cf px cx s).toArray ∧ ((∀ x ∈ s.fixed, x.wf) ∧ I64 s.most) ∧ Sl W intV 1 s.free pf s.free.length bf of ∧ Sl W evtV 2 s.fixed px s.fixed.length bx ox ∧ s.fixed.length ≤ cx := by
  obtain ⟨v0, v1, v2, y0, y1, y2, n, rfl, _, _, h0, h1, h2⟩ := open_agg3 Tryz.underlying29 (by kernel_rfl) (by kernel_rfl) hv h
  have hts : Tryz.prog.cellTypes Tryz.prog.depth 29 = some [26, 27, 3] := by kernel_rfl
  have k0 := cell_of_row Tryz.underlying29 hts hv 0 rfl rfl (by simp)
  have k1 := cell_of_row Tryz.underlying29 hts hv 1 rfl rfl (by simp)
  obtain ⟨i, hi, _, hw⟩ := DataW.trod_int Tryz.underlying3 h2
  simp only [List.cons.injEq, and_true] at hi
  subst hi
  obtain ⟨pf, cf, bf, of, l, rfl, a1, a2, a3, a4⟩ := open_nums Tryz.underlying26 Tryz.underlying3 (by kernel_rfl) h0 k0
  obtain ⟨px, cx, bx, ox, rows, rfl, b1, b2, b3, b4⟩ := open_rows Tryz.underlying27 Tryz.underlying64 (by kernel_rfl) (by kernel_rfl) (by decide) (fields_i64 Tryz.underlying3 (by kernel_rfl)) h1 k1
  have e1 : (rows.map evtOf).length = rows.length := List.length_map _
  refine ⟨⟨l, rows.map evtOf, i⟩, pf, cf, bf, of, px, cx, bx, ox, ?_, ⟨?_, i64_of_wf hw⟩, a3, ?_, by dsimp only; rw [e1]; exact b1⟩
  · unfold envC
    dsimp only
    rw [e1]
  · intro x hx
    obtain ⟨r, hr, rfl⟩ := List.mem_map.1 hx
    exact (evtOf_ok (b4 r hr).1 (b4 r hr).2).2
  · dsimp only
    rw [e1]; exact Sl.thr b3 evtOf fun x hx => (evtOf_ok (b4 x hx).1 (b4 x hx).2).1

set_option maxRecDepth 100000 in
theorem open_moms {v : Value} {d : DataW H} {p : List MemPlace} (hv : Value.okWide Tryz.prog W r b0 30 v) (h : DataW.Trod enc Tryz.prog W base spare held 30 v d p) :
    ∃ (l : List MomD) (pe : Option Addr) (ce be oe : Nat), v = .slice pe l.length ce ∧ (∀ x ∈ l, (∃ b o, Sl W intV 1 x.m.l x.m.p x.m.l.length b o) ∧ (∃ b o, Sl W intV 1 x.n.l x.n.p x.n.l.length b o)) ∧ Sl W momV 2 l pe l.length be oe := by
  obtain ⟨n, hn⟩ := trod_of_slice Tryz.underlying30 hv h
  obtain ⟨pe, ce, be, oe, l, rfl, a1, a2, a3, a4⟩ := open_els momV 2 (fun x : MomD => (∃ b o, Sl W intV 1 x.m.l x.m.p x.m.l.length b o) ∧ (∃ b o, Sl W intV 1 x.n.l x.n.p x.n.l.length b o)) Tryz.underlying30 (by kernel_rfl) (fun _ => rfl) (fun n cs y hy => by
    obtain ⟨xs, m, _, _, hlen, hxl, hf⟩ := DataW.trod_struct Tryz.underlying87 hy
    have hc : Tryz.prog.cellsOf 87 = 2 := by kernel_rfl
    have h1 : Tryz.prog.cellsOf 26 = 1 := by kernel_rfl
    rw [hc] at hlen
    match cs, hlen with
    | [c0, c1], _ =>
      have f0 : DataW.trod enc Tryz.prog W base spare held m 26 (List.take (Tryz.prog.cellsOf 26) (List.drop 0 [c0, c1])) = xs[0]? := hf 0 _ rfl
      have f1 : DataW.trod enc Tryz.prog W base spare held m 26 (List.take (Tryz.prog.cellsOf 26) (List.drop 1 [c0, c1])) = xs[1]? := hf 1 _ rfl
      have hx2 : xs.length = 2 := hxl
      have g0 : xs[0]? = some (xs[0]'(by omega)) := List.getElem?_eq_getElem _
      have g1 : xs[1]? = some (xs[1]'(by omega)) := List.getElem?_eq_getElem _
      rw [g0] at f0
      rw [g1] at f1
      rw [h1] at f0 f1
      obtain ⟨d, hd1, hd2, hd3, hd4⟩ := nums_in Tryz.underlying26 Tryz.underlying3 (by kernel_rfl) f0
      subst hd1
      obtain ⟨e, he1, he2, he3, he4⟩ := nums_in Tryz.underlying26 Tryz.underlying3 (by kernel_rfl) f1
      subst he1
      exact ⟨⟨d, e⟩, rfl, hd3, he3⟩) hn (cell_of_slice Tryz.underlying30 hv)
  exact ⟨l, pe, ce, be, oe, rfl, a4, a3⟩

end

end Go.Proofs
end

section
set_option linter.unusedVariables false

set_option linter.unusedSimpArgs false

namespace Go.Proofs.YtephkjicokbckaaGreatDoor.verifyReaches

open Go Go.RowKit Go.WideShapes Go.ChangeShapes Go.Deep Go.Joins Go.Proofs

theorem and2 {a b : Bool} (ha : a = true) (hb : b = true) : (a && b) = true := by rw [ha, hb]; rfl

theorem k1 : (Rows.verifyReachesRow.wf (OpenSpec.ofChange Rows.verifyReachesSpec)) = true := by kernel_rfl

theorem k2 : (laidOutB Tryz.pinned.checked.prog) = true := by kernel_rfl

theorem k3 : (mapsRowed Tryz.pinned.checked.prog) = true := by kernel_rfl

theorem k4 : (Tryz.f3.params.all (Tryz.pinned.checked.prog.readableRec ·)) = true := by kernel_rfl

theorem k5 : (namedTie Tryz.pinned.checked.prog Rows.verifyReachesRow.named Rows.verifyReachesSpec.vars) = true := by kernel_rfl

theorem k6 : ((Rows.verifyReachesRow.stops == [])) = true := by kernel_rfl

theorem k7 : ((Tryz.pinned.checked.prog.stops == [])) = true := by kernel_rfl

theorem k8 : ((Rows.verifyReachesRow.knobs == [])) = true := by kernel_rfl

theorem k9 : ((Tryz.pinned.checked.prog.stopKnobs == [])) = true := by kernel_rfl

theorem k10 : ((Rows.verifyReachesRow.inPlace == Tryz.pinned.checked.prog.inPlace 3)) = true := by kernel_rfl

theorem k11 : ((Rows.verifyReachesRow.unfollowed == Tryz.pinned.checked.prog.unfollowed 3)) = true := by kernel_rfl

theorem k12 : ((Rows.verifyReachesRow.recurses == Tryz.pinned.checked.prog.recurses 3)) = true := by kernel_rfl

theorem k13 : ((Rows.verifyReachesRow.named == Tryz.pinned.checked.prog.varsNamed 3)) = true := by kernel_rfl

theorem k14 : ((Rows.verifyReachesRow.maps == (Tryz.f3.params.toList ++ Rows.verifyReachesSpec.plain.varTypes Tryz.pinned.checked.prog).any (Tryz.pinned.checked.prog.mapsRec ·))) = true := by kernel_rfl

theorem k15 : ((Rows.verifyReachesRow.ifaces == (Tryz.f3.params.toList ++ Rows.verifyReachesSpec.plain.varTypes Tryz.pinned.checked.prog).any (Tryz.pinned.checked.prog.ifacesRec ·))) = true := by kernel_rfl

theorem k16 : ((Rows.verifyReachesRow.mapsOut == Tryz.pinned.checked.prog.mapsAmong Tryz.f3.resultTypes.toList)) = true := by kernel_rfl

theorem k17 : ((Rows.verifyReachesRow.loops == (Tryz.f3.params.toList ++ Rows.verifyReachesSpec.plain.varTypes Tryz.pinned.checked.prog).any (Tryz.pinned.checked.prog.loopsFrom ·))) = true := by kernel_rfl

theorem k17b : ((Rows.verifyReachesRow.wideKeys == (Tryz.f3.params.toList ++ Rows.verifyReachesSpec.plain.varTypes Tryz.pinned.checked.prog ++ Tryz.f3.resultTypes.toList).any (Tryz.pinned.checked.prog.wideKeysFrom ·))) = true := by kernel_rfl

theorem k18 : (Rows.verifyReachesSpec.vars.all (Tryz.pinned.checked.prog.varReadable ·)) = true := by kernel_rfl

theorem k19 : (Tryz.f3.resultTypes.all (fun t => Tryz.pinned.checked.prog.readableRec t && decide (t < Tryz.pinned.checked.prog.types.size))) = true := by kernel_rfl

theorem k20 : ((Rows.verifyReachesRow.ifacesOut == Tryz.f3.resultTypes.toList.any (Tryz.pinned.checked.prog.ifacesRec ·))) = true := by kernel_rfl

theorem k21 : ((Rows.verifyReachesRow.loopsOut == Tryz.f3.resultTypes.toList.any (Tryz.pinned.checked.prog.loopsFrom ·))) = true := by kernel_rfl

theorem k22 : ((Rows.verifyReachesRow.plainKeys == Tryz.pinned.checked.prog.plainKeys)) = true := by kernel_rfl

theorem k23 : (Rows.verifyReachesRow.shortTexts.isNone) = true := by kernel_rfl

theorem k23b : (Tryz.pinned.checked.prog.stopsHeard) = true := by kernel_rfl

theorem k24 : (Tryz.pinned.checked.prog.mayEnter) = true := by kernel_rfl

theorem k24b : ((Rows.verifyReachesRow.lifted == Tryz.pinned.checked.prog.liftsFinal)) = true := by kernel_rfl

theorem k24c : ((Tryz.pinned.checked.prog.make == some Rows.verifyReachesRow.make)) = true := by kernel_rfl

theorem k25 : ((Rows.verifyReachesRow.kinds == (if Rows.verifyReachesRow.domain.isEmpty then [] else Tryz.f3.params.toList.map fun t => match Tryz.pinned.checked.prog.underlying t with | some (.int k) => some k | _ => none))) = true := by kernel_rfl

theorem k26 : ((Rows.verifyReachesRow.pinned == Rows.verifyReachesRow.pinnedBy)) = true := by kernel_rfl

theorem k27 : ((Rows.verifyReachesRow.veiled == (Tryz.f3.params.toList ++ Rows.verifyReachesSpec.plain.varTypes Tryz.pinned.checked.prog ++ Tryz.f3.resultTypes.toList).any (Tryz.pinned.checked.prog.veiledRec ·))) = true := by kernel_rfl

theorem k28 : (Rows.verifyReachesRow.veiledFits Tryz.pinned.checked.prog Tryz.f3.params.toList (Tryz.f3.params.toList ++ Rows.verifyReachesSpec.plain.varTypes Tryz.pinned.checked.prog ++ Tryz.f3.resultTypes.toList)) = true := by kernel_rfl

set_option maxRecDepth 100000 in
theorem closed : joinedFacts Tryz.pinned.checked.prog 3 Tryz.f3 Rows.verifyReachesSpec Rows.verifyReachesRow = true := and2 (and2 (and2 (and2 (and2 (and2 (and2 (and2 (and2 (and2 (and2 (and2 (and2 (and2 (and2 (and2 (and2 (and2 (and2 (and2 (and2 (and2 (and2 (and2 (and2 (and2 (and2 (and2 (and2 (and2 (and2 (k1) k2) k3) k4) k5) k6) k7) k8) k9) k10) k11) k12) k13) k14) k15) k16) k17) k17b) k18) k19) k20) k21) k22) k23) k23b) k24) k24b) k24c) k25) k26) k27) k28

theorem named : Tryz.pinned.checked.prog.funcNamed Rows.verifyReachesRow.func = some 3 := by kernel_rfl

theorem inst : Tryz.f3.isInstance Tryz.pinned.checked.prog Rows.verifyReachesRow.origin Rows.verifyReachesRow.targs := of_decide_eq_true (by kernel_rfl)

theorem wrap : Tryz.f3.isWrapper Tryz.pinned.checked.prog Rows.verifyReachesRow.wrapper Rows.verifyReachesRow.mainSum := by unfold Func.isWrapper; first | (rw [if_pos (by decide +kernel)]; kernel_rfl) | (rw [if_neg (by decide +kernel)]; exact ⟨rfl, rfl⟩)

theorem card_wf : Rows.verifyReachesRow.wfByText (OpenSpec.ofChange Rows.verifyReachesSpec) = true := by kernel_rfl

theorem card_goes : false = Rows.verifyReachesRow.goesBy Tryz.pinned.checked.prog := by kernel_rfl

theorem card_looks : false = Tryz.pinned.checked.prog.looks [] := by kernel_rfl

theorem card_params : (([25, 29, 30, 3] : List TypeId).all fun u => !Tryz.pinned.checked.prog.wantsStandIn u) = true := by kernel_rfl

theorem card_main : Tryz.pinned.checked.prog.mainIs = some (Rows.verifyReachesCard.stood.harness.1, Rows.verifyReachesCard.stood.harness.2.toList) := by kernel_rfl

end Go.Proofs.YtephkjicokbckaaGreatDoor.verifyReaches
end

section
set_option linter.unusedVariables false

set_option linter.unusedSimpArgs false

namespace Go.Proofs

open Go Go.Vx Go.Gm

structure SimRd (w : World) (x : SimM) : Prop where
  cells : Cells w x.b 0 (simC x)
  st : Sl w staV 2 x.sts (some ⟨x.sb, 0, none⟩) x.sts.length x.sb 0
  due : ∀ d ∈ x.D, Sl w intV 1 d.l (some ⟨d.g, 0, none⟩) d.l.length d.g 0

theorem SimRd.of {w0 w : World} {M : List Nat} {H : HP} {x : SimM} (hs : St w0 M H w) (hl : HLe (ownH x) H) : SimRd w x := by
  have h := hs.le hl
  refine ⟨?_, Sl.own' (cap := x.sc) (e := 194) h (by simp only [ownH, List.mem_cons, true_or, or_true]) (fun _ => rfl) rfl, fun d hd => Sl.own' h (by simp only [ownH, List.mem_cons]; exact .inr (.inr (List.mem_map_of_mem hd))) (fun _ => rfl) rfl⟩
  have hb := h.own (.row x.b 191 (simC x)) (by simp only [ownH, List.mem_cons, true_or])
  have hb' : w.heap[x.b]? = some (.cells (simC x).toArray 191 (0, 0)) := hb
  intro j v hj
  simpa [World.cell?, hb'] using hj

def drowVs (d : DRow) : List Value := [drowV d]

structure ImgM where
  tick : Nat
  sp : Option Addr
  sc : Nat
  sts : List Sta
  dp : Option Addr
  dc : Nat
  D : List DRow

def imgV (y : ImgM) : Value := .agg #[.int .i64 (y.tick : Int), .slice y.sp y.sts.length y.sc, .slice y.dp y.D.length y.dc]

def imgH (y : ImgM) : HP := .vec y.sp y.sts.length y.sc 194 2 (flat staV y.sts) :: .vec y.dp y.D.length y.dc 26 1 (flat drowVs y.D) :: y.D.map drowE

theorem rot_take (t : Nat) (D : List (List Int)) {i : Nat} {l : List Int} (hi : i < 16) (h : D[(t + i) % 16]? = some l) : (rot t D).take (i + 1) = (rot t D).take i ++ [l] := by
  rw [List.take_add_one, rot_get, if_pos hi, h]
  rfl

theorem Image_any (x : SimM) (hx : SimRun x) (w : World) (hr : SimRd w x) :
    Calls Tryz.prog 130 #[.pointer (some ⟨x.b, 0, none⟩)] w fun e w' => ∃ y : ImgM, e = .returned (.tuple #[imgV y, .int .i64 0]) ∧
      (y.tick = x.tick ∧ y.sts = x.sts ∧ y.D.map (·.l) = rot x.tick (x.D.map (·.l))) ∧ St w [] (imgH y) w' := by
  obtain ⟨hxo, hxs, hxt⟩ := hx
  obtain ⟨hc, hst, hdue⟩ := hr
  have hNk := hxo.net
  have hpos := hNk.some
  have hfew := hNk.few
  have hsl := hxo.sts
  have hDl := hxo.due
  have hcells := hxo.cells
  obtain ⟨cs, hcs⟩ : ∃ cs, simC x = cs := ⟨_, rfl⟩
  have h4 : sub cs 4 1 = some [.int .i64 (x.tick : Int)] := by rw [← hcs]; rfl
  have h5 : sub cs 5 1 = some [.slice (some ⟨x.sb, 0, none⟩) x.sts.length x.sc] := by rw [← hcs, sub_mk _ _ _ (by simp [simC])]; rfl
  have hrow : ∀ (i : Nat) d, i < 16 → x.D[(x.tick + i) % 16]? = some d → sub cs (6 + (((x.tick : Int) + (i : Int)) % 16).toNat) 1 = some [drowV d] := by
    intro i d hi h
    have := sub_due (x := x) rfl h
    rw [hcs] at this
    rw [show (((x.tick : Int) + (i : Int)) % 16).toNat = (x.tick + i) % 16 by omega]; exact this
  rw [hcs] at hc
  have hR : (rot x.tick (x.D.map (·.l))).length = 16 := rot_length _ _
  refine enter (C := Tryz.cx) (F := Tryz.fx130) (args := [_]) Tryz.func130 rfl rfl rfl Tryz.ok130 (St.start w []) ?_
  refine VSeq.go ?_
  repeat' (conv => whnf); first | (refine VNew.mk fun b1 => ?_)
  all_goals (conv => whnf)
  repeat' (conv => whnf); first | (refine VCall.isF 122 ?_; refine VCall.inl (F := Tryz.fx122) Tryz.func122 rfl rfl rfl Tryz.ok122 ?_) | (refine VLd.is ?_; refine VLd.mk (Rd.cast (.old (hc.part h4) rfl (by simp)) (by first | omega | (dsimp only; omega) | rfl)) ?_) | (refine VLd.is ?_; refine VLd.mk (Rd.cast (.old (hc.part h5) rfl (by simp)) (by first | omega | (dsimp only; omega) | rfl)) ?_) | (refine VCall.isF 123 ?_; (refine VCall.genR (fun w' hw' => cloneSta_any x.sts _ _ _ _ _ (hst.keep hw' (by simp)) (by omega)) ?_; rintro ⟨p1, c1⟩ hp1; dsimp only at hp1)) | (refine VNew.mk fun b2 => ?_) | (refine VSeq.is ?_; refine VSeq.cut (at_ := 4) (α := Nat × Option Addr × Nat) (fun _ => True) (fun y => [(1000000, .tuple #[]), (0, .pointer (some ⟨x.b, 0, none⟩)), (2, .pointer (some ⟨b1, 0, none⟩)), (3, .int .i64 0), (4, .pointer (some ⟨y.1, 0, none⟩))]) (fun y => [.row b1 198 [.int .i64 0, .slice none 0 0, .slice none 0 0], .row y.1 198 [.int .i64 (x.tick : Int), .slice y.2.1 x.sts.length y.2.2, .slice none 0 0], .vec y.2.1 x.sts.length y.2.2 194 2 (flat staV x.sts)]) ?_ ?_) | (refine VSeq.go ?_) | (refine VB.is ?_; refine VB.yes (by omega) fun _ => ?_) | (refine VSt.is ?_; refine VSt.row aT (by rfl) (by first | rfl | assumption) ?_) | (refine VKeep.is ?_; refine VKeep.mk aH ?_) | (refine VHs.mk _ (.refl _) ?_) | (refine And.intro ?_ ?_)
  all_goals (conv => whnf)
  · exact VMid.mk (b2, p1, c1) trivial aE aH
  · exact VMid.mk (b2, p1, c1) trivial aE aH
  rintro ⟨b4, p1, c1⟩ _
  dsimp only
  repeat' (conv => whnf); first | (refine VSeq.go ?_)
  all_goals (conv => whnf)
  refine VLoop.kr (α := List DRow × Option Addr × Nat) [1000000, 0, 2, 3, 4] rfl (fun y => y.1.length ≤ 16 ∧ y.1.map (·.l) = (rot x.tick (x.D.map (·.l))).take y.1.length)
    (fun y K => (20, .int .i64 (y.1.length : Int)) :: K)
    (fun y => .row b1 198 [.int .i64 0, .slice none 0 0, .slice none 0 0] :: .row b4 198 [.int .i64 (x.tick : Int), .slice p1 x.sts.length c1, .slice y.2.1 y.1.length y.2.2] :: .vec p1 x.sts.length c1 194 2 (flat staV x.sts) ::
      .vec y.2.1 y.1.length y.2.2 26 1 (flat drowVs y.1) :: y.1.map drowE)
    (fun y => 16 - y.1.length) ([], none, 0) ⟨by simp, by simp⟩ aE aH ?_
  rintro ⟨D, p, cap⟩ ⟨hD, hDl'⟩
  dsimp only at hD hDl' ⊢
  rcases Nat.lt_or_ge D.length 16 with hlt | hge
  · obtain ⟨d, hd⟩ : ∃ d, x.D[(x.tick + D.length) % 16]? = some d := ⟨x.D[(x.tick + D.length) % 16]'(by omega), List.getElem?_eq_getElem _⟩
    have hdl := hcells d (List.mem_of_getElem? hd)
    have hsd := hdue d (List.mem_of_getElem? hd)
    have hrd := hrow D.length d hlt hd
    have htk := rot_take x.tick (x.D.map (·.l)) (i := D.length) (l := d.l) hlt (by rw [List.getElem?_map, hd]; rfl)
    repeat' (conv => whnf); first | (refine VCall.isF 155 ?_; refine VCall.inl (F := Tryz.fx155) Tryz.func155 rfl rfl rfl Tryz.ok155 ?_) | (refine VLd.is ?_; refine VLd.mk (Rd.cast (.old (hc.part h4) rfl (by simp)) (by first | omega | (dsimp only; omega) | rfl)) ?_) | (refine VLd.is ?_; refine VLd.mk (Rd.cast (.old (hc.part hrd) rfl (by simp)) (by first | omega | (dsimp only; omega) | rfl)) ?_) | (refine VCall.isF 124 ?_; (refine VCall.genR (fun w' hw' => cloneInt_any d.l _ _ _ _ _ (hsd.keep hw' (by simp)) (by omega)) ?_; rintro ⟨p2, c2⟩ hp2; obtain ⟨g2, hg2⟩ := hp2 (by omega); dsimp only at hg2; subst hg2)) | (refine VAp.is ?_; refine VAp.own (p := p) aT (.at_ (.vec aT rfl)) (by simp [Value.oneCell']) (by (try dsimp only); omega) (by simp only [maxLen]; omega) fun p' cap' hp' => ?_) | (refine VSeq.go ?_) | (refine VB.is ?_; refine VB.yes (by omega) fun _ => ?_) | (refine VLd.is ?_; refine VLd.mk (.row aT (by rfl)) ?_) | (refine VSt.is ?_; refine VSt.row aT (by rfl) (by first | rfl | assumption) ?_) | (refine VNew.mk fun _ => ?_) | (refine VAr.is ?_; refine oA ?_) | (refine VIx.is ?_; refine VIx.mk rfl (by omega) (by omega) ?_) | (refine VKeep.is ?_; refine VKeep.mk aH ?_) | (refine VHs.mk _ (.refl _) ?_) | (refine VM.is ?_; refine oM ?_)
    all_goals (conv => whnf)
    refine VNext.mk (D ++ [⟨g2, c2, d.l⟩], p', cap') ⟨by simp; omega, ?_⟩ (by simp; omega) ?_ ?_
    · dsimp only
      rw [List.map_append, List.length_append, hDl', List.length_cons, List.length_nil, htk]
      rfl
    · dsimp only
      simp only [List.length_append, List.length_cons, List.length_nil]
      exact aE
    · dsimp only
      have e2 : (D ++ [(⟨g2, c2, d.l⟩ : DRow)]).map drowE = D.map drowE ++ [.vec (some ⟨g2, 0, none⟩) d.l.length c2 3 1 (flat intV d.l)] := by simp [drowE]
      have e3 : flat drowVs (D ++ [(⟨g2, c2, d.l⟩ : DRow)]) = flat drowVs D ++ [.slice (some ⟨g2, 0, none⟩) d.l.length c2] := by simp [flat, drowVs, drowV]
      rw [e2, e3, List.length_append, List.length_cons, List.length_nil]
      refine HLe.cons aT (HLe.cons aT (HLe.cons aT (HLe.cons aT ?_)))
      refine HLe.permL (A := .vec (some ⟨g2, 0, none⟩) d.l.length c2 3 1 (flat intV d.l) :: D.map drowE) ?_ (by simp)
      exact aH
  · repeat' (conv => whnf); first | (refine VSeq.go ?_) | (refine VB.is ?_; refine VB.no (by omega) fun _ => ?_) | (refine VLd.is ?_; refine VLd.mk (.row aT (by rfl)) ?_) | (refine VSt.is ?_; refine VSt.row aT (by rfl) (by first | rfl | assumption) ?_)
    all_goals (conv => whnf)
    have h16 : D.length = 16 := by omega
    refine ⟨fun w' hw' => ⟨⟨x.tick, p1, c1, x.sts, p, cap, D⟩, rfl, ⟨rfl, rfl, ?_⟩, hw'.le ?_⟩⟩
    · dsimp only
      rw [hDl', h16, List.take_of_length_le (by omega)]
    · unfold imgH
      dsimp only
      exact aH

end Go.Proofs
end
