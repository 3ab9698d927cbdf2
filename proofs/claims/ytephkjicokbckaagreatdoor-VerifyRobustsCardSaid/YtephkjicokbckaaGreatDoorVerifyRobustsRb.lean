import Derived.Test.YtephkjicokbckaaGreatDoorVerifyRobustsMk
import Derived.Test.YtephkjicokbckaaGreatDoorVerifyRobustsNa
import Derived.Test.YtephkjicokbckaaGreatDoorVerifyRobustsNb
import Derived.Test.YtephkjicokbckaaGreatDoorVerifyRobustsGa
import Derived.Test.YtephkjicokbckaaGreatDoorVerifyRobustsGd
section

set_option linter.unusedVariables false

set_option linter.unusedSimpArgs false

set_option linter.unnecessarySimpa false

namespace Go.Proofs

open Go Go.Vx Go.Gm

structure RSim where
  b : Nat
  N : Net
  pn : Option Addr
  cn : Nat
  qs : Option Addr
  cs : Nat
  tick : Nat
  sb : Nat
  sc : Nat
  sts : List Sta
  dp : Option Addr
  dc : Nat
  D : List DRow

def rsimC (x : RSim) : List Value :=
  [.slice x.pn x.N.ps.length x.cn, .int .i64 x.N.inputs, .slice x.qs x.N.syns.length x.cs, .int .i64 (x.tick : Int), .slice (some ⟨x.sb, 0, none⟩) x.sts.length x.sc, .slice x.dp x.D.length x.dc]

def rsimH (x : RSim) : HP :=
  .row x.b 206 (rsimC x) :: .vec (some ⟨x.sb, 0, none⟩) x.sts.length x.sc 194 2 (flat staV x.sts) :: .vec x.dp x.D.length x.dc 26 1 (x.D.map drowV) :: x.D.map drowE

theorem refBegin_any (N : Net) (hN : NetOk N) (pn : Option Addr) (cn : Nat) (qs : Option Addr) (cs : Nat) (w : World) :
    Calls Tryz.prog 67 #[.agg #[.slice pn N.ps.length cn, .int .i64 N.inputs, .slice qs N.syns.length cs]] w fun e w' => ∃ x : RSim, e = .returned (.pointer (some ⟨x.b, 0, none⟩)) ∧
      (x.N = N ∧ x.tick = 0 ∧ x.sts = List.replicate N.ps.length ⟨0, 0⟩ ∧ x.D.map (·.l) = List.replicate 16 (List.replicate N.ps.length 0) ∧ (x.pn = pn ∧ x.cn = cn ∧ x.qs = qs ∧ x.cs = cs) ∧ ∃ g, x.dp = some ⟨g, 0, none⟩) ∧ St w [] (rsimH x) w' := by
  have hpos := hN.some
  have hfew := hN.few
  have hfs := hN.fewS
  refine enter (C := Tryz.cx) (F := Tryz.fx67) (args := [_]) Tryz.func67 rfl rfl rfl Tryz.ok67 (St.start w []) ?_
  refine VSeq.go ?_
  repeat' (conv => whnf); first | (refine VNew.mk fun b1 => ?_)
  all_goals (conv => whnf)
  repeat' (conv => whnf); first | (refine VMk.is ?_; refine VMk.mk (by omega) (by omega) (by (try dsimp only); omega) (by omega) fun b2 => ?_) | (refine VNew.mk fun b3 => ?_) | (refine VSeq.go ?_) | (refine VLd.is ?_; refine VLd.mk (.row aT (by rfl)) ?_) | (refine VKeep.is ?_; refine VKeep.mk aH ?_) | (refine VHs.mk _ (.refl _) ?_)
  all_goals (conv => whnf)
  refine VLoop.mk (α := Option Addr × Nat × List DRow) (fun y => y.2.2.length ≤ 16 ∧ y.2.2.map (·.l) = List.replicate y.2.2.length (List.replicate N.ps.length 0) ∧ (0 < y.2.2.length → ∃ g, y.1 = some ⟨g, 0, none⟩))
    (fun y => [(1000000, .tuple #[]), (1, .pointer (some ⟨b1, 0, none⟩)), (2, .pointer none), (3, .pointer (some ⟨b3, 0, none⟩)), (4, .int .i64 (y.2.2.length : Int))])
    (fun y => .row b1 25 [.slice pn N.ps.length cn, .int .i64 N.inputs, .slice qs N.syns.length cs] :: rsimH ⟨b3, N, pn, cn, qs, cs, 0, b2, N.ps.length, List.replicate N.ps.length ⟨0, 0⟩, y.1, y.2.1, y.2.2⟩)
    (fun y => 16 - y.2.2.length) (none, 0, []) ⟨by simp, rfl, fun h => by simp at h⟩ aE ?_ ?_
  · have := flat_rep (f := staV) (x := ⟨0, 0⟩) N.ps.length
    dsimp only [rsimH, rsimC]
    rw [← this, List.length_replicate]
    exact aH
  rintro ⟨dp, dc, D⟩ ⟨hD, hz, hg⟩
  dsimp only at hD hz hg ⊢
  rcases Nat.lt_or_ge D.length 16 with hlt | hge
  · repeat' (conv => whnf); first | (refine VMk.is ?_; refine VMk.mk (by omega) (by omega) (by (try dsimp only); omega) (by omega) fun b4 => ?_) | (refine VAp.is ?_; refine VAp.own (p := dp) (by unfold rsimH; exact aT) (.at_ (.vec aT rfl)) (by simp [Value.oneCell']) (by (try dsimp only); omega) (by simp only [maxLen]; omega) fun p' cap' hp' => ?_) | (refine VSeq.go ?_) | (refine VB.is ?_; refine VB.yes (by omega) fun _ => ?_) | (refine VLd.is ?_; refine VLd.mk (.row aT (by rfl)) ?_) | (refine VSt.is ?_; refine VSt.row aT (by rfl) (by first | rfl | assumption) ?_) | (refine VNew.mk fun _ => ?_) | (refine VAr.is ?_; refine oA ?_) | (refine VKeep.is ?_; refine VKeep.mk aH ?_) | (refine VHs.mk _ (.refl _) ?_)
    all_goals (conv => whnf)
    refine VNext.mk (p', cap', D ++ [⟨b4, N.ps.length, List.replicate N.ps.length 0⟩]) ⟨by simp; omega, by simp [hz, List.replicate_succ'], fun _ => hp' (by omega)⟩ (by simp; omega) ?_ ?_
    · simp only [List.length_append, List.length_cons, List.length_nil]
      exact aE
    · have e1 : (D ++ [(⟨b4, N.ps.length, List.replicate N.ps.length 0⟩ : DRow)]).map drowV = D.map drowV ++ [.slice (some ⟨b4, 0, none⟩) N.ps.length N.ps.length] := by simp [drowV]
      have e2 : (D ++ [(⟨b4, N.ps.length, List.replicate N.ps.length 0⟩ : DRow)]).map drowE = D.map drowE ++ [.vec (some ⟨b4, 0, none⟩) N.ps.length N.ps.length 3 1 (repL [.int .i64 0] N.ps.length)] := by
        have := flat_rep (f := intV) (x := 0) N.ps.length
        simp only [List.map_append, List.map_cons, List.map_nil, drowE, List.length_replicate]
        rw [← this]; rfl
      dsimp only [rsimH, rsimC]
      rw [e1, e2, List.length_append, List.length_cons, List.length_nil]
      refine HLe.cons aT (HLe.cons aT (HLe.cons aT (HLe.cons aT ?_)))
      refine HLe.permL (A := .vec (some ⟨b4, 0, none⟩) N.ps.length N.ps.length 3 1 (repL [.int .i64 0] N.ps.length) :: D.map drowE) ?_ (by simpa using (List.perm_append_comm (l₁ := [_]) (l₂ := D.map drowE)))
      exact aH
  · repeat' (conv => whnf); first | (refine VSeq.go ?_) | (refine VB.is ?_; refine VB.no (by omega) fun _ => ?_)
    all_goals (conv => whnf)
    have h16 : D.length = 16 := by omega
    rw [h16] at hz
    exact ⟨fun w' hw' => ⟨⟨b3, N, pn, cn, qs, cs, 0, b2, N.ps.length, List.replicate N.ps.length ⟨0, 0⟩, dp, dc, D⟩, rfl, ⟨rfl, rfl, rfl, hz, ⟨rfl, rfl, rfl, rfl⟩, hg (by omega)⟩, hw'.le aH⟩⟩

end Go.Proofs

end

section

set_option linter.unusedVariables false

set_option linter.unusedSimpArgs false

set_option linter.unnecessarySimpa false

namespace Go.Proofs

open Go Go.Vx Go.Gm

structure RSimOk (x : RSim) : Prop where
  net : NetOk x.N
  sts : x.sts.length = x.N.ps.length
  due : x.D.length = 16
  cells : ∀ d ∈ x.D, d.l.length = x.N.ps.length
  dp : ∃ g, x.dp = some ⟨g, 0, none⟩

def radd (D : List DRow) (s : Syn) : List DRow := D.modify (s.dl.toNat - 1) fun d => { d with l := d.l.modify s.to.toNat fun a => wadd a s.wt }

def radds (D : List DRow) (l : List Syn) : List DRow := l.foldl radd D

theorem radd_V (D : List DRow) (s : Syn) : (radd D s).map drowV = D.map drowV := by
  unfold radd
  apply List.ext_getElem?
  intro i
  simp only [List.getElem?_map, List.getElem?_modify]
  split <;> cases D[i]? <;> simp [drowV]

theorem radds_V (l : List Syn) : ∀ D : List DRow, (radds D l).map drowV = D.map drowV := by
  induction l with
  | nil => intro D; rfl
  | cons s l ih => intro D; exact (ih _).trans (radd_V D s)

theorem radd_l (D : List DRow) (s : Syn) : (radd D s).map (·.l) = refAdd (D.map (·.l)) s := by
  unfold radd refAdd
  apply List.ext_getElem?
  intro i
  simp only [List.getElem?_map, List.getElem?_modify]
  split <;> cases D[i]? <;> simp

theorem radds_l (l : List Syn) : ∀ D : List DRow, (radds D l).map (·.l) = l.foldl refAdd (D.map (·.l)) := by
  induction l with
  | nil => intro D; rfl
  | cons s l ih => intro D; exact (ih _).trans (by rw [radd_l]; rfl)

theorem radd_set {D : List DRow} {s : Syn} {d : DRow} {a : Int} {k : Nat} (hk : k = s.dl.toNat - 1) (hd : D[k]? = some d) (ha : d.l[s.to.toNat]? = some a) :
    D.set k ⟨d.g, d.cap, d.l.set s.to.toNat (wadd a s.wt)⟩ = radd D s := by
  subst hk
  unfold radd
  rw [modify_of_get _ hd, modify_of_get _ ha]

def sent (S : List Int) (l : List Syn) : List Syn := l.filter fun s => decide (s.frm ∈ S)

theorem sent_take {S : List Int} {l : List Syn} {i : Nat} {s : Syn} (h : l[i]? = some s) : sent S (l.take (i + 1)) = sent S (l.take i) ++ (if s.frm ∈ S then [s] else []) := by
  unfold sent
  rw [List.take_add_one, h, Option.toList_some, List.filter_append]
  congr 1
  by_cases hs : s.frm ∈ S <;> simp [hs]

theorem radds_snoc (D : List DRow) (l : List Syn) (s : Syn) : radds D (l ++ [s]) = radd (radds D l) s := by simp [radds]

def smR (x : RSim) : Sm := ⟨x.sts, x.D.map (·.l)⟩

def goFire (x : RSim) : List (Sta × Bool) := fire x.N.ps x.sts ((x.D[0]?.map (·.l)).getD [])

def goSrcs (x : RSim) (ins : List Int) : List Int := spk (goFire x) ++ ins.map fun k => -1 - k

structure RGoY where
  p : Option Addr
  cap : Nat
  dp : Option Addr
  dc : Nat
  D : List DRow

def RSim.put (x : RSim) (t : Nat) (sts : List Sta) (dp : Option Addr) (dc : Nat) (D : List DRow) : RSim := { x with tick := t, sts := sts, dp := dp, dc := dc, D := D }

def RSim.next (x : RSim) (y : RGoY) : RSim := x.put (x.tick + 1) ((goFire x).map (·.1)) y.dp y.dc y.D

theorem rsimGo_any (x : RSim) (hx : RSimOk x) (hst : ∀ (i : Nat) p s, x.N.ps[i]? = some p → x.sts[i]? = some s → staOk p s) (ins : List Int) (hins : ∀ k ∈ ins, 0 ≤ k ∧ k ≤ 256) (hil : ins.length ≤ 65536) (pi : Option Addr) (ci bi oi : Nat) (w : World) (bn on bs os : Nat)
    (hs : St w (ids (rsimH x)) (rsimH x) w) (hpar : Sl w parV 8 x.N.ps x.pn x.N.ps.length bn on) (hparM : bn ∉ ids (rsimH x)) (hsyn : Sl w synV 4 x.N.syns x.qs x.N.syns.length bs os) (hsynM : bs ∉ ids (rsimH x)) (hin : Sl w intV 1 ins pi ins.length bi oi) (hbi : bi ∉ ids (rsimH x)) (htk : x.tick ≤ 1073741824) :
    Calls Tryz.prog 71 #[.pointer (some ⟨x.b, 0, none⟩), .slice pi ins.length ci] w fun e w' => ∃ y : RGoY, e = .returned (.slice y.p (spk (goFire x)).length y.cap) ∧
      ((0 < (spk (goFire x)).length → ∃ g, y.p = some ⟨g, 0, none⟩) ∧ RSimOk (x.next y) ∧ y.D.map (·.l) = (sent (goSrcs x ins) x.N.syns).foldl refAdd ((x.D.map (·.l)).tail ++ [List.replicate x.N.ps.length 0])) ∧
      St w (ids (rsimH x)) (rsimH (x.next y) ++ [.vec y.p (spk (goFire x)).length y.cap 3 1 (flat intV (spk (goFire x)))]) w' := by
  obtain ⟨b, N, pn, cn, qs, cs, tk, sb, sc, sts, dp, dc, D⟩ := x
  obtain ⟨hN, hsl, hDl, hcells, gd, hgd⟩ := hx
  dsimp only at *
  subst hgd
  have hpos := hN.some
  have hfew := hN.few
  have hfs := hN.fewS
  obtain ⟨d0, hd0⟩ : ∃ d0, D[0]? = some d0 := ⟨D[0]'(by omega), List.getElem?_eq_getElem _⟩
  have hd0l := hcells d0 (List.mem_of_getElem? hd0)
  obtain ⟨F, hF⟩ : ∃ F, fire N.ps sts d0.l = F := ⟨_, rfl⟩
  have hFl : F.length = sts.length := by rw [← hF, fire_length hsl hd0l, hsl]
  have hGF : goFire ⟨b, N, pn, cn, qs, cs, tk, sb, sc, sts, some ⟨gd, 0, none⟩, dc, D⟩ = F := by simp only [goFire, hd0, Option.map_some, Option.getD_some]; exact hF
  have hSr : goSrcs ⟨b, N, pn, cn, qs, cs, tk, sb, sc, sts, some ⟨gd, 0, none⟩, dc, D⟩ ins = spk F ++ ins.map fun k => -1 - k := by unfold goSrcs; rw [hGF]
  rw [hGF, hSr]
  generalize hMx : ids (rsimH ⟨b, N, pn, cn, qs, cs, tk, sb, sc, sts, some ⟨gd, 0, none⟩, dc, D⟩) = Mx at *
  dsimp only [rsimH, rsimC] at hs
  have hdc : D.length ≤ dc := by
    obtain ⟨_, _, _, _, hnc, _⟩ := vec_some (hs.own (.vec (some ⟨gd, 0, none⟩) D.length dc 26 1 (D.map drowV)) (by simp))
    exact hnc
  refine enter (C := Tryz.cx) (F := Tryz.fx71) (args := [_, _]) Tryz.func71 rfl rfl rfl Tryz.ok71 hs ?_
  repeat' (conv => whnf); first | (refine VNew.mk fun b2 => ?_) | (refine VSeq.go ?_)
  all_goals (conv => whnf)
  refine VLoop.mk (α := Nat × Option Addr × Nat × List (Int × Value)) (fun y => y.1 ≤ N.ps.length ∧ (0 < (spk (F.take y.1)).length → ∃ g, y.2.1 = some ⟨g, 0, none⟩) ∧ Marks y.2.2.2 (spk (F.take y.1)))
    (fun y => [(1000000, .tuple #[]), (0, .pointer (some ⟨b, 0, none⟩)), (1, .slice pi ins.length ci), (4, .slice none 0 0), (5, .map (some b2)), (6, .slice y.2.1 (spk (F.take y.1)).length y.2.2.1), (7, .int .i64 (y.1 : Int))])
    (fun y => .map b2 y.2.2.2 :: .vec y.2.1 (spk (F.take y.1)).length y.2.2.1 3 1 (flat intV (spk (F.take y.1))) ::
      .row b 206 [.slice pn N.ps.length cn, .int .i64 N.inputs, .slice qs N.syns.length cs, .int .i64 (tk : Int), .slice (some ⟨sb, 0, none⟩) sts.length sc, .slice (some ⟨gd, 0, none⟩) D.length dc] ::
      .vec (some ⟨sb, 0, none⟩) sts.length sc 194 2 (flat staV (mids F sts y.1)) :: .vec (some ⟨gd, 0, none⟩) D.length dc 26 1 (D.map drowV) :: D.map drowE)
    (fun y => N.ps.length - y.1) (0, none, 0, []) ⟨by simp, by simp [spk, spkFrom], fun k => by simp [mfind, spk, spkFrom]⟩ aE aH ?_
  rintro ⟨i, p, cap, m⟩ ⟨hi, hp, hm⟩
  dsimp only at hi hp hm ⊢
  rcases Nat.lt_or_ge i N.ps.length with hlt | hge
  · obtain ⟨q, hq⟩ := hpar.get hlt
    obtain ⟨s, hsi⟩ : ∃ s, sts[i]? = some s := ⟨sts[i]'(by omega), List.getElem?_eq_getElem _⟩
    obtain ⟨xx, hxx⟩ : ∃ xx, d0.l[i]? = some xx := ⟨d0.l[i]'(by omega), List.getElem?_eq_getElem _⟩
    have hqo := hN.ps q (List.mem_of_getElem? hq)
    have hso := hst i q s hq hsi
    have hT := refGo_any q s xx hqo hso
    have hFi : F[i]? = some (tick q s xx) := by rw [← hF]; exact fire_get hq hsi hxx
    obtain ⟨⟨s', fb⟩, hfb⟩ : ∃ y, tick q s xx = y := ⟨_, rfl⟩
    rw [hfb] at hT hFi
    dsimp only at hT
    have hmi : (mids F sts i)[i]? = some s := by rw [mids_get hFl (by omega)]; exact hsi
    have hset := mids_set hFi hFl
    have hspk := spk_take hFi
    have hlen := spk_length F i
    dsimp only at hset hspk
    have hdv : sub (D.map drowV) 0 1 = some [drowV d0] := by
      obtain ⟨e, r, rfl⟩ : ∃ e r, D = e :: r := by
        cases D with
        | nil => simp at hDl
        | cons e r => exact ⟨e, r, rfl⟩
      cases hd0
      rw [sub_mk _ _ _ (by simp)]
      rfl
    repeat' (conv => whnf); first | (refine VCall.isF 138 ?_; refine VCall.val hT ?_) | (refine VLd.is ?_; refine VLd.mk (Rd.cast (Rd.seg (f := drowE) (l := D) aS hd0 rfl (sub_flat0 (f := intV) (k := 1) (fun _ => rfl) hxx rfl)) (by first | omega | (dsimp only; omega) | rfl)) ?_) | (refine VLd.is ?_; refine VLd.mk (Rd.cast (.vec aT (hdv)) (by first | omega | (dsimp only; omega) | rfl)) ?_) | (refine VLd.is ?_; refine VLd.mk (Rd.cast (hpar.rd0 hparM (fun _ => rfl) hq rfl) (by first | omega | (dsimp only; omega) | rfl)) ?_) | (refine VLd.is ?_; refine VLd.mk (Rd.cast (.vec aT (sub_flat0 (f := staV) (k := 2) (fun _ => rfl) hmi rfl)) (by first | omega | (dsimp only; omega) | rfl)) ?_) | (refine VSt.is ?_; refine VSt.cast (off' := i * 2) (by first | omega | (dsimp only; omega)) (VSt.vec aT (upd_flat0 (f := staV) (k := 2) (y := s') (fun _ => rfl) hmi rfl) rfl ?_)) | (refine VMpU.is ?_; refine VMpU.mk aT ?_) | (refine VIx.is ?_; refine VIx.mk (hpar.ptr (by omega)) (by omega) (by omega) ?_) | (refine VAp.is ?_; refine VAp.own (p := p) aT (.at_ (.vec aT rfl)) (by simp [Value.oneCell']) (by (try dsimp only); omega) (by simp only [maxLen]; omega) fun p' cap' hp' => ?_) | (refine VSeq.go ?_) | (refine VB.is ?_; refine VB.yes (by omega) fun _ => ?_) | (refine boolE_split (fun h => ?_) (fun h => ?_) <;> subst h) | (refine VLd.is ?_; refine VLd.mk (.row aT (by rfl)) ?_) | (refine VNew.mk fun _ => ?_) | (refine VAr.is ?_; refine oA ?_) | (refine VIx.is ?_; refine VIx.mk rfl (by omega) (by omega) ?_) | (refine VKeep.is ?_; refine VKeep.mk aH ?_) | (refine VHs.mk _ (.refl _) ?_)
    all_goals (conv => whnf)
    all_goals first
      | (simp only [if_true] at hspk
         refine VNext.mk (i + 1, p', cap', mset m (i : Int) (.bool true)) ⟨by dsimp only; omega, fun _ => hp' (by omega), by dsimp only; rw [hspk]; exact hm.add _⟩ (by dsimp only; omega) ?_ ?_
         · dsimp only; rw [hspk, List.length_append]; exact aE
         · dsimp only; rw [hspk, List.length_append, flat_append, ← hset]; exact aH)
      | (simp only [Bool.false_eq_true, if_false, List.append_nil] at hspk
         refine VNext.mk (i + 1, p, cap, m) ⟨by dsimp only; omega, by dsimp only; rw [hspk]; exact hp, by dsimp only; rw [hspk]; exact hm⟩ (by dsimp only; omega) ?_ ?_
         · dsimp only; rw [hspk]; exact aE
         · dsimp only; rw [hspk, ← hset]; exact aH)
  · have hfull : F.take i = F := List.take_of_length_le (by omega)
    have hmid : mids F sts i = F.map (·.1) := by unfold mids; rw [hfull, List.drop_eq_nil_of_le (by omega), List.append_nil]
    rw [hfull, hmid]
    rw [hfull] at hp hm
    repeat' (conv => whnf); first | (refine VSeq.go ?_) | (refine VB.is ?_; refine VB.no (by omega) fun _ => ?_) | (refine VB.split (fun _ => ?_) (fun _ => ?_)) | (refine VLd.is ?_; refine VLd.mk (.row aT (by rfl)) ?_) | (refine VSt.is ?_; refine VSt.row aT (by rfl) (by first | rfl | assumption) ?_) | (refine VAr.is ?_; refine oA ?_)
    all_goals (conv => whnf)
    refine VLoop.mk (α := Nat × List (Int × Value)) (fun y => y.1 ≤ ins.length ∧ Marks y.2 (spk F ++ (ins.take y.1).map fun k => -1 - k))
      (fun y => [(1000000, .tuple #[]), (0, .pointer (some ⟨b, 0, none⟩)), (1, .slice pi ins.length ci), (4, .slice none 0 0), (5, .map (some b2)), (6, .slice p (spk F).length cap), (9, .int .i64 (y.1 : Int))])
      (fun y => .map b2 y.2 :: .vec p (spk F).length cap 3 1 (flat intV (spk F)) ::
        .row b 206 [.slice pn N.ps.length cn, .int .i64 N.inputs, .slice qs N.syns.length cs, .int .i64 (tk : Int), .slice (some ⟨sb, 0, none⟩) sts.length sc, .slice (some ⟨gd, 0, none⟩) D.length dc] ::
        .vec (some ⟨sb, 0, none⟩) sts.length sc 194 2 (flat staV (F.map (·.1))) :: .vec (some ⟨gd, 0, none⟩) D.length dc 26 1 (D.map drowV) :: D.map drowE)
      (fun y => ins.length - y.1) (0, m) ⟨by simp, by simpa using hm⟩ aE aH ?_
    rintro ⟨j, m2⟩ ⟨hj, hm2⟩
    dsimp only at hj hm2 ⊢
    rcases Nat.lt_or_ge j ins.length with hlt | hge2
    · obtain ⟨k, hk⟩ := hin.get hlt
      have hkb := hins k (List.mem_of_getElem? hk)
      repeat' (conv => whnf); first | (refine VIx.is ?_; refine VIx.mk (hin.ptr (by omega)) (by omega) (by omega) ?_) | (refine VLd.is ?_; refine VLd.mk (Rd.cast (hin.rd0 hbi (fun _ => rfl) hk rfl) (by first | omega | (dsimp only; omega) | rfl)) ?_) | (refine VMpU.is ?_; refine VMpU.mk aT ?_) | (refine VSeq.go ?_) | (refine VB.is ?_; refine VB.yes (by omega) fun _ => ?_) | (refine VAr.is ?_; refine oA ?_)
      all_goals (conv => whnf)
      refine VNext.mk (j + 1, mset m2 (-1 - k) (.bool true)) ⟨by dsimp only; omega, ?_⟩ (by dsimp only; omega) aE aH
      dsimp only
      rw [List.take_add_one, hk, Option.toList_some, List.map_append, ← List.append_assoc]
      exact hm2.add _
    · rw [List.take_of_length_le (by omega)] at hm2
      have hadv : (adv 1 (some ⟨gd, 0, none⟩, dc)).1 = some ⟨gd, 1, none⟩ := by unfold adv; rw [if_pos (by dsimp only; omega)]; rfl
      have hsub : sub (D.map drowV) 1 ((D.length - 1) * 1) = some (D.tail.map drowV) := by
        rw [sub_mk _ _ _ (by simp; omega), List.take_of_length_le (by simp)]
        simp
      repeat' (conv => whnf); first | (refine VSl.is ?_; refine VSl.adv1 (by omega) hdc ?_; rw [hadv]) | (refine VMk.is ?_; refine VMk.mk (by omega) (by omega) (by (try dsimp only); omega) (by omega) fun b4 => ?_) | (refine VAp.is ?_; refine VAp.own aT (.at_ (.vec aT hsub)) (fun v hv => by obtain ⟨d, _, rfl⟩ := List.mem_map.1 hv; rfl) (by (try dsimp only); omega) (by simp only [maxLen]; omega) fun p1 cap1 hp1 => ?_) | (refine VAp.is ?_; refine VAp.own (p := p1) aT (.at_ (.vec aT rfl)) (by simp [Value.oneCell']) (by (try dsimp only); omega) (by simp only [maxLen]; omega) fun p2 cap2 hp2 => ?_) | (refine VSeq.go ?_) | (refine VB.is ?_; refine VB.no (by omega) fun _ => ?_) | (refine VLd.is ?_; refine VLd.mk (.row aT (by rfl)) ?_) | (refine VSt.is ?_; refine VSt.row aT (by rfl) (by first | rfl | assumption) ?_) | (refine VNew.mk fun _ => ?_)
      all_goals (conv => whnf)
      rw [show 0 + (D.length - 1) + 1 = 16 by omega]
      obtain ⟨DT, hDT⟩ : ∃ DT, D = d0 :: DT := by
        cases D with
        | nil => simp at hDl
        | cons e r => cases hd0; exact ⟨r, rfl⟩
      have hDTl : DT.length = 15 := by rw [hDT] at hDl; simpa using hDl
      obtain ⟨D1, hD1⟩ : ∃ D1, DT ++ [⟨b4, sts.length, List.replicate sts.length 0⟩] = D1 := ⟨_, rfl⟩
      have hD1l : D1.length = 16 := by rw [← hD1]; simp [hDTl]
      have e1 : D1.map drowV = DT.map drowV ++ [.slice (some ⟨b4, 0, none⟩) sts.length sts.length] := by rw [← hD1]; simp [drowV]
      have e2 : D1.map drowE = DT.map drowE ++ [.vec (some ⟨b4, 0, none⟩) sts.length sts.length 3 1 (repL [.int .i64 0] sts.length)] := by
        have := flat_rep (f := intV) (x := 0) sts.length
        rw [← hD1]
        simp only [List.map_append, List.map_cons, List.map_nil, drowE, List.length_replicate]
        rw [← this]; rfl
      have hcells1 : ∀ d ∈ D1, d.l.length = N.ps.length := by
        rw [← hD1]
        intro d hd
        rcases List.mem_append.1 hd with hd | hd
        · exact hcells d (by rw [hDT]; exact List.mem_cons_of_mem _ hd)
        · simp only [List.mem_singleton] at hd
          subst hd
          simp [hsl]
      have hD1m : D1.map (·.l) = (D.map (·.l)).tail ++ [List.replicate N.ps.length 0] := by rw [← hD1, hDT]; simp [hsl]
      obtain ⟨S, hS⟩ : ∃ S, (spk F ++ ins.map fun k => -1 - k) = S := ⟨_, rfl⟩
      rw [hS] at hm2
      rw [hS]
      have hV : ∀ i, (radds D1 (sent S (N.syns.take i))).map drowV = D1.map drowV := fun i => radds_V _ _
      refine VLoop.mk (α := Nat) (fun i => i ≤ N.syns.length)
        (fun i => [(1000000, .tuple #[]), (0, .pointer (some ⟨b, 0, none⟩)), (4, .slice none 0 0), (5, .map (some b2)), (6, .slice p (spk F).length cap), (11, .int .i64 (i : Int))])
        (fun i => .map b2 m2 :: .vec p (spk F).length cap 3 1 (flat intV (spk F)) ::
          .row b 206 [.slice pn N.ps.length cn, .int .i64 N.inputs, .slice qs N.syns.length cs, .int .i64 (tk : Int), .slice (some ⟨sb, 0, none⟩) sts.length sc, .slice p2 16 cap2] ::
          .vec (some ⟨sb, 0, none⟩) sts.length sc 194 2 (flat staV (F.map (·.1))) :: .vec p2 16 cap2 26 1 (D1.map drowV) :: (radds D1 (sent S (N.syns.take i))).map drowE)
        (fun i => N.syns.length - i) 0 (by omega) aE ?_ ?_
      · have e0 : radds D1 (sent S (N.syns.take 0)) = D1 := rfl
        rw [e0, e1, e2, hDT]
        simp only [List.map_cons, List.tail_cons]
        refine HLe.cons aT (HLe.cons aT (HLe.cons aT (HLe.cons aT (HLe.cons aT ?_))))
        refine HLe.permL (A := .vec (some ⟨b4, 0, none⟩) sts.length sts.length 3 1 (repL [.int .i64 0] sts.length) :: DT.map drowE) ?_ (by simpa using (List.perm_append_comm (l₁ := DT.map drowE) (l₂ := [_])))
        exact aH
      intro i hi
      rcases Nat.lt_or_ge i N.syns.length with hlt | hge3
      · obtain ⟨s, hs'⟩ := hsyn.get hlt
        have hso := hN.syns s (List.mem_of_getElem? hs')
        unfold synOk srcOk at hso
        obtain ⟨D2, hD2⟩ : ∃ D2, radds D1 (sent S (N.syns.take i)) = D2 := ⟨_, rfl⟩
        have hsj := hV i
        have hst' := sent_take (S := S) hs'
        rw [hD2] at hsj
        have hl2 : D2.length = 16 := by have := congrArg List.length hsj; simp only [List.length_map] at this; omega
        obtain ⟨d1, hd1⟩ : ∃ d1, D2[s.dl.toNat - 1]? = some d1 := ⟨D2[s.dl.toNat - 1]'(by omega), List.getElem?_eq_getElem _⟩
        obtain ⟨d2, hd2, hd2l⟩ := drowV_len hsj hd1
        have hd1l := hcells1 d2 (List.mem_of_getElem? hd2)
        obtain ⟨av, ha⟩ : ∃ av, d1.l[s.to.toNat]? = some av := ⟨d1.l[s.to.toNat]'(by omega), List.getElem?_eq_getElem _⟩
        have hset := radd_set rfl hd1 ha
        obtain ⟨gp, hgp⟩ := hp2 (by omega)
        subst hgp
        have hdv : sub (D1.map drowV) (s.dl.toNat - 1) 1 = some [drowV d1] := by
          rw [← hsj, sub_mk _ _ _ (by simp; omega), ← List.map_drop, List.drop_eq_getElem_cons (by omega)]
          have : D2[s.dl.toNat - 1]'(by omega) = d1 := (List.getElem?_eq_some_iff.1 hd1).2
          simp [this]
        rw [hD2]
        by_cases hSs : s.frm ∈ S
        · have hlk : mfind m2 s.frm = some (.bool true) := by rw [hm2 s.frm, if_pos hSs]
          rw [if_pos hSs] at hst'
          repeat' (conv => whnf); first | (refine VNew.mk fun b5 => ?_) | (refine VLk.is ?_; refine VLk.has hlk ?_) | (refine VMp.is ?_; refine VMp.mk aT ?_) | (refine VIx.is ?_; refine VIx.mk (hsyn.ptr (by omega)) (by omega) (by omega) ?_) | (refine VLd.is ?_; refine VLd.mk (Rd.cast (hsyn.rd0 hsynM (fun _ => rfl) hs' rfl) (by first | omega | (dsimp only; omega) | rfl)) ?_) | (refine VLd.is ?_; refine VLd.mk (Rd.cast (.vec aT (hdv)) (by first | omega | (dsimp only; omega) | rfl)) ?_) | (refine VIx.is ?_; refine VIx.mk rfl (by omega) (by omega) ?_) | (refine VLd.is ?_; refine VLd.mk (Rd.cast (Rd.seg (f := drowE) (l := D2) aS hd1 rfl (sub_flat0 (f := intV) (k := 1) (fun _ => rfl) ha rfl)) (by first | omega | (dsimp only; omega) | rfl)) ?_) | (refine VAr.is ?_; refine oA ?_) | (refine VAr.is ?_; refine VAr.wadd ?_) | (refine VSt.is ?_; refine VSt.cast (off' := s.to.toNat * 1) (by first | omega | (dsimp only; omega)) (VSt.seg (f := drowE) (l := D2) (y := ⟨d1.g, d1.cap, d1.l.set s.to.toNat (wadd av s.wt)⟩) aS hd1 rfl (upd_flat0 (f := intV) (k := 1) (y := wadd av s.wt) (fun _ => rfl) ha rfl) (by simp [drowE]) rfl ?_)) | (refine VSeq.go ?_) | (refine VB.is ?_; refine VB.yes (by omega) fun _ => ?_) | (refine VLd.is ?_; refine VLd.mk (.row aT (by rfl)) ?_) | (refine VSt.is ?_; refine VSt.row aT (by rfl) (by first | rfl | assumption) ?_) | (refine VHs.mk _ (.refl _) ?_)
          all_goals (conv => whnf)
          refine VNext.mk (i + 1) (by omega) (by omega) aE ?_
          rw [hset, hst', radds_snoc, hD2]
          exact aH
        · have hlk : mfind m2 s.frm = none := by rw [hm2 s.frm, if_neg hSs]
          rw [if_neg hSs, List.append_nil] at hst'
          repeat' (conv => whnf); first | (refine VNew.mk fun b5 => ?_) | (refine VLk.is ?_; refine VLk.lacks hlk ?_) | (refine VMp.is ?_; refine VMp.mk aT ?_) | (refine VIx.is ?_; refine VIx.mk (hsyn.ptr (by omega)) (by omega) (by omega) ?_) | (refine VLd.is ?_; refine VLd.mk (Rd.cast (hsyn.rd0 hsynM (fun _ => rfl) hs' rfl) (by first | omega | (dsimp only; omega) | rfl)) ?_) | (refine VSeq.go ?_) | (refine VB.is ?_; refine VB.yes (by omega) fun _ => ?_) | (refine VLd.is ?_; refine VLd.mk (.row aT (by rfl)) ?_) | (refine VSt.is ?_; refine VSt.row aT (by rfl) (by first | rfl | assumption) ?_) | (refine VAr.is ?_; refine oA ?_)
          all_goals (conv => whnf)
          refine VNext.mk (i + 1) (by omega) (by omega) aE ?_
          rw [hst', hD2]
          exact aH
      · rw [List.take_of_length_le (by omega)]
        repeat' (conv => whnf); first | (refine VSeq.go ?_) | (refine VB.is ?_; refine VB.no (by omega) fun _ => ?_) | (refine VB.split (fun _ => ?_) (fun _ => ?_)) | (refine VLd.is ?_; refine VLd.mk (.row aT (by rfl)) ?_) | (refine VSt.is ?_; refine VSt.row aT (by rfl) (by first | rfl | assumption) ?_) | (refine VAr.is ?_; refine oA ?_)
        all_goals (conv => whnf)
        refine ⟨fun w' hw' => ⟨⟨p, cap, p2, cap2, radds D1 (sent S N.syns)⟩, rfl, ⟨hp, ⟨hN, ?_, ?_, ?_, hp2 (by omega)⟩, ?_⟩, ?_⟩⟩
        · show ((goFire _).map (·.1)).length = N.ps.length
          rw [hGF, List.length_map, hFl, hsl]
        · have := congrArg List.length (radds_V (sent S N.syns) D1)
          simp only [List.length_map] at this
          exact this.trans hD1l
        · intro d hd
          obtain ⟨k, hk⟩ := List.getElem?_of_mem hd
          obtain ⟨d2, hd2, hd2l⟩ := drowV_len (radds_V (sent S N.syns) D1) hk
          rw [← hd2l]
          exact hcells1 d2 (List.mem_of_getElem? hd2)
        · dsimp only
          rw [radds_l, hD1m]
        · have hl3 : (radds D1 (sent S N.syns)).length = 16 := by
            have := congrArg List.length (radds_V (sent S N.syns) D1)
            simp only [List.length_map] at this
            exact this.trans hD1l
          unfold rsimH rsimC RSim.next RSim.put
          dsimp only
          rw [hGF, List.length_map, hFl, hl3, radds_V]
          exact hw'.le aH

end Go.Proofs

end

section

set_option linter.unusedVariables false

set_option linter.unusedSimpArgs false

namespace Go.Proofs

open Go Go.Vx Go.Gm

theorem go_call {w0 : World} {M : List Nat} {H : HP} {Z : HP → HP} {K : Value → HP → Prop} (x : RSim) (hx : RSimOk x) (ht : x.tick ≤ 1073741824) (hst : StaAll x.N x.sts) (ins : List Int) (hins : ∀ k ∈ ins, 0 ≤ k ∧ k ≤ 256) (hil : ins.length ≤ 65536)
    (bn on bs os : Nat) (hpar : Sl w0 parV 8 x.N.ps x.pn x.N.ps.length bn on) (hparM : bn ∉ M) (hsyn : Sl w0 synV 4 x.N.syns x.qs x.N.syns.length bs os) (hsynM : bs ∉ M)
    (p : Option Addr) (n c : Nat) (hn : n = ins.length) (hat : AtS H (rsimH x) Z) (hin : HLe (.vec p n c 3 1 (flat intV ins) :: rsimH x) H)
    (hk : ∀ y : RGoY, ((0 < (spk (goFire x)).length → ∃ g, y.p = some ⟨g, 0, none⟩) ∧ RSimOk (x.next y) ∧ smR (x.next y) = refStep x.N (smR x) ins) →
      K (.slice y.p (spk (goFire x)).length y.cap) (.vec y.p (spk (goFire x)).length y.cap 3 1 (flat intV (spk (goFire x))) :: Z (rsimH (x.next y)))) :
    VCall Tryz.cx.P w0 M H 71 [.pointer (some ⟨x.b, 0, none⟩), .slice p n c] K := by
  subst hn
  refine VCall.turnV (α := RGoY) (fun y => .slice y.p (spk (goFire x)).length y.cap) (fun y => (0 < (spk (goFire x)).length → ∃ g, y.p = some ⟨g, 0, none⟩) ∧ RSimOk (x.next y) ∧ y.D.map (·.l) = (sent (goSrcs x ins) x.N.syns).foldl refAdd ((x.D.map (·.l)).tail ++ [List.replicate x.N.ps.length 0]))
    (fun y => rsimH (x.next y)) (fun y => [.vec y.p (spk (goFire x)).length y.cap 3 1 (flat intV (spk (goFire x)))]) hat (fun w hw hs => ?_) (fun y hy => hk y ⟨hy.1, hy.2.1, ?_⟩)
  · have hl : HLe (rsimH x) H := HLe.of_perm hat.perm
    obtain ⟨b1, o1, g1, m1⟩ := hpar.oldOut hparM hw hl (fun _ => rfl) (by omega)
    obtain ⟨b2, o2, g2, m2⟩ := hsyn.oldOut hsynM hw hl (fun _ => rfl) (by omega)
    obtain ⟨b3, g3, m3⟩ := Sl.vecOut hw hin (fun _ => rfl) rfl
    exact rsimGo_any x hx hst ins hins hil p c b3 0 w b1 o1 b2 o2 hs g1 m1 g2 m2 g3 m3 ht
  · have h3 := hy.2.2
    have e0 : (goFire x) = fire x.N.ps (smR x).sts (((smR x).D[0]?).getD []) := by
      unfold goFire smR
      rw [List.getElem?_map]
    unfold refStep refSrcs
    rw [← e0]
    unfold smR RSim.next RSim.put
    simp only [Sm.mk.injEq, true_and]
    exact h3

structure RRunS where
  t : Nat
  sts : List Sta
  dp : Option Addr
  dc : Nat
  D : List DRow
  k : Nat
  p : Option Addr
  cap : Nat

theorem goFire_rot {x : RSim} {N : Net} {X : Sm} {t : Nat} (hN : x.N = N) (h : smR x = smRot t X) : spk (goFire x) = ringSpk N t X := by
  have e0 : (goFire x) = fire x.N.ps (smR x).sts (((smR x).D[0]?).getD []) := by
    unfold goFire smR
    rw [List.getElem?_map]
  rw [e0, h, hN]
  unfold ringSpk smRot
  dsimp only
  rw [rot_get]
  simp

theorem staAll_of {N : Net} {X : Sm} (h : SmOk N X) : StaAll N X.sts := h.ok

theorem prep_chk {N : Net} {l : List Evt} {ticks limit : Int} (h : netchk N ≠ 0) : prepErr N l ticks limit = netchk N := by
  unfold prepErr; rw [if_pos h]

theorem prep_range {N : Net} {l : List Evt} {ticks limit : Int} (h : netchk N = 0) (h2 : ¬ (0 ≤ ticks ∧ ticks ≤ limit)) : prepErr N l ticks limit = 3 := by
  unfold prepErr; rw [if_neg (by omega), if_pos h2]

theorem prep_ev {N : Net} {l : List Evt} {ticks limit : Int} (h : netchk N = 0) (h2 : 0 ≤ ticks ∧ ticks ≤ limit) : prepErr N l ticks limit = evErr N.inputs limit l := by
  unfold prepErr; rw [if_neg (by omega), if_neg (by omega)]

theorem rot0 {D : List (List Int)} (h : D.length = 16) : rot 0 D = D := by
  apply List.ext_getElem?
  intro i
  rw [rot_get]
  by_cases hi : i < 16
  · have h2 : (0 + i) % 16 = i := by omega
    rw [if_pos hi, h2, List.getElem?_eq_getElem (by omega)]
    rfl
  · rw [if_neg hi, List.getElem?_eq_none (by omega)]

theorem refRun_any (N : Net) (hN : N.wf) (l : List Evt) (hl : ∀ x ∈ l, x.wf) (ticks : Int) (pn : Option Addr) (cn bn on : Nat) (qs : Option Addr) (cs bs os : Nat) (pe : Option Addr) (ce be oe : Nat) (w : World)
    (h1 : Sl w parV 8 N.ps pn N.ps.length bn on) (h2 : Sl w synV 4 N.syns qs N.syns.length bs os) (h3 : Sl w evtV 2 l pe l.length be oe) :
    Calls Tryz.prog 111 #[.agg #[.slice pn N.ps.length cn, .int .i64 N.inputs, .slice qs N.syns.length cs], .slice pe l.length ce, .int .i64 ticks] w fun e w' => ∃ y : Option Addr × Nat,
      e = .returned (.tuple #[.slice y.1 (runRes N l ticks).1.length y.2, .int .i64 (runRes N l ticks).2]) ∧ True ∧ St w [] [.vec y.1 (runRes N l ticks).1.length y.2 64 2 (flat evtV (runRes N l ticks).1)] w' := by
  have hpz := @prep_zero N l ticks 10000
  have hnz := @netchk_zero N
  refine enter (C := Tryz.cx) (F := Tryz.fx111) (args := [_, _, _]) Tryz.func111 rfl rfl rfl Tryz.ok111 (St.start w []) ?_
  repeat' (conv => whnf); first | (refine VCall.isF 63 ?_; refine VCall.valR (fun w' hw' => refNetCheck_any N hN _ _ _ _ _ _ _ _ _ (h1.keep hw' (by simp)) (h2.keep hw' (by simp))) ?_) | (refine VCall.isF 164 ?_; refine VCall.valR (fun w' hw' => refEvents_any N (by have := (hnz.1 (by omega)).inputs; omega) l hl 10000 (by omega) _ _ _ _ _ _ _ (h3.keep hw' (by simp))) ?_) | (refine VCall.is ?_; refine VCall.isF 67 ?_; refine VCall.genR (fun w' hw' => refBegin_any N (hnz.1 (by omega)) _ _ _ _ _) ?_; rintro x ⟨hxN, hxt, hxs, hxD, hxp, hxg⟩) | (refine VNew.mk fun b1 => ?_) | (refine VSeq.go ?_) | (refine VB.split (fun _ => ?_) (fun _ => ?_)) | (refine VLd.is ?_; refine VLd.mk (.row aT (by rfl)) ?_)
  all_goals (conv => whnf)
  · exact ⟨fun w' hw' => ⟨(none, 0), by unfold runRes; rw [prep_chk (by omega), if_pos (by omega)]; rfl, trivial, by unfold runRes; rw [prep_chk (by omega), if_pos (by omega)]; exact hw'.le aH⟩⟩
  · exact ⟨fun w' hw' => ⟨(none, 0), by unfold runRes; rw [prep_range (by omega) (by omega)]; rfl, trivial, by unfold runRes; rw [prep_range (by omega) (by omega)]; exact hw'.le aH⟩⟩
  · exact ⟨fun w' hw' => ⟨(none, 0), by unfold runRes; rw [prep_range (by omega) (by omega)]; rfl, trivial, by unfold runRes; rw [prep_range (by omega) (by omega)]; exact hw'.le aH⟩⟩
  · exact ⟨fun w' hw' => ⟨(none, 0), by unfold runRes; rw [prep_ev (by omega) (by omega), if_pos (by omega)]; rfl, trivial, by unfold runRes; rw [prep_ev (by omega) (by omega), if_pos (by omega)]; exact hw'.le aH⟩⟩
  have h0 : prepErr N l ticks 10000 = 0 := by rw [prep_ev (by omega) (by omega)]; omega
  obtain ⟨hNok, hticks, hev⟩ := hpz.1 h0
  have hres := runRes_eq h0
  have hfew := hev.few
  have hput : x.put 0 x.sts x.dp x.dc x.D = x := by cases x; dsimp only at hxt; subst hxt; rfl
  have hrot0 : smR x = smRot 0 (stAt N l 0) := by
    unfold smR smRot
    rw [hxs, hxD]
    show _ = (⟨(sm0 N).sts, rot 0 (sm0 N).D⟩ : Sm)
    simp only [Sm.mk.injEq]
    refine ⟨rfl, ?_⟩
    rw [rot0 (sm0_ok hNok).due]
    rfl
  have hx0 : RSimOk x := by
    refine ⟨by rw [hxN]; exact hNok, by rw [hxs, hxN]; simp, by have := congrArg List.length hxD; simpa using this, fun d hd => ?_, hxg⟩
    have : d.l ∈ x.D.map (·.l) := List.mem_map_of_mem hd
    rw [hxD] at this
    rw [List.eq_of_mem_replicate this, hxN]
    simp
  obtain ⟨hxp1, hxp2, hxp3, hxp4⟩ := hxp
  refine VLoop.kr (α := RRunS) [1000000, 1, 2, 6, 7, 9] rfl
    (fun y => y.t ≤ ticks.toNat ∧ RSimOk (x.put y.t y.sts y.dp y.dc y.D) ∧ smR (x.put y.t y.sts y.dp y.dc y.D) = smRot y.t (stAt N l y.t) ∧ TkInv l y.t y.k ∧ (outTo N l y.t).length ≤ 65536)
    (fun y K => (10, .slice y.p (outTo N l y.t).length y.cap) :: (11, .int .i64 (y.k : Int)) :: (12, .int .i64 (y.t : Int)) :: K)
    (fun y => .vec y.p (outTo N l y.t).length y.cap 64 2 (flat evtV (outTo N l y.t)) :: rsimH (x.put y.t y.sts y.dp y.dc y.D))
    (fun y => ticks.toNat - y.t) ⟨0, x.sts, x.dp, x.dc, x.D, 0, none, 0⟩ ⟨by simp, by rw [hput]; exact hx0, by rw [hput]; exact hrot0, ⟨by simp, by simp, fun e he => by have := hev.range e (by simpa using he); dsimp only; omega⟩, by simp [outTo]⟩ aE ?_ ?_
  · dsimp only
    rw [hput]
    exact aH
  · rintro ⟨t, sts, dp, dc, D, k, p, cap⟩ ⟨g1, g2, g3, g4, g5⟩
    dsimp only at *
    rcases Nat.lt_or_ge t ticks.toNat with hlt | hge
    · have hkl := g4.le
      have hnx := TkInv.next hev g4
      obtain ⟨l', hl'⟩ : ∃ l', l.drop k = l' := ⟨_, rfl⟩
      have hl'n : l'.length = l.length - k := by rw [← hl', List.length_drop]
      rw [hl'] at hnx
      have hal := atLen_le t l'
      obtain ⟨ins, hins⟩ : ∃ ins : List Int, (l'.take (atLen t l')).map (fun e => e.id) = ins := ⟨_, rfl⟩
      have hinl : atLen t l' = ins.length := by rw [← hins, List.length_map, List.length_take]; omega
      have hinr : ∀ k ∈ ins, 0 ≤ k ∧ k ≤ 256 := by
        intro i hi
        rw [← hins] at hi
        obtain ⟨e, he, rfl⟩ := List.mem_map.1 hi
        have := hev.range e (List.mem_of_mem_drop (by rw [hl']; exact List.mem_of_mem_take he))
        have := hNok.inputs
        omega
      repeat' (conv => whnf); first | (refine VSeq.is ?_; refine VSeq.cut (at_ := 19) (α := Option Addr × Nat) (fun _ => True) (fun y => [(1000000, .tuple #[]), (1, .slice pe l.length ce), (2, .int .i64 ticks), (6, .slice none 0 0), (7, .int .i64 0), (9, .pointer (some ⟨x.b, 0, none⟩)), (10, .slice p (outTo N l t).length cap), (11, .int .i64 ((k + atLen t l' : Nat) : Int)), (12, .int .i64 (t : Int)), (13, .slice y.1 (atLen t l') y.2)]) (fun y => .vec y.1 (atLen t l') y.2 3 1 (flat intV ins) :: .vec p (outTo N l t).length cap 64 2 (flat evtV (outTo N l t)) :: rsimH (x.put t sts dp dc D)) ?_ ?_) | (refine VSeq.go ?_) | (refine VB.is ?_; refine VB.yes (by omega) fun _ => ?_)
      all_goals (conv => whnf)
      · refine VLoop.kr (α := Nat × Option Addr × Nat) [1000000, 1, 2, 6, 7, 9, 10, 12] rfl (fun y => y.1 ≤ atLen t l')
          (fun y K => (11, .int .i64 ((k + y.1 : Nat) : Int)) :: (13, .slice y.2.1 y.1 y.2.2) :: K)
          (fun y => .vec y.2.1 y.1 y.2.2 3 1 (flat intV ((l'.take y.1).map (·.id))) :: .vec p (outTo N l t).length cap 64 2 (flat evtV (outTo N l t)) :: rsimH (x.put t sts dp dc D))
          (fun y => l'.length - y.1) (0, none, 0) (by simp) aE aH ?_
        rintro ⟨j, p1, c1⟩ hj
        dsimp only at hj ⊢
        rcases Nat.lt_or_ge (k + j) l.length with hltj | hgej
        · obtain ⟨e, he⟩ := h3.get hltj
          have he' : l'[j]? = some e := by rw [← hl', List.getElem?_drop]; exact he
          have hat := atLen_get t hj he'
          have hewf := hl e (List.mem_of_getElem? he)
          unfold Evt.wf I64 at hewf
          repeat' (conv => whnf); first | (refine VIx.is ?_; refine VIx.mk (h3.ptr (by omega)) (by omega) (by omega) ?_) | (refine VLd.is ?_; refine VLd.mk (Rd.cast (h3.rd (o := 0) (s := 1) (by simp) (fun _ => rfl) he rfl) (by first | omega | (dsimp only; omega) | rfl)) ?_) | (refine VLd.is ?_; refine VLd.mk (Rd.cast (h3.rd (o := 1) (s := 1) (by simp) (fun _ => rfl) he rfl) (by first | omega | (dsimp only; omega) | rfl)) ?_) | (refine VAp.is ?_; refine VAp.own aT (.at_ (.vec aT rfl)) (by simp [Value.oneCell']) (by (try dsimp only); omega) (by simp only [maxLen]; omega) fun p' cap' hp' => ?_) | (refine VSeq.go ?_) | (refine VB.is ?_; refine VB.yes (by omega) fun _ => ?_) | (refine VB.split (fun _ => ?_) (fun _ => ?_)) | (refine VNew.mk fun _ => ?_) | (refine VAr.is ?_; refine oA ?_)
          all_goals (conv => whnf)
          · have hj1 : j + 1 ≤ atLen t l' := hat.2 (by omega)
            refine VNext.mk (j + 1, p', cap') (by dsimp only; omega) (by dsimp only; omega) ?_ ?_
            · dsimp only; exact aE
            · dsimp only
              rw [List.take_add_one, he', Option.toList_some, List.map_append, flat_append]
              exact aH
          · have hje : j = atLen t l' := by have : ¬ j < atLen t l' := fun h => absurd (hat.1 h) (by omega); omega
            refine VMid.mk (p1, c1) trivial (by dsimp only; rw [← hje]; exact aE) (by dsimp only; rw [← hins, ← hje]; exact aH)
        · have hje : j = atLen t l' := by omega
          repeat' (conv => whnf); first | (refine VSeq.go ?_) | (refine VB.is ?_; refine VB.no (by omega) fun _ => ?_) | (refine VB.split (fun _ => ?_) (fun _ => ?_)) | (refine VLd.is ?_; refine VLd.mk (.row aT (by rfl)) ?_) | (refine VSt.is ?_; refine VSt.row aT (by rfl) (by first | rfl | assumption) ?_) | (refine VAr.is ?_; refine oA ?_)
          all_goals (conv => whnf)
          refine VMid.mk (p1, c1) trivial (by dsimp only; rw [← hje]; exact aE) (by dsimp only; rw [← hins, ← hje]; exact aH)
      rintro ⟨p1, c1⟩ _
      dsimp only
      repeat' (conv => whnf); first | (refine VCall.isF 71 ?_; (refine go_call (x.put t sts dp dc D) g2 (by dsimp only [RSim.put]; omega) (by have := staAll_of (stAt_ok hNok l t); have h5 : (x.put t sts dp dc D).sts = (stAt N l t).sts := congrArg Sm.sts g3; rw [h5]; rw [← hxN] at this ⊢; exact this) ins hinr (by omega) bn on bs os (by dsimp only [RSim.put]; rw [hxN, hxp1]; exact h1) (by simp) (by dsimp only [RSim.put]; rw [hxN, hxp3]; exact h2) (by simp) p1 _ c1 hinl aS aH fun y hy => ?_)) | (refine VSeq.go ?_)
      all_goals (conv => whnf)
      obtain ⟨hq, hok, hsm⟩ := hy
      obtain ⟨sp, hsp⟩ : ∃ sp, spk (goFire (x.put t sts dp dc D)) = sp := ⟨_, rfl⟩
      have hring : ringSpk N t (stAt N l t) = sp := by rw [← hsp]; exact (goFire_rot (x := x.put t sts dp dc D) hxN g3).symm
      have hspl : sp.length ≤ 1024 := by rw [← hring]; exact spkAt_few hNok l t
      have hIn : insAt l t = ins := by rw [← hins]; exact hnx.2.symm
      have hstep : smR ((x.put t sts dp dc D).next y) = smRot (t + 1) (stAt N l (t + 1)) := by
        have hnd := insAt_nodup hev t
        have hr := ref_step hNok (stAt_ok hNok l t) t (refSrcs_nodup N (smRot t (stAt N l t)) hnd.2 hnd.1)
        have e1 : stAt N l (t + 1) = ringStep N t (stAt N l t) (insAt l t) := rfl
        rw [e1, hr, hIn, ← g3, hsm]
        dsimp only [RSim.put]
        rw [hxN]
      have hout : outTo N l (t + 1) = outTo N l t ++ sp.map fun i => (⟨t, i⟩ : Evt) := by rw [← hring]; rfl
      rw [hsp] at hq
      rw [hsp]
      refine VLoop.kr (α := Nat × Option Addr × Nat) [1000000, 1, 2, 6, 7, 9, 11, 12, 14] rfl (fun y => y.1 ≤ sp.length)
        (fun z K => (15, .int .i64 (z.1 : Int)) :: (10, .slice z.2.1 (outTo N l t ++ (sp.take z.1).map fun i => (⟨t, i⟩ : Evt)).length z.2.2) :: K)
        (fun z => .vec z.2.1 (outTo N l t ++ (sp.take z.1).map fun i => (⟨t, i⟩ : Evt)).length z.2.2 64 2 (flat evtV (outTo N l t ++ (sp.take z.1).map fun i => (⟨t, i⟩ : Evt))) :: .vec y.p sp.length y.cap 3 1 (flat intV sp) :: rsimH ((x.put t sts dp dc D).next y))
        (fun z => sp.length - z.1) (0, p, cap) (by simp) (by dsimp only; simp only [List.take_zero, List.map_nil, List.append_nil]; exact aE) (by dsimp only; simp only [List.take_zero, List.map_nil, List.append_nil]; exact aH) ?_
      rintro ⟨j, pj, capj⟩ hj
      dsimp only at hj ⊢
      obtain ⟨oj, hoj⟩ : ∃ oj, outTo N l t ++ (sp.take j).map (fun i => (⟨t, i⟩ : Evt)) = oj := ⟨_, rfl⟩
      have hojl : oj.length = (outTo N l t).length + j := by rw [← hoj]; simp; omega
      rw [hoj]
      rcases Nat.lt_or_ge j sp.length with hltj | hgej
      · obtain ⟨i, hi⟩ : ∃ i, sp[j]? = some i := ⟨sp[j], List.getElem?_eq_getElem _⟩
        obtain ⟨gq, hgq⟩ := hq (by omega)
        rw [hgq]
        have hon : outTo N l t ++ (sp.take (j + 1)).map (fun i => (⟨t, i⟩ : Evt)) = oj ++ [⟨t, i⟩] := by
          rw [List.take_add_one, hi, Option.toList_some, List.map_append, ← List.append_assoc, hoj]; rfl
        repeat' (conv => whnf); first | (refine VIx.is ?_; refine VIx.mk rfl (by omega) (by omega) ?_) | (refine VLd.is ?_; refine VLd.mk (Rd.cast (.vec aT (sub_flat0 (f := intV) (k := 1) (fun _ => rfl) hi rfl)) (by first | omega | (dsimp only; omega) | rfl)) ?_) | (refine VAp.is ?_; refine VAp.own aT (.at_ (.vec aT rfl)) (by simp [Value.oneCell']) (by (try dsimp only); omega) (by simp only [maxLen]; omega) fun p' cap' hp' => ?_) | (refine VSeq.go ?_) | (refine VB.is ?_; refine VB.yes (by omega) fun _ => ?_) | (refine VNew.mk fun _ => ?_) | (refine VAr.is ?_; refine oA ?_)
        all_goals (conv => whnf)
        refine VNext.mk (j + 1, p', cap') (by dsimp only; omega) (by dsimp only; omega) ?_ ?_
        · dsimp only; rw [hon, List.length_append]; exact aE
        · dsimp only; rw [hon, List.length_append, flat_append]; exact aH
      · have hfull : outTo N l (t + 1) = oj := by rw [hout, ← hoj, List.take_of_length_le hgej]
        have hmono := outTo_mono N l (a := t + 1) (b := ticks.toNat) (by omega)
        rw [hfull] at hmono
        repeat' (conv => whnf); first | (refine VSeq.go ?_) | (refine VB.is ?_; refine VB.no (by omega) fun _ => ?_) | (refine VB.split (fun _ => ?_) (fun _ => ?_)) | (refine VLd.is ?_; refine VLd.mk (.row aT (by rfl)) ?_) | (refine VSt.is ?_; refine VSt.row aT (by rfl) (by first | rfl | assumption) ?_) | (refine VAr.is ?_; refine oA ?_)
        all_goals (conv => whnf)
        · rw [if_pos (by omega)] at hres
          rw [hres]
          exact ⟨fun w' hw' => ⟨(none, 0), rfl, trivial, hw'.le aH⟩⟩
        · have ePut : (x.put t sts dp dc D).next y = x.put (t + 1) ((goFire (x.put t sts dp dc D)).map (·.1)) y.dp y.dc y.D := rfl
          rw [ePut] at hok hstep ⊢
          refine VNext.mk ⟨t + 1, (goFire (x.put t sts dp dc D)).map (·.1), y.dp, y.dc, y.D, k + atLen t l', pj, capj⟩ ⟨by dsimp only; omega, hok, hstep, by dsimp only; rw [← hl'] at hnx ⊢; exact hnx.1, by dsimp only; rw [hfull]; omega⟩ (by dsimp only; omega) ?_ ?_
          · dsimp only; rw [hfull]; exact aE
          · dsimp only; rw [hfull]; exact aH
    · repeat' (conv => whnf); first | (refine VSeq.go ?_) | (refine VB.is ?_; refine VB.no (by omega) fun _ => ?_)
      all_goals (conv => whnf)
      have ht : t = ticks.toNat := by omega
      rw [← ht, if_neg (by omega)] at hres
      rw [hres]
      exact ⟨fun w' hw' => ⟨(p, cap), rfl, trivial, hw'.le aH⟩⟩

end Go.Proofs

end
