import Derived.Test.YtephkjicokbckaaGreatDoorVerifyKnownSu
import Derived.Test.YtephkjicokbckaaGreatDoorVerifyKnownSx
import Derived.Test.YtephkjicokbckaaGreatDoorVerifyKnownHh
import Derived.Test.YtephkjicokbckaaGreatDoorVerifyKnownHc
import Derived.Test.YtephkjicokbckaaGreatDoorVerifyKnownEa
import Derived.Test.YtephkjicokbckaaGreatDoorVerifyKnownVr
import Derived.Test.YtephkjicokbckaaGreatDoorVerifyKnownTo2
import Derived.Test.YtephkjicokbckaaGreatDoorVerifyKnownOu
import Derived.Test.YtephkjicokbckaaGreatDoorVerifyKnownWe
import Derived.Test.YtephkjicokbckaaGreatDoorVerifyKnownStp
section
set_option linter.unusedVariables false

set_option linter.unusedSimpArgs false

namespace Go.Proofs

open Go Go.Vx Go.Gm

end Go.Proofs
end

section
set_option linter.unusedVariables false

set_option linter.unusedSimpArgs false

namespace Go.Proofs

open Go Go.Vx Go.Gm

end Go.Proofs
end

section
set_option linter.unusedVariables false

set_option linter.unusedSimpArgs false

namespace Go.Proofs

open Go Go.Vx Go.Gm

end Go.Proofs
end

section
set_option linter.unusedVariables false

set_option linter.unusedSimpArgs false

namespace Go.Proofs

open Go Go.Vx Go.Gm

end Go.Proofs
end

section
set_option linter.unusedVariables false

set_option linter.unusedSimpArgs false

namespace Go.Proofs

open Go Go.Vx Go.Gm

structure SimRd (w : World) (x : SimM) : Prop where
  cells : Cells w x.b 0 (simC x)
  st : Sl w staV 2 x.sts (some ⟨x.sb, 0, none⟩) x.sts.length x.sb 0
  due : ∀ d ∈ x.D, Sl w intV 1 d.l (some ⟨d.g, 0, none⟩) d.l.length d.g 0

theorem SimRd.of {w0 w : World} {M : List Nat} {H : HP} {x : SimM} (hs : St w0 M H w) (hl : HLe (ownH x) H) : SimRd w x := by
  have h := hs.le hl
  refine ⟨?_, Sl.own' (cap := x.sc) (e := 194) h (by simp only [ownH, List.mem_cons, true_or, or_true]) (fun _ => rfl) rfl, fun d hd => Sl.own' h (by simp only [ownH, List.mem_cons]; exact .inr (.inr (List.mem_map_of_mem hd))) (fun _ => rfl) rfl⟩
  have hb := h.own (.row x.b 191 (simC x)) (by simp only [ownH, List.mem_cons, true_or])
  have hb' : w.heap[x.b]? = some (.cells (simC x).toArray 191 (0, 0)) := hb
  intro j v hj
  simpa [World.cell?, hb'] using hj

def drowVs (d : DRow) : List Value := [drowV d]

structure ImgM where
  tick : Nat
  sp : Option Addr
  sc : Nat
  sts : List Sta
  dp : Option Addr
  dc : Nat
  D : List DRow

def imgV (y : ImgM) : Value := .agg #[.int .i64 (y.tick : Int), .slice y.sp y.sts.length y.sc, .slice y.dp y.D.length y.dc]

def imgH (y : ImgM) : HP := .vec y.sp y.sts.length y.sc 194 2 (flat staV y.sts) :: .vec y.dp y.D.length y.dc 26 1 (flat drowVs y.D) :: y.D.map drowE

theorem rot_take (t : Nat) (D : List (List Int)) {i : Nat} {l : List Int} (hi : i < 16) (h : D[(t + i) % 16]? = some l) : (rot t D).take (i + 1) = (rot t D).take i ++ [l] := by
  rw [List.take_add_one, rot_get, if_pos hi, h]
  rfl

theorem Image_any (x : SimM) (hx : SimRun x) (w : World) (hr : SimRd w x) :
    Calls Tryz.prog 130 #[.pointer (some ⟨x.b, 0, none⟩)] w fun e w' => ∃ y : ImgM, e = .returned (.tuple #[imgV y, .int .i64 0]) ∧
      (y.tick = x.tick ∧ y.sts = x.sts ∧ y.D.map (·.l) = rot x.tick (x.D.map (·.l))) ∧ St w [] (imgH y) w' := by
  obtain ⟨hxo, hxs, hxt⟩ := hx
  obtain ⟨hc, hst, hdue⟩ := hr
  have hNk := hxo.net
  have hpos := hNk.some
  have hfew := hNk.few
  have hsl := hxo.sts
  have hDl := hxo.due
  have hcells := hxo.cells
  obtain ⟨cs, hcs⟩ : ∃ cs, simC x = cs := ⟨_, rfl⟩
  have h4 : sub cs 4 1 = some [.int .i64 (x.tick : Int)] := by rw [← hcs]; rfl
  have h5 : sub cs 5 1 = some [.slice (some ⟨x.sb, 0, none⟩) x.sts.length x.sc] := by rw [← hcs, sub_mk _ _ _ (by simp [simC])]; rfl
  have hrow : ∀ (i : Nat) d, i < 16 → x.D[(x.tick + i) % 16]? = some d → sub cs (6 + (((x.tick : Int) + (i : Int)) % 16).toNat) 1 = some [drowV d] := by
    intro i d hi h
    have := sub_due (x := x) rfl h
    rw [hcs] at this
    rw [show (((x.tick : Int) + (i : Int)) % 16).toNat = (x.tick + i) % 16 by omega]; exact this
  rw [hcs] at hc
  have hR : (rot x.tick (x.D.map (·.l))).length = 16 := rot_length _ _
  refine enter (C := Tryz.cx) (F := Tryz.fx130) (args := [_]) Tryz.func130 rfl rfl rfl Tryz.ok130 (St.start w []) ?_
  refine VSeq.go ?_
  repeat' (conv => whnf); first | (refine VNew.mk fun b1 => ?_)
  all_goals (conv => whnf)
  repeat' (conv => whnf); first | (refine VCall.isF 122 ?_; refine VCall.inl (F := Tryz.fx122) Tryz.func122 rfl rfl rfl Tryz.ok122 ?_) | (refine VLd.is ?_; refine VLd.mk (Rd.cast (.old (hc.part h4) rfl (by simp)) (by first | omega | (dsimp only; omega) | rfl)) ?_) | (refine VLd.is ?_; refine VLd.mk (Rd.cast (.old (hc.part h5) rfl (by simp)) (by first | omega | (dsimp only; omega) | rfl)) ?_) | (refine VCall.isF 123 ?_; (refine VCall.genR (fun w' hw' => cloneSta_any x.sts _ _ _ _ _ (hst.keep hw' (by simp)) (by omega)) ?_; rintro ⟨p1, c1⟩ hp1; dsimp only at hp1)) | (refine VNew.mk fun b2 => ?_) | (refine VSeq.is ?_; refine VSeq.cut (at_ := 4) (α := Nat × Option Addr × Nat) (fun _ => True) (fun y => [(1000000, .tuple #[]), (0, .pointer (some ⟨x.b, 0, none⟩)), (2, .pointer (some ⟨b1, 0, none⟩)), (3, .int .i64 0), (4, .pointer (some ⟨y.1, 0, none⟩))]) (fun y => [.row b1 198 [.int .i64 0, .slice none 0 0, .slice none 0 0], .row y.1 198 [.int .i64 (x.tick : Int), .slice y.2.1 x.sts.length y.2.2, .slice none 0 0], .vec y.2.1 x.sts.length y.2.2 194 2 (flat staV x.sts)]) ?_ ?_) | (refine VSeq.go ?_) | (refine VB.is ?_; refine VB.yes (by omega) fun _ => ?_) | (refine VSt.is ?_; refine VSt.row aT (by rfl) (by first | rfl | assumption) ?_) | (refine VKeep.is ?_; refine VKeep.mk aH ?_) | (refine VHs.mk _ (.refl _) ?_) | (refine And.intro ?_ ?_)
  all_goals (conv => whnf)
  · exact VMid.mk (b2, p1, c1) trivial aE aH
  · exact VMid.mk (b2, p1, c1) trivial aE aH
  rintro ⟨b4, p1, c1⟩ _
  dsimp only
  repeat' (conv => whnf); first | (refine VSeq.go ?_)
  all_goals (conv => whnf)
  refine VLoop.kr (α := List DRow × Option Addr × Nat) [1000000, 0, 2, 3, 4] rfl (fun y => y.1.length ≤ 16 ∧ y.1.map (·.l) = (rot x.tick (x.D.map (·.l))).take y.1.length)
    (fun y K => (20, .int .i64 (y.1.length : Int)) :: K)
    (fun y => .row b1 198 [.int .i64 0, .slice none 0 0, .slice none 0 0] :: .row b4 198 [.int .i64 (x.tick : Int), .slice p1 x.sts.length c1, .slice y.2.1 y.1.length y.2.2] :: .vec p1 x.sts.length c1 194 2 (flat staV x.sts) ::
      .vec y.2.1 y.1.length y.2.2 26 1 (flat drowVs y.1) :: y.1.map drowE)
    (fun y => 16 - y.1.length) ([], none, 0) ⟨by simp, by simp⟩ aE aH ?_
  rintro ⟨D, p, cap⟩ ⟨hD, hDl'⟩
  dsimp only at hD hDl' ⊢
  rcases Nat.lt_or_ge D.length 16 with hlt | hge
  · obtain ⟨d, hd⟩ : ∃ d, x.D[(x.tick + D.length) % 16]? = some d := ⟨x.D[(x.tick + D.length) % 16]'(by omega), List.getElem?_eq_getElem _⟩
    have hdl := hcells d (List.mem_of_getElem? hd)
    have hsd := hdue d (List.mem_of_getElem? hd)
    have hrd := hrow D.length d hlt hd
    have htk := rot_take x.tick (x.D.map (·.l)) (i := D.length) (l := d.l) hlt (by rw [List.getElem?_map, hd]; rfl)
    repeat' (conv => whnf); first | (refine VCall.isF 155 ?_; refine VCall.inl (F := Tryz.fx155) Tryz.func155 rfl rfl rfl Tryz.ok155 ?_) | (refine VLd.is ?_; refine VLd.mk (Rd.cast (.old (hc.part h4) rfl (by simp)) (by first | omega | (dsimp only; omega) | rfl)) ?_) | (refine VLd.is ?_; refine VLd.mk (Rd.cast (.old (hc.part hrd) rfl (by simp)) (by first | omega | (dsimp only; omega) | rfl)) ?_) | (refine VCall.isF 124 ?_; (refine VCall.genR (fun w' hw' => cloneInt_any d.l _ _ _ _ _ (hsd.keep hw' (by simp)) (by omega)) ?_; rintro ⟨p2, c2⟩ hp2; obtain ⟨g2, hg2⟩ := hp2 (by omega); dsimp only at hg2; subst hg2)) | (refine VAp.is ?_; refine VAp.own (p := p) aT (.at_ (.vec aT rfl)) (by simp [Value.oneCell']) (by (try dsimp only); omega) (by simp only [maxLen]; omega) fun p' cap' hp' => ?_) | (refine VSeq.go ?_) | (refine VB.is ?_; refine VB.yes (by omega) fun _ => ?_) | (refine VLd.is ?_; refine VLd.mk (.row aT (by rfl)) ?_) | (refine VSt.is ?_; refine VSt.row aT (by rfl) (by first | rfl | assumption) ?_) | (refine VNew.mk fun _ => ?_) | (refine VAr.is ?_; refine oA ?_) | (refine VIx.is ?_; refine VIx.mk rfl (by omega) (by omega) ?_) | (refine VKeep.is ?_; refine VKeep.mk aH ?_) | (refine VHs.mk _ (.refl _) ?_) | (refine VM.is ?_; refine oM ?_)
    all_goals (conv => whnf)
    refine VNext.mk (D ++ [⟨g2, c2, d.l⟩], p', cap') ⟨by simp; omega, ?_⟩ (by simp; omega) ?_ ?_
    · dsimp only
      rw [List.map_append, List.length_append, hDl', List.length_cons, List.length_nil, htk]
      rfl
    · dsimp only
      simp only [List.length_append, List.length_cons, List.length_nil]
      exact aE
    · dsimp only
      have e2 : (D ++ [(⟨g2, c2, d.l⟩ : DRow)]).map drowE = D.map drowE ++ [.vec (some ⟨g2, 0, none⟩) d.l.length c2 3 1 (flat intV d.l)] := by simp [drowE]
      have e3 : flat drowVs (D ++ [(⟨g2, c2, d.l⟩ : DRow)]) = flat drowVs D ++ [.slice (some ⟨g2, 0, none⟩) d.l.length c2] := by simp [flat, drowVs, drowV]
      rw [e2, e3, List.length_append, List.length_cons, List.length_nil]
      refine HLe.cons aT (HLe.cons aT (HLe.cons aT (HLe.cons aT ?_)))
      refine HLe.permL (A := .vec (some ⟨g2, 0, none⟩) d.l.length c2 3 1 (flat intV d.l) :: D.map drowE) ?_ (by simp)
      exact aH
  · repeat' (conv => whnf); first | (refine VSeq.go ?_) | (refine VB.is ?_; refine VB.no (by omega) fun _ => ?_) | (refine VLd.is ?_; refine VLd.mk (.row aT (by rfl)) ?_) | (refine VSt.is ?_; refine VSt.row aT (by rfl) (by first | rfl | assumption) ?_)
    all_goals (conv => whnf)
    have h16 : D.length = 16 := by omega
    refine ⟨fun w' hw' => ⟨⟨x.tick, p1, c1, x.sts, p, cap, D⟩, rfl, ⟨rfl, rfl, ?_⟩, hw'.le ?_⟩⟩
    · dsimp only
      rw [hDl', h16, List.take_of_length_le (by omega)]
    · unfold imgH
      dsimp only
      exact aH

end Go.Proofs
end
