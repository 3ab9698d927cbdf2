import Derived.Test.YtephkjicokbckaaGreatDoorVerifyReachesRb
import Derived.Test.YtephkjicokbckaaGreatDoorVerifyReachesStp
import Derived.Test.YtephkjicokbckaaGreatDoorVerifyReachesImg
import Derived.Test.YtephkjicokbckaaGreatDoorVerifyReachesTo2
section
set_option linter.unusedVariables false

set_option linter.unusedSimpArgs false

namespace Go.Proofs

open Go Go.Vx Go.Gm

structure RRun (x : RSim) : Prop where
  ok : RSimOk x
  sta : StaAll x.N x.sts
  tick : x.tick ≤ 10000

end Go.Proofs
end

section
set_option linter.unusedVariables false

set_option linter.unusedSimpArgs false

namespace Go.Proofs

open Go Go.Vx Go.Gm

structure RCpM where
  b : Nat
  sb : Nat
  sc : Nat
  dp : Option Addr
  dc : Nat
  D : List DRow

def rcpH (a1 a2 a3 : Value) (tick : Int) (sts : List Sta) (y : RCpM) : HP :=
  .row y.b 206 [a1, a2, a3, .int .i64 tick, .slice (some ⟨y.sb, 0, none⟩) sts.length y.sc, .slice y.dp y.D.length y.dc] :: .vec (some ⟨y.sb, 0, none⟩) sts.length y.sc 194 2 (flat staV sts) :: .vec y.dp y.D.length y.dc 26 1 (flat drowVs y.D) :: y.D.map drowE

theorem RCopy_any (b : Nat) (a1 a2 a3 : Value) (tick : Int) (sp : Option Addr) (sc : Nat) (sts : List Sta) (dp : Option Addr) (dc : Nat) (Ls : List (SlD Int)) (hsl : 0 < sts.length ∧ sts.length ≤ 65536) (h16 : Ls.length = 16) (hrl : ∀ d ∈ Ls, 0 < d.l.length ∧ d.l.length ≤ 65536) (bst ost bd od : Nat) (w : World)
    (ho : a1.oneCell' = true ∧ a2.oneCell' = true ∧ a3.oneCell' = true) (hc : Cells w b 0 [a1, a2, a3, .int .i64 tick, .slice sp sts.length sc, .slice dp Ls.length dc]) (hst : Sl w staV 2 sts sp sts.length bst ost) (hd : Sl w slVs 1 Ls dp Ls.length bd od) (hrows : ∀ d ∈ Ls, ∃ b off, Sl w intV 1 d.l d.p d.l.length b off) :
    Calls Tryz.prog 70 #[.pointer (some ⟨b, 0, none⟩)] w fun e w' => ∃ y : RCpM, e = .returned (.pointer (some ⟨y.b, 0, none⟩)) ∧ y.D.map (·.l) = Ls.map (·.l) ∧ St w [] (rcpH a1 a2 a3 tick sts y) w' := by
  obtain ⟨cs, hcs⟩ : ∃ cs, [a1, a2, a3, .int .i64 tick, .slice sp sts.length sc, .slice dp Ls.length dc] = cs := ⟨_, rfl⟩
  have k0 : sub cs 0 3 = some [a1, a2, a3] := by rw [← hcs]; rfl
  have k3 : sub cs 3 1 = some [.int .i64 tick] := by rw [← hcs]; rfl
  have k4 : sub cs 4 1 = some [.slice sp sts.length sc] := by rw [← hcs]; rfl
  have k5 : sub cs 5 1 = some [.slice dp Ls.length dc] := by rw [← hcs]; rfl
  rw [hcs] at hc
  refine enter (C := Tryz.cx) (F := Tryz.fx70) (args := [_]) Tryz.func70 rfl rfl rfl Tryz.ok70 (St.start w []) ?_
  repeat' (conv => whnf); first | (refine VLd.is ?_; refine VLd.mk (Rd.cast (.old (hc.part k0) rfl (by simp)) (by first | omega | (dsimp only; omega) | rfl)) ?_) | (refine VLd.is ?_; refine VLd.mk (Rd.cast (.old (hc.part k3) rfl (by simp)) (by first | omega | (dsimp only; omega) | rfl)) ?_) | (refine VLd.is ?_; refine VLd.mk (Rd.cast (.old (hc.part k4) rfl (by simp)) (by first | omega | (dsimp only; omega) | rfl)) ?_) | (refine VNew.mk fun b2 => ?_) | (refine VAp.is ?_; refine VAp.own aT (hst.src (by simp) (fun _ => rfl)) (flat_one_cell (by simp [staV, Value.oneCell'])) ((by (try dsimp only); omega)) (by simp only [maxLen]; omega) fun p' cap' hp' => ?_) | (refine VSeq.go ?_) | (refine VKeep.is ?_; refine VKeep.mk aH ?_) | (refine VHs.mk _ (.refl _) ?_)
  all_goals (conv => whnf)
  obtain ⟨g, hg⟩ := hp' (by omega)
  subst hg
  refine VLoop.kr (α := List DRow × Option Addr × Nat) [1000000, 0, 2, 3] rfl (fun y => y.1.length ≤ 16 ∧ y.1.map (·.l) = (Ls.map (·.l)).take y.1.length)
    (fun y K => (4, .int .i64 (y.1.length : Int)) :: K)
    (fun y => .row b2 206 [a1, a2, a3, .int .i64 tick, .slice (some ⟨g, 0, none⟩) sts.length cap', .slice y.2.1 y.1.length y.2.2] :: .vec (some ⟨g, 0, none⟩) sts.length cap' 194 2 (flat staV sts) ::
      .vec y.2.1 y.1.length y.2.2 26 1 (flat drowVs y.1) :: y.1.map drowE)
    (fun y => 16 - y.1.length) ([], none, 0) ⟨by simp, by simp⟩ aE (by rw [Nat.zero_add]; exact aH) ?_
  rintro ⟨D, p, cap⟩ ⟨hD, hDl⟩
  dsimp only at hD hDl ⊢
  rcases Nat.lt_or_ge D.length 16 with hlt | hge
  · obtain ⟨d, hdd⟩ := hd.get (i := D.length) (by omega)
    obtain ⟨h0, h1⟩ := hrl d (List.mem_of_getElem? hdd)
    obtain ⟨db, od', hds⟩ := hrows d (List.mem_of_getElem? hdd)
    have htk : (Ls.map (·.l)).take (D.length + 1) = (Ls.map (·.l)).take D.length ++ [d.l] := by
      rw [List.take_add_one, List.getElem?_map, hdd]; rfl
    repeat' (conv => whnf); first | (refine VLd.is ?_; refine VLd.mk (Rd.cast (.old (hc.part k5) rfl (by simp)) (by first | omega | (dsimp only; omega) | rfl)) ?_) | (refine VIx.is ?_; refine VIx.mk (hd.ptr (by omega)) (by omega) (by omega) ?_) | (refine VLd.is ?_; refine VLd.mk (Rd.cast (hd.rd0 (by simp) (fun _ => rfl) hdd rfl) (by first | omega | (dsimp only; omega) | rfl)) ?_) | (refine VAp.is ?_; refine VAp.own (q := d.p) aT (hds.src (by simp) (fun _ => rfl)) (flat_one_cell (by simp [intV, Value.oneCell'])) ((by (try dsimp only); omega)) (by simp only [maxLen]; omega) fun p2 c2 hp2 => ?_) | (refine VAp.is ?_; refine VAp.own (p := p) aT (.at_ (.vec aT rfl)) (by simp [Value.oneCell']) (by (try dsimp only); omega) (by simp only [maxLen]; omega) fun p3 c3 hp3 => ?_) | (refine VSeq.go ?_) | (refine VB.is ?_; refine VB.yes (by omega) fun _ => ?_) | (refine VLd.is ?_; refine VLd.mk (.row aT (by rfl)) ?_) | (refine VSt.is ?_; refine VSt.row aT (by rfl) (by first | rfl | assumption) ?_) | (refine VNew.mk fun _ => ?_) | (refine VAr.is ?_; refine oA ?_) | (refine VKeep.is ?_; refine VKeep.mk aH ?_) | (refine VHs.mk _ (.refl _) ?_)
    all_goals (conv => whnf)
    obtain ⟨g2, hg2⟩ := hp2 (by omega)
    subst hg2
    refine VNext.mk (D ++ [⟨g2, c2, d.l⟩], p3, c3) ⟨by simp; omega, ?_⟩ (by simp; omega) ?_ ?_
    · dsimp only
      rw [List.map_append, List.length_append, hDl, List.length_cons, List.length_nil, htk]
      rfl
    · dsimp only
      simp only [List.length_append, List.length_cons, List.length_nil]
      exact aE
    · dsimp only
      have e2 : (D ++ [(⟨g2, c2, d.l⟩ : DRow)]).map drowE = D.map drowE ++ [.vec (some ⟨g2, 0, none⟩) d.l.length c2 3 1 (flat intV d.l)] := by simp [drowE]
      have e3 : flat drowVs (D ++ [(⟨g2, c2, d.l⟩ : DRow)]) = flat drowVs D ++ [.slice (some ⟨g2, 0, none⟩) d.l.length c2] := by simp [flat, drowVs, drowV]
      rw [e2, e3, List.length_append, List.length_cons, List.length_nil]
      rw [Nat.zero_add d.l.length]
      refine HLe.cons aT (HLe.cons aT (HLe.cons aT ?_))
      refine HLe.permL (A := .vec (some ⟨g2, 0, none⟩) d.l.length c2 3 1 (flat intV d.l) :: D.map drowE) ?_ (by simp)
      exact aH
  · repeat' (conv => whnf); first | (refine VLd.is ?_; refine VLd.mk (Rd.cast (.old (hc.part k5) rfl (by simp)) (by first | omega | (dsimp only; omega) | rfl)) ?_) | (refine VSeq.go ?_) | (refine VB.is ?_; refine VB.no (by omega) fun _ => ?_)
    all_goals (conv => whnf)
    have h16' : D.length = 16 := by omega
    refine ⟨fun w' hw' => ⟨⟨b2, g, cap', p, cap, D⟩, rfl, ?_, hw'.le ?_⟩⟩
    · dsimp only
      rw [hDl, h16', List.take_of_length_le (by rw [List.length_map]; omega)]
    · unfold rcpH
      dsimp only
      exact aH

structure RSimRd (w : World) (x : RSim) : Prop where
  cells : Cells w x.b 0 (rsimC x)
  st : Sl w staV 2 x.sts (some ⟨x.sb, 0, none⟩) x.sts.length x.sb 0
  rows : ∃ bd od, Sl w slVs 1 (x.D.map fun d => (⟨some ⟨d.g, 0, none⟩, d.cap, d.l⟩ : SlD Int)) x.dp x.D.length bd od
  due : ∀ d ∈ x.D, Sl w intV 1 d.l (some ⟨d.g, 0, none⟩) d.l.length d.g 0

theorem drows_flat (D : List DRow) : flat slVs (D.map fun d => (⟨some ⟨d.g, 0, none⟩, d.cap, d.l⟩ : SlD Int)) = D.map drowV := by
  induction D with
  | nil => rfl
  | cons d D ih =>
    have h1 : flat slVs ((d :: D).map fun d => (⟨some ⟨d.g, 0, none⟩, d.cap, d.l⟩ : SlD Int)) = [drowV d] ++ flat slVs (D.map fun d => (⟨some ⟨d.g, 0, none⟩, d.cap, d.l⟩ : SlD Int)) := by simp [flat, slVs, slV, drowV]
    rw [h1, ih]
    rfl

theorem RSimRd.of {w0 w : World} {M : List Nat} {H : HP} {x : RSim} (hs : St w0 M H w) (hl : HLe (rsimH x) H) : RSimRd w x := by
  have h := hs.le hl
  obtain ⟨bd, hbd⟩ := Sl.own h (f := slVs) (l := x.D.map fun d => (⟨some ⟨d.g, 0, none⟩, d.cap, d.l⟩ : SlD Int)) (n := x.D.length) (k := 1) (p := x.dp) (cap := x.dc) (e := 26) (by rw [drows_flat]; exact .there (.there .here)) (fun _ => rfl) (List.length_map _)
  refine ⟨?_, Sl.own' (cap := x.sc) (e := 194) h (by simp only [rsimH, List.mem_cons, true_or, or_true]) (fun _ => rfl) rfl, ⟨bd, 0, hbd⟩, fun d hd => Sl.own' (cap := d.cap) (e := 3) h (by simp only [rsimH, List.mem_cons]; exact .inr (.inr (.inr (List.mem_map_of_mem hd)))) (fun _ => rfl) rfl⟩
  have hb := h.own (.row x.b 206 (rsimC x)) (by simp only [rsimH, List.mem_cons, true_or])
  have hb' : w.heap[x.b]? = some (.cells (rsimC x).toArray 206 (0, 0)) := hb
  intro j v hj
  simpa [World.cell?, hb'] using hj

end Go.Proofs
end
