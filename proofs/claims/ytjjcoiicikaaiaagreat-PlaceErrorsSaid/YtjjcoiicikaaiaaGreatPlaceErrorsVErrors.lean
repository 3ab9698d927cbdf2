import Derived.Test.YtjjcoiicikaaiaaGreatPlaceErrorsEr
import Derived.Test.YtjjcoiicikaaiaaGreatPlaceErrorsNa
set_option linter.unusedVariables false
set_option linter.unusedSimpArgs false
set_option maxHeartbeats 4000000

namespace Go.Gm

theorem smallM_next {Z : List Int} {half : Int} {l : List Syn} {n t : Nat} {s : Syn} (ht : t < n) (hs : s.to = (t : Int)) : (List.range n).map (smallQ Z half (l ++ [s])) = ((List.range n).map (smallQ Z half l)).set t (smallQ Z half l t || showsQ Z half s) := by
 have h := range_set (f := smallQ Z half l) (g := smallQ Z half (l ++ [s])) ht fun i hi => by
  rw [smallQ_snoc, if_neg (by omega)]
 rw [h, smallQ_snoc, if_pos hs]

def netQ (N : Net) (Z : List Int) : Net := ⟨N.ps, N.inputs, N.syns.map (synQ Z)⟩

theorem netQ_ok {N : Net} (hN : NetOk N) {Z : List Int} {half : Int} (hf : QFacts N Z half) : NetOk (netQ N Z) where
 some := hN.some
 few := hN.few
 inputs := hN.inputs
 fewS := by show (N.syns.map (synQ Z)).length ≤ 8192; rw [List.length_map]; exact hN.fewS
 ps := hN.ps
 syns := fun s hs => by
  obtain ⟨x, hx, rfl⟩ := List.mem_map.1 hs
  obtain ⟨h1, h2, h3, h4⟩ := hN.syns x hx
  have h5 := (hf.syn x hx).2.2.2
  have e : (synQ Z x).wt = quotS Z x * scOf Z x := rfl
  exact ⟨h1, h2, by rw [e]; omega, h4⟩

end Go.Gm

namespace Go.Proofs

open Go Go.Vx Go.Gm

def b7V (b : Bool) : List Value := [.bool b]

theorem synV_at7 {s : Syn} {t : Nat} (ht : s.to = (t : Int)) : sub (synV s) 0 4 = some [.int .i64 s.frm, .int .i64 (t : Int), .int .i64 s.wt, .int .i64 s.dl] := by
 rw [← ht]; rfl

theorem beyond_any (x s half : Int) (hx : -32768 ≤ x ∧ x ≤ 32768) (hs : 1 ≤ s ∧ s ≤ 65537) (hh : 2 ≤ half ∧ half ≤ 32768) (w : World) :
  Calls Tryz.prog 29 #[.int .i64 x, .int .i64 s, .int .i64 half] w fun e w' => ∃ r : Bool, e = .returned (.bool r) ∧ (r = true ↔ beyondM x s half) ∧ St w [] [] w' := by
 have hq := sizeQ_range (w := x) hs.1
 have hqd : (2 * max x (-x) + s - 1) / (2 * s) = sizeQ x s := rfl
 have hm1 : sizeQ x s * s ≤ 32768 * 65537 := Int.mul_le_mul (by omega) hs.2 (by omega) (by omega)
 have hm0 : 0 ≤ sizeQ x s * s := Int.mul_nonneg hq.1 (by omega)
 unfold beyondM
 obtain ⟨q, hqe⟩ : ∃ q, sizeQ x s = q := ⟨_, rfl⟩
 rw [hqe] at hq hqd hm1 hm0 ⊢
 obtain ⟨pr, hpr⟩ : ∃ pr, q * s = pr := ⟨_, rfl⟩
 rw [hpr] at hm1 hm0 ⊢
 have hz : max x (0 - x) = max x (-x) := by rw [Int.zero_sub]
 obtain ⟨m, hm⟩ : ∃ m, max x (-x) = m := ⟨_, rfl⟩
 have hmm : 0 ≤ m ∧ m ≤ 32768 := by omega
 rw [hm] at hqd hz
 refine enter (C := Tryz.cx) (F := Tryz.fx29) (args := [_, _, _]) Tryz.func29 rfl rfl rfl Tryz.ok29 (St.start w []) ?_
 repeat' (conv => whnf); first | (refine VQ.is ?_; refine VQ.is ?_; rw [hz]; refine VQ.gen (by omega) (by omega) (by omega) fun q' hq' hq0' hq1' => ?_; rw [hqd] at hq'; subst hq') | (refine VAr.is ?_; refine VAr.is ?_; refine VAr.mul hpr (by omega) (by omega) ?_) | (refine VSeq.go ?_) | (refine VB.is ?_; refine VB.no (by omega) fun _ => ?_) | (refine VB.split (fun _ => ?_) (fun _ => ?_)) | (refine VAr.is ?_; refine oA ?_)
 all_goals (conv => whnf)
 all_goals first
  | exact ⟨fun w' hw' => ⟨true, rfl, by simp only [true_iff]; omega, hw'.le .nil⟩⟩
  | exact ⟨fun w' hw' => ⟨false, rfl, by simp only [Bool.false_eq_true, false_iff]; omega, hw'.le .nil⟩⟩
  | trace_state

theorem PlaceErrors_good (N : Net) (hN : N.wf) (pn : Option Addr) (cn bn on : Nat) (qs : Option Addr) (cs bs os : Nat) (B : Nat) (hb : 2 ≤ B ∧ B ≤ 16) (w : World) (h1 : Sl w parV 8 N.ps pn N.ps.length bn on) (h2 : Sl w synV 4 N.syns qs N.syns.length bs os) (hOk : NetOk N) :
  Calls Tryz.prog 7 #[.agg #[.slice pn N.ps.length cn, .int .i64 N.inputs, .slice qs N.syns.length cs], .int .i64 (B : Int)] w fun e w' => e = .returned (.bool true) ∧ St w [] [] w' := by
 have hf := fun (w' : World) => few7_any ⟨⟨⟨0, 0, 0⟩, 0, 0, 0, 0, []⟩, none, 0, N, pn, cn, qs, cs⟩ w'
 unfold PlnX.net chpC at hf
 dsimp only at hf
 have hq := fun (w' : World) h1 h2 => Quantise_any N hN B (by unfold I64; omega) pn cn bn on qs cs bs os w' h1 h2
 have hhalf := half_ok (bits := (B : Int)) (by omega)
 obtain ⟨half, hhf⟩ : ∃ half, halfM (B : Int) = half := ⟨_, rfl⟩
 rw [hhf] at hhalf
 have hq0 : qErr N B = 0 := by
  unfold qErr
  rw [netchk_zero.2 hOk, if_neg (by simp), if_neg (by omega)]
 have hres : quantRes N B = ⟨N.ps, N.inputs, N.syns.map (synQ (scalesM N half)), scalesM N half, N.syns.map (quotS (scalesM N half)), errsM (scalesM N half) N.syns N.ps.length, N.syns.all fun s => decide (offS (scalesM N half) s = 0)⟩ := by
  unfold quantRes
  rw [if_neg (by omega), ← hhf]
  rfl
 have hto : ∀ s ∈ N.syns, 0 ≤ s.to ∧ s.to < N.ps.length := fun s hs => by have := (hOk.syns s hs).2.1; omega
 have hF := qfacts (N := N) (wts_of hOk) hto hhalf.1
 have hwt := wts_of hOk
 have hqb := fun s hs => quot_bounds hOk hhalf (s := s) hs
 have hne := netQ_ok hOk hF
 have hec := exact_iff (N := N) (Z := scalesM N half) hto
 have hfewP := hOk.few
 have hsomeP := hOk.some
 have hfewS := hOk.fewS
 have hnw : (netQ N (scalesM N half)).wf := by
  refine ⟨hN.ps, hN.inputs, fun s hs => ?_⟩
  obtain ⟨x, hx, rfl⟩ := List.mem_map.1 hs
  obtain ⟨a1, a2, a3, a4⟩ := hN.syns x hx
  have h5 := (hF.syn x hx).2.2.2
  exact ⟨a1, a2, by show I64 (quotS (scalesM N half) x * scOf (scalesM N half) x); unfold I64; omega, a4⟩
 have hck := fun (w' : World) pn cn bn on qs cs bs os => Check_any (netQ N (scalesM N half)) hnw pn cn bn on qs cs bs os w'
 rw [netchk_zero.2 hne] at hck
 unfold netQ at hck
 dsimp only at hck
 simp only [List.length_map] at hck
 obtain ⟨Z, hZ⟩ : ∃ Z, scalesM N half = Z := ⟨_, rfl⟩
 rw [hq0, hres] at hq
 rw [hZ] at hq hF hqb hec hck
 have hZl := hF.len
 have hel : (errsM Z N.syns N.ps.length).length = N.ps.length := by unfold errsM; simp
 unfold quantC at hq
 dsimp only at hq
 simp only [List.length_map, hZl, hel] at hq
 obtain ⟨ex, hex⟩ : ∃ ex, (N.syns.all fun s => decide (offS Z s = 0)) = ex := ⟨_, rfl⟩
 rw [hex] at hq hec
 have hq : ∀ (w' : World), Sl w' parV 8 N.ps pn N.ps.length bn on → Sl w' synV 4 N.syns qs N.syns.length bs os → Calls Tryz.prog 20 #[.agg #[.slice pn N.ps.length cn, .int .i64 N.inputs, .slice qs N.syns.length cs], .int .i64 (B : Int)] w' fun e w'' => ∃ y : QP, e = .returned (.tuple #[.agg #[.slice y.pp N.ps.length y.cp, .int .i64 N.inputs, .slice y.ps N.syns.length y.cs, .slice y.pz N.ps.length y.cz, .slice y.pq N.syns.length y.cq, .slice y.pe N.ps.length y.ce, .bool ex], .int .i64 0]) ∧ ((∃ g, y.pp = some ⟨g, 0, none⟩) ∧ (0 < N.syns.length → ∃ g, y.ps = some ⟨g, 0, none⟩) ∧ (∃ g, y.pz = some ⟨g, 0, none⟩) ∧ (0 < N.syns.length → ∃ g, y.pq = some ⟨g, 0, none⟩) ∧ (∃ g, y.pe = some ⟨g, 0, none⟩)) ∧ St w' [] [.vec y.pp N.ps.length y.cp 74 8 (flat parV N.ps), .vec y.ps N.syns.length y.cs 70 4 (flat synV (N.syns.map (synQ Z))), .vec y.pz N.ps.length y.cz 3 1 (flat intV Z), .vec y.pq N.syns.length y.cq 3 1 (flat intV (N.syns.map (quotS Z))), .vec y.pe N.ps.length y.ce 3 1 (flat intV (errsM Z N.syns N.ps.length))] w'' := fun w' h1 h2 => (hq w' h1 h2).mono fun e w'' ⟨y, g1, _, g3⟩ => by
  unfold quantH at g3
  dsimp only at g3
  simp only [List.length_map, hZl, hel] at g3
  exact ⟨y, g1, ⟨(vec_facts (g3.own _ List.mem_cons_self)).2.1 hsomeP, (vec_facts (g3.own _ (.tail _ List.mem_cons_self))).2.1, (vec_facts (g3.own _ (.tail _ (.tail _ List.mem_cons_self)))).2.1 hsomeP, (vec_facts (g3.own _ (.tail _ (.tail _ (.tail _ List.mem_cons_self))))).2.1, (vec_facts (g3.own _ (.tail _ (.tail _ (.tail _ (.tail _ List.mem_cons_self)))))).2.1 hsomeP⟩, g3⟩
 obtain ⟨SY, hSY⟩ : ∃ SY, N.syns.map (synQ Z) = SY := ⟨_, rfl⟩
 obtain ⟨QU, hQU⟩ : ∃ QU, N.syns.map (quotS Z) = QU := ⟨_, rfl⟩
 obtain ⟨ER, hER⟩ : ∃ ER, errsM Z N.syns N.ps.length = ER := ⟨_, rfl⟩
 rw [hSY, hQU, hER] at hq
 rw [hSY] at hck
 have hSYl : SY.length = N.syns.length := by rw [← hSY, List.length_map]
 have hpow : (2 : Int) ^ (B - 1) = half := by rw [← hhf]; unfold halfM; rw [Int.toNat_natCast]
 have hpb : ∀ i : Nat, 1 ≤ i → i ≤ B → (1 : Int) ≤ 2 ^ (i - 1) ∧ (2 : Int) ^ (i - 1) ≤ 32768 := fun i h3 h4 => by
  have e : ((2 : Int) ^ (i - 1)) = ((2 ^ (i - 1) : Nat) : Int) := by simp
  have g1 : 2 ^ (i - 1) ≤ 2 ^ 15 := Nat.pow_le_pow_right (by omega) (by omega)
  have g2 : 0 < 2 ^ (i - 1) := Nat.pow_pos (by omega)
  rw [e]
  omega
 refine enter (C := Tryz.cx) (F := Tryz.fx7) (args := [_, _]) Tryz.func7 rfl rfl rfl Tryz.ok7 (St.start w []) ?_
 refine VSeq.go ?_
 repeat' (conv => whnf); first | (refine VNew.mk fun b2 => ?_)
 all_goals (conv => whnf)
 repeat' (conv => whnf); first | (refine VNew.mk fun b5 => ?_) | (refine VB.is ?_; refine VB.is ?_; refine VB.no (p := ¬ _) (fun h => h (by simp)) fun _ => ?_) | (refine VCall.isF 15 ?_; (refine VCall.valR (fun w' _ => works7_any w') ?_)) | (refine VCall.isF 19 ?_; (refine VCall.genR (fun w' hw' => hf w') ?_; rintro r _)) | (refine VCall.isF 20 ?_; (refine VCall.genR (fun w' hw' => hq w' (h1.keep hw' (by simp)) (h2.keep hw' (by simp))) ?_; rintro y ⟨⟨gp, hgp⟩, hgs, ⟨gz, hgz⟩, hgq, ⟨ge, hge⟩⟩)) | (refine VSeq.go ?_) | (refine VB.is ?_; refine VB.no (by omega) fun _ => ?_) | (refine boolE_split (fun h => ?_) (fun h => ?_) <;> subst h) | (refine VLd.is ?_; refine VLd.mk (.row aT (by rfl)) ?_) | (refine VSt.is ?_; refine VSt.row aT (by rfl) (by first | rfl | assumption) ?_)
 all_goals (conv => whnf)
 rotate_left
 ·exact ⟨fun w' hw' => ⟨rfl, hw'.le .nil⟩⟩
 clear hf hq
 refine VLoop.mk (α := Nat) (fun i => 1 ≤ i ∧ i ≤ B) (fun i => [(1000000, .tuple #[]), (1, .int .i64 (B : Int)), (2, .pointer (some ⟨b2, 0, none⟩)), (4, .bool false), (5, .pointer (some ⟨b5, 0, none⟩)), (7, .int .i64 (2 ^ (i - 1))), (8, .int .i64 (i : Int))])
  (fun _ => [.row b2 39 [.slice pn N.ps.length cn, .int .i64 N.inputs, .slice qs N.syns.length cs], .row b5 42 [.slice y.pp N.ps.length y.cp, .int .i64 N.inputs, .slice y.ps N.syns.length y.cs, .slice y.pz N.ps.length y.cz, .slice y.pq N.syns.length y.cq, .slice y.pe N.ps.length y.ce, .bool ex], .vec y.pp N.ps.length y.cp 74 8 (flat parV N.ps), .vec y.ps N.syns.length y.cs 70 4 (flat synV SY), .vec y.pz N.ps.length y.cz 3 1 (flat intV Z), .vec y.pq N.syns.length y.cq 3 1 (flat intV QU), .vec y.pe N.ps.length y.ce 3 1 (flat intV ER)]) (fun i => B - i) 1 (by omega) aE aH ?_
 rintro i ⟨hi1, hi2⟩
 obtain ⟨g1, g2⟩ := hpb i hi1 hi2
 rcases Nat.lt_or_ge i B with hlt | hge'
 ·have hnx : 2 * (2 : Int) ^ (i - 1) = 2 ^ (i + 1 - 1) := by
   rw [show i + 1 - 1 = (i - 1) + 1 by omega, Int.pow_succ, Int.mul_comm]
  obtain ⟨x, hx⟩ : ∃ x, (2 : Int) ^ (i - 1) = x := ⟨_, rfl⟩
  rw [hx] at g1 g2 hnx ⊢
  repeat' (conv => whnf); first | (refine VSeq.go ?_) | (refine VB.is ?_; refine VB.yes (by omega) fun _ => ?_) | (refine VB.is ?_; refine VB.no (by omega) fun _ => ?_) | (refine VLd.is ?_; refine VLd.mk (.row aT (by rfl)) ?_) | (refine VAr.is ?_; refine oA ?_)
  all_goals (conv => whnf)
  exact VNext.mk (i + 1) (by omega) (by omega) (by rw [← hnx]; exact aE) (HLe.refl _)
 have hiB : i = B := by omega
 subst hiB
 rw [hpow]
 repeat' (conv => whnf); first | (refine VMk.is ?_; refine VMk.mk (by omega) (by omega) (by (try dsimp only); omega) (by omega) fun gx => ?_) | (refine VSeq.go ?_) | (refine VB.is ?_; refine VB.no (by omega) fun _ => ?_) | (refine VLd.is ?_; refine VLd.mk (.row aT (by rfl)) ?_)
 all_goals (conv => whnf)
 obtain ⟨g10, h10⟩ : ∃ g, gx = g := ⟨_, rfl⟩
 rw [h10]
 rename_i g9
 have hb0 : repL [.bool false] N.ps.length = flat b7V (List.replicate N.ps.length false) := flat_rep (f := b7V) (x := false) N.ps.length
 have hm0 : (List.range N.ps.length).map (smallQ Z half []) = List.replicate N.ps.length false := range_const false N.ps.length
 refine VLoop.mk (α := Nat) (fun i => i ≤ N.syns.length) (fun i => [(1000000, .tuple #[]), (2, .pointer (some ⟨b2, 0, none⟩)), (4, .bool false), (5, .pointer (some ⟨b5, 0, none⟩)), (7, .int .i64 half), (9, .slice (some ⟨g9, 0, none⟩) N.ps.length N.ps.length), (10, .slice (some ⟨g10, 0, none⟩) N.ps.length N.ps.length), (11, .int .i64 (i : Int))])
  (fun i => [.row b2 39 [.slice pn N.ps.length cn, .int .i64 N.inputs, .slice qs N.syns.length cs], .row b5 42 [.slice y.pp N.ps.length y.cp, .int .i64 N.inputs, .slice y.ps N.syns.length y.cs, .slice y.pz N.ps.length y.cz, .slice y.pq N.syns.length y.cq, .slice y.pe N.ps.length y.ce, .bool ex], .vec (some ⟨g9, 0, none⟩) N.ps.length N.ps.length 3 1 (flat intV (errsM Z (N.syns.take i) N.ps.length)), .vec (some ⟨g10, 0, none⟩) N.ps.length N.ps.length 4 1 (flat b7V ((List.range N.ps.length).map (smallQ Z half (N.syns.take i)))), .vec y.pp N.ps.length y.cp 74 8 (flat parV N.ps), .vec y.ps N.syns.length y.cs 70 4 (flat synV SY), .vec y.pz N.ps.length y.cz 3 1 (flat intV Z), .vec y.pq N.syns.length y.cq 3 1 (flat intV QU), .vec y.pe N.ps.length y.ce 3 1 (flat intV ER)]) (fun i => N.syns.length - i) 0 (Nat.zero_le _) aE (by rw [List.take_zero, errsM_nil, hm0, ← flat_ints, ← hb0]; exact aH) ?_
 clear hb0 hm0
 rintro i hi
 rcases Nat.lt_or_ge i N.syns.length with hlt | hge'
 ·obtain ⟨s, hs⟩ := h2.get hlt
  have hsm := List.mem_of_getElem? hs
  have hw := hwt s hsm
  obtain ⟨t, z, hte, htl, hzt, hzb, hqn, _⟩ := hqb s hsm
  have hsc : scOf Z s = z := by unfold scOf; rw [hte, Int.toNat_natCast, hzt]; rfl
  obtain ⟨f1, f2, f3, f4, f5⟩ := hF.syn s hsm
  rw [hsc] at f3 f4 f5
  have hoe : offS Z s = max (s.wt - quotS Z s * z) (-(s.wt - quotS Z s * z)) := by rw [← hsc]; rfl
  have hsy : SY[i]? = some (synQ Z s) := by rw [← hSY, List.getElem?_map, hs]; rfl
  have hsq : synQ Z s = ⟨s.frm, s.to, quotS Z s * z, s.dl⟩ := by rw [← hsc]; rfl
  have hqu : QU[i]? = some (quotS Z s) := by rw [← hQU, List.getElem?_map, hs]; rfl
  rw [hsq] at hsy
  have herr : (errsM Z (N.syns.take i) N.ps.length)[t]? = some (errQ Z (N.syns.take i) t) := range_get htl
  have hen := errsM_next (Z := Z) (l := N.syns.take i) htl hte
  have hsmg : ((List.range N.ps.length).map (smallQ Z half (N.syns.take i)))[t]? = some (smallQ Z half (N.syns.take i) t) := range_get htl
  have hsn := smallM_next (Z := Z) (half := half) (l := N.syns.take i) htl hte
  rw [← take_snoc hs] at hen hsn
  have hbey := fun hz1 (w' : World) => beyond_any s.wt (z - 1) half hw hz1 hhalf w'
  have hsh : showsQ Z half s = (decide (1 < z) && decide (beyondM s.wt (z - 1) half)) := by unfold showsQ; rw [hsc]
  obtain ⟨k, hk⟩ : ∃ k, quotS Z s = k := ⟨_, rfl⟩
  rw [hk] at f1 f2 f4 f5 hoe hsy hqu
  obtain ⟨pr, hpr⟩ : ∃ pr, k * z = pr := ⟨_, rfl⟩
  rw [hpr] at f4 f5 hoe hsy
  have hmx : max (s.wt - pr) (pr - s.wt) = offS Z s := by rw [hoe]; omega
  obtain ⟨d, hd⟩ : ∃ d, offS Z s = d := ⟨_, rfl⟩
  rw [hd] at f3 hmx hen
  rw [← hmx] at hen
  obtain ⟨e0, he0⟩ : ∃ e, errQ Z (N.syns.take i) t = e := ⟨_, rfl⟩
  rw [he0] at herr hen
  obtain ⟨sm, hsme⟩ : ∃ e, smallQ Z half (N.syns.take i) t = e := ⟨_, rfl⟩
  rw [hsme, hsh] at hsn
  rw [hsme] at hsmg
  obtain ⟨gs, hgs'⟩ := hgs (by omega)
  obtain ⟨gq, hgq'⟩ := hgq (by omega)
  rw [hgs', hgq', hgz]
  have hv : sub (synV s) 0 4 = some [.int .i64 s.frm, .int .i64 (t : Int), .int .i64 s.wt, .int .i64 s.dl] := synV_at7 hte
  have hv2 : sub (synV ⟨s.frm, s.to, pr, s.dl⟩) 0 4 = some [.int .i64 s.frm, .int .i64 (t : Int), .int .i64 pr, .int .i64 s.dl] := synV_at7 (s := ⟨s.frm, s.to, pr, s.dl⟩) hte
  have hbr : ∀ r : Bool, (r = true ↔ beyondM s.wt (z - 1) half) → decide (beyondM s.wt (z - 1) half) = r := fun r hr => by
   cases r with
   | true => exact decide_eq_true (hr.1 rfl)
   | false => exact decide_eq_false fun h => absurd (hr.2 h) Bool.false_ne_true
  clear hqb
  cases sm
  all_goals
   by_cases h1z : 1 < z
  all_goals first | rw [decide_eq_true h1z] at hsn | rw [decide_eq_false h1z] at hsn
  all_goals
   repeat' (conv => whnf); first | (refine VNew.mk fun bn => ?_) | (refine VB.is ?_; refine VB.is ?_; refine VB.no (p := ¬ _) (fun h => h (by simp)) fun _ => ?_) | (refine VIx.is ?_; refine VIx.mk (h2.ptr (by omega)) (by omega) (by omega) ?_) | (refine VIx.is ?_; refine VIx.mk rfl (by omega) (by omega) ?_) | (refine VLd.is ?_; refine VLd.mk (Rd.cast (h2.rd0 (by simp) (fun _ => rfl) hs hv) (by first | omega | (dsimp only; omega) | rfl)) ?_) | (refine VLd.is ?_; refine VLd.mk (Rd.cast (.vec aT (sub_flat0 (f := synV) (k := 4) (fun _ => rfl) hsy hv2)) (by first | omega | (dsimp only; omega) | rfl)) ?_) | (refine VLd.is ?_; refine VLd.mk (Rd.cast (.vec aT (sub_flat0 (f := intV) (k := 1) (fun _ => rfl) hzt rfl)) (by first | omega | (dsimp only; omega) | rfl)) ?_) | (refine VLd.is ?_; refine VLd.mk (Rd.cast (.vec aT (sub_flat0 (f := intV) (k := 1) (fun _ => rfl) hqu rfl)) (by first | omega | (dsimp only; omega) | rfl)) ?_) | (refine VLd.is ?_; refine VLd.mk (Rd.cast (.vec aT (sub_flat0 (f := intV) (k := 1) (fun _ => rfl) herr rfl)) (by first | omega | (dsimp only; omega) | rfl)) ?_) | (refine VLd.is ?_; refine VLd.mk (Rd.cast (.vec aT (sub_flat0 (f := b7V) (k := 1) (fun _ => rfl) hsmg rfl)) (by first | omega | (dsimp only; omega) | rfl)) ?_) | (refine VAr.is ?_; refine VAr.is ?_; refine VAr.mul hpr (by omega) (by omega) ?_) | (refine VCall.isF 29 ?_; (refine VCall.genR (fun w' _ => hbey (by omega) w') ?_; rintro r hr; rw [hbr r hr] at hsn; cases r)) | (refine VSt.is ?_; refine VSt.is ?_; refine VSt.cast (off' := t * 1) (by first | omega | (dsimp only; omega) | rfl) (VSt.vec aT (upd_flat0 (f := intV) (k := 1) (y := max e0 (max (s.wt - pr) (pr - s.wt))) (fun _ => rfl) herr rfl) rfl ?_)) | (refine VSt.is ?_; refine VSt.is ?_; refine VSt.cast (off' := t * 1) (by first | omega | (dsimp only; omega) | rfl) (VSt.vec aT (upd_flat0 (f := b7V) (k := 1) (y := true) (fun _ => rfl) hsmg rfl) rfl ?_)) | (refine VSt.is ?_; refine VSt.is ?_; refine VSt.cast (off' := t * 1) (by first | omega | (dsimp only; omega) | rfl) (VSt.vec aT (upd_flat0 (f := b7V) (k := 1) (y := false) (fun _ => rfl) hsmg rfl) rfl ?_)) | (refine VSeq.go ?_) | (refine VB.is ?_; refine VB.yes (by omega) fun _ => ?_) | (refine VB.is ?_; refine VB.no (by omega) fun _ => ?_) | (refine VLd.is ?_; refine VLd.mk (.row aT (by rfl)) ?_) | (refine VSt.is ?_; refine VSt.row aT (by rfl) (by first | rfl | assumption) ?_) | (refine VAr.is ?_; refine oA ?_) | (refine VKeep.is ?_; refine VKeep.mk aH ?_) | (refine VHs.mk _ (.refl _) ?_) | (refine And.intro ?_ ?_)
   all_goals (conv => whnf)
  all_goals simp only [Bool.or_false, Bool.false_or, Bool.true_or, Bool.and_true, Bool.true_and, Bool.and_false, Bool.false_and] at hsn
  all_goals exact VNext.mk (i + 1) (by omega) (by omega) aE (by rw [hen, hsn]; exact aH)
 have hiN : i = N.syns.length := by omega
 subst hiN
 rw [List.take_length, hER]
 clear hqb hwt hi hge'
 repeat' (conv => whnf); first | (refine VCall.isF 30 ?_; (refine VCall.valR (fun w' hw' => Exists.elim (Sl.own (f := parV) (l := N.ps) (p := y.pp) (k := 8) hw' aT (fun _ => rfl) rfl) fun ba ha => Exists.elim (Sl.own (f := synV) (l := SY) (p := y.ps) (k := 4) hw' aT (fun _ => rfl) hSYl) fun bb hb => hck w' _ _ ba 0 _ _ bb 0 ha hb) ?_)) | (refine VSeq.go ?_) | (refine VB.is ?_; refine VB.no (by omega) fun _ => ?_) | (refine VLd.is ?_; refine VLd.mk (.row aT (by rfl)) ?_)
 all_goals (conv => whnf)
 refine VLoop.mk (α := Nat × Bool) (fun z => z.1 ≤ N.ps.length ∧ (z.2 = true ↔ ∀ j, j < z.1 → errQ Z N.syns j = 0)) (fun z => [(1000000, .tuple #[]), (2, .pointer (some ⟨b2, 0, none⟩)), (4, .bool false), (5, .pointer (some ⟨b5, 0, none⟩)), (9, .slice (some ⟨g9, 0, none⟩) N.ps.length N.ps.length), (10, .slice (some ⟨g10, 0, none⟩) N.ps.length N.ps.length), (17, .bool z.2), (18, .int .i64 (z.1 : Int))])
  (fun _ => [.row b2 39 [.slice pn N.ps.length cn, .int .i64 N.inputs, .slice qs N.syns.length cs], .row b5 42 [.slice y.pp N.ps.length y.cp, .int .i64 N.inputs, .slice y.ps N.syns.length y.cs, .slice y.pz N.ps.length y.cz, .slice y.pq N.syns.length y.cq, .slice y.pe N.ps.length y.ce, .bool ex], .vec (some ⟨g9, 0, none⟩) N.ps.length N.ps.length 3 1 (flat intV ER), .vec (some ⟨g10, 0, none⟩) N.ps.length N.ps.length 4 1 (flat b7V ((List.range N.ps.length).map (smallQ Z half N.syns))), .vec y.pp N.ps.length y.cp 74 8 (flat parV N.ps), .vec y.ps N.syns.length y.cs 70 4 (flat synV SY), .vec y.pz N.ps.length y.cz 3 1 (flat intV Z), .vec y.pq N.syns.length y.cq 3 1 (flat intV QU), .vec y.pe N.ps.length y.ce 3 1 (flat intV ER)]) (fun z => N.ps.length - z.1) (0, true) ⟨Nat.zero_le _, by simp⟩ aE aH ?_
 rintro ⟨i, xb⟩ ⟨hi, hxb⟩
 dsimp only at hi hxb ⊢
 rcases Nat.lt_or_ge i N.ps.length with hlt | hge'
 ·obtain ⟨x, hx⟩ := h1.get hlt
  have her : ER[i]? = some (errQ Z N.syns i) := by rw [← hER]; exact range_get hlt
  obtain ⟨z, hz⟩ : ∃ z, Z[i]? = some z := ⟨_, List.getElem?_eq_getElem (by omega)⟩
  have hzb := hF.at_ i z hz
  have hsmg : ((List.range N.ps.length).map (smallQ Z half N.syns))[i]? = some (smallQ Z half N.syns i) := range_get hlt
  have hsmz := hF.small i z hz
  have hone := hF.one i
  rw [hz] at hone
  obtain ⟨e0, he0⟩ : ∃ e, errQ Z N.syns i = e := ⟨_, rfl⟩
  have hnext : ∀ b : Bool, (b = true ↔ xb = true ∧ e0 = 0) → (b = true ↔ ∀ j, j < i + 1 → errQ Z N.syns j = 0) := fun b hb => by
   rw [hb, hxb, ← he0]
   constructor
   ·rintro ⟨a1, a2⟩ j hj
    by_cases h : j < i
    ·exact a1 j h
    ·have : j = i := by omega
     rw [this]; exact a2
   ·intro a
    exact ⟨fun j hj => a j (by omega), a i (by omega)⟩
  rw [he0] at her hone
  have hone : z = 1 → e0 = 0 := fun h => hone (by rw [h])
  have hsm2 : ((List.range N.ps.length).map (smallQ Z half N.syns))[i]? = some (smallQ Z half N.syns i) := hsmg
  obtain ⟨sm, hsme⟩ : ∃ sm, smallQ Z half N.syns i = sm := ⟨_, rfl⟩
  rw [hsme] at hsmg hsmz
  rw [hgp, hgz, hge]
  clear hxb hec
  by_cases h1z : 1 < z
  all_goals first | (have hs1 := hsmz h1z; subst hs1) | (have hz1 : z = 1 := (by omega); have h00 := hone hz1)
  all_goals cases xb
  all_goals
   repeat' (conv => whnf); first | (refine VB.is ?_; refine VB.is ?_; refine VB.no (p := ¬ _) (fun h => h (by simp)) fun _ => ?_) | (refine VIx.is ?_; refine VIx.mk (h1.ptr (by omega)) (by omega) (by omega) ?_) | (refine VIx.is ?_; refine VIx.mk rfl (by omega) (by omega) ?_) | (refine VLd.is ?_; refine VLd.mk (Rd.cast (h1.rd0 (by simp) (fun _ => rfl) hx rfl) (by first | omega | (dsimp only; omega) | rfl)) ?_) | (refine VLd.is ?_; refine VLd.mk (Rd.cast (.vec aT (sub_flat0 (f := parV) (k := 8) (fun _ => rfl) hx rfl)) (by first | omega | (dsimp only; omega) | rfl)) ?_) | (refine VLd.is ?_; refine VLd.mk (Rd.cast (.vec aT (sub_flat0 (f := intV) (k := 1) (fun _ => rfl) hz rfl)) (by first | omega | (dsimp only; omega) | rfl)) ?_) | (refine VLd.is ?_; refine VLd.mk (Rd.cast (.vec aT (sub_flat0 (f := intV) (k := 1) (fun _ => rfl) her rfl)) (by first | omega | (dsimp only; omega) | rfl)) ?_) | (refine VLd.is ?_; refine VLd.mk (Rd.cast (.vec aT (sub_flat0 (f := b7V) (k := 1) (fun _ => rfl) hsmg rfl)) (by first | omega | (dsimp only; omega) | rfl)) ?_) | (refine VSeq.go ?_) | (refine VB.is ?_; refine VB.yes (by omega) fun _ => ?_) | (refine VB.is ?_; refine VB.no (by omega) fun _ => ?_) | (refine VB.split (fun _ => ?_) (fun _ => ?_)) | (refine VLd.is ?_; refine VLd.mk (.row aT (by rfl)) ?_) | (refine VAr.is ?_; refine oA ?_) | (refine VHs.mk _ (.refl _) ?_)
   all_goals (conv => whnf)
  all_goals first
   | exact VNext.mk (i + 1, true) ⟨by dsimp only; omega, hnext true (by first | (simp; done) | (simp; omega))⟩ (by dsimp only; omega) aE (HLe.refl _)
   | exact VNext.mk (i + 1, false) ⟨by dsimp only; omega, hnext false (by first | (simp; done) | (simp; omega))⟩ (by dsimp only; omega) aE (HLe.refl _)
 have hiN : i = N.ps.length := by omega
 subst hiN
 have hxe : xb = ex := by
  rw [Bool.eq_iff_iff, hxb, hec]
 subst hxe
 clear hxb hec hck hF hto hne
 have hall : xb = true → ∀ s ∈ N.syns, offS Z s = 0 := fun h s hs => by
  rw [h, List.all_eq_true] at hex
  exact of_decide_eq_true (hex s hs)
 repeat' (conv => whnf); first | (refine VSeq.go ?_) | (refine VB.is ?_; refine VB.yes (by omega) fun _ => ?_) | (refine VB.is ?_; refine VB.no (by omega) fun _ => ?_) | (refine VLd.is ?_; refine VLd.mk (.row aT (by rfl)) ?_) | (refine VAr.is ?_; refine oA ?_)
 all_goals (conv => whnf)
 refine VLoop.mk (α := Nat) (fun i => i ≤ N.syns.length) (fun i => [(1000000, .tuple #[]), (2, .pointer (some ⟨b2, 0, none⟩)), (4, .bool false), (5, .pointer (some ⟨b5, 0, none⟩)), (17, .bool xb), (19, .int .i64 (i : Int))])
  (fun _ => [.row b2 39 [.slice pn N.ps.length cn, .int .i64 N.inputs, .slice qs N.syns.length cs], .row b5 42 [.slice y.pp N.ps.length y.cp, .int .i64 N.inputs, .slice y.ps N.syns.length y.cs, .slice y.pz N.ps.length y.cz, .slice y.pq N.syns.length y.cq, .slice y.pe N.ps.length y.ce, .bool xb], .vec y.pp N.ps.length y.cp 74 8 (flat parV N.ps), .vec y.ps N.syns.length y.cs 70 4 (flat synV SY), .vec y.pz N.ps.length y.cz 3 1 (flat intV Z), .vec y.pq N.syns.length y.cq 3 1 (flat intV QU), .vec y.pe N.ps.length y.ce 3 1 (flat intV ER)]) (fun i => N.syns.length - i) 0 (Nat.zero_le _) aE aH ?_
 rintro i hi
 cases xb with
 | true =>
  rcases Nat.lt_or_ge i N.syns.length with hlt | hge'
  ·obtain ⟨s, hs⟩ := h2.get hlt
   have hsy : SY[i]? = some s := by rw [← hSY, List.getElem?_map, hs, Option.map_some, synQ_same (hall rfl s (List.mem_of_getElem? hs))]
   obtain ⟨gs, hgs'⟩ := hgs (by omega)
   rw [hgs']
   repeat' (conv => whnf); first | (refine VB.is ?_; refine VB.is ?_; refine VB.no (p := ¬ _) (fun h => h (by simp)) fun _ => ?_) | (refine VIx.is ?_; refine VIx.mk (h2.ptr (by omega)) (by omega) (by omega) ?_) | (refine VIx.is ?_; refine VIx.mk rfl (by omega) (by omega) ?_) | (refine VLd.is ?_; refine VLd.mk (Rd.cast (h2.rd0 (by simp) (fun _ => rfl) hs rfl) (by first | omega | (dsimp only; omega) | rfl)) ?_) | (refine VLd.is ?_; refine VLd.mk (Rd.cast (.vec aT (sub_flat0 (f := synV) (k := 4) (fun _ => rfl) hsy rfl)) (by first | omega | (dsimp only; omega) | rfl)) ?_) | (refine VSeq.go ?_) | (refine VB.is ?_; refine VB.yes (by omega) fun _ => ?_) | (refine VLd.is ?_; refine VLd.mk (.row aT (by rfl)) ?_) | (refine VAr.is ?_; refine oA ?_) | (refine VHs.mk _ (.refl _) ?_)
   all_goals (conv => whnf)
   exact VNext.mk (i + 1) (by omega) (by omega) aE (HLe.refl _)
  have hiN : i = N.syns.length := by omega
  subst hiN
  repeat' (conv => whnf); first | (refine VB.is ?_; refine VB.is ?_; refine VB.yes (by decide) fun _ => ?_) | (refine VCall.isF 15 ?_; (refine VCall.valR (fun w' _ => works7_any w') ?_)) | (refine VSeq.go ?_) | (refine VB.is ?_; refine VB.no (by omega) fun _ => ?_) | (refine VB.split (fun _ => ?_) (fun _ => ?_)) | (refine VLd.is ?_; refine VLd.mk (.row aT (by rfl)) ?_)
  all_goals (conv => whnf)
  exact ⟨fun w' hw' => ⟨rfl, hw'.le .nil⟩⟩
 | false =>
  repeat' (conv => whnf); first | (refine VB.is ?_; refine VB.is ?_; refine VB.yes (by decide) fun _ => ?_) | (refine VCall.isF 15 ?_; (refine VCall.valR (fun w' _ => works7_any w') ?_)) | (refine VSeq.go ?_) | (refine VB.is ?_; refine VB.no (by omega) fun _ => ?_) | (refine VB.split (fun _ => ?_) (fun _ => ?_)) | (refine VLd.is ?_; refine VLd.mk (.row aT (by rfl)) ?_)
  all_goals (conv => whnf)
  all_goals exact ⟨fun w' hw' => ⟨rfl, hw'.le .nil⟩⟩

theorem PlaceErrors_bad (N : Net) (hN : N.wf) (pn : Option Addr) (cn bn on : Nat) (qs : Option Addr) (cs bs os : Nat) (bits : Int) (hb : I64 bits) (w : World) (h1 : Sl w parV 8 N.ps pn N.ps.length bn on) (h2 : Sl w synV 4 N.syns qs N.syns.length bs os) (he : qErr N bits ≠ 0) :
  Calls Tryz.prog 7 #[.agg #[.slice pn N.ps.length cn, .int .i64 N.inputs, .slice qs N.syns.length cs], .int .i64 bits] w fun e w' => e = .returned (.bool true) ∧ St w [] [] w' := by
 have hf := fun (w' : World) => few7_any ⟨⟨⟨0, 0, 0⟩, 0, 0, 0, 0, []⟩, none, 0, N, pn, cn, qs, cs⟩ w'
 have hq := fun (w' : World) h1 h2 => Quantise_any N hN bits hb pn cn bn on qs cs bs os w' h1 h2
 obtain ⟨R, hR⟩ : ∃ R, quantRes N bits = R := ⟨_, rfl⟩
 obtain ⟨E, hE⟩ : ∃ E, qErr N bits = E := ⟨_, rfl⟩
 rw [hR, hE] at hq
 rw [hE] at he
 unfold PlnX.net chpC at hf
 unfold quantC at hq
 dsimp only at hf
 refine enter (C := Tryz.cx) (F := Tryz.fx7) (args := [_, _]) Tryz.func7 rfl rfl rfl Tryz.ok7 (St.start w []) ?_
 repeat' (conv => whnf); first | (refine VNew.mk fun bb => ?_) | (refine VCall.isF 15 ?_; (refine VCall.valR (fun w' _ => works7_any w') ?_)) | (refine VCall.isF 19 ?_; (refine VCall.genR (fun w' hw' => hf w') ?_; rintro r _)) | (refine VCall.isF 20 ?_; (refine VCall.genR (fun w' hw' => hq w' (h1.keep hw' (by simp)) (h2.keep hw' (by simp))) ?_; rintro y _)) | (refine VSeq.go ?_) | (refine VB.is ?_; refine VB.yes (by omega) fun _ => ?_) | (refine boolE_split (fun h => ?_) (fun h => ?_) <;> subst h) | (refine VLd.is ?_; refine VLd.mk (.row aT (by rfl)) ?_) | (refine VSt.is ?_; refine VSt.row aT (by rfl) (by first | rfl | assumption) ?_)
 all_goals (conv => whnf)
 all_goals exact ⟨fun w' hw' => ⟨rfl, hw'.le .nil⟩⟩

theorem PlaceErrors_any (N : Net) (hN : N.wf) (pn : Option Addr) (cn bn on : Nat) (qs : Option Addr) (cs bs os : Nat) (bits : Int) (hb : I64 bits) (w : World) (h1 : Sl w parV 8 N.ps pn N.ps.length bn on) (h2 : Sl w synV 4 N.syns qs N.syns.length bs os) :
  Calls Tryz.prog 7 #[.agg #[.slice pn N.ps.length cn, .int .i64 N.inputs, .slice qs N.syns.length cs], .int .i64 bits] w fun e w' => e = .returned (.bool true) ∧ St w [] [] w' := by
 by_cases he : qErr N bits = 0
 ·have hz : netchk N = 0 ∧ (2 ≤ bits ∧ bits ≤ 16) := by
   unfold qErr at he
   split at he
   ·omega
   ·split at he
    ·omega
    ·rename_i a b; exact ⟨by omega, by omega⟩
  obtain ⟨B, rfl⟩ : ∃ B : Nat, bits = B := ⟨bits.toNat, by omega⟩
  exact PlaceErrors_good N hN pn cn bn on qs cs bs os B (by omega) w h1 h2 (netchk_zero.1 hz.1)
 ·exact PlaceErrors_bad N hN pn cn bn on qs cs bs os bits hb w h1 h2 he

end Go.Proofs
