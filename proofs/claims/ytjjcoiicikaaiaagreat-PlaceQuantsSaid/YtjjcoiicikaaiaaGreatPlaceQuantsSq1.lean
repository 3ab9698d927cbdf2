import Derived.Test.YtjjcoiicikaaiaaGreatPlaceQuantsQw
import Derived.Test.YtjjcoiicikaaiaaGreatPlaceQuantsTo7
set_option linter.unusedVariables false

set_option linter.unusedSimpArgs false

namespace Go.Proofs

open Go Go.Vx Go.Gm

theorem _root_.Go.Vx.VCall.arg1 {P : Program} {w0 : World} {M : List Nat} {H : HP} {f : Nat} (x : Value) {xs : List Value} {K : Value → HP → Prop} (hh : VCall P w0 M H f (x :: xs) K) : VCall P w0 M H f (x :: xs) K := hh

theorem equal7_self (l : List Int) (hll : l.length ≤ 1000000) (p : Option Addr) (c b o : Nat) (q : Option Addr) (d b2 o2 : Nat) (w : World) (h1 : Sl w intV 1 l p l.length b o) (h2 : Sl w intV 1 l q l.length b2 o2) :
    Calls Tryz.prog 25 #[.slice p l.length c, .slice q l.length d] w fun e w' => e = .returned (.bool true) ∧ St w [] [] w' := by
  refine enter (C := Tryz.cx) (F := Tryz.fx25) (args := [_, _]) Tryz.func25 rfl rfl rfl Tryz.ok25 (St.start w []) ?_
  repeat' (conv => whnf); first | (refine VSeq.go ?_) | (refine VB.is ?_; refine VB.yes (by omega) fun _ => ?_) | (refine VB.is ?_; refine VB.no (by omega) fun _ => ?_) | (refine VB.split (fun _ => ?_) (fun _ => ?_)) | (refine boolE_split (fun h => ?_) (fun h => ?_) <;> subst h) | (refine VLd.is ?_; refine VLd.mk (.row aT (by rfl)) ?_) | (refine VSt.is ?_; refine VSt.row aT (by rfl) (by first | rfl | assumption) ?_) | (refine VNew.mk fun _ => ?_) | (refine VAr.is ?_; refine oA ?_) | (refine VIx.is ?_; refine VIx.mk rfl (by omega) (by omega) ?_) | (refine VKeep.is ?_; refine VKeep.mk aH ?_) | (refine VHs.mk _ (.refl _) ?_) | (refine VQ.is ?_; refine oQ ?_) | (refine VM.is ?_; refine oM ?_) | (refine And.intro ?_ ?_)
  all_goals (conv => whnf)
  refine VLoop.mk (α := Nat) (fun j => j ≤ l.length) (fun j => [(1000000, .tuple #[]), (0, .slice p l.length c), (1, .slice q l.length d), (4, .bool false), (5, .int .i64 (j : Int))])
    (fun _ => []) (fun j => l.length - j) 0 (Nat.zero_le _) aE aH ?_
  rintro j hj
  rcases Nat.lt_or_ge j l.length with hlt | hge
  · obtain ⟨x, hx⟩ := h1.get hlt
    repeat' (conv => whnf); first | (refine VIx.is ?_; refine VIx.mk (h1.ptr (by omega)) (by omega) (by omega) ?_) | (refine VIx.is ?_; refine VIx.mk (h2.ptr (by omega)) (by omega) (by omega) ?_) | (refine VLd.is ?_; refine VLd.mk (Rd.cast (h1.rd0 (by simp) (fun _ => rfl) hx rfl) (by first | omega | (dsimp only; omega) | rfl)) ?_) | (refine VLd.is ?_; refine VLd.mk (Rd.cast (h2.rd0 (by simp) (fun _ => rfl) hx rfl) (by first | omega | (dsimp only; omega) | rfl)) ?_) | (refine VSeq.go ?_) | (refine VB.is ?_; refine VB.yes (by omega) fun _ => ?_) | (refine VB.is ?_; refine VB.no (by omega) fun _ => ?_) | (refine VB.split (fun _ => ?_) (fun _ => ?_)) | (refine boolE_split (fun h => ?_) (fun h => ?_) <;> subst h) | (refine VLd.is ?_; refine VLd.mk (.row aT (by rfl)) ?_) | (refine VSt.is ?_; refine VSt.row aT (by rfl) (by first | rfl | assumption) ?_) | (refine VNew.mk fun _ => ?_) | (refine VAr.is ?_; refine oA ?_) | (refine VIx.is ?_; refine VIx.mk rfl (by omega) (by omega) ?_) | (refine VKeep.is ?_; refine VKeep.mk aH ?_) | (refine VHs.mk _ (.refl _) ?_) | (refine VQ.is ?_; refine oQ ?_) | (refine VM.is ?_; refine oM ?_) | (refine And.intro ?_ ?_)
    all_goals (conv => whnf)
    refine VNext.mk (j + 1) (by omega) (by omega) aE aH
  repeat' (conv => whnf); first | (refine VSeq.go ?_) | (refine VB.is ?_; refine VB.yes (by omega) fun _ => ?_) | (refine VB.is ?_; refine VB.no (by omega) fun _ => ?_) | (refine VB.split (fun _ => ?_) (fun _ => ?_)) | (refine boolE_split (fun h => ?_) (fun h => ?_) <;> subst h) | (refine VLd.is ?_; refine VLd.mk (.row aT (by rfl)) ?_) | (refine VSt.is ?_; refine VSt.row aT (by rfl) (by first | rfl | assumption) ?_) | (refine VNew.mk fun _ => ?_) | (refine VAr.is ?_; refine oA ?_) | (refine VIx.is ?_; refine VIx.mk rfl (by omega) (by omega) ?_) | (refine VKeep.is ?_; refine VKeep.mk aH ?_) | (refine VHs.mk _ (.refl _) ?_) | (refine VQ.is ?_; refine oQ ?_) | (refine VM.is ?_; refine oM ?_) | (refine And.intro ?_ ?_)
  all_goals (conv => whnf)
  exact ⟨fun w' hw' => ⟨rfl, hw'.le .nil⟩⟩

structure QAt (y : QP) (R : QR) (w : World) : Prop where
  ps : ∃ b o, Sl w parV 8 R.ps y.pp R.ps.length b o
  syns : ∃ b o, Sl w synV 4 R.syns y.ps R.syns.length b o
  scales : ∃ b o, Sl w intV 1 R.scales y.pz R.scales.length b o
  quots : ∃ b o, Sl w intV 1 R.quots y.pq R.quots.length b o
  errs : ∃ b o, Sl w intV 1 R.errs y.pe R.errs.length b o

structure QFew (R : QR) : Prop where
  ps : R.ps.length ≤ 1000000
  syns : R.syns.length ≤ 1000000
  scales : R.scales.length ≤ 1000000
  quots : R.quots.length ≤ 1000000
  errs : R.errs.length ≤ 1000000

set_option maxHeartbeats 4000000 in
theorem sameQuant_any (R : QR) (hR : QFew R) (y z : QP) (w : World) (hy : QAt y R w) (hz : QAt z R w) :
    Calls Tryz.prog 22 #[.agg (quantC y R).toArray, .agg (quantC z R).toArray] w fun e w' => e = .returned (.bool true) ∧ St w [] [] w' := by
  obtain ⟨⟨b1, o1, a1⟩, ⟨b2, o2, a2⟩, ⟨b3, o3, a3⟩, ⟨b4, o4, a4⟩, ⟨b5, o5, a5⟩⟩ := hy
  obtain ⟨⟨d1, q1, c1⟩, ⟨d2, q2, c2⟩, ⟨d3, q3, c3⟩, ⟨d4, q4, c4⟩, ⟨d5, q5, c5⟩⟩ := hz
  obtain ⟨h1, h2, h3, h4, h5⟩ := hR
  unfold quantC
  obtain ⟨ps, inp, syns, scales, quots, errs, ex⟩ := R
  obtain ⟨yp, yc1, ys, yc2, yz, yc3, yq, yc4, ye, yc5⟩ := y
  obtain ⟨zp, zc1, zs, zc2, zz, zc3, zq, zc4, ze, zc5⟩ := z
  dsimp only at a1 a2 a3 a4 a5 c1 c2 c3 c4 c5 h1 h2 h3 h4 h5 ⊢
  refine enter (C := Tryz.cx) (F := Tryz.fx22) (args := [_, _]) Tryz.func22 rfl rfl rfl Tryz.ok22 (St.start w []) ?_
  repeat' (conv => whnf); first | (refine VNew.mk fun bn => ?_) | (refine VB.is ?_; refine VB.is ?_; refine VB.no (p := ¬ _) (fun h => h (by simp)) fun _ => ?_) | (refine VCall.isF 25 ?_; (refine VCall.arg1 (.slice yz scales.length yc3) ?_; refine VCall.valR (fun w' hw' => equal7_self scales h3 _ _ _ _ _ _ _ _ w' (a3.keep hw' (by simp)) (c3.keep hw' (by simp))) ?_)) | (refine VCall.isF 25 ?_; (refine VCall.arg1 (.slice yq quots.length yc4) ?_; refine VCall.valR (fun w' hw' => equal7_self quots h4 _ _ _ _ _ _ _ _ w' (a4.keep hw' (by simp)) (c4.keep hw' (by simp))) ?_)) | (refine VCall.isF 25 ?_; (refine VCall.arg1 (.slice ye errs.length yc5) ?_; refine VCall.valR (fun w' hw' => equal7_self errs h5 _ _ _ _ _ _ _ _ w' (a5.keep hw' (by simp)) (c5.keep hw' (by simp))) ?_)) | (refine VSeq.go ?_) | (refine VB.is ?_; refine VB.yes (by omega) fun _ => ?_) | (refine VB.is ?_; refine VB.no (by omega) fun _ => ?_) | (refine VB.split (fun _ => ?_) (fun _ => ?_)) | (refine boolE_split (fun h => ?_) (fun h => ?_) <;> subst h) | (refine VLd.is ?_; refine VLd.mk (.row aT (by rfl)) ?_) | (refine VSt.is ?_; refine VSt.row aT (by rfl) (by first | rfl | assumption) ?_) | (refine VNew.mk fun _ => ?_) | (refine VAr.is ?_; refine oA ?_) | (refine VIx.is ?_; refine VIx.mk rfl (by omega) (by omega) ?_) | (refine VKeep.is ?_; refine VKeep.mk aH ?_) | (refine VHs.mk _ (.refl _) ?_) | (refine VQ.is ?_; refine oQ ?_) | (refine VM.is ?_; refine oM ?_) | (refine And.intro ?_ ?_)
  all_goals (conv => whnf)
  rename_i bq _ _ _ _
  have hbr := bn
  obtain ⟨br, hbr2⟩ : ∃ br, bn = br := ⟨_, rfl⟩
  rw [hbr2]
  refine VLoop.mk (α := Nat) (fun j => j ≤ ps.length) (fun j => [(1000000, .tuple #[]), (2, .pointer (some ⟨bq, 0, none⟩)), (3, .pointer (some ⟨br, 0, none⟩)), (4, .bool false), (5, .int .i64 (j : Int))])
    (fun _ => [.row br 45 [.slice zp ps.length zc1, .int .i64 inp, .slice zs syns.length zc2, .slice zz scales.length zc3, .slice zq quots.length zc4, .slice ze errs.length zc5, .bool ex], .row bq 42 [.slice yp ps.length yc1, .int .i64 inp, .slice ys syns.length yc2, .slice yz scales.length yc3, .slice yq quots.length yc4, .slice ye errs.length yc5, .bool ex]]) (fun j => ps.length - j) 0 (Nat.zero_le _) aE aH ?_
  rintro j hj
  rcases Nat.lt_or_ge j ps.length with hlt | hge
  · obtain ⟨x, hx⟩ := a1.get hlt
    repeat' (conv => whnf); first | (refine VB.is ?_; refine VB.is ?_; refine VB.no (p := ¬ _) (fun h => h (by simp)) fun _ => ?_) | (refine VIx.is ?_; refine VIx.mk (a1.ptr (by omega)) (by omega) (by omega) ?_) | (refine VIx.is ?_; refine VIx.mk (c1.ptr (by omega)) (by omega) (by omega) ?_) | (refine VLd.is ?_; refine VLd.mk (Rd.cast (a1.rd0 (by simp) (fun _ => rfl) hx rfl) (by first | omega | (dsimp only; omega) | rfl)) ?_) | (refine VLd.is ?_; refine VLd.mk (Rd.cast (c1.rd0 (by simp) (fun _ => rfl) hx rfl) (by first | omega | (dsimp only; omega) | rfl)) ?_) | (refine VSeq.go ?_) | (refine VB.is ?_; refine VB.yes (by omega) fun _ => ?_) | (refine VB.is ?_; refine VB.no (by omega) fun _ => ?_) | (refine VB.split (fun _ => ?_) (fun _ => ?_)) | (refine boolE_split (fun h => ?_) (fun h => ?_) <;> subst h) | (refine VLd.is ?_; refine VLd.mk (.row aT (by rfl)) ?_) | (refine VSt.is ?_; refine VSt.row aT (by rfl) (by first | rfl | assumption) ?_) | (refine VNew.mk fun _ => ?_) | (refine VAr.is ?_; refine oA ?_) | (refine VIx.is ?_; refine VIx.mk rfl (by omega) (by omega) ?_) | (refine VKeep.is ?_; refine VKeep.mk aH ?_) | (refine VHs.mk _ (.refl _) ?_) | (refine VQ.is ?_; refine oQ ?_) | (refine VM.is ?_; refine oM ?_) | (refine And.intro ?_ ?_)
    all_goals (conv => whnf)
    refine VNext.mk (j + 1) (by omega) (by omega) aE aH
  repeat' (conv => whnf); first | (refine VSeq.go ?_) | (refine VB.is ?_; refine VB.yes (by omega) fun _ => ?_) | (refine VB.is ?_; refine VB.no (by omega) fun _ => ?_) | (refine VB.split (fun _ => ?_) (fun _ => ?_)) | (refine boolE_split (fun h => ?_) (fun h => ?_) <;> subst h) | (refine VLd.is ?_; refine VLd.mk (.row aT (by rfl)) ?_) | (refine VSt.is ?_; refine VSt.row aT (by rfl) (by first | rfl | assumption) ?_) | (refine VNew.mk fun _ => ?_) | (refine VAr.is ?_; refine oA ?_) | (refine VIx.is ?_; refine VIx.mk rfl (by omega) (by omega) ?_) | (refine VKeep.is ?_; refine VKeep.mk aH ?_) | (refine VHs.mk _ (.refl _) ?_) | (refine VQ.is ?_; refine oQ ?_) | (refine VM.is ?_; refine oM ?_) | (refine And.intro ?_ ?_)
  all_goals (conv => whnf)
  refine VLoop.mk (α := Nat) (fun j => j ≤ syns.length) (fun j => [(1000000, .tuple #[]), (2, .pointer (some ⟨bq, 0, none⟩)), (3, .pointer (some ⟨br, 0, none⟩)), (4, .bool false), (6, .int .i64 (j : Int))])
    (fun _ => [.row br 45 [.slice zp ps.length zc1, .int .i64 inp, .slice zs syns.length zc2, .slice zz scales.length zc3, .slice zq quots.length zc4, .slice ze errs.length zc5, .bool ex], .row bq 42 [.slice yp ps.length yc1, .int .i64 inp, .slice ys syns.length yc2, .slice yz scales.length yc3, .slice yq quots.length yc4, .slice ye errs.length yc5, .bool ex]]) (fun j => syns.length - j) 0 (Nat.zero_le _) aE aH ?_
  rintro j hj
  rcases Nat.lt_or_ge j syns.length with hlt | hge
  · obtain ⟨x, hx⟩ := a2.get hlt
    repeat' (conv => whnf); first | (refine VB.is ?_; refine VB.is ?_; refine VB.no (p := ¬ _) (fun h => h (by simp)) fun _ => ?_) | (refine VIx.is ?_; refine VIx.mk (a2.ptr (by omega)) (by omega) (by omega) ?_) | (refine VIx.is ?_; refine VIx.mk (c2.ptr (by omega)) (by omega) (by omega) ?_) | (refine VLd.is ?_; refine VLd.mk (Rd.cast (a2.rd0 (by simp) (fun _ => rfl) hx rfl) (by first | omega | (dsimp only; omega) | rfl)) ?_) | (refine VLd.is ?_; refine VLd.mk (Rd.cast (c2.rd0 (by simp) (fun _ => rfl) hx rfl) (by first | omega | (dsimp only; omega) | rfl)) ?_) | (refine VSeq.go ?_) | (refine VB.is ?_; refine VB.yes (by omega) fun _ => ?_) | (refine VB.is ?_; refine VB.no (by omega) fun _ => ?_) | (refine VB.split (fun _ => ?_) (fun _ => ?_)) | (refine boolE_split (fun h => ?_) (fun h => ?_) <;> subst h) | (refine VLd.is ?_; refine VLd.mk (.row aT (by rfl)) ?_) | (refine VSt.is ?_; refine VSt.row aT (by rfl) (by first | rfl | assumption) ?_) | (refine VNew.mk fun _ => ?_) | (refine VAr.is ?_; refine oA ?_) | (refine VIx.is ?_; refine VIx.mk rfl (by omega) (by omega) ?_) | (refine VKeep.is ?_; refine VKeep.mk aH ?_) | (refine VHs.mk _ (.refl _) ?_) | (refine VQ.is ?_; refine oQ ?_) | (refine VM.is ?_; refine oM ?_) | (refine And.intro ?_ ?_)
    all_goals (conv => whnf)
    refine VNext.mk (j + 1) (by omega) (by omega) aE aH
  repeat' (conv => whnf); first | (refine VSeq.go ?_) | (refine VB.is ?_; refine VB.yes (by omega) fun _ => ?_) | (refine VB.is ?_; refine VB.no (by omega) fun _ => ?_) | (refine VB.split (fun _ => ?_) (fun _ => ?_)) | (refine boolE_split (fun h => ?_) (fun h => ?_) <;> subst h) | (refine VLd.is ?_; refine VLd.mk (.row aT (by rfl)) ?_) | (refine VSt.is ?_; refine VSt.row aT (by rfl) (by first | rfl | assumption) ?_) | (refine VNew.mk fun _ => ?_) | (refine VAr.is ?_; refine oA ?_) | (refine VIx.is ?_; refine VIx.mk rfl (by omega) (by omega) ?_) | (refine VKeep.is ?_; refine VKeep.mk aH ?_) | (refine VHs.mk _ (.refl _) ?_) | (refine VQ.is ?_; refine oQ ?_) | (refine VM.is ?_; refine oM ?_) | (refine And.intro ?_ ?_)
  all_goals (conv => whnf)
  exact ⟨fun w' hw' => ⟨rfl, hw'.le .nil⟩⟩

end Go.Proofs
