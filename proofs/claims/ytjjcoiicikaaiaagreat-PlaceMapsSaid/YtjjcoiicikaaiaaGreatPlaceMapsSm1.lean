import Derived.Test.YtjjcoiicikaaiaaGreatPlaceMapsPz
import Derived.Test.YtjjcoiicikaaiaaGreatPlaceMapsQw
import Derived.Test.YtjjcoiicikaaiaaGreatPlaceMapsMl
set_option linter.unusedVariables false
set_option linter.unusedSimpArgs false
set_option maxHeartbeats 4000000
section

namespace Go.Gm

end Go.Gm

namespace Go.Proofs

open Go Go.Vx Go.Gm

end Go.Proofs
end

section

namespace Go.Proofs

open Go Go.Vx Go.Gm

theorem equal7_any (l m : List Int) (hll : l.length ≤ 1000000) (p : Option Addr) (c b o : Nat) (q : Option Addr) (d b2 o2 : Nat) (w : World) (hl : ∀ k ∈ l, I64 k) (hm : ∀ k ∈ m, I64 k) (h1 : Sl w intV 1 l p l.length b o) (h2 : Sl w intV 1 m q m.length b2 o2) :
  Calls Tryz.prog 25 #[.slice p l.length c, .slice q m.length d] w fun e w' => ∃ r : Bool, e = .returned (.bool r) ∧ (r = true ↔ l = m) ∧ St w [] [] w' := by
 refine enter (C := Tryz.cx) (F := Tryz.fx25) (args := [_, _]) Tryz.func25 rfl rfl rfl Tryz.ok25 (St.start w []) ?_
 by_cases hlen : l.length ≠ m.length
 ·repeat' (conv => whnf); first | (refine VSeq.go ?_) | (refine VB.is ?_; refine VB.yes (by omega) fun _ => ?_)
  all_goals (conv => whnf)
  exact ⟨fun w' hw' => ⟨false, rfl, by simp only [Bool.false_eq_true, false_iff]; exact fun h => hlen (by rw [h]), hw'.le .nil⟩⟩
 have hlen := Decidable.not_not.1 hlen
 repeat' (conv => whnf); first | (refine VSeq.go ?_) | (refine VB.is ?_; refine VB.yes (by omega) fun _ => ?_) | (refine VB.is ?_; refine VB.no (by omega) fun _ => ?_) | (refine VB.split (fun _ => ?_) (fun _ => ?_)) | (refine VLd.is ?_; refine VLd.mk (.row aT (by rfl)) ?_) | (refine VSt.is ?_; refine VSt.row aT (by rfl) (by first | rfl | assumption) ?_) | (refine VNew.mk fun _ => ?_)
 all_goals (conv => whnf)
 refine VLoop.mk (α := Nat) (fun j => j ≤ l.length ∧ l.take j = m.take j) (fun j => [(1000000, .tuple #[]), (0, .slice p l.length c), (1, .slice q m.length d), (4, .bool false), (5, .int .i64 (j : Int))])
  (fun _ => []) (fun j => l.length - j) 0 ⟨Nat.zero_le _, by simp⟩ aE aH ?_
 rintro j ⟨hj, ht⟩
 rcases Nat.lt_or_ge j l.length with hlt | hge
 ·obtain ⟨x, hx⟩ := h1.get hlt
  obtain ⟨y, hy⟩ := h2.get (by omega : j < m.length)
  have hxw := hl x (List.mem_of_getElem? hx)
  have hyw := hm y (List.mem_of_getElem? hy)
  unfold I64 at hxw hyw
  repeat' (conv => whnf); first | (refine VIx.is ?_; refine VIx.mk (h1.ptr (by omega)) (by omega) (by omega) ?_) | (refine VIx.is ?_; refine VIx.mk (h2.ptr (by omega)) (by omega) (by omega) ?_) | (refine VLd.is ?_; refine VLd.mk (Rd.cast (h1.rd0 (by simp) (fun _ => rfl) hx rfl) (by first | omega | (dsimp only; omega) | rfl)) ?_) | (refine VLd.is ?_; refine VLd.mk (Rd.cast (h2.rd0 (by simp) (fun _ => rfl) hy rfl) (by first | omega | (dsimp only; omega) | rfl)) ?_) | (refine VSeq.go ?_) | (refine VB.is ?_; refine VB.yes (by omega) fun _ => ?_) | (refine VB.split (fun _ => ?_) (fun _ => ?_)) | (refine VAr.is ?_; refine oA ?_) | (refine VHs.mk _ (.refl _) ?_)
  all_goals (conv => whnf)
  all_goals first
   | (have e : x ≠ y := by omega
      exact ⟨fun w' hw' => ⟨false, rfl, by simp only [Bool.false_eq_true, false_iff]; exact fun h => e (by rw [h, hy] at hx; exact (Option.some.inj hx).symm), hw'.le .nil⟩⟩)
   | (have e : x = y := by omega
      refine VNext.mk (j + 1) ⟨by omega, ?_⟩ (by omega) aE aH
      rw [List.take_add_one, List.take_add_one, hx, hy, ht, e])
 rw [List.take_of_length_le hge, List.take_of_length_le (by omega)] at ht
 repeat' (conv => whnf); first | (refine VSeq.go ?_) | (refine VB.is ?_; refine VB.yes (by omega) fun _ => ?_) | (refine VB.is ?_; refine VB.no (by omega) fun _ => ?_) | (refine VB.split (fun _ => ?_) (fun _ => ?_)) | (refine VLd.is ?_; refine VLd.mk (.row aT (by rfl)) ?_) | (refine VSt.is ?_; refine VSt.row aT (by rfl) (by first | rfl | assumption) ?_) | (refine VNew.mk fun _ => ?_)
 all_goals (conv => whnf)
 exact ⟨fun w' hw' => ⟨true, rfl, by simp [ht], hw'.le .nil⟩⟩

theorem few7_any (X : PlnX) (w : World) :
  Calls Tryz.prog 19 #[.agg X.net.toArray, .agg (chpC X.C X.pd X.cd).toArray] w fun e w' => ∃ r : Bool, e = .returned (.bool r) ∧ (r = true ↔ (X.N.ps.length ≤ 24 ∨ (250 < X.N.ps.length ∧ X.N.ps.length ≤ 270 ∧ X.N.syns.length ≤ 10)) ∧ X.N.syns.length ≤ 80 ∧ X.C.dead.length ≤ 20) ∧ St w [] [] w' := by
 unfold PlnX.net chpC
 refine enter (C := Tryz.cx) (F := Tryz.fx19) (args := [_, _]) Tryz.func19 rfl rfl rfl Tryz.ok19 (St.start w []) ?_
 repeat' (conv => whnf); first | (refine VSeq.go ?_) | (refine VB.is ?_; refine VB.yes (by omega) fun _ => ?_) | (refine VB.is ?_; refine VB.no (by omega) fun _ => ?_) | (refine VB.split (fun _ => ?_) (fun _ => ?_)) | (refine VLd.is ?_; refine VLd.mk (.row aT (by rfl)) ?_) | (refine VSt.is ?_; refine VSt.row aT (by rfl) (by first | rfl | assumption) ?_) | (refine VNew.mk fun _ => ?_)
 all_goals (conv => whnf)
 all_goals first
  | exact ⟨fun w' hw' => ⟨true, rfl, by simp only [true_iff]; omega, hw'.le .nil⟩⟩
  | exact ⟨fun w' hw' => ⟨false, rfl, by simp only [Bool.false_eq_true, false_iff]; omega, hw'.le .nil⟩⟩

theorem ref7_any (C : Chp) (p : Option Addr) (c : Nat) (w : World) :
  Calls Tryz.prog 18 #[.agg (chpC C p c).toArray] w fun e w' => e = .returned (.agg (chpC C p c).toArray) ∧ St w [] [] w' := by
 unfold chpC
 refine enter (C := Tryz.cx) (F := Tryz.fx18) (args := [_]) Tryz.func18 rfl rfl rfl Tryz.ok18 (St.start w []) ?_
 repeat' (conv => whnf); first | (refine VSeq.go ?_) | (refine VB.is ?_; refine VB.yes (by omega) fun _ => ?_) | (refine VB.is ?_; refine VB.no (by omega) fun _ => ?_) | (refine VB.split (fun _ => ?_) (fun _ => ?_)) | (refine VLd.is ?_; refine VLd.mk (.row aT (by rfl)) ?_) | (refine VSt.is ?_; refine VSt.row aT (by rfl) (by first | rfl | assumption) ?_) | (refine VNew.mk fun _ => ?_)
 all_goals (conv => whnf)
 exact ⟨fun w' hw' => ⟨rfl, hw'.le .nil⟩⟩

end Go.Proofs
end

section

namespace Go.Proofs

open Go Go.Vx Go.Gm

theorem _root_.Go.Vx.VCall.arg1 {P : Program} {w0 : World} {M : List Nat} {H : HP} {f : Nat} (x : Value) {xs : List Value} {K : Value → HP → Prop} (hh : VCall P w0 M H f (x :: xs) K) : VCall P w0 M H f (x :: xs) K := hh

theorem equal7_self (l : List Int) (hll : l.length ≤ 1000000) (p : Option Addr) (c b o : Nat) (q : Option Addr) (d b2 o2 : Nat) (w : World) (h1 : Sl w intV 1 l p l.length b o) (h2 : Sl w intV 1 l q l.length b2 o2) :
  Calls Tryz.prog 25 #[.slice p l.length c, .slice q l.length d] w fun e w' => e = .returned (.bool true) ∧ St w [] [] w' := by
 refine enter (C := Tryz.cx) (F := Tryz.fx25) (args := [_, _]) Tryz.func25 rfl rfl rfl Tryz.ok25 (St.start w []) ?_
 repeat' (conv => whnf); first | (refine VSeq.go ?_) | (refine VB.is ?_; refine VB.no (by omega) fun _ => ?_) | (refine VLd.is ?_; refine VLd.mk (.row aT (by rfl)) ?_)
 all_goals (conv => whnf)
 refine VLoop.mk (α := Nat) (fun j => j ≤ l.length) (fun j => [(1000000, .tuple #[]), (0, .slice p l.length c), (1, .slice q l.length d), (4, .bool false), (5, .int .i64 (j : Int))])
  (fun _ => []) (fun j => l.length - j) 0 (Nat.zero_le _) aE aH ?_
 rintro j hj
 rcases Nat.lt_or_ge j l.length with hlt | hge
 ·obtain ⟨x, hx⟩ := h1.get hlt
  repeat' (conv => whnf); first | (refine VIx.is ?_; refine VIx.mk (h1.ptr (by omega)) (by omega) (by omega) ?_) | (refine VIx.is ?_; refine VIx.mk (h2.ptr (by omega)) (by omega) (by omega) ?_) | (refine VLd.is ?_; refine VLd.mk (Rd.cast (h1.rd0 (by simp) (fun _ => rfl) hx rfl) (by first | omega | (dsimp only; omega) | rfl)) ?_) | (refine VLd.is ?_; refine VLd.mk (Rd.cast (h2.rd0 (by simp) (fun _ => rfl) hx rfl) (by first | omega | (dsimp only; omega) | rfl)) ?_) | (refine VSeq.go ?_) | (refine VB.is ?_; refine VB.yes (by omega) fun _ => ?_) | (refine VB.is ?_; refine VB.no (by omega) fun _ => ?_) | (refine VAr.is ?_; refine oA ?_) | (refine VHs.mk _ (.refl _) ?_)
  all_goals (conv => whnf)
  refine VNext.mk (j + 1) (by omega) (by omega) aE aH
 repeat' (conv => whnf); first | (refine VSeq.go ?_) | (refine VB.is ?_; refine VB.no (by omega) fun _ => ?_) | (refine VLd.is ?_; refine VLd.mk (.row aT (by rfl)) ?_)
 all_goals (conv => whnf)
 exact ⟨fun w' hw' => ⟨rfl, hw'.le .nil⟩⟩

structure QAt (y : QP) (R : QR) (w : World) : Prop where
 ps : ∃ b o, Sl w parV 8 R.ps y.pp R.ps.length b o
 syns : ∃ b o, Sl w synV 4 R.syns y.ps R.syns.length b o
 scales : ∃ b o, Sl w intV 1 R.scales y.pz R.scales.length b o
 quots : ∃ b o, Sl w intV 1 R.quots y.pq R.quots.length b o
 errs : ∃ b o, Sl w intV 1 R.errs y.pe R.errs.length b o

structure QFew (R : QR) : Prop where
 ps : R.ps.length ≤ 1000000
 syns : R.syns.length ≤ 1000000
 scales : R.scales.length ≤ 1000000
 quots : R.quots.length ≤ 1000000
 errs : R.errs.length ≤ 1000000

theorem sameQuant_any (R : QR) (hR : QFew R) (y z : QP) (w : World) (hy : QAt y R w) (hz : QAt z R w) :
  Calls Tryz.prog 22 #[.agg (quantC y R).toArray, .agg (quantC z R).toArray] w fun e w' => e = .returned (.bool true) ∧ St w [] [] w' := by
 obtain ⟨⟨b1, o1, a1⟩, ⟨b2, o2, a2⟩, ⟨b3, o3, a3⟩, ⟨b4, o4, a4⟩, ⟨b5, o5, a5⟩⟩ := hy
 obtain ⟨⟨d1, q1, c1⟩, ⟨d2, q2, c2⟩, ⟨d3, q3, c3⟩, ⟨d4, q4, c4⟩, ⟨d5, q5, c5⟩⟩ := hz
 obtain ⟨h1, h2, h3, h4, h5⟩ := hR
 unfold quantC
 obtain ⟨ps, inp, syns, scales, quots, errs, ex⟩ := R
 obtain ⟨yp, yc1, ys, yc2, yz, yc3, yq, yc4, ye, yc5⟩ := y
 obtain ⟨zp, zc1, zs, zc2, zz, zc3, zq, zc4, ze, zc5⟩ := z
 dsimp only at a1 a2 a3 a4 a5 c1 c2 c3 c4 c5 h1 h2 h3 h4 h5 ⊢
 refine enter (C := Tryz.cx) (F := Tryz.fx22) (args := [_, _]) Tryz.func22 rfl rfl rfl Tryz.ok22 (St.start w []) ?_
 repeat' (conv => whnf); first | (refine VNew.mk fun bn => ?_) | (refine VB.is ?_; refine VB.is ?_; refine VB.no (p := ¬ _) (fun h => h (by simp)) fun _ => ?_) | (refine VCall.isF 25 ?_; (refine VCall.arg1 (.slice yz scales.length yc3) ?_; refine VCall.valR (fun w' hw' => equal7_self scales h3 _ _ _ _ _ _ _ _ w' (a3.keep hw' (by simp)) (c3.keep hw' (by simp))) ?_)) | (refine VCall.isF 25 ?_; (refine VCall.arg1 (.slice yq quots.length yc4) ?_; refine VCall.valR (fun w' hw' => equal7_self quots h4 _ _ _ _ _ _ _ _ w' (a4.keep hw' (by simp)) (c4.keep hw' (by simp))) ?_)) | (refine VCall.isF 25 ?_; (refine VCall.arg1 (.slice ye errs.length yc5) ?_; refine VCall.valR (fun w' hw' => equal7_self errs h5 _ _ _ _ _ _ _ _ w' (a5.keep hw' (by simp)) (c5.keep hw' (by simp))) ?_)) | (refine VSeq.go ?_) | (refine VLd.is ?_; refine VLd.mk (.row aT (by rfl)) ?_)
 all_goals (conv => whnf)
 rename_i bq _ _ _ _
 have hbr := bn
 obtain ⟨br, hbr2⟩ : ∃ br, bn = br := ⟨_, rfl⟩
 rw [hbr2]
 refine VLoop.mk (α := Nat) (fun j => j ≤ ps.length) (fun j => [(1000000, .tuple #[]), (2, .pointer (some ⟨bq, 0, none⟩)), (3, .pointer (some ⟨br, 0, none⟩)), (4, .bool false), (5, .int .i64 (j : Int))])
  (fun _ => [.row br 45 [.slice zp ps.length zc1, .int .i64 inp, .slice zs syns.length zc2, .slice zz scales.length zc3, .slice zq quots.length zc4, .slice ze errs.length zc5, .bool ex], .row bq 42 [.slice yp ps.length yc1, .int .i64 inp, .slice ys syns.length yc2, .slice yz scales.length yc3, .slice yq quots.length yc4, .slice ye errs.length yc5, .bool ex]]) (fun j => ps.length - j) 0 (Nat.zero_le _) aE aH ?_
 rintro j hj
 rcases Nat.lt_or_ge j ps.length with hlt | hge
 ·obtain ⟨x, hx⟩ := a1.get hlt
  repeat' (conv => whnf); first | (refine VB.is ?_; refine VB.is ?_; refine VB.no (p := ¬ _) (fun h => h (by simp)) fun _ => ?_) | (refine VIx.is ?_; refine VIx.mk (a1.ptr (by omega)) (by omega) (by omega) ?_) | (refine VIx.is ?_; refine VIx.mk (c1.ptr (by omega)) (by omega) (by omega) ?_) | (refine VLd.is ?_; refine VLd.mk (Rd.cast (a1.rd0 (by simp) (fun _ => rfl) hx rfl) (by first | omega | (dsimp only; omega) | rfl)) ?_) | (refine VLd.is ?_; refine VLd.mk (Rd.cast (c1.rd0 (by simp) (fun _ => rfl) hx rfl) (by first | omega | (dsimp only; omega) | rfl)) ?_) | (refine VSeq.go ?_) | (refine VB.is ?_; refine VB.yes (by omega) fun _ => ?_) | (refine VLd.is ?_; refine VLd.mk (.row aT (by rfl)) ?_) | (refine VAr.is ?_; refine oA ?_) | (refine VHs.mk _ (.refl _) ?_)
  all_goals (conv => whnf)
  refine VNext.mk (j + 1) (by omega) (by omega) aE aH
 repeat' (conv => whnf); first | (refine VSeq.go ?_) | (refine VB.is ?_; refine VB.no (by omega) fun _ => ?_) | (refine VLd.is ?_; refine VLd.mk (.row aT (by rfl)) ?_)
 all_goals (conv => whnf)
 refine VLoop.mk (α := Nat) (fun j => j ≤ syns.length) (fun j => [(1000000, .tuple #[]), (2, .pointer (some ⟨bq, 0, none⟩)), (3, .pointer (some ⟨br, 0, none⟩)), (4, .bool false), (6, .int .i64 (j : Int))])
  (fun _ => [.row br 45 [.slice zp ps.length zc1, .int .i64 inp, .slice zs syns.length zc2, .slice zz scales.length zc3, .slice zq quots.length zc4, .slice ze errs.length zc5, .bool ex], .row bq 42 [.slice yp ps.length yc1, .int .i64 inp, .slice ys syns.length yc2, .slice yz scales.length yc3, .slice yq quots.length yc4, .slice ye errs.length yc5, .bool ex]]) (fun j => syns.length - j) 0 (Nat.zero_le _) aE aH ?_
 rintro j hj
 rcases Nat.lt_or_ge j syns.length with hlt | hge
 ·obtain ⟨x, hx⟩ := a2.get hlt
  repeat' (conv => whnf); first | (refine VB.is ?_; refine VB.is ?_; refine VB.no (p := ¬ _) (fun h => h (by simp)) fun _ => ?_) | (refine VIx.is ?_; refine VIx.mk (a2.ptr (by omega)) (by omega) (by omega) ?_) | (refine VIx.is ?_; refine VIx.mk (c2.ptr (by omega)) (by omega) (by omega) ?_) | (refine VLd.is ?_; refine VLd.mk (Rd.cast (a2.rd0 (by simp) (fun _ => rfl) hx rfl) (by first | omega | (dsimp only; omega) | rfl)) ?_) | (refine VLd.is ?_; refine VLd.mk (Rd.cast (c2.rd0 (by simp) (fun _ => rfl) hx rfl) (by first | omega | (dsimp only; omega) | rfl)) ?_) | (refine VSeq.go ?_) | (refine VB.is ?_; refine VB.yes (by omega) fun _ => ?_) | (refine VLd.is ?_; refine VLd.mk (.row aT (by rfl)) ?_) | (refine VAr.is ?_; refine oA ?_) | (refine VHs.mk _ (.refl _) ?_)
  all_goals (conv => whnf)
  refine VNext.mk (j + 1) (by omega) (by omega) aE aH
 repeat' (conv => whnf); first | (refine VSeq.go ?_) | (refine VB.is ?_; refine VB.no (by omega) fun _ => ?_) | (refine VLd.is ?_; refine VLd.mk (.row aT (by rfl)) ?_)
 all_goals (conv => whnf)
 exact ⟨fun w' hw' => ⟨rfl, hw'.le .nil⟩⟩

end Go.Proofs
end

section

namespace Go.Proofs

open Go Go.Vx Go.Gm

structure MapAt (z : MapP) (R : MapM) (w : World) : Prop where
 cores : ∃ b o, Sl w intV 1 R.cores z.pc R.cores.length b o
 slots : ∃ b o, Sl w intV 1 R.slots z.ps R.slots.length b o
 quant : QAt z.y R.quant w
 rows : ∃ b o, Sl w rrV 1 z.rr z.pr z.rr.length b o
 row : ∀ r ∈ z.rr, ∃ b o, Sl w rwV 4 r.l r.p r.l.length b o
 tabs : ∃ b o, Sl w erV 1 z.tt z.pt z.tt.length b o
 tab : ∀ r ∈ z.tt, ∃ b o, Sl w etyV 3 r.l r.p r.l.length b o
 waves : ∃ b o, Sl w intV 1 R.waves z.pw R.waves.length b o

structure MapFew (R : MapM) : Prop where
 cores : R.cores.length ≤ 1000000
 slots : R.slots.length ≤ 1000000
 quant : QFew R.quant
 rows : R.rows.length ≤ 1000000
 row : ∀ r ∈ R.rows, r.length ≤ 1000000
 tabs : R.tables.length ≤ 1000000
 tab : ∀ r ∈ R.tables, r.length ≤ 1000000
 waves : R.waves.length ≤ 1000000

theorem sameMapping_any (R : MapM) (hR : MapFew R) (y z : MapP) (hy : MapIs y R) (hz : MapIs z R) (w : World) (ay : MapAt y R w) (az : MapAt z R w) :
  Calls Tryz.prog 28 #[.agg (mapV y R).toArray, .agg (mapV z R).toArray] w fun e w' => e = .returned (.bool true) ∧ St w [] [] w' := by
 have hsq := fun (w' : World) h1 h2 => sameQuant_any R.quant hR.quant y.y z.y w' h1 h2
 obtain ⟨⟨b1, o1, a1⟩, ⟨b2, o2, a2⟩, a3, ⟨b4, o4, a4⟩, a5, ⟨b6, o6, a6⟩, a7, ⟨b8, o8, a8⟩⟩ := ay
 obtain ⟨⟨d1, q1, c1⟩, ⟨d2, q2, c2⟩, c3, ⟨d4, q4, c4⟩, c5, ⟨d6, q6, c6⟩, c7, ⟨d8, q8, c8⟩⟩ := az
 obtain ⟨h1, h2, h3, h4, h5, h6, h7, h8⟩ := hR
 have hrl : z.rr.length = y.rr.length := by
  have e1 := congrArg List.length hy.rows
  have e2 := congrArg List.length hz.rows
  rw [List.length_map] at e1 e2
  omega
 have htl : z.tt.length = y.tt.length := by
  have e1 := congrArg List.length hy.tables
  have e2 := congrArg List.length hz.tables
  rw [List.length_map] at e1 e2
  omega
 have hrn : y.rr.length ≤ 1000000 := by
  have e1 := congrArg List.length hy.rows
  rw [List.length_map] at e1
  omega
 have htn : y.tt.length ≤ 1000000 := by
  have e1 := congrArg List.length hy.tables
  rw [List.length_map] at e1
  omega
 have hrow : ∀ {i : Nat} {r r' : RRow}, y.rr[i]? = some r → z.rr[i]? = some r' → r'.l = r.l ∧ r.l.length ≤ 1000000 := fun {i r r'} e1 e2 => by
  have f1 : R.rows[i]? = some r.l := by rw [← hy.rows, List.getElem?_map, e1]; rfl
  have f2 : R.rows[i]? = some r'.l := by rw [← hz.rows, List.getElem?_map, e2]; rfl
  rw [f1] at f2
  exact ⟨(Option.some.inj f2).symm, h5 _ (List.mem_of_getElem? f1)⟩
 have htab : ∀ {i : Nat} {r r' : ERow}, y.tt[i]? = some r → z.tt[i]? = some r' → r'.l = r.l ∧ r.l.length ≤ 1000000 := fun {i r r'} e1 e2 => by
  have f1 : R.tables[i]? = some r.l := by rw [← hy.tables, List.getElem?_map, e1]; rfl
  have f2 : R.tables[i]? = some r'.l := by rw [← hz.tables, List.getElem?_map, e2]; rfl
  rw [f1] at f2
  exact ⟨(Option.some.inj f2).symm, h7 _ (List.mem_of_getElem? f1)⟩
 unfold quantC at hsq
 unfold mapV quantC
 rw [hrl, htl]
 have qk : ∀ {v : QP} {w' : World} {H : HP}, QAt v R.quant w → St w [] H w' → QAt v R.quant w' := fun {v w' H} h hw' => by
  obtain ⟨⟨u1, v1, g1⟩, ⟨u2, v2, g2⟩, ⟨u3, v3, g3⟩, ⟨u4, v4, g4⟩, ⟨u5, v5, g5⟩⟩ := h
  exact ⟨⟨_, _, g1.keep hw' (by simp)⟩, ⟨_, _, g2.keep hw' (by simp)⟩, ⟨_, _, g3.keep hw' (by simp)⟩, ⟨_, _, g4.keep hw' (by simp)⟩, ⟨_, _, g5.keep hw' (by simp)⟩⟩
 refine enter (C := Tryz.cx) (F := Tryz.fx28) (args := [_, _]) Tryz.func28 rfl rfl rfl Tryz.ok28 (St.start w []) ?_
 repeat' (conv => whnf); first | (refine VNew.mk fun bn => ?_) | (refine VB.is ?_; refine VB.is ?_; refine VB.no (p := ¬ _) (fun h => h (by simp)) fun _ => ?_) | (refine VCall.isF 22 ?_; (refine VCall.valR (fun w' hw' => hsq w' (qk a3 hw') (qk c3 hw')) ?_)) | (refine VCall.isF 25 ?_; (refine VCall.arg1 (.slice y.pc R.cores.length y.cc) ?_; refine VCall.valR (fun w' hw' => equal7_self R.cores h1 _ _ _ _ _ _ _ _ w' (a1.keep hw' (by simp)) (c1.keep hw' (by simp))) ?_)) | (refine VCall.isF 25 ?_; (refine VCall.arg1 (.slice y.ps R.slots.length y.cs) ?_; refine VCall.valR (fun w' hw' => equal7_self R.slots h2 _ _ _ _ _ _ _ _ w' (a2.keep hw' (by simp)) (c2.keep hw' (by simp))) ?_)) | (refine VCall.isF 25 ?_; (refine VCall.arg1 (.slice y.pw R.waves.length y.cw) ?_; refine VCall.valR (fun w' hw' => equal7_self R.waves h8 _ _ _ _ _ _ _ _ w' (a8.keep hw' (by simp)) (c8.keep hw' (by simp))) ?_)) | (refine VSeq.go ?_) | (refine VLd.is ?_; refine VLd.mk (.row aT (by rfl)) ?_)
 all_goals (conv => whnf)
 rename_i bq _ _ _ _ _
 obtain ⟨br, hbr⟩ : ∃ br, bn = br := ⟨_, rfl⟩
 rw [hbr]
 rw [hrl] at c4
 refine VLoop.mk (α := Nat) (fun i => i ≤ y.rr.length) (fun i => [(1000000, .tuple #[]), (2, .pointer (some ⟨bq, 0, none⟩)), (3, .pointer (some ⟨br, 0, none⟩)), (4, .bool false), (5, .int .i64 (i : Int))]) (fun _ => [.row br 63 [.slice z.pc R.cores.length z.cc, .slice z.ps R.slots.length z.cs, .slice z.y.pp R.quant.ps.length z.y.cp, .int .i64 R.quant.inp, .slice z.y.ps R.quant.syns.length z.y.cs, .slice z.y.pz R.quant.scales.length z.y.cz, .slice z.y.pq R.quant.quots.length z.y.cq, .slice z.y.pe R.quant.errs.length z.y.ce, .bool R.quant.exact, .slice z.pr y.rr.length z.cr, .slice z.pt y.tt.length z.ct, .slice z.pw R.waves.length z.cw, .int .i64 R.cost, .int .i64 R.load, .int .i64 R.steps], .row bq 57 [.slice y.pc R.cores.length y.cc, .slice y.ps R.slots.length y.cs, .slice y.y.pp R.quant.ps.length y.y.cp, .int .i64 R.quant.inp, .slice y.y.ps R.quant.syns.length y.y.cs, .slice y.y.pz R.quant.scales.length y.y.cz, .slice y.y.pq R.quant.quots.length y.y.cq, .slice y.y.pe R.quant.errs.length y.y.ce, .bool R.quant.exact, .slice y.pr y.rr.length y.cr, .slice y.pt y.tt.length y.ct, .slice y.pw R.waves.length y.cw, .int .i64 R.cost, .int .i64 R.load, .int .i64 R.steps]]) (fun i => y.rr.length - i) 0 (Nat.zero_le _) aE aH ?_
 rintro i hi
 rcases Nat.lt_or_ge i y.rr.length with hlt | hge
 ·obtain ⟨r, hr⟩ := a4.get hlt
  obtain ⟨s, hs⟩ := c4.get hlt
  obtain ⟨hsl, hrb⟩ := hrow hr hs
  obtain ⟨bb, ob, g1⟩ := a5 _ (List.mem_of_getElem? hr)
  obtain ⟨bc, oc, g2⟩ := c5 _ (List.mem_of_getElem? hs)
  have vr : sub (rrV r) 0 1 = some [.slice r.p r.l.length r.c] := rfl
  have vs : sub (rrV s) 0 1 = some [.slice s.p r.l.length s.c] := by unfold rrV; rw [hsl]; rfl
  rw [hsl] at g2
  obtain ⟨sl, hsle⟩ : ∃ sl, r.l = sl := ⟨_, rfl⟩
  rw [hsle] at g1 g2 vr vs hrb
  repeat' (conv => whnf); first | (refine VB.is ?_; refine VB.is ?_; refine VB.no (p := ¬ _) (fun h => h (by simp)) fun _ => ?_) | (refine VIx.is ?_; refine VIx.mk (a4.ptr (by omega)) (by omega) (by omega) ?_) | (refine VIx.is ?_; refine VIx.mk (c4.ptr (by omega)) (by omega) (by omega) ?_) | (refine VLd.is ?_; refine VLd.mk (Rd.cast (a4.rd0 (by simp) (fun _ => rfl) hr vr) (by first | omega | (dsimp only; omega) | rfl)) ?_) | (refine VLd.is ?_; refine VLd.mk (Rd.cast (c4.rd0 (by simp) (fun _ => rfl) hs vs) (by first | omega | (dsimp only; omega) | rfl)) ?_) | (refine VSeq.go ?_) | (refine VB.is ?_; refine VB.yes (by omega) fun _ => ?_) | (refine VLd.is ?_; refine VLd.mk (.row aT (by rfl)) ?_) | (refine VHs.mk _ (.refl _) ?_)
  all_goals (conv => whnf)
  refine VLoop.mk (α := Nat) (fun j => j ≤ sl.length) (fun j => [(1000000, .tuple #[]), (2, .pointer (some ⟨bq, 0, none⟩)), (3, .pointer (some ⟨br, 0, none⟩)), (4, .bool false), (5, .int .i64 (i : Int)), (6, .int .i64 (j : Int))]) (fun _ => [.row br 63 [.slice z.pc R.cores.length z.cc, .slice z.ps R.slots.length z.cs, .slice z.y.pp R.quant.ps.length z.y.cp, .int .i64 R.quant.inp, .slice z.y.ps R.quant.syns.length z.y.cs, .slice z.y.pz R.quant.scales.length z.y.cz, .slice z.y.pq R.quant.quots.length z.y.cq, .slice z.y.pe R.quant.errs.length z.y.ce, .bool R.quant.exact, .slice z.pr y.rr.length z.cr, .slice z.pt y.tt.length z.ct, .slice z.pw R.waves.length z.cw, .int .i64 R.cost, .int .i64 R.load, .int .i64 R.steps], .row bq 57 [.slice y.pc R.cores.length y.cc, .slice y.ps R.slots.length y.cs, .slice y.y.pp R.quant.ps.length y.y.cp, .int .i64 R.quant.inp, .slice y.y.ps R.quant.syns.length y.y.cs, .slice y.y.pz R.quant.scales.length y.y.cz, .slice y.y.pq R.quant.quots.length y.y.cq, .slice y.y.pe R.quant.errs.length y.y.ce, .bool R.quant.exact, .slice y.pr y.rr.length y.cr, .slice y.pt y.tt.length y.ct, .slice y.pw R.waves.length y.cw, .int .i64 R.cost, .int .i64 R.load, .int .i64 R.steps]]) (fun j => sl.length - j) 0 (Nat.zero_le _) aE (HLe.refl _) ?_
  rintro j hj
  rcases Nat.lt_or_ge j sl.length with hjl | hjg
  ·obtain ⟨e, he⟩ := g1.get hjl
   repeat' (conv => whnf); first | (refine VB.is ?_; refine VB.is ?_; refine VB.no (p := ¬ _) (fun h => h (by simp)) fun _ => ?_) | (refine VIx.is ?_; refine VIx.mk (a4.ptr (by omega)) (by omega) (by omega) ?_) | (refine VIx.is ?_; refine VIx.mk (c4.ptr (by omega)) (by omega) (by omega) ?_) | (refine VIx.is ?_; refine VIx.mk (g1.ptr (by omega)) (by omega) (by omega) ?_) | (refine VIx.is ?_; refine VIx.mk (g2.ptr (by omega)) (by omega) (by omega) ?_) | (refine VLd.is ?_; refine VLd.mk (Rd.cast (a4.rd0 (by simp) (fun _ => rfl) hr vr) (by first | omega | (dsimp only; omega) | rfl)) ?_) | (refine VLd.is ?_; refine VLd.mk (Rd.cast (c4.rd0 (by simp) (fun _ => rfl) hs vs) (by first | omega | (dsimp only; omega) | rfl)) ?_) | (refine VLd.is ?_; refine VLd.mk (Rd.cast (g1.rd0 (by simp) (fun _ => rfl) he rfl) (by first | omega | (dsimp only; omega) | rfl)) ?_) | (refine VLd.is ?_; refine VLd.mk (Rd.cast (g2.rd0 (by simp) (fun _ => rfl) he rfl) (by first | omega | (dsimp only; omega) | rfl)) ?_) | (refine VSeq.go ?_) | (refine VB.is ?_; refine VB.yes (by omega) fun _ => ?_) | (refine VLd.is ?_; refine VLd.mk (.row aT (by rfl)) ?_) | (refine VAr.is ?_; refine oA ?_) | (refine VHs.mk _ (.refl _) ?_)
   all_goals (conv => whnf)
   exact VNext.mk (j + 1) (by omega) (by omega) aE (HLe.refl _)
  have hje : j = sl.length := by omega
  subst hje
  repeat' (conv => whnf); first | (refine VIx.is ?_; refine VIx.mk (a4.ptr (by omega)) (by omega) (by omega) ?_) | (refine VLd.is ?_; refine VLd.mk (Rd.cast (a4.rd0 (by simp) (fun _ => rfl) hr vr) (by first | omega | (dsimp only; omega) | rfl)) ?_) | (refine VSeq.go ?_) | (refine VB.is ?_; refine VB.no (by omega) fun _ => ?_) | (refine VLd.is ?_; refine VLd.mk (.row aT (by rfl)) ?_) | (refine VAr.is ?_; refine oA ?_)
  all_goals (conv => whnf)
  exact VNext.mk (i + 1) (by omega) (by omega) aE (HLe.refl _)
 have hie : i = y.rr.length := by omega
 subst hie
 clear hi hge
 repeat' (conv => whnf); first | (refine VSeq.go ?_) | (refine VB.is ?_; refine VB.no (by omega) fun _ => ?_) | (refine VLd.is ?_; refine VLd.mk (.row aT (by rfl)) ?_)
 all_goals (conv => whnf)
 rw [htl] at c6
 refine VLoop.mk (α := Nat) (fun i => i ≤ y.tt.length) (fun i => [(1000000, .tuple #[]), (2, .pointer (some ⟨bq, 0, none⟩)), (3, .pointer (some ⟨br, 0, none⟩)), (4, .bool false), (7, .int .i64 (i : Int))]) (fun _ => [.row br 63 [.slice z.pc R.cores.length z.cc, .slice z.ps R.slots.length z.cs, .slice z.y.pp R.quant.ps.length z.y.cp, .int .i64 R.quant.inp, .slice z.y.ps R.quant.syns.length z.y.cs, .slice z.y.pz R.quant.scales.length z.y.cz, .slice z.y.pq R.quant.quots.length z.y.cq, .slice z.y.pe R.quant.errs.length z.y.ce, .bool R.quant.exact, .slice z.pr y.rr.length z.cr, .slice z.pt y.tt.length z.ct, .slice z.pw R.waves.length z.cw, .int .i64 R.cost, .int .i64 R.load, .int .i64 R.steps], .row bq 57 [.slice y.pc R.cores.length y.cc, .slice y.ps R.slots.length y.cs, .slice y.y.pp R.quant.ps.length y.y.cp, .int .i64 R.quant.inp, .slice y.y.ps R.quant.syns.length y.y.cs, .slice y.y.pz R.quant.scales.length y.y.cz, .slice y.y.pq R.quant.quots.length y.y.cq, .slice y.y.pe R.quant.errs.length y.y.ce, .bool R.quant.exact, .slice y.pr y.rr.length y.cr, .slice y.pt y.tt.length y.ct, .slice y.pw R.waves.length y.cw, .int .i64 R.cost, .int .i64 R.load, .int .i64 R.steps]]) (fun i => y.tt.length - i) 0 (Nat.zero_le _) aE aH ?_
 rintro i hi
 rcases Nat.lt_or_ge i y.tt.length with hlt | hge
 ·obtain ⟨r, hr⟩ := a6.get hlt
  obtain ⟨s, hs⟩ := c6.get hlt
  obtain ⟨hsl, hrb⟩ := htab hr hs
  obtain ⟨bb, ob, g1⟩ := a7 _ (List.mem_of_getElem? hr)
  obtain ⟨bc, oc, g2⟩ := c7 _ (List.mem_of_getElem? hs)
  have vr : sub (erV r) 0 1 = some [.slice r.p r.l.length r.c] := rfl
  have vs : sub (erV s) 0 1 = some [.slice s.p r.l.length s.c] := by unfold erV; rw [hsl]; rfl
  rw [hsl] at g2
  obtain ⟨sl, hsle⟩ : ∃ sl, r.l = sl := ⟨_, rfl⟩
  rw [hsle] at g1 g2 vr vs hrb
  repeat' (conv => whnf); first | (refine VB.is ?_; refine VB.is ?_; refine VB.no (p := ¬ _) (fun h => h (by simp)) fun _ => ?_) | (refine VIx.is ?_; refine VIx.mk (a6.ptr (by omega)) (by omega) (by omega) ?_) | (refine VIx.is ?_; refine VIx.mk (c6.ptr (by omega)) (by omega) (by omega) ?_) | (refine VLd.is ?_; refine VLd.mk (Rd.cast (a6.rd0 (by simp) (fun _ => rfl) hr vr) (by first | omega | (dsimp only; omega) | rfl)) ?_) | (refine VLd.is ?_; refine VLd.mk (Rd.cast (c6.rd0 (by simp) (fun _ => rfl) hs vs) (by first | omega | (dsimp only; omega) | rfl)) ?_) | (refine VSeq.go ?_) | (refine VB.is ?_; refine VB.yes (by omega) fun _ => ?_) | (refine VLd.is ?_; refine VLd.mk (.row aT (by rfl)) ?_) | (refine VHs.mk _ (.refl _) ?_)
  all_goals (conv => whnf)
  refine VLoop.mk (α := Nat) (fun j => j ≤ sl.length) (fun j => [(1000000, .tuple #[]), (2, .pointer (some ⟨bq, 0, none⟩)), (3, .pointer (some ⟨br, 0, none⟩)), (4, .bool false), (7, .int .i64 (i : Int)), (8, .int .i64 (j : Int))]) (fun _ => [.row br 63 [.slice z.pc R.cores.length z.cc, .slice z.ps R.slots.length z.cs, .slice z.y.pp R.quant.ps.length z.y.cp, .int .i64 R.quant.inp, .slice z.y.ps R.quant.syns.length z.y.cs, .slice z.y.pz R.quant.scales.length z.y.cz, .slice z.y.pq R.quant.quots.length z.y.cq, .slice z.y.pe R.quant.errs.length z.y.ce, .bool R.quant.exact, .slice z.pr y.rr.length z.cr, .slice z.pt y.tt.length z.ct, .slice z.pw R.waves.length z.cw, .int .i64 R.cost, .int .i64 R.load, .int .i64 R.steps], .row bq 57 [.slice y.pc R.cores.length y.cc, .slice y.ps R.slots.length y.cs, .slice y.y.pp R.quant.ps.length y.y.cp, .int .i64 R.quant.inp, .slice y.y.ps R.quant.syns.length y.y.cs, .slice y.y.pz R.quant.scales.length y.y.cz, .slice y.y.pq R.quant.quots.length y.y.cq, .slice y.y.pe R.quant.errs.length y.y.ce, .bool R.quant.exact, .slice y.pr y.rr.length y.cr, .slice y.pt y.tt.length y.ct, .slice y.pw R.waves.length y.cw, .int .i64 R.cost, .int .i64 R.load, .int .i64 R.steps]]) (fun j => sl.length - j) 0 (Nat.zero_le _) aE (HLe.refl _) ?_
  rintro j hj
  rcases Nat.lt_or_ge j sl.length with hjl | hjg
  ·obtain ⟨e, he⟩ := g1.get hjl
   repeat' (conv => whnf); first | (refine VB.is ?_; refine VB.is ?_; refine VB.no (p := ¬ _) (fun h => h (by simp)) fun _ => ?_) | (refine VIx.is ?_; refine VIx.mk (a6.ptr (by omega)) (by omega) (by omega) ?_) | (refine VIx.is ?_; refine VIx.mk (c6.ptr (by omega)) (by omega) (by omega) ?_) | (refine VIx.is ?_; refine VIx.mk (g1.ptr (by omega)) (by omega) (by omega) ?_) | (refine VIx.is ?_; refine VIx.mk (g2.ptr (by omega)) (by omega) (by omega) ?_) | (refine VLd.is ?_; refine VLd.mk (Rd.cast (a6.rd0 (by simp) (fun _ => rfl) hr vr) (by first | omega | (dsimp only; omega) | rfl)) ?_) | (refine VLd.is ?_; refine VLd.mk (Rd.cast (c6.rd0 (by simp) (fun _ => rfl) hs vs) (by first | omega | (dsimp only; omega) | rfl)) ?_) | (refine VLd.is ?_; refine VLd.mk (Rd.cast (g1.rd0 (by simp) (fun _ => rfl) he rfl) (by first | omega | (dsimp only; omega) | rfl)) ?_) | (refine VLd.is ?_; refine VLd.mk (Rd.cast (g2.rd0 (by simp) (fun _ => rfl) he rfl) (by first | omega | (dsimp only; omega) | rfl)) ?_) | (refine VSeq.go ?_) | (refine VB.is ?_; refine VB.yes (by omega) fun _ => ?_) | (refine VLd.is ?_; refine VLd.mk (.row aT (by rfl)) ?_) | (refine VAr.is ?_; refine oA ?_) | (refine VHs.mk _ (.refl _) ?_)
   all_goals (conv => whnf)
   exact VNext.mk (j + 1) (by omega) (by omega) aE (HLe.refl _)
  have hje : j = sl.length := by omega
  subst hje
  repeat' (conv => whnf); first | (refine VIx.is ?_; refine VIx.mk (a6.ptr (by omega)) (by omega) (by omega) ?_) | (refine VLd.is ?_; refine VLd.mk (Rd.cast (a6.rd0 (by simp) (fun _ => rfl) hr vr) (by first | omega | (dsimp only; omega) | rfl)) ?_) | (refine VSeq.go ?_) | (refine VB.is ?_; refine VB.no (by omega) fun _ => ?_) | (refine VLd.is ?_; refine VLd.mk (.row aT (by rfl)) ?_) | (refine VAr.is ?_; refine oA ?_)
  all_goals (conv => whnf)
  exact VNext.mk (i + 1) (by omega) (by omega) aE (HLe.refl _)
 have hie : i = y.tt.length := by omega
 subst hie
 clear hi hge
 repeat' (conv => whnf); first | (refine VSeq.go ?_) | (refine VB.is ?_; refine VB.no (by omega) fun _ => ?_) | (refine VLd.is ?_; refine VLd.mk (.row aT (by rfl)) ?_)
 all_goals (conv => whnf)
 exact ⟨fun w' hw' => ⟨rfl, hw'.le .nil⟩⟩

end Go.Proofs
end
