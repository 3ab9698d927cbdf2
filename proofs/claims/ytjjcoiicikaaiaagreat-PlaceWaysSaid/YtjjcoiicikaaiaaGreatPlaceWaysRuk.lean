import Derived.Test.YtjjcoiicikaaiaaGreatPlaceWaysRuh
import Derived.Test.YtjjcoiicikaaiaaGreatPlaceWaysMg
import Derived.Test.YtjjcoiicikaaiaaGreatPlaceWaysTb
set_option linter.unusedVariables false
set_option linter.unusedSimpArgs false
set_option maxHeartbeats 4000000
section

namespace Go.Gm

def enQ (outs : Int) (r p : Nat) (q : Nat → Nat → List Nat) (k : Nat) : Nat → Nat → List Nat := fun a b => if a = r ∧ b < k ∧ hasB outs (pow2 b) then q a b ++ [p] else q a b

theorem enQ_zero (outs : Int) (r p : Nat) (q : Nat → Nat → List Nat) : enQ outs r p q 0 = q := by
 funext a b
 unfold enQ
 rw [if_neg (by omega)]

theorem enQ_skip {outs : Int} {r p k : Nat} {q : Nat → Nat → List Nat} (h : ¬ hasB outs (pow2 k)) : enQ outs r p q (k + 1) = enQ outs r p q k := by
 funext a b
 unfold enQ
 by_cases h1 : a = r ∧ b < k ∧ hasB outs (pow2 b)
 ·rw [if_pos h1, if_pos ⟨h1.1, by omega, h1.2.2⟩]
 ·rw [if_neg h1, if_neg]
  rintro ⟨h2, h3, h4⟩
  by_cases hb : b = k
  ·subst hb; exact h h4
  ·exact h1 ⟨h2, by omega, h4⟩

theorem enQ_put {outs : Int} {r p k : Nat} {q : Nat → Nat → List Nat} (h : hasB outs (pow2 k)) : upQ (enQ outs r p q k) r k (enQ outs r p q k r k ++ [p]) = enQ outs r p q (k + 1) := by
 funext a b
 unfold upQ enQ
 by_cases hab : a = r ∧ b = k
 ·obtain ⟨rfl, rfl⟩ := hab
  rw [if_pos ⟨rfl, rfl⟩, if_neg (by omega), if_pos ⟨rfl, by omega, h⟩]
 ·rw [if_neg hab]
  by_cases h1 : a = r ∧ b < k ∧ hasB outs (pow2 b)
  ·rw [if_pos h1, if_pos ⟨h1.1, by omega, h1.2.2⟩]
  ·rw [if_neg h1, if_neg]
   rintro ⟨h2, h3, h4⟩
   exact h1 ⟨h2, by omega, h4⟩

theorem enQ_at (outs : Int) (r p k : Nat) (q : Nat → Nat → List Nat) : enQ outs r p q k r k = q r k := by
 unfold enQ
 rw [if_neg (by omega)]

end Go.Gm

namespace Go.Proofs

open Go Go.Vx Go.Gm

theorem enter_vc {w0 : World} {H R : HP} {K : Value → HP → Prop} (s : Spc) (hs : SpcOk s) (wb qb mb ml : Nat) (t6 t8 t9 t10 t12 : Value) (hone : oneAll [t6, t8, t9, t10, t12] = true)
  (tt : List ERow) (pt : Option Addr) (ct bt ot : Nat) (hts : Sl w0 erV 1 tt pt tt.length bt ot) (htt : ∀ z ∈ tt, ∃ b o, Sl w0 etyV 3 z.l z.p z.l.length b o) (htl : ∀ z ∈ tt, z.l.length ≤ 65536 ∧ ∀ e ∈ z.l, EtyOk e)
  (pk : List Pkt) (pl : Option Addr) (cl bl ol : Nat) (hpl : Sl w0 pkV 4 pk pl pk.length bl ol)
  (q : Nat → Nat → List Nat) (m : List (Value × Value)) (qs : List QE) (hm : QMap m qs) (hq : QRep qs q) (mo : List (Nat × Nat)) (hmo : mo.length = ml) (hmb : ∀ y ∈ mo, y.1 ≤ 65536 ∧ y.2 ≤ 65536)
  (t r p : Nat) (ht : t ≤ 10000) (hr : (r : Int) < s.wide * s.high) (hrl : r < tt.length) (hrm : r < ml) (u : Pkt) (hu : pk[p]? = some u) (huk : 0 ≤ u.key ∧ u.key ≤ 65535) (z : ERow) (hz : tt[r]? = some z) (outs : Int) (hf : findE z.l u.key = some outs) (hout : 0 ≤ outs ∧ outs < 32)
  (hgood : ∀ k, k < 5 → hasB outs (pow2 k) → leadM s.wide s.high (r : Int) (pow2 k) ∧ ((q r k).length : Int) < s.room)
  (hT : Take H (.row wb 190 [.int .i64 s.wide, .int .i64 s.high, .int .i64 s.room, .slice pt tt.length ct, .slice pl pk.length cl, t6, .map (some qb), t8, t9, t10, .slice (some ⟨mb, 0, none⟩) ml ml, t12] :: .mapk qb m :: (qs.flatMap qeH ++ (.vec (some ⟨mb, 0, none⟩) ml ml 79 2 (flat moV mo) :: []))) R)
  (hK : ∀ m' qs' mo', QMap m' qs' → QRep qs' (enQ outs r p q 5) → mo'.length = ml → (∀ y ∈ mo', y.1 ≤ 65536 ∧ y.2 ≤ 65536) → K (.tuple #[]) (.row wb 190 [.int .i64 s.wide, .int .i64 s.high, .int .i64 s.room, .slice pt tt.length ct, .slice pl pk.length cl, t6, .map (some qb), t8, t9, t10, .slice (some ⟨mb, 0, none⟩) ml ml, t12] :: .mapk qb m' :: (qs'.flatMap qeH ++ (.vec (some ⟨mb, 0, none⟩) ml ml 79 2 (flat moV mo') :: R)))) :
  VCall Tryz.cx.P w0 [] H 99 [.pointer (some ⟨wb, 0, none⟩), .int .i64 (t : Int), .int .i64 (r : Int), .int .i64 (p : Int)] K := by
 refine VCall.takeQ hT (VCall.leK ?_)
 simp only [List.cons_append, List.append_assoc, List.nil_append]
 have ha := spc_area hs
 have hw := hs.wide
 have hhh := hs.high
 have hrm2 := hs.room
 have hpl2 := (List.getElem?_eq_some_iff.1 hu).1
 obtain ⟨bz, oz, hz2⟩ := htt z (List.mem_of_getElem? hz)
 obtain ⟨hzl, hze⟩ := htl z (List.mem_of_getElem? hz)
 have hfi := fun (w' : World) (h1 : Sl w' etyV 3 z.l z.p z.l.length bz oz) => find_any z.l hze hzl u.key huk z.p z.c bz oz w' h1
 rw [hf] at hfi
 have hone2 : oneAll [.int .i64 s.wide, .int .i64 s.high, .int .i64 s.room, .slice pt tt.length ct, .slice pl pk.length cl, t6, t8, t9, t10, .slice (some ⟨mb, 0, none⟩) ml ml, t12] = true := by
  simp only [oneAll, Value.oneCell'] at hone ⊢
  exact hone
 have hq1 := fun {H R : HP} {K : Value → HP → Prop} (m : List (Value × Value)) (qs : List QE) (hm : QMap m qs) (q : Nat → Nat → List Nat) (hq : QRep qs q) (k : Prt) (hk : prtW k) => queue3_vc (w0 := w0) (H := H) (R := R) (K := K) wb qb (.int .i64 s.wide) (.int .i64 s.high) (.int .i64 s.room) (.slice pt tt.length ct) (.slice pl pk.length cl) t6 t8 t9 t10 (.slice (some ⟨mb, 0, none⟩) ml ml) t12 hone2 m qs hm q hq k hk
 have v2 : sub (pkV u) 2 1 = some [.int .i64 u.key] := rfl
 have v3 : sub (pkV u) 3 1 = some [.int .i64 0] := rfl
 have hout5 : ∀ j : Nat, j < 5 → sub [.int .i64 1, .int .i64 2, .int .i64 4, .int .i64 8, .int .i64 16] (j * 1) 1 = some [.int .i64 (pow2 j)] := fun j hj => by
  rcases j with _ | _ | _ | _ | _ | j
  ·rfl
  ·rfl
  ·rfl
  ·rfl
  ·rfl
  ·omega
 refine VCall.inl (F := Tryz.fx99) Tryz.func99 rfl rfl rfl Tryz.ok99 ?_
 repeat' (conv => whnf); first | (refine VIx.is ?_; refine VIx.mk (hts.ptr (by omega)) (by omega) (by omega) ?_) | (refine VLd.is ?_; refine VLd.mk (Rd.cast (hts.rd0 (by simp) (fun _ => rfl) hz rfl) (by first | omega | (dsimp only; omega) | rfl)) ?_) | (refine VIx.is ?_; refine VIx.mk (hpl.ptr (by omega)) (by omega) (by omega) ?_) | (refine VLd.is ?_; refine VLd.mk (Rd.cast (hpl.rd (o := 2) (s := 1) (by simp) (fun _ => rfl) hu v2) (by first | omega | (dsimp only; omega) | rfl)) ?_) | (refine VCall.isF 122 ?_; (refine VCall.valR (fun w' hw' => hfi w' (hz2.keep hw' (by simp))) ?_)) | (refine VCall.isF 100 ?_; refine VCall.inl (F := Tryz.fx100) Tryz.func100 rfl rfl rfl Tryz.ok100 ?_) | (refine VNew.mk fun go => ?_) | (refine VSeq.go ?_) | (refine VLd.is ?_; refine VLd.mk (.row aT (by rfl)) ?_) | (refine VHs.mk _ (.refl _) ?_)
 all_goals (conv => whnf)
 refine VLoop.mk (α := Nat × List (Value × Value) × List QE × List (Nat × Nat)) (fun x => x.1 ≤ 5 ∧ QMap x.2.1 x.2.2.1 ∧ QRep x.2.2.1 (enQ outs r p q x.1) ∧ x.2.2.2.length = ml ∧ ∀ y ∈ x.2.2.2, y.1 ≤ 65536 ∧ y.2 ≤ 65536)
  (fun x => [(1000000, .tuple #[]), (0, .pointer (some ⟨wb, 0, none⟩)), (1, .int .i64 (t : Int)), (2, .int .i64 (r : Int)), (3, .int .i64 (p : Int)), (8, .int .i64 outs), (52, .slice (some ⟨go, 0, none⟩) 5 5), (53, .int .i64 5), (54, .int .i64 (x.1 : Int))])
  (fun x => .vec (some ⟨go, 0, none⟩) 5 5 3 1 [.int .i64 1, .int .i64 2, .int .i64 4, .int .i64 8, .int .i64 16] :: .row wb 190 [.int .i64 s.wide, .int .i64 s.high, .int .i64 s.room, .slice pt tt.length ct, .slice pl pk.length cl, t6, .map (some qb), t8, t9, t10, .slice (some ⟨mb, 0, none⟩) ml ml, t12] :: .mapk qb x.2.1 :: (x.2.2.1.flatMap qeH ++ (.vec (some ⟨mb, 0, none⟩) ml ml 79 2 (flat moV x.2.2.2) :: R))) (fun x => 5 - x.1) (0, m, qs, mo) ⟨Nat.zero_le _, hm, by rw [enQ_zero]; exact hq, hmo, hmb⟩ aE aH ?_
 rintro ⟨k, m, qs, mo⟩ ⟨hk, hm, hq, hmo, hmb⟩
 dsimp only at hk hm hq hmo hmb ⊢
 rcases Nat.lt_or_ge k 5 with hlt | hge
 ·have hpk := pow2_lt hlt
  have hok := hout5 k hlt
  have hhas : hasB outs (pow2 k) ↔ ((outs.toNat &&& (pow2 k).toNat : Nat) : Int) ≠ 0 := by
   unfold hasB
   omega
  by_cases hb : hasB outs (pow2 k)
  ·obtain ⟨hlead, hroom⟩ := hgood k hlt hb
   have hnz := hhas.1 hb
   have hnm := fun (w' : World) => meshNext_any s (by omega) (by omega) (r : Int) (pow2 k) ⟨by omega, hr⟩ (pow_isOut hlt) w'
   unfold spcC at hnm
   obtain ⟨y, hy⟩ : ∃ y, mo[r]? = some y := ⟨_, List.getElem?_eq_getElem (by omega)⟩
   have hyb := hmb y (List.mem_of_getElem? hy)
   have vy : sub (moV y) 0 1 = some [.int .i64 (y.1 : Int)] := rfl
   have hup : upd (moV y) 0 [.int .i64 (max (y.1 : Int) (((q r k).length + 1 : Nat) : Int))] = some (moV (max y.1 ((q r k).length + 1), y.2)) := by
    have hmx : max (y.1 : Int) (((q r k).length + 1 : Nat) : Int) = ((max y.1 ((q r k).length + 1) : Nat) : Int) := by omega
    rw [hmx]; rfl
   repeat' (conv => whnf); first | (refine VIx.is ?_; refine VIx.mk rfl (by omega) (by omega) ?_) | (refine VLd.is ?_; refine VLd.mk (Rd.cast (.vec aT (hok)) (by first | omega | (dsimp only; omega) | rfl)) ?_) | (refine VBit.is ?_; refine VBit.and (by omega) (by omega) ?_) | (refine VIx.is ?_; refine VIx.mk (hpl.ptr (by omega)) (by omega) (by omega) ?_) | (refine VLd.is ?_; refine VLd.mk (Rd.cast (hpl.rd (o := 3) (s := 1) (by simp) (fun _ => rfl) hu v3) (by first | omega | (dsimp only; omega) | rfl)) ?_) | (refine VCall.isF 138 ?_; (refine hq1 m qs hm _ hq ⟨r, k, 0⟩ ⟨by dsimp only; omega, hlt, by dsimp only; omega⟩ (by repeat (first | exact Take.nil | (with_reducible apply Take.seg; (focus (exact aS))) | (apply Take.cons; (focus (exact aT))) | (apply Take.last; (focus (exact aS))))) fun m1 qs1 j1 e1 p1 c1 g1 g2 g3 g4 g5 g6 g7 => ?_; dsimp only at g6; rw [if_pos rfl, enQ_at] at g6; rw [g6] at g7)) | (refine VCall.isF 139 ?_; (refine VCall.genR (fun w' _ => hnm w') ?_; rintro b hb2; obtain rfl : b = true := hb2.2 hlead)) | (refine VCall.isF 140 ?_; (refine qput_vc g3 g5 (by rw [g6]; omega) p (by repeat (first | exact Take.nil | (with_reducible apply Take.seg; (focus (exact aS))) | (apply Take.cons; (focus (exact aT))) | (apply Take.last; (focus (exact aS))))) fun s3 k1 k2 => ?_; have g8 : (qs1.set j1 ⟨e1.k, e1.b, s3⟩)[j1]? = some ⟨e1.k, e1.b, s3⟩ := (by rw [List.getElem?_set, if_pos rfl, if_pos (List.getElem?_eq_some_iff.1 g3).1]); obtain ⟨p3, c3, g9⟩ := QSh.val_eq k1; rw [k2, g6, List.length_append, List.length_singleton] at g9; have g10 : QSh.val (⟨e1.k, e1.b, s3⟩ : QE).s = .slice p3 ((q r k).length + 1) c3 := g9)) | (refine VLd.is ?_; refine VLd.is ?_; first | (refine VLd.queue (e := ⟨e1.k, e1.b, s3⟩) aS g8 rfl rfl ?_; rw [g10]) | (refine VLd.queue aS g3 rfl rfl ?_; rw [g7])) | (refine VLd.is ?_; refine VLd.mk (Rd.cast (.vec aT (sub_flat0 (f := moV) (k := 2) (fun _ => rfl) hy vy)) (by first | omega | (dsimp only; omega) | rfl)) ?_) | (refine VSt.is ?_; refine VSt.cast (off' := r * 2) (by first | omega | (dsimp only; omega) | rfl) (VSt.vec aT (upd_flat0 (f := moV) (k := 2) (y := (max y.1 ((q r k).length + 1), y.2)) (fun _ => rfl) hy hup) rfl ?_)) | (refine VSeq.go ?_) | (refine VB.is ?_; refine VB.yes (by omega) fun _ => ?_) | (refine VB.is ?_; refine VB.no (by omega) fun _ => ?_) | (refine VLd.is ?_; refine VLd.mk (.row aT (by rfl)) ?_) | (refine VAr.is ?_; refine oA ?_) | (refine VHs.mk _ (.refl _) ?_)
   all_goals (conv => whnf)
   have hqs := g2.set (s' := s3) g3 k1 (by rw [g4])
   have er : e1.k.r = r := by rw [g4]
   have eo : e1.k.o = k := by rw [g4]
   rw [er, eo, k2, g6, ← enQ_at outs r p k q, enQ_put hb] at hqs
   refine VNext.mk (k + 1, m1, qs1.set j1 ⟨e1.k, e1.b, s3⟩, mo.set r (max y.1 ((q r k).length + 1), y.2)) ⟨by dsimp only; omega, g1.congr fun z => qPtr_set (e' := ⟨e1.k, e1.b, s3⟩) g3 rfl rfl z, hqs, by rw [List.length_set]; exact hmo, fun z hz => ?_⟩ (by dsimp only; omega) aE aH
   rcases List.mem_or_eq_of_mem_set hz with h | rfl
   ·exact hmb z h
   ·dsimp only; omega
  ·have hz0 : ((outs.toNat &&& (pow2 k).toNat : Nat) : Int) = 0 := Decidable.not_not.1 fun h => hb (hhas.2 h)
   repeat' (conv => whnf); first | (refine VIx.is ?_; refine VIx.mk rfl (by omega) (by omega) ?_) | (refine VLd.is ?_; refine VLd.mk (Rd.cast (.vec aT (hok)) (by first | omega | (dsimp only; omega) | rfl)) ?_) | (refine VBit.is ?_; refine VBit.and (by omega) (by omega) ?_) | (refine VSeq.go ?_) | (refine VB.is ?_; refine VB.yes (by omega) fun _ => ?_) | (refine VAr.is ?_; refine oA ?_)
   all_goals (conv => whnf)
   exact VNext.mk (k + 1, m, qs, mo) ⟨by dsimp only; omega, hm, by dsimp only; rw [enQ_skip hb]; exact hq, hmo, hmb⟩ (by dsimp only; omega) aE aH
 have hk5 : k = 5 := by omega
 subst hk5
 repeat' (conv => whnf); first | (refine VSeq.go ?_) | (refine VB.is ?_; refine VB.no (by omega) fun _ => ?_)
 all_goals (conv => whnf)
 exact ⟨_, by exact aH, hK m qs mo hm hq hmo hmb⟩

end Go.Proofs
end

section

namespace Go.Proofs

open Go Go.Vx Go.Gm

theorem noBadT (l : List Ety) (hl : ∀ x ∈ l, EtyOk x) (hlen : l.length ≤ 65536) (p : Option Addr) (c b o : Nat) (w : World) (h1 : Sl w etyV 3 l p l.length b o) :
  Calls Tryz.prog 117 #[.slice p l.length c, .func (.func 135) #[] #[]] w fun e w' => e = .returned (.bool false) ∧ St w [] [] w' := by
 refine enter (C := Tryz.cx) (F := Tryz.fx117) (args := [_, _]) Tryz.func117 rfl rfl rfl Tryz.ok117 (St.start w []) ?_
 repeat' (conv => whnf); first | (refine VCall.isF 158 ?_; refine VCall.inl (F := Tryz.fx158) Tryz.func158 rfl rfl rfl Tryz.ok158 ?_) | (refine VSeq.go ?_)
 all_goals (conv => whnf)
 refine VLoop.mk (α := Nat) (fun j => j ≤ l.length) (fun j => [(1000000, .tuple #[]), (0, .slice p l.length c), (1, .func (.func 135) #[] #[]), (4, .int .i64 0), (7, .int .i64 (l.length : Int)), (8, .int .i64 (j : Int))])
  (fun _ => []) (fun j => l.length - j) 0 (Nat.zero_le _) aE aH ?_
 rintro j hj
 rcases Nat.lt_or_ge j l.length with hlt | hge
 ·obtain ⟨x, hx⟩ := h1.get hlt
  have hv := fun w' => validE x (hl x (List.mem_of_getElem? hx)) w'
  have hxv : sub (etyV x) 0 3 = some [.int .i64 x.key, .int .i64 x.mask, .int .i64 x.outs] := rfl
  unfold etyV at hv
  repeat' (conv => whnf); first | (refine VNew.mk fun b4 => ?_) | (refine VIx.is ?_; refine VIx.mk (h1.ptr (by omega)) (by omega) (by omega) ?_) | (refine VLd.is ?_; refine VLd.mk (Rd.cast (h1.rd0 (by simp) (fun _ => rfl) hx hxv) (by first | omega | (dsimp only; omega) | rfl)) ?_) | (refine VCall.isF 135 ?_; refine VCall.inl (F := Tryz.fx135) Tryz.func135 rfl rfl rfl Tryz.ok135 ?_) | (refine VCall.isF 119 ?_; (refine VCall.valR (fun w' _ => hv w') ?_)) | (refine VSeq.go ?_) | (refine VB.is ?_; refine VB.yes (by omega) fun _ => ?_) | (refine VLd.is ?_; refine VLd.mk (.row aT (by rfl)) ?_) | (refine VAr.is ?_; refine oA ?_)
  all_goals (conv => whnf)
  exact VNext.mk (j + 1) (by omega) (by omega) aE aH
 have hjl : j = l.length := by omega
 subst hjl
 repeat' (conv => whnf); first | (refine VSeq.go ?_) | (refine VB.is ?_; refine VB.no (by omega) fun _ => ?_)
 all_goals (conv => whnf)
 exact ⟨fun w' hw' => ⟨rfl, hw'.le .nil⟩⟩

theorem checkTables_any (s : Spc) (hs : SpcOk s) (tt : List ERow) (htn : (tt.length : Int) = s.wide * s.high) (pt : Option Addr) (ct bt ot : Nat) (w : World) (hts : Sl w erV 1 tt pt tt.length bt ot) (htt : ∀ z ∈ tt, ∃ b o, Sl w etyV 3 z.l z.p z.l.length b o) (htl : ∀ z ∈ tt, z.l.length ≤ 1024 ∧ ∀ e ∈ z.l, EtyOk e) :
  Calls Tryz.prog 95 #[.agg (spcC s).toArray, .slice pt tt.length ct] w fun e w' => e = .returned (.int .i64 0) ∧ St w [] [] w' := by
 have ha := spc_area hs
 have hw := hs.wide
 have hhh := hs.high
 have hrm2 := hs.room
 have hmc := fun (w' : World) => meshCheck_any s ⟨by unfold I64; omega, by unfold I64; omega, by unfold I64; omega⟩ w'
 rw [meshE_zero.2 hs] at hmc
 refine enter (C := Tryz.cx) (F := Tryz.fx95) (args := [_, _]) Tryz.func95 rfl rfl rfl Tryz.ok95 (St.start w []) ?_
 unfold spcC at hmc ⊢
 obtain ⟨n, hn⟩ : ∃ n : Int, s.wide * s.high = n := ⟨_, rfl⟩
 rw [hn] at ha htn
 repeat' (conv => whnf); first | (refine VNew.mk fun b2 => ?_) | (refine VCall.isF 46 ?_; (refine VCall.valR (fun w' _ => hmc w') ?_)) | (refine VAr.is ?_; refine VAr.is ?_; refine VAr.mul hn (by omega) (by omega) ?_) | (refine VSeq.go ?_) | (refine VB.is ?_; refine VB.no (by omega) fun _ => ?_) | (refine VLd.is ?_; refine VLd.mk (.row aT (by rfl)) ?_)
 all_goals (conv => whnf)
 refine VLoop.mk (α := Nat) (fun j => j ≤ tt.length) (fun j => [(1000000, .tuple #[]), (4, .int .i64 0), (21, .slice pt tt.length ct), (22, .int .i64 (tt.length : Int)), (23, .int .i64 (j : Int))])
  (fun _ => []) (fun j => tt.length - j) 0 (Nat.zero_le _) aE aH ?_
 rintro j hj
 rcases Nat.lt_or_ge j tt.length with hlt | hge
 ·obtain ⟨z, hz⟩ := hts.get hlt
  obtain ⟨bz, oz, hz2⟩ := htt z (List.mem_of_getElem? hz)
  obtain ⟨hzl, hze⟩ := htl z (List.mem_of_getElem? hz)
  have hnb := fun (w' : World) (h1 : Sl w' etyV 3 z.l z.p z.l.length bz oz) => noBadT z.l hze (by omega) z.p z.c bz oz w' h1
  repeat' (conv => whnf); first | (refine VIx.is ?_; refine VIx.mk (hts.ptr (by omega)) (by omega) (by omega) ?_) | (refine VLd.is ?_; refine VLd.mk (Rd.cast (hts.rd0 (by simp) (fun _ => rfl) hz rfl) (by first | omega | (dsimp only; omega) | rfl)) ?_) | (refine VCall.isF 117 ?_; (refine VCall.valR (fun w' hw' => hnb w' (hz2.keep hw' (by simp))) ?_)) | (refine VSeq.go ?_) | (refine VB.is ?_; refine VB.yes (by omega) fun _ => ?_) | (refine VB.is ?_; refine VB.no (by omega) fun _ => ?_) | (refine VAr.is ?_; refine oA ?_)
  all_goals (conv => whnf)
  exact VNext.mk (j + 1) (by omega) (by omega) aE aH
 have hjl : j = tt.length := by omega
 subst hjl
 repeat' (conv => whnf); first | (refine VSeq.go ?_) | (refine VB.is ?_; refine VB.no (by omega) fun _ => ?_)
 all_goals (conv => whnf)
 exact ⟨fun w' hw' => ⟨rfl, hw'.le .nil⟩⟩

theorem checkPackets_any (s : Spc) (hs : SpcOk s) (pk : List Pkt) (hpk : pk.length ≤ 1024) (pl : Option Addr) (cl bl ol : Nat) (w : World) (hpl : Sl w pkV 4 pk pl pk.length bl ol) (hsrc : ∀ u ∈ pk, (u.src : Int) < s.wide * s.high ∧ 0 ≤ u.key ∧ u.key ≤ 65535) :
  Calls Tryz.prog 96 #[.agg (spcC s).toArray, .slice pl pk.length cl] w fun e w' => e = .returned (.int .i64 0) ∧ St w [] [] w' := by
 have ha := spc_area hs
 have hw := hs.wide
 have hhh := hs.high
 have hrm2 := hs.room
 refine enter (C := Tryz.cx) (F := Tryz.fx96) (args := [_, _]) Tryz.func96 rfl rfl rfl Tryz.ok96 (St.start w []) ?_
 unfold spcC
 obtain ⟨n, hn⟩ : ∃ n : Int, s.wide * s.high = n := ⟨_, rfl⟩
 rw [hn] at ha hsrc
 repeat' (conv => whnf); first | (refine VNew.mk fun b2 => ?_) | (refine VSeq.go ?_) | (refine VB.is ?_; refine VB.no (by omega) fun _ => ?_)
 all_goals (conv => whnf)
 refine VLoop.mk (α := Nat) (fun j => j ≤ pk.length) (fun j => [(1000000, .tuple #[]), (2, .pointer (some ⟨b2, 0, none⟩)), (4, .int .i64 0), (10, .slice pl pk.length cl), (11, .int .i64 (pk.length : Int)), (12, .int .i64 (j : Int))])
  (fun _ => [.row b2 23 [.int .i64 s.wide, .int .i64 s.high, .int .i64 s.room]]) (fun j => pk.length - j) 0 (Nat.zero_le _) aE aH ?_
 rintro j hj
 rcases Nat.lt_or_ge j pk.length with hlt | hge
 ·obtain ⟨u, hu⟩ := hpl.get hlt
  have hu2 := hsrc u (List.mem_of_getElem? hu)
  have hvu : sub (pkV u) 0 4 = some [.int .i64 0, .int .i64 (u.src : Int), .int .i64 u.key, .int .i64 0] := rfl
  repeat' (conv => whnf); first | (refine VIx.is ?_; refine VIx.mk (hpl.ptr (by omega)) (by omega) (by omega) ?_) | (refine VLd.is ?_; refine VLd.mk (Rd.cast (hpl.rd0 (by simp) (fun _ => rfl) hu hvu) (by first | omega | (dsimp only; omega) | rfl)) ?_) | (refine VNew.mk fun b6 => ?_) | (refine VAr.is ?_; refine VAr.is ?_; refine VAr.mul hn (by omega) (by omega) ?_) | (refine VSeq.go ?_) | (refine VB.is ?_; refine VB.yes (by omega) fun _ => ?_) | (refine VB.is ?_; refine VB.no (by omega) fun _ => ?_) | (refine VLd.is ?_; refine VLd.mk (.row aT (by rfl)) ?_) | (refine VSt.is ?_; refine VSt.row aT (by rfl) (by first | rfl | assumption) ?_) | (refine VAr.is ?_; refine oA ?_)
  all_goals (conv => whnf)
  all_goals first | exact VNext.mk (j + 1) (by omega) (by omega) aE aH | (exfalso; omega)
 have hjl : j = pk.length := by omega
 subst hjl
 repeat' (conv => whnf); first | (refine VSeq.go ?_) | (refine VB.is ?_; refine VB.no (by omega) fun _ => ?_)
 all_goals (conv => whnf)
 exact ⟨fun w' hw' => ⟨rfl, hw'.le .nil⟩⟩

end Go.Proofs
end
