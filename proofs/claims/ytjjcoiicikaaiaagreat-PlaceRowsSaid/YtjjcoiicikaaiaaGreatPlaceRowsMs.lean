import Derived.Test.YtjjcoiicikaaiaaGreatPlaceRowsMr
set_option linter.unusedVariables false
set_option linter.unusedSimpArgs false
set_option maxHeartbeats 4000000

namespace Go.Gm

def linkK (x : Int) (k : Nat) : Nat := (((List.range k).map fun (j : Nat) => ((2 ^ j : Nat) : Int)).filter fun b => decide (b ≠ 16)).countP fun b => decide (hasB x b)

theorem linkK_next (x : Int) (k : Nat) : linkK x (k + 1) = linkK x k + if ((2 ^ k : Nat) : Int) ≠ 16 ∧ hasB x ((2 ^ k : Nat) : Int) then 1 else 0 := by
 unfold linkK
 rw [List.range_succ, List.map_append, List.filter_append, List.countP_append]
 congr 1
 simp only [List.map_cons, List.map_nil]
 generalize ((2 ^ k : Nat) : Int) = b
 by_cases h : b = 16
 ·subst h; simp
 ·by_cases h2 : hasB x b <;> simp [h, h2]

theorem linkK_five (x : Int) : linkK x 5 = linkN x := rfl

theorem linkK_le (x : Int) (k : Nat) : linkK x k ≤ k := by
 unfold linkK
 refine Nat.le_trans List.countP_le_length (Nat.le_trans (List.length_filter_le _ _) ?_)
 simp

end Go.Gm

namespace Go.Proofs

open Go Go.Vx Go.Gm

theorem bits_and {a b : Nat} (ha : a < 2 ^ 63) (hb : b < 2 ^ 63) : bitsI .and .i64 (a : Int) (b : Int) = ((a &&& b : Nat) : Int) := by
 unfold bitsI
 dsimp only
 have hbb : IntKind.i64.bits = 64 := rfl
 have h1 : (BitVec.ofInt IntKind.i64.bits (a : Int) &&& BitVec.ofInt IntKind.i64.bits (b : Int)).toNat = a &&& b := by
  rw [BitVec.toNat_and]
  have e1 : (BitVec.ofInt IntKind.i64.bits (a : Int)).toNat = a := by rw [BitVec.toNat_ofInt, hbb]; omega
  have e2 : (BitVec.ofInt IntKind.i64.bits (b : Int)).toNat = b := by rw [BitVec.toNat_ofInt, hbb]; omega
  rw [e1, e2]
 have h2 : a &&& b ≤ a := Nat.and_le_left
 rw [h1, wrap_i64 (by omega) (by omega)]

theorem _root_.Go.Vx.VBit.and {a b : Int} {k : Int → Prop} (ha : 0 ≤ a ∧ a ≤ 4611686018427387904) (hb : 0 ≤ b ∧ b ≤ 4611686018427387904) (hk : k ((a.toNat &&& b.toNat : Nat) : Int)) : VBit .and .i64 a b k := by
 refine .mk ?_
 have := bits_and (a := a.toNat) (b := b.toNat) (by omega) (by omega)
 rw [Int.toNat_of_nonneg ha.1, Int.toNat_of_nonneg hb.1] at this
 rw [this]
 exact hk

theorem _root_.Go.Vx.VShL.dbl {a : Int} {k : Int → Prop} (h : 0 ≤ a ∧ a ≤ 1073741824) (hk : k (a * 2)) : VShL .i64 a 1 k := by
 refine .mk (by omega) ?_
 have e : min (1 : Int).toNat (IntKind.i64.bits) = 1 := rfl
 rw [e]
 have e2 : a * 2 ^ 1 = a * 2 := by omega
 rw [e2, wrap_i64 (by omega) (by omega)]
 exact hk

theorem outs_iter {α : Type} {w0 : World} {H : HP} {K : Value → HP → Prop} (o : List Int) (ho : OutsOk o) (hol : o.length ≤ 65536) (t1 t2 t3 : Value) (po : Option Addr) (co bo oo : Nat) (h1 : Sl w0 intV 1 o po o.length bo oo) (l b1 : Nat) (I : Nat → Nat → α → Prop) (G : α → HP) (x0 : α) (h0 : I 0 0 x0)
  (hH : HLe (.row b1 153 [t1, t2, t3, .slice po o.length co] :: G x0) H)
  (step : ∀ i k v x, o[i]? = some v → k < 5 → hasB v ((2 ^ k : Nat) : Int) → I i k x →
   VYield Tryz.cx.P w0 [] (.row b1 153 [t1, t2, t3, .slice po o.length co] :: G x) l [.agg #[.int .i64 (i : Int), .int .i64 ((2 ^ k : Nat) : Int)]] fun r H' => (r = .bool true ∧ ∃ y, I i (k + 1) y ∧ HLe (.row b1 153 [t1, t2, t3, .slice po o.length co] :: G y) H') ∨ (r = .bool false ∧ K (.tuple #[]) H'))
  (skip : ∀ i k v x, o[i]? = some v → k < 5 → ¬ hasB v ((2 ^ k : Nat) : Int) → I i k x → I i (k + 1) x)
  (next : ∀ i v x, o[i]? = some v → I i 5 x → I (i + 1) 0 x)
  (fin : ∀ x, I o.length 0 x → K (.tuple #[]) (.row b1 153 [t1, t2, t3, .slice po o.length co] :: G x)) :
  VCall Tryz.cx.P w0 [] H 150 [.func (.yield l) #[] #[], .pointer (some ⟨b1, 0, none⟩)] K := by
 refine VCall.le hH ?_
 refine VCall.inl (F := Tryz.fx150) Tryz.func150 rfl rfl rfl Tryz.ok150 ?_
 repeat' (conv => whnf); first | (refine VSeq.go ?_) | (refine VB.is ?_; refine VB.no (by omega) fun _ => ?_) | (refine VLd.is ?_; refine VLd.mk (.row aT (by rfl)) ?_) | (refine VAr.is ?_; refine oA ?_)
 all_goals (conv => whnf)
 refine VLoop.mk (α := Nat × α) (fun z => z.1 ≤ o.length ∧ I z.1 0 z.2) (fun z => [(1000000, .tuple #[]), (0, .func (.yield l) #[] #[]), (7, .slice po o.length co), (8, .int .i64 (o.length : Int)), (9, .int .i64 (z.1 : Int))])
  (fun z => .row b1 153 [t1, t2, t3, .slice po o.length co] :: G z.2) (fun z => o.length - z.1) (0, x0) ⟨Nat.zero_le _, h0⟩ aE aH ?_
 rintro ⟨i, x⟩ ⟨hi, hI⟩
 dsimp only at hi hI ⊢
 rcases Nat.lt_or_ge i o.length with hlt | hge
 ·obtain ⟨v, hv⟩ := h1.get hlt
  have hvr := ho v (List.mem_of_getElem? hv)
  repeat' (conv => whnf); first | (refine VIx.is ?_; refine VIx.mk (h1.ptr (by omega)) (by omega) (by omega) ?_) | (refine VLd.is ?_; refine VLd.mk (Rd.cast (h1.rd0 (by simp) (fun _ => rfl) hv rfl) (by first | omega | (dsimp only; omega) | rfl)) ?_) | (refine VSeq.go ?_) | (refine VB.is ?_; refine VB.yes (by omega) fun _ => ?_)
  all_goals (conv => whnf)
  refine VLoop.mk (α := Nat × α) (fun z => z.1 ≤ 5 ∧ I i z.1 z.2) (fun z => [(1000000, .tuple #[]), (0, .func (.yield l) #[] #[]), (3, .int .i64 (i : Int)), (4, .int .i64 v), (5, .int .i64 ((2 ^ z.1 : Nat) : Int)), (7, .slice po o.length co), (8, .int .i64 (o.length : Int)), (9, .int .i64 (i : Int))])
   (fun z => .row b1 153 [t1, t2, t3, .slice po o.length co] :: G z.2) (fun z => 5 - z.1) (0, x) ⟨by dsimp only; omega, hI⟩ aE aH ?_
  rintro ⟨k, x⟩ ⟨hk, hI⟩
  dsimp only at hk hI ⊢
  rcases Nat.lt_or_ge k 5 with hk5 | hk5
  ·have hst := step i k v x hv hk5
   have hsk := skip i k v x hv hk5
   have hp1 : 2 ^ (k + 1) = 2 * 2 ^ k := by rw [Nat.pow_succ]; omega
   have hp2 : 2 ^ k ≤ 16 := by
    have : (2 : Nat) ^ k ≤ 2 ^ 4 := Nat.pow_le_pow_right (by omega) (by omega)
    omega
   obtain ⟨pw, hpw⟩ : ∃ pw, 2 ^ k = pw := ⟨_, rfl⟩
   have hhas : hasB v (pw : Int) ↔ ((v.toNat &&& (pw : Int).toNat : Nat) : Int) ≠ 0 := by
    unfold hasB
    omega
   rw [hpw] at hst hsk hp1 hp2 ⊢
   have hsl : (pw : Int) * 2 = ((2 ^ (k + 1) : Nat) : Int) := by rw [hp1]; omega
   repeat' (conv => whnf); first | (refine VShL.is ?_; refine VShL.dbl (by omega) ?_; rw [hsl]) | (refine VBit.is ?_; refine VBit.and (by omega) (by omega) ?_) | (refine VYield.is ?_; refine VYield.is ?_; refine VYield.hle (VYield.mono (VYield.weak ?_ (hst (hhas.2 (by omega)) hI)) fun r H' hr => ?_); (focus (exact aH)); rcases hr with ⟨rfl, y, hy, hl⟩ | ⟨rfl, hK⟩ <;> first | refine ⟨_, hl, ?_⟩ | refine ⟨_, HLe.refl _, ?_⟩) | (refine VSeq.go ?_) | (refine VB.is ?_; refine VB.yes (by omega) fun _ => ?_) | (refine VB.split (fun _ => ?_) (fun _ => ?_))
   all_goals (conv => whnf)
   ·exact VNext.mk (k + 1, y) ⟨by dsimp only; omega, hy⟩ (by dsimp only; omega) aE aH
   ·exact hK
   ·exact VNext.mk (k + 1, x) ⟨by dsimp only; omega, hsk (fun h => absurd (hhas.1 h) (by omega)) hI⟩ (by dsimp only; omega) aE aH
  have hk5' : k = 5 := by omega
  subst hk5'
  repeat' (conv => whnf); first | (refine VSeq.go ?_) | (refine VB.is ?_; refine VB.no (by omega) fun _ => ?_) | (refine VLd.is ?_; refine VLd.mk (.row aT (by rfl)) ?_) | (refine VAr.is ?_; refine oA ?_)
  all_goals (conv => whnf)
  exact VNext.mk (i + 1, x) ⟨by dsimp only; omega, next i v x hv hI⟩ (by dsimp only; omega) aE aH
 have hil : i = o.length := by omega
 subst hil
 repeat' (conv => whnf); first | (refine VSeq.go ?_) | (refine VB.is ?_; refine VB.no (by omega) fun _ => ?_) | (refine VLd.is ?_; refine VLd.mk (.row aT (by rfl)) ?_) | (refine VAr.is ?_; refine oA ?_)
 all_goals (conv => whnf)
 exact fin x hI

end Go.Proofs
