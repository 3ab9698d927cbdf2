import Derived.Test.YtjjcoiicikaaiaaGreatPlaceWaysMr
import Derived.Test.YtjjcoiicikaaiaaGreatPlaceWaysKt
set_option linter.unusedVariables false
set_option linter.unusedSimpArgs false
set_option maxHeartbeats 4000000
section

namespace Go.Gm

def linkK (x : Int) (k : Nat) : Nat := (((List.range k).map fun (j : Nat) => ((2 ^ j : Nat) : Int)).filter fun b => decide (b ≠ 16)).countP fun b => decide (hasB x b)

theorem linkK_next (x : Int) (k : Nat) : linkK x (k + 1) = linkK x k + if ((2 ^ k : Nat) : Int) ≠ 16 ∧ hasB x ((2 ^ k : Nat) : Int) then 1 else 0 := by
 unfold linkK
 rw [List.range_succ, List.map_append, List.filter_append, List.countP_append]
 congr 1
 simp only [List.map_cons, List.map_nil]
 generalize ((2 ^ k : Nat) : Int) = b
 by_cases h : b = 16
 ·subst h; simp
 ·by_cases h2 : hasB x b <;> simp [h, h2]

theorem linkK_five (x : Int) : linkK x 5 = linkN x := rfl

theorem linkK_le (x : Int) (k : Nat) : linkK x k ≤ k := by
 unfold linkK
 refine Nat.le_trans List.countP_le_length (Nat.le_trans (List.length_filter_le _ _) ?_)
 simp

end Go.Gm

namespace Go.Proofs

open Go Go.Vx Go.Gm

theorem bits_and {a b : Nat} (ha : a < 2 ^ 63) (hb : b < 2 ^ 63) : bitsI .and .i64 (a : Int) (b : Int) = ((a &&& b : Nat) : Int) := by
 unfold bitsI
 dsimp only
 have hbb : IntKind.i64.bits = 64 := rfl
 have h1 : (BitVec.ofInt IntKind.i64.bits (a : Int) &&& BitVec.ofInt IntKind.i64.bits (b : Int)).toNat = a &&& b := by
  rw [BitVec.toNat_and]
  have e1 : (BitVec.ofInt IntKind.i64.bits (a : Int)).toNat = a := by rw [BitVec.toNat_ofInt, hbb]; omega
  have e2 : (BitVec.ofInt IntKind.i64.bits (b : Int)).toNat = b := by rw [BitVec.toNat_ofInt, hbb]; omega
  rw [e1, e2]
 have h2 : a &&& b ≤ a := Nat.and_le_left
 rw [h1, wrap_i64 (by omega) (by omega)]

theorem _root_.Go.Vx.VBit.and {a b : Int} {k : Int → Prop} (ha : 0 ≤ a ∧ a ≤ 4611686018427387904) (hb : 0 ≤ b ∧ b ≤ 4611686018427387904) (hk : k ((a.toNat &&& b.toNat : Nat) : Int)) : VBit .and .i64 a b k := by
 refine .mk ?_
 have := bits_and (a := a.toNat) (b := b.toNat) (by omega) (by omega)
 rw [Int.toNat_of_nonneg ha.1, Int.toNat_of_nonneg hb.1] at this
 rw [this]
 exact hk

theorem _root_.Go.Vx.VShL.dbl {a : Int} {k : Int → Prop} (h : 0 ≤ a ∧ a ≤ 1073741824) (hk : k (a * 2)) : VShL .i64 a 1 k := by
 refine .mk (by omega) ?_
 have e : min (1 : Int).toNat (IntKind.i64.bits) = 1 := rfl
 rw [e]
 have e2 : a * 2 ^ 1 = a * 2 := by omega
 rw [e2, wrap_i64 (by omega) (by omega)]
 exact hk

theorem outs_iter {α : Type} {w0 : World} {H : HP} {K : Value → HP → Prop} (o : List Int) (ho : OutsOk o) (hol : o.length ≤ 65536) (t1 t2 t3 : Value) (po : Option Addr) (co bo oo : Nat) (h1 : Sl w0 intV 1 o po o.length bo oo) (l b1 : Nat) (I : Nat → Nat → α → Prop) (G : α → HP) (x0 : α) (h0 : I 0 0 x0)
  (hH : HLe (.row b1 153 [t1, t2, t3, .slice po o.length co] :: G x0) H)
  (step : ∀ i k v x, o[i]? = some v → k < 5 → hasB v ((2 ^ k : Nat) : Int) → I i k x →
   VYield Tryz.cx.P w0 [] (.row b1 153 [t1, t2, t3, .slice po o.length co] :: G x) l [.agg #[.int .i64 (i : Int), .int .i64 ((2 ^ k : Nat) : Int)]] fun r H' => (r = .bool true ∧ ∃ y, I i (k + 1) y ∧ HLe (.row b1 153 [t1, t2, t3, .slice po o.length co] :: G y) H') ∨ (r = .bool false ∧ K (.tuple #[]) H'))
  (skip : ∀ i k v x, o[i]? = some v → k < 5 → ¬ hasB v ((2 ^ k : Nat) : Int) → I i k x → I i (k + 1) x)
  (next : ∀ i v x, o[i]? = some v → I i 5 x → I (i + 1) 0 x)
  (fin : ∀ x, I o.length 0 x → K (.tuple #[]) (.row b1 153 [t1, t2, t3, .slice po o.length co] :: G x)) :
  VCall Tryz.cx.P w0 [] H 150 [.func (.yield l) #[] #[], .pointer (some ⟨b1, 0, none⟩)] K := by
 refine VCall.le hH ?_
 refine VCall.inl (F := Tryz.fx150) Tryz.func150 rfl rfl rfl Tryz.ok150 ?_
 repeat' (conv => whnf); first | (refine VSeq.go ?_) | (refine VB.is ?_; refine VB.no (by omega) fun _ => ?_) | (refine VLd.is ?_; refine VLd.mk (.row aT (by rfl)) ?_) | (refine VAr.is ?_; refine oA ?_)
 all_goals (conv => whnf)
 refine VLoop.mk (α := Nat × α) (fun z => z.1 ≤ o.length ∧ I z.1 0 z.2) (fun z => [(1000000, .tuple #[]), (0, .func (.yield l) #[] #[]), (7, .slice po o.length co), (8, .int .i64 (o.length : Int)), (9, .int .i64 (z.1 : Int))])
  (fun z => .row b1 153 [t1, t2, t3, .slice po o.length co] :: G z.2) (fun z => o.length - z.1) (0, x0) ⟨Nat.zero_le _, h0⟩ aE aH ?_
 rintro ⟨i, x⟩ ⟨hi, hI⟩
 dsimp only at hi hI ⊢
 rcases Nat.lt_or_ge i o.length with hlt | hge
 ·obtain ⟨v, hv⟩ := h1.get hlt
  have hvr := ho v (List.mem_of_getElem? hv)
  repeat' (conv => whnf); first | (refine VIx.is ?_; refine VIx.mk (h1.ptr (by omega)) (by omega) (by omega) ?_) | (refine VLd.is ?_; refine VLd.mk (Rd.cast (h1.rd0 (by simp) (fun _ => rfl) hv rfl) (by first | omega | (dsimp only; omega) | rfl)) ?_) | (refine VSeq.go ?_) | (refine VB.is ?_; refine VB.yes (by omega) fun _ => ?_)
  all_goals (conv => whnf)
  refine VLoop.mk (α := Nat × α) (fun z => z.1 ≤ 5 ∧ I i z.1 z.2) (fun z => [(1000000, .tuple #[]), (0, .func (.yield l) #[] #[]), (3, .int .i64 (i : Int)), (4, .int .i64 v), (5, .int .i64 ((2 ^ z.1 : Nat) : Int)), (7, .slice po o.length co), (8, .int .i64 (o.length : Int)), (9, .int .i64 (i : Int))])
   (fun z => .row b1 153 [t1, t2, t3, .slice po o.length co] :: G z.2) (fun z => 5 - z.1) (0, x) ⟨by dsimp only; omega, hI⟩ aE aH ?_
  rintro ⟨k, x⟩ ⟨hk, hI⟩
  dsimp only at hk hI ⊢
  rcases Nat.lt_or_ge k 5 with hk5 | hk5
  ·have hst := step i k v x hv hk5
   have hsk := skip i k v x hv hk5
   have hp1 : 2 ^ (k + 1) = 2 * 2 ^ k := by rw [Nat.pow_succ]; omega
   have hp2 : 2 ^ k ≤ 16 := by
    have : (2 : Nat) ^ k ≤ 2 ^ 4 := Nat.pow_le_pow_right (by omega) (by omega)
    omega
   obtain ⟨pw, hpw⟩ : ∃ pw, 2 ^ k = pw := ⟨_, rfl⟩
   have hhas : hasB v (pw : Int) ↔ ((v.toNat &&& (pw : Int).toNat : Nat) : Int) ≠ 0 := by
    unfold hasB
    omega
   rw [hpw] at hst hsk hp1 hp2 ⊢
   have hsl : (pw : Int) * 2 = ((2 ^ (k + 1) : Nat) : Int) := by rw [hp1]; omega
   repeat' (conv => whnf); first | (refine VShL.is ?_; refine VShL.dbl (by omega) ?_; rw [hsl]) | (refine VBit.is ?_; refine VBit.and (by omega) (by omega) ?_) | (refine VYield.is ?_; refine VYield.is ?_; refine VYield.hle (VYield.mono (VYield.weak ?_ (hst (hhas.2 (by omega)) hI)) fun r H' hr => ?_); (focus (exact aH)); rcases hr with ⟨rfl, y, hy, hl⟩ | ⟨rfl, hK⟩ <;> first | refine ⟨_, hl, ?_⟩ | refine ⟨_, HLe.refl _, ?_⟩) | (refine VSeq.go ?_) | (refine VB.is ?_; refine VB.yes (by omega) fun _ => ?_) | (refine VB.split (fun _ => ?_) (fun _ => ?_))
   all_goals (conv => whnf)
   ·exact VNext.mk (k + 1, y) ⟨by dsimp only; omega, hy⟩ (by dsimp only; omega) aE aH
   ·exact hK
   ·exact VNext.mk (k + 1, x) ⟨by dsimp only; omega, hsk (fun h => absurd (hhas.1 h) (by omega)) hI⟩ (by dsimp only; omega) aE aH
  have hk5' : k = 5 := by omega
  subst hk5'
  repeat' (conv => whnf); first | (refine VSeq.go ?_) | (refine VB.is ?_; refine VB.no (by omega) fun _ => ?_) | (refine VLd.is ?_; refine VLd.mk (.row aT (by rfl)) ?_) | (refine VAr.is ?_; refine oA ?_)
  all_goals (conv => whnf)
  exact VNext.mk (i + 1, x) ⟨by dsimp only; omega, next i v x hv hI⟩ (by dsimp only; omega) aE aH
 have hil : i = o.length := by omega
 subst hil
 repeat' (conv => whnf); first | (refine VSeq.go ?_) | (refine VB.is ?_; refine VB.no (by omega) fun _ => ?_) | (refine VLd.is ?_; refine VLd.mk (.row aT (by rfl)) ?_) | (refine VAr.is ?_; refine oA ?_)
 all_goals (conv => whnf)
 exact fin x hI

end Go.Proofs
end

section

namespace Go.Gm

structure IsMax (c : Out → Nat) (m : Nat) : Prop where
 le : ∀ o, isOutO o → c o ≤ m
 ex : m = 0 ∨ ∃ o, isOutO o ∧ c o = m

theorem IsMax.bump {c : Out → Nat} {m : Nat} (h : IsMax c m) {o : Out} (ho : isOutO o) : IsMax (fun q => if q = o then c o + 1 else c q) (max m (c o + 1)) := by
 refine ⟨fun q hq => ?_, .inr ?_⟩
 ·have := h.le q hq
  show (if q = o then c o + 1 else c q) ≤ _
  split <;> omega
 ·by_cases hm : m ≤ c o + 1
  ·exact ⟨o, ho, by rw [if_pos rfl]; omega⟩
  ·rcases h.ex with h0 | ⟨q, hq, he⟩
   ·omega
   ·have : ¬ q = o := fun e => by subst e; omega
    exact ⟨q, hq, by rw [if_neg this]; omega⟩

theorem IsMax.same {c d : Out → Nat} {m : Nat} (h : IsMax c m) (e : ∀ o, isOutO o → d o = c o) : IsMax d m := by
 refine ⟨fun q hq => by rw [e q hq]; exact h.le q hq, ?_⟩
 rcases h.ex with h0 | ⟨q, hq, he⟩
 ·exact .inl h0
 ·exact .inr ⟨q, hq, by rw [e q hq]; exact he⟩

theorem IsMax.most {ts : List (List Int)} {m : Nat} (h : IsMax (cntM ts) m) : mostM ts = m := (mostM_is ts).uniq ⟨h.le, h.ex⟩

theorem IsMax.of (ts : List (List Int)) : IsMax (cntM ts) (mostM ts) := ⟨(mostM_is ts).le, (mostM_is ts).ex⟩

def bfr (i k : Nat) (o : Out) : Prop := o.1 < (i : Int) ∨ (o.1 = (i : Int) ∧ o.2 < ((2 ^ k : Nat) : Int))

instance (i k : Nat) (o : Out) : Decidable (bfr i k o) := by unfold bfr; infer_instance

def cntP (ts : List (List Int)) (t : List Int) (i k : Nat) (o : Out) : Nat := cntM ts o + if bfr i k o ∧ hasB (t[o.1.toNat]?.getD 0) o.2 then 1 else 0

theorem pow5 {k : Nat} (hk : k < 5) : k = 0 ∧ (2 ^ k : Nat) = 1 ∨ k = 1 ∧ (2 ^ k : Nat) = 2 ∨ k = 2 ∧ (2 ^ k : Nat) = 4 ∨ k = 3 ∧ (2 ^ k : Nat) = 8 ∨ k = 4 ∧ (2 ^ k : Nat) = 16 := by
 have : k = 0 ∨ k = 1 ∨ k = 2 ∨ k = 3 ∨ k = 4 := by omega
 rcases this with rfl | rfl | rfl | rfl | rfl <;> simp

theorem bfr_zero {o : Out} (h : isOutO o) : ¬ bfr 0 0 o := by
 unfold isOutO isOut at h
 unfold bfr
 simp only [Nat.pow_zero]
 omega

theorem bfr_next {i k : Nat} (hk : k < 5) {o : Out} (h : isOutO o) : bfr i (k + 1) o ↔ bfr i k o ∨ o = ((i : Int), ((2 ^ k : Nat) : Int)) := by
 unfold isOutO isOut at h
 unfold bfr
 obtain ⟨a, b⟩ := o
 dsimp only at h ⊢
 rw [Prod.mk.injEq, Nat.pow_succ]
 have := pow5 hk
 omega

theorem bfr_row {i : Nat} {o : Out} (h : isOutO o) : bfr i 5 o ↔ bfr (i + 1) 0 o := by
 unfold isOutO isOut at h
 unfold bfr
 simp only [Nat.pow_zero]
 have : (2 ^ 5 : Nat) = 32 := rfl
 rw [this]
 omega

theorem cntP_zero (ts : List (List Int)) (t : List Int) {o : Out} (h : isOutO o) : cntP ts t 0 0 o = cntM ts o := by
 unfold cntP
 rw [if_neg (fun x => bfr_zero h x.1)]; rfl

theorem cntP_row (ts : List (List Int)) (t : List Int) (i : Nat) {o : Out} (h : isOutO o) : cntP ts t (i + 1) 0 o = cntP ts t i 5 o := by
 unfold cntP
 have := bfr_row (i := i) h
 by_cases hb : bfr i 5 o ∧ hasB (t[o.1.toNat]?.getD 0) o.2
 ·rw [if_pos hb, if_pos ⟨this.1 hb.1, hb.2⟩]
 ·rw [if_neg hb, if_neg (fun x => hb ⟨this.2 x.1, x.2⟩)]

theorem bfr_self (i k : Nat) : ¬ bfr i k ((i : Int), ((2 ^ k : Nat) : Int)) := by
 unfold bfr; dsimp only; omega

theorem cntP_skip (ts : List (List Int)) {t : List Int} {i k : Nat} {v : Int} (hv : t[i]? = some v) (hk : k < 5) (hb : ¬ hasB v ((2 ^ k : Nat) : Int)) {o : Out} (h : isOutO o) : cntP ts t i (k + 1) o = cntP ts t i k o := by
 unfold cntP
 have := bfr_next (i := i) hk h
 congr 1
 by_cases h1 : bfr i k o ∧ hasB (t[o.1.toNat]?.getD 0) o.2
 ·rw [if_pos h1, if_pos ⟨this.2 (.inl h1.1), h1.2⟩]
 ·rw [if_neg h1, if_neg ?_]
  rintro ⟨h2, h3⟩
  rcases this.1 h2 with h4 | rfl
  ·exact h1 ⟨h4, h3⟩
  ·dsimp only at h3
   rw [Int.toNat_natCast, hv] at h3
   exact hb h3

theorem cntP_at (ts : List (List Int)) (t : List Int) (i k : Nat) : cntP ts t i k ((i : Int), ((2 ^ k : Nat) : Int)) = cntM ts ((i : Int), ((2 ^ k : Nat) : Int)) := by
 unfold cntP
 rw [if_neg (fun x => bfr_self i k x.1)]; rfl

theorem cntP_next (ts : List (List Int)) {t : List Int} {i k : Nat} {v : Int} (hv : t[i]? = some v) (hk : k < 5) (hb : hasB v ((2 ^ k : Nat) : Int)) {o : Out} (h : isOutO o) :
  cntP ts t i (k + 1) o = if o = ((i : Int), ((2 ^ k : Nat) : Int)) then cntP ts t i k ((i : Int), ((2 ^ k : Nat) : Int)) + 1 else cntP ts t i k o := by
 have := bfr_next (i := i) hk h
 by_cases he : o = ((i : Int), ((2 ^ k : Nat) : Int))
 ·rw [if_pos he, cntP_at, he]
  unfold cntP
  rw [if_pos ⟨by rw [he] at this; exact this.2 (.inr rfl), by dsimp only; rw [Int.toNat_natCast, hv]; exact hb⟩]
 ·rw [if_neg he]
  unfold cntP
  congr 1
  by_cases h1 : bfr i k o ∧ hasB (t[o.1.toNat]?.getD 0) o.2
  ·rw [if_pos h1, if_pos ⟨this.2 (.inl h1.1), h1.2⟩]
  ·rw [if_neg h1, if_neg ?_]
   rintro ⟨h2, h3⟩
   rcases this.1 h2 with h4 | h4
   ·exact h1 ⟨h4, h3⟩
   ·exact he h4

theorem cntP_end (ts : List (List Int)) (t : List Int) {o : Out} (h : isOutO o) : cntP ts t t.length 0 o = cntM (ts ++ [t]) o := by
 rw [cntM_snoc]
 unfold cntP
 congr 1
 by_cases hb : hasB (t[o.1.toNat]?.getD 0) o.2
 ·have hlt : o.1.toNat < t.length := by
   refine Decidable.byContradiction fun hn => ?_
   rw [List.getElem?_eq_none (by omega)] at hb
   exact hasB_zero _ hb
  have h0 := h.1
  rw [if_pos ⟨.inl (by omega), hb⟩, if_pos hb]
 ·rw [if_neg (fun x => hb x.2), if_neg hb]

def takesK (room : Int) (ts : List (List Int)) (t : List Int) (i k : Nat) : Prop := ∀ o, isOutO o → bfr i k o → hasB (t[o.1.toNat]?.getD 0) o.2 → (cntM ts o : Int) < room

theorem takesK_zero (room : Int) (ts : List (List Int)) (t : List Int) : takesK room ts t 0 0 := fun o ho hb _ => absurd hb (bfr_zero ho)

theorem takesK_row {room : Int} {ts : List (List Int)} {t : List Int} {i : Nat} (h : takesK room ts t i 5) : takesK room ts t (i + 1) 0 := fun o ho hb hh => h o ho ((bfr_row ho).2 hb) hh

theorem takesK_skip {room : Int} {ts : List (List Int)} {t : List Int} {i k : Nat} {v : Int} (hv : t[i]? = some v) (hk : k < 5) (hb : ¬ hasB v ((2 ^ k : Nat) : Int)) (h : takesK room ts t i k) : takesK room ts t i (k + 1) := fun o ho hf hh => by
 rcases (bfr_next hk ho).1 hf with hf | rfl
 ·exact h o ho hf hh
 ·dsimp only at hh
  rw [Int.toNat_natCast, hv] at hh
  exact absurd hh hb

theorem takesK_next {room : Int} {ts : List (List Int)} {t : List Int} {i k : Nat} (hk : k < 5) (hc : (cntM ts ((i : Int), ((2 ^ k : Nat) : Int)) : Int) < room) (h : takesK room ts t i k) : takesK room ts t i (k + 1) := fun o ho hf hh => by
 rcases (bfr_next hk ho).1 hf with hf | rfl
 ·exact h o ho hf hh
 ·exact hc

theorem takesK_end {room : Int} {ts : List (List Int)} {t : List Int} (h : takesK room ts t t.length 0) : takesM room ts t = true := by
 unfold takesM
 rw [List.all_eq_true]
 intro o ho
 obtain ⟨h1, h2⟩ := mem_outsM.1 ho
 rw [decide_eq_true_eq]
 have hlt : o.1.toNat < t.length := by
  refine Decidable.byContradiction fun hn => ?_
  rw [List.getElem?_eq_none (by omega)] at h2
  exact hasB_zero _ h2
 have h0 := h1.1
 exact h o h1 (.inl (by omega)) h2

theorem takes_not {room : Int} {ts : List (List Int)} {t : List Int} {i k : Nat} {v : Int} (hv : t[i]? = some v) (hk : k < 5) (hb : hasB v ((2 ^ k : Nat) : Int)) (hc : ¬ (cntM ts ((i : Int), ((2 ^ k : Nat) : Int)) : Int) < room) : takesM room ts t = false := by
 cases hm : takesM room ts t with
 | false => rfl
 | true =>
  unfold takesM at hm
  rw [List.all_eq_true] at hm
  refine absurd (of_decide_eq_true (hm ((i : Int), ((2 ^ k : Nat) : Int)) (mem_outsM.2 ⟨⟨by dsimp only; omega, ?_⟩, ?_⟩))) hc
  ·have := pow5 hk
   unfold isOut
   dsimp only
   omega
  ·dsimp only
   rw [Int.toNat_natCast, hv]
   exact hb

theorem reachM_snoc (W : Int) (home : Int → Int) (tg : Int → List Int) (ks : List Int) (key : Int) : reachM W home tg (ks ++ [key]) = ((tg key).map fun t => distM W (home key) t).foldl max (reachM W home tg ks) := by
 unfold reachM
 rw [List.flatMap_append, List.foldl_append]
 simp

def waveIx (T : Int → List Int) (room : Int) (ws : List (List Int)) (key : Int) : Nat := (ws.findIdx? fun w => takesM room (w.map T) (T key)).getD ws.length

theorem waveAdd_eq (T : Int → List Int) (room : Int) (ws : List (List Int)) (key : Int) :
  waveAdd T room ws key = if waveIx T room ws key < ws.length then ws.set (waveIx T room ws key) (ws[waveIx T room ws key]?.getD [] ++ [key]) else ws ++ [[key]] := by
 unfold waveAdd waveIx
 cases h : ws.findIdx? fun w => takesM room (w.map T) (T key) with
 | none => simp
 | some k =>
  have hlt : k < ws.length := by
   rw [List.findIdx?_eq_some_iff_getElem] at h
   exact h.1
  simp only [Option.getD_some]
  rw [if_pos hlt]
  apply List.ext_getElem?
  intro j
  rw [List.getElem?_modify, List.getElem?_set]
  by_cases hj : k = j
  ·subst hj
   rw [if_pos rfl, if_pos hlt, List.getElem?_eq_getElem hlt]
   simp
  ·simp [hj]

theorem waveIx_le (T : Int → List Int) (room : Int) (ws : List (List Int)) (key : Int) : waveIx T room ws key ≤ ws.length := by
 unfold waveIx
 cases h : ws.findIdx? fun w => takesM room (w.map T) (T key) with
 | none => exact Nat.le_refl _
 | some k =>
  rw [List.findIdx?_eq_some_iff_getElem] at h
  exact Nat.le_of_lt h.1

theorem waveIx_spec {T : Int → List Int} {room : Int} {ws : List (List Int)} {key : Int} {k : Nat} (hk : k ≤ ws.length) (h1 : ∀ j, j < k → takesM room ((ws[j]?.getD []).map T) (T key) = false)
  (h2 : k < ws.length → takesM room ((ws[k]?.getD []).map T) (T key) = true) : waveIx T room ws key = k := by
 unfold waveIx
 rcases Nat.lt_or_ge k ws.length with hlt | hge
 ·have : ws.findIdx? (fun w => takesM room (w.map T) (T key)) = some k := by
   rw [List.findIdx?_eq_some_iff_getElem]
   refine ⟨hlt, ?_, fun j hj => ?_⟩
   ·have := h2 hlt
    rw [List.getElem?_eq_getElem hlt] at this
    exact this
   ·have := h1 j hj
    rw [List.getElem?_eq_getElem (by omega), Option.getD_some] at this
    rw [this]
    exact Bool.false_ne_true
  rw [this]; rfl
 ·have hkl : k = ws.length := by omega
  have : ws.findIdx? (fun w => takesM room (w.map T) (T key)) = none := by
   rw [List.findIdx?_eq_none_iff]
   intro w hw
   obtain ⟨j, hj⟩ := List.getElem?_of_mem hw
   have hjl := (List.getElem?_eq_some_iff.1 hj).1
   have := h1 j (by omega)
   rw [hj] at this
   exact this
  rw [this]; exact hkl.symm

theorem waveOf_add {T : Int → List Int} {room : Int} {ws : List (List Int)} {key : Int} (hn : ∀ w ∈ ws, key ∉ w) (x : Int) : waveOf (waveAdd T room ws key) x = if x = key then (waveIx T room ws key : Int) else waveOf ws x := by
 rw [waveAdd_eq]
 have hle := waveIx_le T room ws key
 generalize waveIx T room ws key = k at hle ⊢
 unfold waveOf
 by_cases hlt : k < ws.length
 ·rw [if_pos hlt]
  have hget : ws[k]? = some ws[k] := List.getElem?_eq_getElem hlt
  by_cases hx : x = key
  ·subst hx
   rw [if_pos rfl]
   have : (ws.set k (ws[k]?.getD [] ++ [x])).findIdx? (fun w => decide (x ∈ w)) = some k := by
    rw [List.findIdx?_eq_some_iff_getElem]
    refine ⟨by simpa using hlt, by simp, fun j hj => ?_⟩
    rw [List.getElem_set, if_neg (by omega)]
    simpa using hn _ (List.getElem_mem (by omega))
   rw [this]
  ·rw [if_neg hx]
   have : (ws.set k (ws[k]?.getD [] ++ [key])).findIdx? (fun w => decide (x ∈ w)) = ws.findIdx? (fun w => decide (x ∈ w)) := by
    have hm : (ws.set k (ws[k]?.getD [] ++ [key])).map (fun w => decide (x ∈ w)) = ws.map (fun w => decide (x ∈ w)) := by
     rw [List.map_set, hget, Option.getD_some]
     have : decide (x ∈ ws[k] ++ [key]) = decide (x ∈ ws[k]) := by
      congr 1
      rw [List.mem_append, List.mem_singleton]
      exact propext ⟨fun h => h.elim id fun h => absurd h hx, .inl⟩
     rw [this]
     apply List.ext_getElem?
     intro i
     rw [List.getElem?_set]
     by_cases hi : k = i
     ·subst hi
      rw [if_pos rfl, if_pos (by simpa using hlt), List.getElem?_map, hget]; rfl
     ·rw [if_neg hi]
    have key2 : ∀ {l m : List (List Int)} (p : List Int → Bool), l.map p = m.map p → l.findIdx? p = m.findIdx? p := by
     intro l m p h
     have e : ∀ l : List (List Int), l.findIdx? p = (l.map p).findIdx? id := fun l => by rw [List.findIdx?_map]; rfl
     rw [e l, e m, h]
    exact key2 _ hm
   rw [this]
 ·rw [if_neg hlt]
  have hk : k = ws.length := by omega
  by_cases hx : x = key
  ·subst hx
   rw [if_pos rfl]
   have : (ws ++ [[x]]).findIdx? (fun w => decide (x ∈ w)) = some k := by
    rw [List.findIdx?_append]
    have h0 : ws.findIdx? (fun w => decide (x ∈ w)) = none := by
     rw [List.findIdx?_eq_none_iff]
     intro w hw
     simpa using hn w hw
    rw [h0]
    simp [hk]
   rw [this]
  ·rw [if_neg hx]
   have : (ws ++ [[key]]).findIdx? (fun w => decide (x ∈ w)) = ws.findIdx? (fun w => decide (x ∈ w)) := by
    rw [List.findIdx?_append]
    have h1 : [[key]].findIdx? (fun w => decide (x ∈ w)) = none := by simp [hx]
    rw [h1]
    cases ws.findIdx? (fun w => decide (x ∈ w)) <;> rfl
   rw [this]

theorem wavesM_snoc (T : Int → List Int) (room : Int) (keys : List Int) (key : Int) : wavesM T room (keys ++ [key]) = waveAdd T room (wavesM T room keys) key := by
 unfold wavesM
 rw [List.foldl_append]; rfl

theorem mem_waveAdd {T : Int → List Int} {room : Int} {ws : List (List Int)} {key x : Int} : (∃ w ∈ waveAdd T room ws key, x ∈ w) ↔ (∃ w ∈ ws, x ∈ w) ∨ x = key := by
 rw [waveAdd_eq]
 have hle := waveIx_le T room ws key
 generalize waveIx T room ws key = k at hle ⊢
 split
 ·rename_i hlt
  have hget : ws[k]? = some ws[k] := List.getElem?_eq_getElem hlt
  rw [hget, Option.getD_some]
  constructor
  ·rintro ⟨w, hw, hx⟩
   rcases List.mem_or_eq_of_mem_set hw with hw | rfl
   ·exact .inl ⟨w, hw, hx⟩
   ·rcases List.mem_append.1 hx with hx | hx
    ·exact .inl ⟨_, List.getElem_mem hlt, hx⟩
    ·exact .inr (by simpa using hx)
  ·rintro (⟨w, hw, hx⟩ | rfl)
   ·obtain ⟨j, hj⟩ := List.getElem?_of_mem hw
    by_cases hjk : k = j
    ·subst hjk
     rw [hget] at hj
     cases hj
     exact ⟨_, List.mem_of_getElem? (i := k) (by rw [List.getElem?_set, if_pos rfl, if_pos hlt]), List.mem_append_left _ hx⟩
    ·exact ⟨w, List.mem_of_getElem? (i := j) (by rw [List.getElem?_set, if_neg hjk, hj]), hx⟩
   ·exact ⟨_, List.mem_of_getElem? (i := k) (by rw [List.getElem?_set, if_pos rfl, if_pos hlt]), by simp⟩
 ·constructor
  ·rintro ⟨w, hw, hx⟩
   rcases List.mem_append.1 hw with hw | hw
   ·exact .inl ⟨w, hw, hx⟩
   ·rw [List.mem_singleton] at hw
    subst hw
    exact .inr (by simpa using hx)
  ·rintro (⟨w, hw, hx⟩ | rfl)
   ·exact ⟨w, List.mem_append_left _ hw, hx⟩
   ·exact ⟨[x], by simp, by simp⟩

theorem mem_wavesM {T : Int → List Int} {room : Int} (keys : List Int) {x : Int} : (∃ w ∈ wavesM T room keys, x ∈ w) ↔ x ∈ keys := by
 refine snoc_ind (P := fun keys => (∃ w ∈ wavesM T room keys, x ∈ w) ↔ x ∈ keys) (by simp [wavesM]) (fun l y ih => ?_) keys
 rw [wavesM_snoc, mem_waveAdd, ih, List.mem_append, List.mem_singleton]

end Go.Gm
end
