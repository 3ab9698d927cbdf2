import Derived.Test.YtjjcoiicikaaiaaGreatPlaceMapsMr
import Derived.Test.YtjjcoiicikaaiaaGreatPlaceMapsPp
set_option linter.unusedVariables false
set_option linter.unusedSimpArgs false
set_option maxHeartbeats 4000000
section

namespace Go.Gm

def linkK (x : Int) (k : Nat) : Nat := (((List.range k).map fun (j : Nat) => ((2 ^ j : Nat) : Int)).filter fun b => decide (b ≠ 16)).countP fun b => decide (hasB x b)

theorem linkK_next (x : Int) (k : Nat) : linkK x (k + 1) = linkK x k + if ((2 ^ k : Nat) : Int) ≠ 16 ∧ hasB x ((2 ^ k : Nat) : Int) then 1 else 0 := by
 unfold linkK
 rw [List.range_succ, List.map_append, List.filter_append, List.countP_append]
 congr 1
 simp only [List.map_cons, List.map_nil]
 generalize ((2 ^ k : Nat) : Int) = b
 by_cases h : b = 16
 ·subst h; simp
 ·by_cases h2 : hasB x b <;> simp [h, h2]

theorem linkK_five (x : Int) : linkK x 5 = linkN x := rfl

theorem linkK_le (x : Int) (k : Nat) : linkK x k ≤ k := by
 unfold linkK
 refine Nat.le_trans List.countP_le_length (Nat.le_trans (List.length_filter_le _ _) ?_)
 simp

end Go.Gm

namespace Go.Proofs

open Go Go.Vx Go.Gm

theorem bits_and {a b : Nat} (ha : a < 2 ^ 63) (hb : b < 2 ^ 63) : bitsI .and .i64 (a : Int) (b : Int) = ((a &&& b : Nat) : Int) := by
 unfold bitsI
 dsimp only
 have hbb : IntKind.i64.bits = 64 := rfl
 have h1 : (BitVec.ofInt IntKind.i64.bits (a : Int) &&& BitVec.ofInt IntKind.i64.bits (b : Int)).toNat = a &&& b := by
  rw [BitVec.toNat_and]
  have e1 : (BitVec.ofInt IntKind.i64.bits (a : Int)).toNat = a := by rw [BitVec.toNat_ofInt, hbb]; omega
  have e2 : (BitVec.ofInt IntKind.i64.bits (b : Int)).toNat = b := by rw [BitVec.toNat_ofInt, hbb]; omega
  rw [e1, e2]
 have h2 : a &&& b ≤ a := Nat.and_le_left
 rw [h1, wrap_i64 (by omega) (by omega)]

theorem _root_.Go.Vx.VBit.and {a b : Int} {k : Int → Prop} (ha : 0 ≤ a ∧ a ≤ 4611686018427387904) (hb : 0 ≤ b ∧ b ≤ 4611686018427387904) (hk : k ((a.toNat &&& b.toNat : Nat) : Int)) : VBit .and .i64 a b k := by
 refine .mk ?_
 have := bits_and (a := a.toNat) (b := b.toNat) (by omega) (by omega)
 rw [Int.toNat_of_nonneg ha.1, Int.toNat_of_nonneg hb.1] at this
 rw [this]
 exact hk

theorem _root_.Go.Vx.VShL.dbl {a : Int} {k : Int → Prop} (h : 0 ≤ a ∧ a ≤ 1073741824) (hk : k (a * 2)) : VShL .i64 a 1 k := by
 refine .mk (by omega) ?_
 have e : min (1 : Int).toNat (IntKind.i64.bits) = 1 := rfl
 rw [e]
 have e2 : a * 2 ^ 1 = a * 2 := by omega
 rw [e2, wrap_i64 (by omega) (by omega)]
 exact hk

theorem outs_iter {α : Type} {w0 : World} {H : HP} {K : Value → HP → Prop} (o : List Int) (ho : OutsOk o) (hol : o.length ≤ 65536) (t1 t2 t3 : Value) (po : Option Addr) (co bo oo : Nat) (h1 : Sl w0 intV 1 o po o.length bo oo) (l b1 : Nat) (I : Nat → Nat → α → Prop) (G : α → HP) (x0 : α) (h0 : I 0 0 x0)
  (hH : HLe (.row b1 153 [t1, t2, t3, .slice po o.length co] :: G x0) H)
  (step : ∀ i k v x, o[i]? = some v → k < 5 → hasB v ((2 ^ k : Nat) : Int) → I i k x →
   VYield Tryz.cx.P w0 [] (.row b1 153 [t1, t2, t3, .slice po o.length co] :: G x) l [.agg #[.int .i64 (i : Int), .int .i64 ((2 ^ k : Nat) : Int)]] fun r H' => (r = .bool true ∧ ∃ y, I i (k + 1) y ∧ HLe (.row b1 153 [t1, t2, t3, .slice po o.length co] :: G y) H') ∨ (r = .bool false ∧ K (.tuple #[]) H'))
  (skip : ∀ i k v x, o[i]? = some v → k < 5 → ¬ hasB v ((2 ^ k : Nat) : Int) → I i k x → I i (k + 1) x)
  (next : ∀ i v x, o[i]? = some v → I i 5 x → I (i + 1) 0 x)
  (fin : ∀ x, I o.length 0 x → K (.tuple #[]) (.row b1 153 [t1, t2, t3, .slice po o.length co] :: G x)) :
  VCall Tryz.cx.P w0 [] H 150 [.func (.yield l) #[] #[], .pointer (some ⟨b1, 0, none⟩)] K := by
 refine VCall.le hH ?_
 refine VCall.inl (F := Tryz.fx150) Tryz.func150 rfl rfl rfl Tryz.ok150 ?_
 repeat' (conv => whnf); first | (refine VSeq.go ?_) | (refine VB.is ?_; refine VB.no (by omega) fun _ => ?_) | (refine VLd.is ?_; refine VLd.mk (.row aT (by rfl)) ?_) | (refine VAr.is ?_; refine oA ?_)
 all_goals (conv => whnf)
 refine VLoop.mk (α := Nat × α) (fun z => z.1 ≤ o.length ∧ I z.1 0 z.2) (fun z => [(1000000, .tuple #[]), (0, .func (.yield l) #[] #[]), (7, .slice po o.length co), (8, .int .i64 (o.length : Int)), (9, .int .i64 (z.1 : Int))])
  (fun z => .row b1 153 [t1, t2, t3, .slice po o.length co] :: G z.2) (fun z => o.length - z.1) (0, x0) ⟨Nat.zero_le _, h0⟩ aE aH ?_
 rintro ⟨i, x⟩ ⟨hi, hI⟩
 dsimp only at hi hI ⊢
 rcases Nat.lt_or_ge i o.length with hlt | hge
 ·obtain ⟨v, hv⟩ := h1.get hlt
  have hvr := ho v (List.mem_of_getElem? hv)
  repeat' (conv => whnf); first | (refine VIx.is ?_; refine VIx.mk (h1.ptr (by omega)) (by omega) (by omega) ?_) | (refine VLd.is ?_; refine VLd.mk (Rd.cast (h1.rd0 (by simp) (fun _ => rfl) hv rfl) (by first | omega | (dsimp only; omega) | rfl)) ?_) | (refine VSeq.go ?_) | (refine VB.is ?_; refine VB.yes (by omega) fun _ => ?_)
  all_goals (conv => whnf)
  refine VLoop.mk (α := Nat × α) (fun z => z.1 ≤ 5 ∧ I i z.1 z.2) (fun z => [(1000000, .tuple #[]), (0, .func (.yield l) #[] #[]), (3, .int .i64 (i : Int)), (4, .int .i64 v), (5, .int .i64 ((2 ^ z.1 : Nat) : Int)), (7, .slice po o.length co), (8, .int .i64 (o.length : Int)), (9, .int .i64 (i : Int))])
   (fun z => .row b1 153 [t1, t2, t3, .slice po o.length co] :: G z.2) (fun z => 5 - z.1) (0, x) ⟨by dsimp only; omega, hI⟩ aE aH ?_
  rintro ⟨k, x⟩ ⟨hk, hI⟩
  dsimp only at hk hI ⊢
  rcases Nat.lt_or_ge k 5 with hk5 | hk5
  ·have hst := step i k v x hv hk5
   have hsk := skip i k v x hv hk5
   have hp1 : 2 ^ (k + 1) = 2 * 2 ^ k := by rw [Nat.pow_succ]; omega
   have hp2 : 2 ^ k ≤ 16 := by
    have : (2 : Nat) ^ k ≤ 2 ^ 4 := Nat.pow_le_pow_right (by omega) (by omega)
    omega
   obtain ⟨pw, hpw⟩ : ∃ pw, 2 ^ k = pw := ⟨_, rfl⟩
   have hhas : hasB v (pw : Int) ↔ ((v.toNat &&& (pw : Int).toNat : Nat) : Int) ≠ 0 := by
    unfold hasB
    omega
   rw [hpw] at hst hsk hp1 hp2 ⊢
   have hsl : (pw : Int) * 2 = ((2 ^ (k + 1) : Nat) : Int) := by rw [hp1]; omega
   repeat' (conv => whnf); first | (refine VShL.is ?_; refine VShL.dbl (by omega) ?_; rw [hsl]) | (refine VBit.is ?_; refine VBit.and (by omega) (by omega) ?_) | (refine VYield.is ?_; refine VYield.is ?_; refine VYield.hle (VYield.mono (VYield.weak ?_ (hst (hhas.2 (by omega)) hI)) fun r H' hr => ?_); (focus (exact aH)); rcases hr with ⟨rfl, y, hy, hl⟩ | ⟨rfl, hK⟩ <;> first | refine ⟨_, hl, ?_⟩ | refine ⟨_, HLe.refl _, ?_⟩) | (refine VSeq.go ?_) | (refine VB.is ?_; refine VB.yes (by omega) fun _ => ?_) | (refine VB.split (fun _ => ?_) (fun _ => ?_))
   all_goals (conv => whnf)
   ·exact VNext.mk (k + 1, y) ⟨by dsimp only; omega, hy⟩ (by dsimp only; omega) aE aH
   ·exact hK
   ·exact VNext.mk (k + 1, x) ⟨by dsimp only; omega, hsk (fun h => absurd (hhas.1 h) (by omega)) hI⟩ (by dsimp only; omega) aE aH
  have hk5' : k = 5 := by omega
  subst hk5'
  repeat' (conv => whnf); first | (refine VSeq.go ?_) | (refine VB.is ?_; refine VB.no (by omega) fun _ => ?_) | (refine VLd.is ?_; refine VLd.mk (.row aT (by rfl)) ?_) | (refine VAr.is ?_; refine oA ?_)
  all_goals (conv => whnf)
  exact VNext.mk (i + 1, x) ⟨by dsimp only; omega, next i v x hv hI⟩ (by dsimp only; omega) aE aH
 have hil : i = o.length := by omega
 subst hil
 repeat' (conv => whnf); first | (refine VSeq.go ?_) | (refine VB.is ?_; refine VB.no (by omega) fun _ => ?_) | (refine VLd.is ?_; refine VLd.mk (.row aT (by rfl)) ?_) | (refine VAr.is ?_; refine oA ?_)
 all_goals (conv => whnf)
 exact fin x hI

end Go.Proofs
end

section

namespace Go.Gm

def flStep (v : Int → Int) (acc : Option (Int × Int)) (x : Int) : Option (Int × Int) :=
 match acc with
 | none => some (x, v x)
 | some (b, m) => if v x < m then some (x, v x) else some (b, m)

def firstL (v : Int → Int) (l : List Int) : Option (Int × Int) := l.foldl (flStep v) none

theorem firstL_snoc (v : Int → Int) (l : List Int) (x : Int) : firstL v (l ++ [x]) = flStep v (firstL v l) x := by
 unfold firstL; rw [List.foldl_append]; rfl

theorem snoc_ind {α : Type} {P : List α → Prop} (h0 : P []) (h1 : ∀ l x, P l → P (l ++ [x])) : ∀ l, P l := by
 intro l
 have key : ∀ n (l : List α), l.length = n → P l := by
  intro n
  induction n with
  | zero => intro l h; rw [List.eq_nil_of_length_eq_zero h]; exact h0
  | succ n ih =>
   intro l h
   have hne : l ≠ [] := fun e => by subst e; cases h
   rw [← List.dropLast_concat_getLast hne]
   refine h1 _ _ (ih _ ?_)
   rw [List.length_dropLast]; omega
 exact key _ l rfl

theorem firstL_mem {v : Int → Int} {l : List Int} {b m : Int} (h : firstL v l = some (b, m)) : b ∈ l ∧ m = v b ∧ ∀ x ∈ l, m ≤ v x := by
 revert b m
 refine snoc_ind (P := fun l => ∀ {b m : Int}, firstL v l = some (b, m) → b ∈ l ∧ m = v b ∧ ∀ x ∈ l, m ≤ v x) (by simp [firstL]) (fun l x ih => ?_) l
 intro b m h
 rw [firstL_snoc] at h
 cases hl : firstL v l with
 | none =>
  rw [hl] at h
  simp only [flStep, Option.some.injEq, Prod.mk.injEq] at h
  obtain ⟨rfl, rfl⟩ := h
  refine ⟨by simp, rfl, fun y hy => ?_⟩
  rcases List.mem_append.1 hy with hy | hy
  ·have : l = [] := by
    refine Decidable.byContradiction fun hne => ?_
    have key : ∀ l : List Int, l ≠ [] → firstL v l ≠ none := by
     refine snoc_ind (fun h => absurd rfl h) fun l x ih _ => ?_
     rw [firstL_snoc]
     cases firstL v l with
     | none => simp [flStep]
     | some p => simp only [flStep]; split <;> simp
    exact key l hne hl
   subst this; cases hy
  ·rw [List.mem_singleton] at hy; subst hy; omega
 | some p =>
  obtain ⟨b0, m0⟩ := p
  obtain ⟨g1, g2, g3⟩ := ih hl
  rw [hl] at h
  simp only [flStep] at h
  split at h
  ·simp only [Option.some.injEq, Prod.mk.injEq] at h
   obtain ⟨rfl, rfl⟩ := h
   refine ⟨by simp, rfl, fun y hy => ?_⟩
   rcases List.mem_append.1 hy with hy | hy
   ·have := g3 y hy; omega
   ·rw [List.mem_singleton] at hy; subst hy; omega
  ·simp only [Option.some.injEq, Prod.mk.injEq] at h
   obtain ⟨rfl, rfl⟩ := h
   refine ⟨List.mem_append_left _ g1, g2, fun y hy => ?_⟩
   rcases List.mem_append.1 hy with hy | hy
   ·exact g3 y hy
   ·rw [List.mem_singleton] at hy; subst hy; omega

def spaceP (C : Chp) (l : List Syn) (cores : List Int) (i : Nat) (k : Int) : Prop := k ∉ C.dead ∧ (useN cores k : Int) < C.nr ∧ (useR l cores k : Int) + rowN l i ≤ C.sy

instance (C : Chp) (l : List Syn) (cores : List Int) (i : Nat) (k : Int) : Decidable (spaceP C l cores i k) := by unfold spaceP; infer_instance

def allC (C : Chp) : List Int := (List.range (nCores C)).map fun (k : Nat) => (k : Int)

def spacesM (C : Chp) (l : List Syn) (cores : List Int) (i : Nat) : List Int := (allC C).filter fun k => decide (spaceP C l cores i k)

theorem mem_allC {C : Chp} {k : Int} : k ∈ allC C ↔ 0 ≤ k ∧ k < nCores C := by
 unfold allC
 rw [List.mem_map]
 constructor
 ·rintro ⟨j, hj, rfl⟩
  rw [List.mem_range] at hj
  omega
 ·intro h
  exact ⟨k.toNat, List.mem_range.2 (by omega), by omega⟩

def fitsR (C : Chp) (l : List Syn) (cores : List Int) : Prop := ∀ k : Nat, k < nCores C → (useN cores k : Int) ≤ C.nr ∧ (useR l cores k : Int) ≤ C.sy ∧ ¬ (0 < useN cores k ∧ (k : Int) ∈ C.dead)

instance (C : Chp) (l : List Syn) (cores : List Int) : Decidable (fitsR C l cores) := by unfold fitsR; exact Nat.decidableBallLT _ _

structure SoFar (C : Chp) (l : List Syn) (cores : List Int) : Prop where
 core : ∀ k ∈ cores, (0 ≤ k ∧ k < nCores C) ∧ k ∉ C.dead
 fits : fitsA C l cores

theorem useN_pos {cores : List Int} {k : Int} : 0 < useN cores k ↔ k ∈ cores := by
 unfold useN
 rw [List.countP_pos_iff]
 constructor
 ·rintro ⟨a, ha, h⟩
  rw [decide_eq_true_eq] at h
  subst h; exact ha
 ·intro h; exact ⟨k, h, by simp⟩

theorem SoFar.fitsR {C : Chp} {l : List Syn} {cores : List Int} (h : SoFar C l cores) : fitsR C l cores := fun k hk =>
 ⟨(h.fits k hk).1, (h.fits k hk).2, fun ⟨h1, h2⟩ => (h.core k (useN_pos.1 h1)).2 h2⟩

theorem soFar_of {C : Chp} {l : List Syn} {cores : List Int} (hr : ∀ k ∈ cores, 0 ≤ k ∧ k < nCores C) (h : Gm.fitsR C l cores) : SoFar C l cores :=
 ⟨fun k hk => ⟨hr k hk, fun hd => by
  obtain ⟨h1, h2⟩ := hr k hk
  obtain ⟨j, rfl⟩ : ∃ j : Nat, k = j := ⟨k.toNat, by omega⟩
  exact (h j (by omega)).2.2 ⟨useN_pos.2 hk, hd⟩⟩, fun k hk => ⟨(h k hk).1, (h k hk).2.1⟩⟩

theorem fits_snoc {C : Chp} {l : List Syn} {cores : List Int} (h : SoFar C l cores) {k : Int} (hk : 0 ≤ k ∧ k < nCores C) : Gm.fitsR C l (cores ++ [k]) ↔ spaceP C l cores cores.length k := by
 constructor
 ·intro hf
  obtain ⟨j, rfl⟩ : ∃ j : Nat, k = j := ⟨k.toNat, by omega⟩
  obtain ⟨h1, h2, h3⟩ := hf j (by omega)
  rw [useN_snoc, if_pos rfl] at h1 h3
  rw [useR_snoc, if_pos rfl] at h2
  exact ⟨fun hd => h3 ⟨by omega, hd⟩, by omega, by omega⟩
 ·rintro ⟨h1, h2, h3⟩ j hj
  have hf := h.fitsR j hj
  rw [useN_snoc, useR_snoc]
  by_cases e : k = (j : Int)
  ·rw [if_pos e, if_pos e]
   subst e
   exact ⟨by omega, by omega, fun hh => h1 hh.2⟩
  ·rw [if_neg e, if_neg e]
   exact hf

theorem SoFar.snoc {C : Chp} {l : List Syn} {cores : List Int} (h : SoFar C l cores) {k : Int} (hk : 0 ≤ k ∧ k < nCores C) (hs : spaceP C l cores cores.length k) : SoFar C l (cores ++ [k]) := by
 refine soFar_of (fun x hx => ?_) ((fits_snoc h hk).2 hs)
 rcases List.mem_append.1 hx with hx | hx
 ·exact (h.core x hx).1
 ·rw [List.mem_singleton] at hx; subst hx; exact hk

def near1 (i : Int) (cores : List Int) (k : Int) (s : Syn) : Prop := (s.frm = i ∧ (0 ≤ s.to ∧ s.to < cores.length) ∧ cores[s.to.toNat]? = some k) ∨ (s.to = i ∧ (0 ≤ s.frm ∧ s.frm < cores.length) ∧ cores[s.frm.toNat]? = some k)

instance (i : Int) (cores : List Int) (k : Int) (s : Syn) : Decidable (near1 i cores k s) := by unfold near1; infer_instance

def affM (l : List Syn) (i : Int) (cores : List Int) (k : Int) : Nat := l.countP fun s => decide (near1 i cores k s)

def stepP (C : Chp) (l : List Syn) (cores : List Int) : Option (Int × Int) := firstL (fun k => -(affM l cores.length cores k : Int)) (spacesM C l cores cores.length)

def placeF (C : Chp) (l : List Syn) : Nat → List Int → Option (List Int)
 | 0, cores => some cores
 | n + 1, cores => match stepP C l cores with
  | none => none
  | some (k, _) => placeF C l n (cores ++ [k])

def placeR (N : Net) (C : Chp) : List Int × Int :=
 if planE N C ≠ 0 then ([], planE N C) else match placeF C N.syns N.ps.length [] with
  | none => ([], 15)
  | some c => (c, 0)

theorem stepP_space {C : Chp} {l : List Syn} {cores : List Int} {k m : Int} (h : stepP C l cores = some (k, m)) : (0 ≤ k ∧ k < nCores C) ∧ spaceP C l cores cores.length k := by
 obtain ⟨h1, h2, h3⟩ := firstL_mem h
 obtain ⟨h4, h5⟩ := List.mem_filter.1 h1
 exact ⟨mem_allC.1 h4, of_decide_eq_true h5⟩

theorem SoFar.nil {C : Chp} {l : List Syn} (h : ChpOk C) : SoFar C l [] := by
 refine ⟨by simp, fun k hk => ?_⟩
 have e1 : useN [] (k : Int) = 0 := rfl
 have e2 : useR l [] (k : Int) = 0 := by
  unfold useR
  rw [List.countP_eq_zero]
  simp
 have := h.nr
 have := h.sy
 omega

def hangs (N : Net) (i key : Int) : Prop := key = i ∨ ∃ s ∈ N.syns, keyM N s.frm = key ∧ s.to = i

instance (N : Net) (i key : Int) : Decidable (hangs N i key) := by unfold hangs; infer_instance

end Go.Gm
end
