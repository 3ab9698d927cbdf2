import Derived.Test.YtjjcoiicikaaiaaGreatPlaceMapsQw
import Derived.Test.YtjjcoiicikaaiaaGreatPlaceMapsRa
set_option linter.unusedVariables false
set_option linter.unusedSimpArgs false
set_option maxHeartbeats 4000000

namespace Go.Gm

def synAt (l : List Syn) (k : Nat) : Syn := l[k]?.getD ⟨0, 0, 0, 0⟩

def partM {β : Type} (l : List Syn) (P : Nat → Bool) (F G : Syn → β) : List β := (List.range l.length).map fun k => if P k = true then F (synAt l k) else G (synAt l k)

def doneP (l : List Syn) (p i : Nat) (k : Nat) : Bool := decide ((synAt l k).to < (p : Int) ∨ ((synAt l k).to = (p : Int) ∧ k < i))

theorem synAt_of {l : List Syn} {k : Nat} {s : Syn} (h : l[k]? = some s) : synAt l k = s := by unfold synAt; rw [h]; rfl

theorem partM_len {β : Type} (l : List Syn) (P : Nat → Bool) (F G : Syn → β) : (partM l P F G).length = l.length := by unfold partM; simp

theorem partM_get {β : Type} {l : List Syn} {P : Nat → Bool} {F G : Syn → β} {k : Nat} {s : Syn} (h : l[k]? = some s) : (partM l P F G)[k]? = some (if P k = true then F s else G s) := by
 have hlt := (List.getElem?_eq_some_iff.1 h).1
 unfold partM
 rw [range_get hlt, synAt_of h]

theorem partM_set {β : Type} {l : List Syn} {P Q : Nat → Bool} {F G : Syn → β} {k : Nat} {s : Syn} (h : l[k]? = some s) (h1 : Q k = true) (h2 : ∀ j, j ≠ k → Q j = P j) : partM l Q F G = (partM l P F G).set k (F s) := by
 have hlt := (List.getElem?_eq_some_iff.1 h).1
 unfold partM
 rw [range_set (f := fun k => if P k = true then F (synAt l k) else G (synAt l k)) hlt fun i hi => by rw [h2 i hi], if_pos h1, synAt_of h]

theorem partM_congr {β : Type} {l : List Syn} {P Q : Nat → Bool} {F G : Syn → β} (h : ∀ k, k < l.length → Q k = P k) : partM l Q F G = partM l P F G :=
 range_congr fun i hi => by rw [h i hi]

theorem partM_all {β : Type} {l : List Syn} {P : Nat → Bool} {F G : Syn → β} (h : ∀ k, k < l.length → P k = true) : partM l P F G = l.map F := by
 apply List.ext_getElem?
 intro i
 by_cases hi : i < l.length
 ·rw [partM_get (List.getElem?_eq_getElem hi), if_pos (h i hi), List.getElem?_map, List.getElem?_eq_getElem hi]; rfl
 ·rw [List.getElem?_eq_none (by rw [partM_len]; omega), List.getElem?_eq_none (by simp; omega)]

theorem partM_none {β : Type} {l : List Syn} {P : Nat → Bool} {F G : Syn → β} (h : ∀ k, k < l.length → P k = false) : partM l P F G = l.map G := by
 apply List.ext_getElem?
 intro i
 by_cases hi : i < l.length
 ·rw [partM_get (List.getElem?_eq_getElem hi), if_neg (by rw [h i hi]; simp), List.getElem?_map, List.getElem?_eq_getElem hi]; rfl
 ·rw [List.getElem?_eq_none (by rw [partM_len]; omega), List.getElem?_eq_none (by simp; omega)]

theorem done_next {l : List Syn} {p i : Nat} {s : Syn} (h : l[i]? = some s) (hs : s.to = (p : Int)) : doneP l p (i + 1) i = true ∧ ∀ j, j ≠ i → doneP l p (i + 1) j = doneP l p i j := by
 unfold doneP
 refine ⟨decide_eq_true (.inr ⟨by rw [synAt_of h, hs], by omega⟩), fun j hj => decide_eq_decide.2 ?_⟩
 have : j < i + 1 ↔ j < i := by omega
 rw [this]

theorem done_skip {l : List Syn} {p i : Nat} {s : Syn} (h : l[i]? = some s) (hs : s.to ≠ (p : Int)) : ∀ j, doneP l p (i + 1) j = doneP l p i j := by
 intro j
 unfold doneP
 refine decide_eq_decide.2 ?_
 by_cases e : j = i
 ·subst e
  rw [synAt_of h]
  simp [hs]
 ·have : j < i + 1 ↔ j < i := by omega
  rw [this]

theorem done_end {l : List Syn} {p : Nat} : ∀ j, j < l.length → doneP l (p + 1) 0 j = doneP l p l.length j := by
 intro j hj
 unfold doneP
 refine decide_eq_decide.2 ?_
 omega

def errsR (Z : List Int) (l : List Syn) (n p i : Nat) : List Int := (List.range n).map fun k => if k < p then errQ Z l k else if k = p then errQ Z (l.take i) k else 0

def scalesR (Z : List Int) (n p : Nat) : List Int := (List.range n).map fun k => if k < p then Z[k]?.getD 0 else 0

theorem off_nonneg (Z : List Int) (s : Syn) : 0 ≤ offS Z s := by unfold offS; omega

theorem errs_zero {Z : List Int} {l : List Syn} {n : Nat} (h : ∀ s ∈ l, 0 ≤ s.to ∧ s.to < (n : Int)) : (∀ k, k < n → errQ Z l k = 0) ↔ ∀ s ∈ l, offS Z s = 0 := by
 constructor
 ·intro ha s hs
  obtain ⟨h1, h2⟩ := h s hs
  obtain ⟨t, ht⟩ : ∃ t : Nat, s.to = t := ⟨s.to.toNat, by omega⟩
  have h3 := ha t (by omega)
  unfold errQ at h3
  have h4 := (foldl_max_ge ((l.filter fun s => decide (s.to = (t : Int))).map (offS Z)) 0).2 (offS Z s) (List.mem_map.2 ⟨s, List.mem_filter.2 ⟨hs, decide_eq_true ht⟩, rfl⟩)
  have := off_nonneg Z s
  omega
 ·intro ha k hk
  unfold errQ
  rcases foldl_max_mem ((l.filter fun s => decide (s.to = (k : Int))).map (offS Z)) 0 with e | e
  ·exact e
  ·obtain ⟨s, hs, he⟩ := List.mem_map.1 e
   rw [← he]
   exact ha s (List.mem_filter.1 hs).1

theorem errsR_zero (Z : List Int) (l : List Syn) (n : Nat) : errsR Z l n 0 0 = List.replicate n 0 := by
 rw [← range_const]
 refine range_congr fun k hk => ?_
 rw [if_neg (by omega)]
 split
 ·rename_i h; subst h; rfl
 ·rfl

theorem errsR_all (Z : List Int) (l : List Syn) (n : Nat) : errsR Z l n n 0 = errsM Z l n :=
 range_congr fun k hk => by rw [if_pos hk]

theorem errsR_end (Z : List Int) (l : List Syn) (n p : Nat) : errsR Z l n p l.length = errsR Z l n (p + 1) 0 := by
 refine range_congr fun k hk => ?_
 rw [List.take_length]
 by_cases h1 : k < p
 ·rw [if_pos h1, if_pos (by omega)]
 ·rw [if_neg h1]
  by_cases h2 : k = p
  ·rw [if_pos h2, if_pos (by omega)]
  ·rw [if_neg h2, if_neg (by omega)]
   split
   ·rfl
   ·rfl

theorem errsR_next {Z : List Int} {l : List Syn} {n p i : Nat} {s : Syn} (h : l[i]? = some s) (hs : s.to = (p : Int)) (hp : p < n) : errsR Z l n p (i + 1) = (errsR Z l n p i).set p (max (errQ Z (l.take i) p) (offS Z s)) := by
 unfold errsR
 rw [range_set (f := fun k => if k < p then errQ Z l k else if k = p then errQ Z (l.take i) k else 0) hp fun k hk => by rw [if_neg hk, if_neg hk], if_neg (by omega), if_pos rfl, take_snoc h, errQ_snoc, if_pos hs]

theorem errsR_skip {Z : List Int} {l : List Syn} {n p i : Nat} {s : Syn} (h : l[i]? = some s) (hs : s.to ≠ (p : Int)) : errsR Z l n p (i + 1) = errsR Z l n p i := by
 refine range_congr fun k hk => ?_
 by_cases h2 : k = p
 ·subst h2
  rw [take_snoc h, errQ_snoc, if_neg hs]
 ·rw [if_neg h2, if_neg h2]

theorem errsR_get {Z : List Int} {l : List Syn} {n p i : Nat} (hp : p < n) : (errsR Z l n p i)[p]? = some (errQ Z (l.take i) p) := by
 unfold errsR
 rw [range_get hp, if_neg (by omega), if_pos rfl]

theorem scalesR_zero (Z : List Int) (n : Nat) : scalesR Z n 0 = List.replicate n 0 := by
 rw [← range_const]
 exact range_congr fun k hk => by rw [if_neg (by omega)]

theorem scalesR_next {Z : List Int} {n p : Nat} {z : Int} (h : Z[p]? = some z) (hp : p < n) : scalesR Z n (p + 1) = (scalesR Z n p).set p z := by
 unfold scalesR
 rw [range_set (f := fun k => if k < p then Z[k]?.getD 0 else 0) hp fun k hk => ?_, if_pos (by omega), h]
 ·rfl
 ·by_cases h1 : k < p
  ·rw [if_pos h1, if_pos (by omega)]
  ·rw [if_neg h1, if_neg (by omega)]

theorem scalesR_all {Z : List Int} {n : Nat} (h : Z.length = n) : scalesR Z n n = Z := by
 apply List.ext_getElem?
 intro i
 by_cases hi : i < n
 ·unfold scalesR
  rw [range_get hi, if_pos hi, List.getElem?_eq_getElem (by omega)]; rfl
 ·rw [List.getElem?_eq_none (by unfold scalesR; simp; omega), List.getElem?_eq_none (by omega)]

theorem done_not {l : List Syn} {p i : Nat} {s : Syn} (h : l[i]? = some s) (hs : s.to = (p : Int)) : doneP l p i i = false := by
 unfold doneP
 rw [synAt_of h]
 exact decide_eq_false (by omega)

def exR (Z : List Int) (l : List Syn) (p : Nat) : Bool := (List.range p).all fun k => decide (errQ Z l k = 0)

theorem exR_next (Z : List Int) (l : List Syn) (p : Nat) : exR Z l (p + 1) = (exR Z l p && decide (errQ Z l p = 0)) := by
 unfold exR
 rw [List.range_succ, List.all_append]
 simp

theorem exR_all {Z : List Int} {l : List Syn} {n : Nat} (h : ∀ s ∈ l, 0 ≤ s.to ∧ s.to < (n : Int)) : exR Z l n = l.all fun s => decide (offS Z s = 0) := by
 have h1 := errs_zero (Z := Z) h
 unfold exR
 rw [Bool.eq_iff_iff, List.all_eq_true, List.all_eq_true]
 constructor
 ·intro ha s hs
  exact decide_eq_true (h1.1 (fun k hk => of_decide_eq_true (ha k (List.mem_range.2 hk))) s hs)
 ·intro ha k hk
  exact decide_eq_true (h1.2 (fun s hs => of_decide_eq_true (ha s hs)) k (List.mem_range.1 hk))

end Go.Gm

namespace Go.Proofs

open Go Go.Vx Go.Gm

theorem refQuantise_any (N : Net) (hN : N.wf) (bits : Int) (hbi : I64 bits) (pn : Option Addr) (cn bn on : Nat) (qs : Option Addr) (cs bs os : Nat) (w : World) (h1 : Sl w parV 8 N.ps pn N.ps.length bn on) (h2 : Sl w synV 4 N.syns qs N.syns.length bs os) :
  Calls Tryz.prog 21 #[.agg #[.slice pn N.ps.length cn, .int .i64 N.inputs, .slice qs N.syns.length cs], .int .i64 bits] w fun e w' => ∃ y : QP, e = .returned (.tuple #[.agg (quantC y (quantRes N bits)).toArray, .int .i64 (qErr N bits)]) ∧ True ∧ St w [] (quantH y (quantRes N bits)) w' := by
 have hfin : ∀ w' H, St w [] H w' → ∀ E, E ≠ 0 → qErr N bits = E → ∃ y : QP, Ending.returned (.tuple #[.agg #[.slice none 0 0, .int .i64 0, .slice none 0 0, .slice none 0 0, .slice none 0 0, .slice none 0 0, .bool false], .int .i64 E]) = .returned (.tuple #[.agg (quantC y (quantRes N bits)).toArray, .int .i64 (qErr N bits)]) ∧ True ∧ St w [] (quantH y (quantRes N bits)) w' := by
  intro w' H hw' E hE he
  have hr : quantRes N bits = qNone := by unfold quantRes; rw [if_pos (by omega)]
  rw [hr, he]
  exact ⟨qpNil, rfl, trivial, hw'.le (HLe.nilv (HLe.nilv (HLe.nilv (HLe.nilv (HLe.nilv .nil)))))⟩
 unfold I64 at hbi
 refine enter (C := Tryz.cx) (F := Tryz.fx21) (args := [_, _]) Tryz.func21 rfl rfl rfl Tryz.ok21 (St.start w []) ?_
 refine VSeq.go ?_
 repeat' (conv => whnf); first | (refine VNew.mk fun b4 => ?_)
 all_goals (conv => whnf)
 rename_i b2
 by_cases hq : qErr N bits ≠ 0
 ·have hq2 := hq
  unfold qErr at hq2
  repeat' (conv => whnf); first | (refine VCall.isF 51 ?_; refine VCall.inl (F := Tryz.fx51) Tryz.func51 rfl rfl rfl Tryz.ok51 ?_) | (refine VCall.isF 58 ?_; refine VCall.valR (fun w' hw' => refNetCheck_any N hN _ _ _ _ _ _ _ _ _ (h1.keep hw' (by simp)) (h2.keep hw' (by simp))) ?_) | (refine VSeq.go ?_) | (refine VB.is ?_; refine VB.no (by omega) fun _ => ?_) | (refine VB.split (fun _ => ?_) (fun _ => ?_)) | (refine VLd.is ?_; refine VLd.mk (.row aT (by rfl)) ?_) | (refine VSt.is ?_; refine VSt.row aT (by rfl) (by first | rfl | assumption) ?_)
  all_goals (conv => whnf)
  all_goals first
   | exact ⟨fun w' hw' => hfin w' _ hw' _ (by omega) (by unfold qErr; first | rw [if_pos (by omega)] | rw [if_neg (by omega), if_pos (by omega)])⟩
   | trace_state
 have hq0 := Decidable.not_not.1 hq
 have hzero : netchk N = 0 ∧ (2 ≤ bits ∧ bits ≤ 16) := by
  unfold qErr at hq0
  split at hq0
  ·omega
  ·split at hq0
   ·omega
   ·rename_i a b; exact ⟨by omega, by omega⟩
 obtain ⟨hc0, hb⟩ := hzero
 have hOk := netchk_zero.1 hc0
 have hfewP := hOk.few
 have hsomeP := hOk.some
 have hfewS := hOk.fewS
 have hwts := wts_of hOk
 have hhalf := half_ok hb
 obtain ⟨B, rfl⟩ : ∃ B : Nat, bits = B := ⟨bits.toNat, by omega⟩
 obtain ⟨half, hhf⟩ : ∃ half, halfM (B : Int) = half := ⟨_, rfl⟩
 rw [hhf] at hhalf
 have hpow : (2 : Int) ^ (B - 1) = half := by rw [← hhf]; unfold halfM; rw [Int.toNat_natCast]
 have hpb : ∀ i : Nat, 1 ≤ i → i ≤ B → (1 : Int) ≤ 2 ^ (i - 1) ∧ (2 : Int) ^ (i - 1) ≤ 32768 := fun i h3 h4 => by
  have e : ((2 : Int) ^ (i - 1)) = ((2 ^ (i - 1) : Nat) : Int) := by simp
  have g1 : 2 ^ (i - 1) ≤ 2 ^ 15 := Nat.pow_le_pow_right (by omega) (by omega)
  have g2 : 0 < 2 ^ (i - 1) := Nat.pow_pos (by omega)
  rw [e]
  omega
 have hres : quantRes N B = ⟨N.ps, N.inputs, N.syns.map (synQ (scalesM N half)), scalesM N half, N.syns.map (quotS (scalesM N half)), errsM (scalesM N half) N.syns N.ps.length, N.syns.all fun s => decide (offS (scalesM N half) s = 0)⟩ := by
  unfold quantRes
  rw [if_neg (by omega), ← hhf]
  rfl
 clear hfin hq
 repeat' (conv => whnf); first | (refine VCall.isF 51 ?_; refine VCall.inl (F := Tryz.fx51) Tryz.func51 rfl rfl rfl Tryz.ok51 ?_) | (refine VCall.isF 58 ?_; refine VCall.valR (fun w' hw' => refNetCheck_any N hN _ _ _ _ _ _ _ _ _ (h1.keep hw' (by simp)) (h2.keep hw' (by simp))) ?_) | (refine VSeq.go ?_) | (refine VB.is ?_; refine VB.yes (by omega) fun _ => ?_) | (refine VB.is ?_; refine VB.no (by omega) fun _ => ?_) | (refine VLd.is ?_; refine VLd.mk (.row aT (by rfl)) ?_)
 all_goals (conv => whnf)
 refine VLoop.mk (α := Nat) (fun i => 1 ≤ i ∧ i ≤ B) (fun i => [(1000000, .tuple #[]), (1, .int .i64 (B : Int)), (2, .pointer (some ⟨b2, 0, none⟩)), (4, .pointer (some ⟨b4, 0, none⟩)), (5, .int .i64 0), (7, .int .i64 (2 ^ (i - 1))), (8, .int .i64 (i : Int))])
  (fun _ => [.row b2 39 [.slice pn N.ps.length cn, .int .i64 N.inputs, .slice qs N.syns.length cs], .row b4 45 [.slice none 0 0, .int .i64 0, .slice none 0 0, .slice none 0 0, .slice none 0 0, .slice none 0 0, .bool false]]) (fun i => B - i) 1 (by omega) aE aH ?_
 rintro i ⟨hi1, hi2⟩
 obtain ⟨g1, g2⟩ := hpb i hi1 hi2
 rcases Nat.lt_or_ge i B with hlt | hge
 ·have hnx : 2 * (2 : Int) ^ (i - 1) = 2 ^ (i + 1 - 1) := by
   rw [show i + 1 - 1 = (i - 1) + 1 by omega, Int.pow_succ, Int.mul_comm]
  obtain ⟨x, hx⟩ : ∃ x, (2 : Int) ^ (i - 1) = x := ⟨_, rfl⟩
  rw [hx] at g1 g2 hnx ⊢
  repeat' (conv => whnf); first | (refine VSeq.go ?_) | (refine VB.is ?_; refine VB.yes (by omega) fun _ => ?_) | (refine VB.is ?_; refine VB.no (by omega) fun _ => ?_) | (refine VLd.is ?_; refine VLd.mk (.row aT (by rfl)) ?_) | (refine VSt.is ?_; refine VSt.row aT (by rfl) (by first | rfl | assumption) ?_) | (refine VAr.is ?_; refine oA ?_)
  all_goals (conv => whnf)
  exact VNext.mk (i + 1) ⟨by omega, by omega⟩ (by omega) (by rw [← hnx]; exact aE) aH
 have hiB : i = B := by omega
 subst hiB
 rw [hpow]
 repeat' (conv => whnf); first | (refine VNew.mk fun b10 => ?_) | (refine VMk.is ?_; refine VMk.mk (by omega) (by omega) (by (try dsimp only); omega) (by omega) fun be => ?_) | (refine VSeq.is ?_; refine VSeq.isN 14 rfl ?_; refine VSeq.cut (at_ := 14) (α := (Nat × Nat) × Nat × Nat) (fun _ => True) (fun z => [(1000000, .tuple #[]), (2, .pointer (some ⟨b2, 0, none⟩)), (4, .pointer (some ⟨b4, 0, none⟩)), (5, .int .i64 0), (7, .int .i64 (half - 1)), (9, .int .i64 (0 - half)), (10, .pointer (some ⟨z.1.1, 0, none⟩))]) (fun z => [.row b2 39 [.slice pn N.ps.length cn, .int .i64 N.inputs, .slice qs N.syns.length cs], .row b4 45 [.slice none 0 0, .int .i64 0, .slice none 0 0, .slice none 0 0, .slice none 0 0, .slice none 0 0, .bool false], .row z.1.1 45 [.slice none 0 0, .int .i64 0, .slice none 0 0, .slice (some ⟨z.1.2, 0, none⟩) N.ps.length N.ps.length, .slice (some ⟨z.2.1, 0, none⟩) N.syns.length N.syns.length, .slice (some ⟨z.2.2, 0, none⟩) N.ps.length N.ps.length, .bool true], .vec (some ⟨z.1.2, 0, none⟩) N.ps.length N.ps.length 3 1 (flat intV (List.replicate N.ps.length 0)), .vec (some ⟨z.2.1, 0, none⟩) N.syns.length N.syns.length 3 1 (flat intV (List.replicate N.syns.length 0)), .vec (some ⟨z.2.2, 0, none⟩) N.ps.length N.ps.length 3 1 (flat intV (List.replicate N.ps.length 0))]) ?_ ?_) | (refine VSeq.go ?_) | (refine VB.is ?_; refine VB.no (by omega) fun _ => ?_) | (refine VLd.is ?_; refine VLd.mk (.row aT (by rfl)) ?_) | (refine VSt.is ?_; refine VSt.row aT (by rfl) (by first | rfl | assumption) ?_) | (refine VAr.is ?_; refine oA ?_) | (refine VKeep.is ?_; refine VKeep.mk aH ?_) | (refine VHs.mk _ (.refl _) ?_) | (refine And.intro ?_ ?_)
 all_goals (conv => whnf)
 all_goals try (rename_i u v; first | exact VMid.mk ((b10, u), v, be) trivial aE (by rw [← flat_ints, ← flat_ints]; exact aH) | exact VMid.mk ((b10, v), u, be) trivial aE (by rw [← flat_ints, ← flat_ints]; exact aH) | exact VMid.mk ((b10, u), be, v) trivial aE (by rw [← flat_ints, ← flat_ints]; exact aH) | exact VMid.mk ((b10, v), be, u) trivial aE (by rw [← flat_ints, ← flat_ints]; exact aH) | exact VMid.mk ((b10, be), u, v) trivial aE (by rw [← flat_ints, ← flat_ints]; exact aH) | exact VMid.mk ((b10, be), v, u) trivial aE (by rw [← flat_ints, ← flat_ints]; exact aH))
 rintro ⟨⟨b10, bz⟩, bq, be⟩ _
 dsimp only
 refine VSeq.cut (at_ := 15) (α := (Option Addr × Nat) × Option Addr × Nat) (fun y => 0 < N.syns.length → ∃ g, y.2.1 = some ⟨g, 0, none⟩) (fun y => [(1000000, .tuple #[]), (2, .pointer (some ⟨b2, 0, none⟩)), (4, .pointer (some ⟨b4, 0, none⟩)), (5, .int .i64 0), (7, .int .i64 (half - 1)), (9, .int .i64 (0 - half)), (10, .pointer (some ⟨b10, 0, none⟩))])
  (fun y => [.row b2 39 [.slice pn N.ps.length cn, .int .i64 N.inputs, .slice qs N.syns.length cs], .row b4 45 [.slice none 0 0, .int .i64 0, .slice none 0 0, .slice none 0 0, .slice none 0 0, .slice none 0 0, .bool false], .row b10 45 [.slice y.1.1 N.ps.length y.1.2, .int .i64 N.inputs, .slice y.2.1 N.syns.length y.2.2, .slice (some ⟨bz, 0, none⟩) N.ps.length N.ps.length, .slice (some ⟨bq, 0, none⟩) N.syns.length N.syns.length, .slice (some ⟨be, 0, none⟩) N.ps.length N.ps.length, .bool true], .vec y.1.1 N.ps.length y.1.2 74 8 (flat parV N.ps), .vec y.2.1 N.syns.length y.2.2 70 4 (flat synV N.syns), .vec (some ⟨bz, 0, none⟩) N.ps.length N.ps.length 3 1 (flat intV (List.replicate N.ps.length 0)), .vec (some ⟨bq, 0, none⟩) N.syns.length N.syns.length 3 1 (flat intV (List.replicate N.syns.length 0)), .vec (some ⟨be, 0, none⟩) N.ps.length N.ps.length 3 1 (flat intV (List.replicate N.ps.length 0))]) ?_ ?_
 ·repeat' (conv => whnf); first | (refine VHs.is ?_; refine VHs.mk [.row b2 39 [.slice pn N.ps.length cn, .int .i64 N.inputs, .slice qs N.syns.length cs]] aH ?_) | (refine VAp.is ?_; refine VAp.own aT (h1.src (by simp) (fun _ => rfl)) (flat_one_cell (by simp [parV, Value.oneCell'])) (by (try dsimp only); omega) (by simp only [maxLen]; omega) fun p1 c1 hp1 => ?_) | (refine VAp.is ?_; refine VAp.own aT (h2.src (by simp) (fun _ => rfl)) (flat_one_cell (by simp [synV, Value.oneCell'])) (by (try dsimp only); omega) (by simp only [maxLen]; omega) fun p2 c2 hp2 => ?_) | (refine VLd.is ?_; refine VLd.mk (.row aT (by rfl)) ?_) | (refine VSt.is ?_; refine VSt.row aT (by rfl) (by first | rfl | assumption) ?_) | (refine VNew.mk fun _ => ?_) | (refine VKeep.is ?_; refine VKeep.mk aH ?_) | (refine And.intro ?_ ?_)
  all_goals (conv => whnf)
  all_goals (rw [Nat.zero_add] at hp2; exact VMid.mk ((p1, c1), p2, c2) hp2 (by rw [Nat.zero_add, Nat.zero_add]; exact aE) (by rw [Nat.zero_add, Nat.zero_add]; exact aH))
 rintro ⟨⟨yp, ycp⟩, ys, ycs⟩ hys
 dsimp only at hys ⊢
 obtain ⟨Z, hZ⟩ : ∃ Z, scalesM N half = Z := ⟨_, rfl⟩
 have hZl := scalesM_len N half
 have hqb := fun s hs => quot_bounds hOk hhalf (s := s) hs
 rw [hZ] at hres hZl hqb
 have hsyn : ∀ s ∈ N.syns, 0 ≤ s.to ∧ s.to < (N.ps.length : Int) := fun s hs => by have := (hOk.syns s hs).2.1; omega
 have hdone0 : ∀ k, k < N.syns.length → doneP N.syns 0 0 k = false := fun k hk => by
  have := hsyn _ (List.getElem_mem hk)
  unfold doneP
  rw [synAt_of (List.getElem?_eq_getElem hk)]
  exact decide_eq_false (by omega)
 have hdoneN : ∀ k, k < N.syns.length → doneP N.syns N.ps.length 0 k = true := fun k hk => by
  have := hsyn _ (List.getElem_mem hk)
  unfold doneP
  rw [synAt_of (List.getElem?_eq_getElem hk)]
  exact decide_eq_true (by omega)
 have hz0 : N.syns.map (fun _ => (0 : Int)) = List.replicate N.syns.length 0 := by
  rw [List.map_const']
 repeat' (conv => whnf); first | (refine VSeq.go ?_) | (refine VB.is ?_; refine VB.yes (by omega) fun _ => ?_) | (refine VB.is ?_; refine VB.no (by omega) fun _ => ?_) | (refine VLd.is ?_; refine VLd.mk (.row aT (by rfl)) ?_) | (refine VSt.is ?_; refine VSt.row aT (by rfl) (by first | rfl | assumption) ?_) | (refine VAr.is ?_; refine oA ?_)
 all_goals (conv => whnf)
 refine VLoop.mk (α := Nat × Bool) (fun y => y.1 ≤ N.ps.length ∧ y.2 = exR Z N.syns y.1) (fun y => [(1000000, .tuple #[]), (2, .pointer (some ⟨b2, 0, none⟩)), (4, .pointer (some ⟨b4, 0, none⟩)), (5, .int .i64 0), (7, .int .i64 (half - 1)), (9, .int .i64 (0 - half)), (10, .pointer (some ⟨b10, 0, none⟩)), (11, .int .i64 (y.1 : Int))])
  (fun y => [.row b2 39 [.slice pn N.ps.length cn, .int .i64 N.inputs, .slice qs N.syns.length cs], .row b4 45 [.slice none 0 0, .int .i64 0, .slice none 0 0, .slice none 0 0, .slice none 0 0, .slice none 0 0, .bool false], .row b10 45 [.slice yp N.ps.length ycp, .int .i64 N.inputs, .slice ys N.syns.length ycs, .slice (some ⟨bz, 0, none⟩) N.ps.length N.ps.length, .slice (some ⟨bq, 0, none⟩) N.syns.length N.syns.length, .slice (some ⟨be, 0, none⟩) N.ps.length N.ps.length, .bool y.2], .vec yp N.ps.length ycp 74 8 (flat parV N.ps), .vec ys N.syns.length ycs 70 4 (flat synV (partM N.syns (doneP N.syns y.1 0) (synQ Z) id)), .vec (some ⟨bz, 0, none⟩) N.ps.length N.ps.length 3 1 (flat intV (scalesR Z N.ps.length y.1)), .vec (some ⟨bq, 0, none⟩) N.syns.length N.syns.length 3 1 (flat intV (partM N.syns (doneP N.syns y.1 0) (quotS Z) fun _ => 0)), .vec (some ⟨be, 0, none⟩) N.ps.length N.ps.length 3 1 (flat intV (errsR Z N.syns N.ps.length y.1 0))]) (fun y => N.ps.length - y.1) (0, true) ⟨by dsimp only; omega, rfl⟩ aE (by dsimp only; rw [partM_none hdone0, partM_none hdone0, hz0, scalesR_zero, errsR_zero, List.map_id]; exact aH) ?_
 rintro ⟨p, ex⟩ ⟨hp, hex⟩
 dsimp only at hp hex ⊢
 rcases Nat.lt_or_ge p N.ps.length with hlt | hge
 rotate_left
 ·have hpN : p = N.ps.length := by omega
  subst hpN
  have e1 : (errsM Z N.syns N.ps.length).length = N.ps.length := by unfold errsM; simp
  rw [exR_all hsyn] at hex
  rw [partM_all hdoneN, partM_all hdoneN, scalesR_all hZl, errsR_all]
  repeat' (conv => whnf); first | (refine VSeq.go ?_) | (refine VB.is ?_; refine VB.yes (by omega) fun _ => ?_) | (refine VB.is ?_; refine VB.no (by omega) fun _ => ?_) | (refine VLd.is ?_; refine VLd.mk (.row aT (by rfl)) ?_) | (refine VSt.is ?_; refine VSt.row aT (by rfl) (by first | rfl | assumption) ?_) | (refine VAr.is ?_; refine oA ?_)
  all_goals (conv => whnf)
  refine ⟨fun w' hw' => ⟨⟨yp, ycp, ys, ycs, some ⟨bz, 0, none⟩, N.ps.length, some ⟨bq, 0, none⟩, N.syns.length, some ⟨be, 0, none⟩, N.ps.length⟩, ?_, trivial, ?_⟩⟩
  ·rw [hres, hq0]
   unfold quantC
   dsimp only
   rw [List.length_map, List.length_map, hZl, e1, ← hex]
   rfl
  ·rw [hres]
   unfold quantH
   dsimp only
   rw [List.length_map, List.length_map, hZl, e1]
   exact hw'.le aH
 obtain ⟨k1, k2, k3, k4⟩ := scale_spec hwts hhalf.1 p
 have hsg := scalesM_get (N := N) (half := half) hlt
 rw [hZ] at hsg
 obtain ⟨T, hT⟩ : ∃ T, scaleM N.syns half p = T := ⟨_, rfl⟩
 rw [hT] at k1 k2 k3 k4 hsg
 have hsn := scalesR_next hsg hlt
 have hsr : (scalesR Z N.ps.length p)[p]? = some 0 := by
  unfold scalesR
  rw [range_get hlt, if_neg (by omega)]
 repeat' (conv => whnf); first | (refine VSeq.go ?_) | (refine VB.is ?_; refine VB.yes (by omega) fun _ => ?_) | (refine VB.is ?_; refine VB.no (by omega) fun _ => ?_) | (refine VLd.is ?_; refine VLd.mk (.row aT (by rfl)) ?_) | (refine VSt.is ?_; refine VSt.row aT (by rfl) (by first | rfl | assumption) ?_) | (refine VAr.is ?_; refine oA ?_)
 all_goals (conv => whnf)
 refine VLoop.kr (α := Nat × Bool) [1000000, 2, 4, 5, 7, 9, 10, 11] rfl (fun y => (y.2 = true → y.1 = T) ∧ (y.2 = false → y.1 < T)) (fun y K => (12, .int .i64 (y.1 : Int)) :: (13, .bool y.2) :: K)
  (fun _ => [.row b2 39 [.slice pn N.ps.length cn, .int .i64 N.inputs, .slice qs N.syns.length cs], .row b4 45 [.slice none 0 0, .int .i64 0, .slice none 0 0, .slice none 0 0, .slice none 0 0, .slice none 0 0, .bool false], .row b10 45 [.slice yp N.ps.length ycp, .int .i64 N.inputs, .slice ys N.syns.length ycs, .slice (some ⟨bz, 0, none⟩) N.ps.length N.ps.length, .slice (some ⟨bq, 0, none⟩) N.syns.length N.syns.length, .slice (some ⟨be, 0, none⟩) N.ps.length N.ps.length, .bool ex], .vec yp N.ps.length ycp 74 8 (flat parV N.ps), .vec ys N.syns.length ycs 70 4 (flat synV (partM N.syns (doneP N.syns p 0) (synQ Z) id)), .vec (some ⟨bz, 0, none⟩) N.ps.length N.ps.length 3 1 (flat intV (scalesR Z N.ps.length p)), .vec (some ⟨bq, 0, none⟩) N.syns.length N.syns.length 3 1 (flat intV (partM N.syns (doneP N.syns p 0) (quotS Z) fun _ => 0)), .vec (some ⟨be, 0, none⟩) N.ps.length N.ps.length 3 1 (flat intV (errsR Z N.syns N.ps.length p 0))]) (fun y => T - y.1) (0, false) ⟨by simp, fun _ => by dsimp only; omega⟩ aE aH ?_
 rintro ⟨s, f⟩ ⟨hf1, hf2⟩
 dsimp only at hf1 hf2 ⊢
 cases f with
 | false =>
  have hsT := hf2 rfl
  clear hf1 hf2
  repeat' (conv => whnf); first | (refine VSeq.go ?_) | (refine VB.is ?_; refine VB.yes (by omega) fun _ => ?_) | (refine VB.is ?_; refine VB.no (by omega) fun _ => ?_) | (refine VLd.is ?_; refine VLd.mk (.row aT (by rfl)) ?_) | (refine VSt.is ?_; refine VSt.row aT (by rfl) (by first | rfl | assumption) ?_) | (refine VAr.is ?_; refine oA ?_)
  all_goals (conv => whnf)
  refine VLoop.kr (α := Nat × Bool) [1000000, 2, 4, 5, 7, 9, 10, 11, 12] rfl (fun y => y.1 ≤ N.syns.length ∧ y.2 = (N.syns.take y.1).all fun x => decide (x.to = (p : Int) → okQ half ((s : Int) + 1) x.wt)) (fun y K => (13, .bool y.2) :: (14, .int .i64 (y.1 : Int)) :: K)
   (fun _ => [.row b2 39 [.slice pn N.ps.length cn, .int .i64 N.inputs, .slice qs N.syns.length cs], .row b4 45 [.slice none 0 0, .int .i64 0, .slice none 0 0, .slice none 0 0, .slice none 0 0, .slice none 0 0, .bool false], .row b10 45 [.slice yp N.ps.length ycp, .int .i64 N.inputs, .slice ys N.syns.length ycs, .slice (some ⟨bz, 0, none⟩) N.ps.length N.ps.length, .slice (some ⟨bq, 0, none⟩) N.syns.length N.syns.length, .slice (some ⟨be, 0, none⟩) N.ps.length N.ps.length, .bool ex], .vec yp N.ps.length ycp 74 8 (flat parV N.ps), .vec ys N.syns.length ycs 70 4 (flat synV (partM N.syns (doneP N.syns p 0) (synQ Z) id)), .vec (some ⟨bz, 0, none⟩) N.ps.length N.ps.length 3 1 (flat intV (scalesR Z N.ps.length p)), .vec (some ⟨bq, 0, none⟩) N.syns.length N.syns.length 3 1 (flat intV (partM N.syns (doneP N.syns p 0) (quotS Z) fun _ => 0)), .vec (some ⟨be, 0, none⟩) N.ps.length N.ps.length 3 1 (flat intV (errsR Z N.syns N.ps.length p 0))]) (fun y => N.syns.length - y.1) (0, true) ⟨by dsimp only; omega, rfl⟩ aE aH ?_
  rintro ⟨i, g⟩ ⟨hi, hg⟩
  dsimp only at hi hg ⊢
  rcases Nat.lt_or_ge i N.syns.length with hil | hig
  ·obtain ⟨x, hx⟩ := h2.get hil
   have hxm := List.mem_of_getElem? hx
   have hwt := hwts x hxm
   have hxt := hsyn x hxm
   have hnx : ((N.syns.take (i + 1)).all fun x => decide (x.to = (p : Int) → okQ half ((s : Int) + 1) x.wt)) = (g && decide (x.to = (p : Int) → okQ half ((s : Int) + 1) x.wt)) := by
    rw [take_snoc hx, List.all_append, ← hg]
    simp
   have hsm := near_small (w := x.wt) (s := (s : Int) + 1) (by omega)
   have hokp : okQ half ((s : Int) + 1) x.wt ↔ (-half ≤ nearM x.wt ((s : Int) + 1) ∧ nearM x.wt ((s : Int) + 1) ≤ half - 1) ∧ (-32768 ≤ nearM x.wt ((s : Int) + 1) * ((s : Int) + 1) ∧ nearM x.wt ((s : Int) + 1) * ((s : Int) + 1) ≤ 32768) := Iff.rfl
   obtain ⟨q, hq⟩ : ∃ q, nearM x.wt ((s : Int) + 1) = q := ⟨_, rfl⟩
   rw [hq] at hsm hokp
   have hmb := mul_bound (a := q) (b := (s : Int) + 1) (A := 32768) (B := 65537) (by omega) (by omega) (by omega)
   obtain ⟨m, hm⟩ : ∃ m, q * ((s : Int) + 1) = m := ⟨_, rfl⟩
   rw [hm] at hmb hokp
   repeat' (conv => whnf); first | (refine VCall.isF 51 ?_; refine VCall.inl (F := Tryz.fx51) Tryz.func51 rfl rfl rfl Tryz.ok51 ?_) | (refine VIx.is ?_; refine VIx.mk (h2.ptr (by omega)) (by omega) (by omega) ?_) | (refine VLd.is ?_; refine VLd.mk (Rd.cast (h2.rd (o := 2) (s := 1) (by simp) (fun _ => rfl) hx rfl) (by first | omega | (dsimp only; omega) | rfl)) ?_) | (refine VLd.is ?_; refine VLd.mk (Rd.cast (h2.rd (o := 1) (s := 1) (by simp) (fun _ => rfl) hx rfl) (by first | omega | (dsimp only; omega) | rfl)) ?_) | (refine VCall.isF 59 ?_; (refine VCall.valR (fun w' _ => quotient_any _ ((s : Int) + 1) (by omega) (by omega) w') ?_; rw [hq])) | (refine VAr.is ?_; refine VAr.is ?_; refine VAr.mul hm (by omega) (by omega) ?_) | (refine VSeq.go ?_) | (refine VB.is ?_; refine VB.yes (by omega) fun _ => ?_) | (refine VB.split (fun _ => ?_) (fun _ => ?_)) | (refine boolE_split (fun h => ?_) (fun h => ?_) <;> subst h) | (refine VLd.is ?_; refine VLd.mk (.row aT (by rfl)) ?_) | (refine VAr.is ?_; refine oA ?_)
   all_goals (conv => whnf)
   all_goals first
    | (have hx2 : ((N.syns.take (i + 1)).all fun x => decide (x.to = (p : Int) → okQ half ((s : Int) + 1) x.wt)) = true := (by rw [hnx, decide_eq_true (show x.to = (p : Int) → okQ half ((s : Int) + 1) x.wt from fun h => hokp.2 (by omega))]; rfl)
       exact VNext.mk (i + 1, true) ⟨by dsimp only; omega, hx2.symm⟩ (by dsimp only; omega) aE aH)
    | (have hx2 : ((N.syns.take (i + 1)).all fun x => decide (x.to = (p : Int) → okQ half ((s : Int) + 1) x.wt)) = false := (by first | (rw [hnx]; rfl) | (rw [hnx, decide_eq_false (fun hh : x.to = (p : Int) → okQ half ((s : Int) + 1) x.wt => by have h9 := hokp.1 (hh (by omega)); omega)]; rfl))
       exact VNext.mk (i + 1, false) ⟨by dsimp only; omega, hx2.symm⟩ (by dsimp only; omega) aE aH)
    | trace_state
  ·rw [List.take_of_length_le hig] at hg
   have hokS : g = true ↔ okS N.syns half p ((s + 1 : Nat) : Int) := by
    rw [hg, List.all_eq_true]
    unfold okS
    constructor
    ·intro h w' hw'
     obtain ⟨x, hx, h3, h4⟩ := mem_wtsTo.1 hw'
     rw [← h4]
     exact of_decide_eq_true (h x hx) h3
    ·intro h x hx
     exact decide_eq_true fun h3 => h _ (mem_wtsTo.2 ⟨x, hx, h3, rfl⟩)
   repeat' (conv => whnf); first | (refine VSeq.go ?_) | (refine VB.is ?_; refine VB.yes (by omega) fun _ => ?_) | (refine VB.is ?_; refine VB.no (by omega) fun _ => ?_) | (refine VLd.is ?_; refine VLd.mk (.row aT (by rfl)) ?_) | (refine VSt.is ?_; refine VSt.row aT (by rfl) (by first | rfl | assumption) ?_) | (refine VAr.is ?_; refine oA ?_)
   all_goals (conv => whnf)
   refine VNext.mk (s + 1, g) ⟨fun hgt => ?_, fun hgf => ?_⟩ (by dsimp only; omega) aE aH
   ·dsimp only at hgt ⊢
    have := hokS.1 hgt
    refine Decidable.byContradiction fun hne => k4 (s + 1) (by omega) (by omega) this
   ·dsimp only at hgf ⊢
    refine Decidable.byContradiction fun hne => ?_
    have e : s + 1 = T := by omega
    rw [e] at hokS
    have := hokS.2 k1
    rw [hgf] at this; cases this
 | true =>
  have hsT := hf1 rfl
  subst hsT
  clear hf1 hf2
  repeat' (conv => whnf); first | (refine VIx.is ?_; refine VIx.mk rfl (by omega) (by omega) ?_) | (refine VSt.is ?_; refine VSt.cast (off' := p * 1) (by first | omega | (dsimp only; omega)) (VSt.vec aT (upd_flat0 (f := intV) (k := 1) (y := (s : Int)) (fun _ => rfl) hsr rfl) rfl ?_)) | (refine VSeq.go ?_) | (refine VLd.is ?_; refine VLd.mk (.row aT (by rfl)) ?_)
  all_goals (conv => whnf)
  rw [← hsn]
  refine VLoop.kr (α := Nat) [1000000, 2, 4, 5, 7, 9, 10, 11, 12] rfl (fun i => i ≤ N.syns.length) (fun i K => (16, .int .i64 (i : Int)) :: K)
   (fun i => [.row b2 39 [.slice pn N.ps.length cn, .int .i64 N.inputs, .slice qs N.syns.length cs], .row b4 45 [.slice none 0 0, .int .i64 0, .slice none 0 0, .slice none 0 0, .slice none 0 0, .slice none 0 0, .bool false], .row b10 45 [.slice yp N.ps.length ycp, .int .i64 N.inputs, .slice ys N.syns.length ycs, .slice (some ⟨bz, 0, none⟩) N.ps.length N.ps.length, .slice (some ⟨bq, 0, none⟩) N.syns.length N.syns.length, .slice (some ⟨be, 0, none⟩) N.ps.length N.ps.length, .bool ex], .vec yp N.ps.length ycp 74 8 (flat parV N.ps), .vec ys N.syns.length ycs 70 4 (flat synV (partM N.syns (doneP N.syns p i) (synQ Z) id)), .vec (some ⟨bz, 0, none⟩) N.ps.length N.ps.length 3 1 (flat intV (scalesR Z N.ps.length (p + 1))), .vec (some ⟨bq, 0, none⟩) N.syns.length N.syns.length 3 1 (flat intV (partM N.syns (doneP N.syns p i) (quotS Z) fun _ => 0)), .vec (some ⟨be, 0, none⟩) N.ps.length N.ps.length 3 1 (flat intV (errsR Z N.syns N.ps.length p i))]) (fun i => N.syns.length - i) 0 (by omega) aE aH ?_
  intro i hi
  rcases Nat.lt_or_ge i N.syns.length with hil | hig
  ·obtain ⟨x, hx⟩ := h2.get hil
   have hxm := List.mem_of_getElem? hx
   have hwt := hwts x hxm
   obtain ⟨t, z, hte, htl, hzt, hz1, hqe, hok⟩ := hqb x hxm
   by_cases hxp : x.to = (p : Int)
   ·have htp : t = p := by omega
    subst htp
    rw [hsg, Option.some.injEq] at hzt
    obtain ⟨d1, d2⟩ := done_next hx hxp
    have hnot := done_not hx hxp
    have hgs : (partM N.syns (doneP N.syns t i) (synQ Z) id)[i]? = some x := by rw [partM_get hx, hnot]; rfl
    have hgq : (partM N.syns (doneP N.syns t i) (quotS Z) fun _ => 0)[i]? = some 0 := by rw [partM_get hx, hnot]; rfl
    have hge : (errsR Z N.syns N.ps.length t i)[t]? = some (errQ Z (N.syns.take i) t) := errsR_get htl
    have hns := partM_set (F := synQ Z) (G := id) (P := doneP N.syns t i) hx d1 d2
    have hnq := partM_set (F := quotS Z) (G := fun _ => 0) (P := doneP N.syns t i) hx d1 d2
    have hne := errsR_next (Z := Z) hx hxp htl
    obtain ⟨gs, hgs2⟩ := hys (by omega)
    subst hgs2
    unfold okQ at hok
    rw [← hzt] at hz1 hqe hok
    have hoff : offS Z x = max (x.wt - nearM x.wt s * s) (-(x.wt - nearM x.wt s * s)) := by
     unfold offS
     rw [hqe, hte, Int.toNat_natCast, hsg]; rfl
    have hsq : synQ Z x = ⟨x.frm, x.to, nearM x.wt s * s, x.dl⟩ := by
     unfold synQ
     rw [hqe, hte, Int.toNat_natCast, hsg]; rfl
    obtain ⟨q, hq⟩ : ∃ q, nearM x.wt (s : Int) = q := ⟨_, rfl⟩
    rw [hq] at hqe hok hoff hsq
    obtain ⟨m, hm⟩ : ∃ m, q * (s : Int) = m := ⟨_, rfl⟩
    rw [hm] at hok hoff hsq
    have hmx : max (max (errQ Z (N.syns.take i) t) (x.wt - m)) (m - x.wt) = max (errQ Z (N.syns.take i) t) (offS Z x) := by omega
    have hup : upd (synV x) 2 [.int .i64 m] = some (synV (synQ Z x)) := by rw [hsq]; rfl
    have hupq : upd (intV 0) 0 [.int .i64 q] = some (intV (quotS Z x)) := by rw [hqe]; rfl
    have hupe : upd (intV (errQ Z (N.syns.take i) t)) 0 [.int .i64 (max (max (errQ Z (N.syns.take i) t) (x.wt - m)) (m - x.wt))] = some (intV (max (errQ Z (N.syns.take i) t) (offS Z x))) := by rw [hmx]; rfl
    repeat' (conv => whnf); first | (refine VIx.is ?_; refine VIx.mk (h2.ptr (by omega)) (by omega) (by omega) ?_) | (refine VIx.is ?_; refine VIx.mk rfl (by omega) (by omega) ?_) | (refine VLd.is ?_; refine VLd.mk (Rd.cast (h2.rd (o := 2) (s := 1) (by simp) (fun _ => rfl) hx rfl) (by first | omega | (dsimp only; omega) | rfl)) ?_) | (refine VLd.is ?_; refine VLd.mk (Rd.cast (h2.rd (o := 1) (s := 1) (by simp) (fun _ => rfl) hx rfl) (by first | omega | (dsimp only; omega) | rfl)) ?_) | (refine VLd.is ?_; refine VLd.mk (Rd.cast (.vec aT (sub_flat0 (f := intV) (k := 1) (fun _ => rfl) hge rfl)) (by first | omega | (dsimp only; omega) | rfl)) ?_) | (refine VCall.isF 59 ?_; (refine VCall.valR (fun w' _ => quotient_any _ (s : Int) (by omega) (by omega) w') ?_; rw [hq])) | (refine VAr.is ?_; refine VAr.is ?_; refine VAr.mul hm (by omega) (by omega) ?_) | (refine VSt.is ?_; refine VSt.cast (off' := i * 1) (by first | omega | (dsimp only; omega)) (VSt.vec aT (upd_flat0 (f := intV) (k := 1) (fun _ => rfl) hgq hupq) rfl ?_)) | (refine VSt.is ?_; refine VSt.cast (off' := i * 4 + 2) (by first | omega | (dsimp only; omega)) (VSt.vec aT (upd_flat (f := synV) (k := 4) (o := 2) (fun _ => rfl) hgs hup) rfl ?_)) | (refine VSt.is ?_; refine VSt.cast (off' := t * 1) (by first | omega | (dsimp only; omega)) (VSt.vec aT (upd_flat0 (f := intV) (k := 1) (fun _ => rfl) hge hupe) rfl ?_)) | (refine VSeq.go ?_) | (refine VB.is ?_; refine VB.yes (by omega) fun _ => ?_) | (refine VB.is ?_; refine VB.no (by omega) fun _ => ?_) | (refine VLd.is ?_; refine VLd.mk (.row aT (by rfl)) ?_) | (refine VAr.is ?_; refine oA ?_) | (refine VHs.mk _ (.refl _) ?_)
    all_goals (conv => whnf)
    all_goals first
     | exact VNext.mk (i + 1) (by omega) (by omega) aE (by rw [hns, hnq, hne]; exact aH)
     | trace_state
   ·have hns := partM_congr (l := N.syns) (F := synQ Z) (G := id) (fun k _ => done_skip hx hxp k)
    have hnq := partM_congr (l := N.syns) (F := quotS Z) (G := fun _ => (0 : Int)) (fun k _ => done_skip hx hxp k)
    have hne := errsR_skip (Z := Z) (n := N.ps.length) hx hxp
    repeat' (conv => whnf); first | (refine VIx.is ?_; refine VIx.mk (h2.ptr (by omega)) (by omega) (by omega) ?_) | (refine VLd.is ?_; refine VLd.mk (Rd.cast (h2.rd (o := 1) (s := 1) (by simp) (fun _ => rfl) hx rfl) (by first | omega | (dsimp only; omega) | rfl)) ?_) | (refine VSeq.go ?_) | (refine VB.is ?_; refine VB.yes (by omega) fun _ => ?_) | (refine VLd.is ?_; refine VLd.mk (.row aT (by rfl)) ?_) | (refine VAr.is ?_; refine oA ?_)
    all_goals (conv => whnf)
    exact VNext.mk (i + 1) (by omega) (by omega) aE (by rw [hns, hnq, hne]; exact aH)
  ·have hiN : i = N.syns.length := by omega
   subst hiN
   have hns := partM_congr (l := N.syns) (F := synQ Z) (G := id) (fun k hk => done_end (p := p) k hk)
   have hnq := partM_congr (l := N.syns) (F := quotS Z) (G := fun _ => (0 : Int)) (fun k hk => done_end (p := p) k hk)
   rw [← hns, ← hnq]
   have hge : (errsR Z N.syns N.ps.length p N.syns.length)[p]? = some (errQ Z N.syns p) := by have := errsR_get (Z := Z) (l := N.syns) (n := N.ps.length) (i := N.syns.length) hlt; rwa [List.take_length] at this
   have hxn := exR_next Z N.syns p
   rw [← hex] at hxn
   repeat' (conv => whnf); first | (refine VIx.is ?_; refine VIx.mk rfl (by omega) (by omega) ?_) | (refine VLd.is ?_; refine VLd.mk (Rd.cast (.vec aT (sub_flat0 (f := intV) (k := 1) (fun _ => rfl) hge rfl)) (by first | omega | (dsimp only; omega) | rfl)) ?_) | (refine VSeq.go ?_) | (refine VB.is ?_; refine VB.no (by omega) fun _ => ?_) | (refine VB.split (fun _ => ?_) (fun _ => ?_)) | (refine boolE_split (fun h => ?_) (fun h => ?_) <;> subst h) | (refine VLd.is ?_; refine VLd.mk (.row aT (by rfl)) ?_) | (refine VSt.is ?_; refine VSt.row aT (by rfl) (by first | rfl | assumption) ?_) | (refine VAr.is ?_; refine oA ?_)
   all_goals (conv => whnf)
   all_goals first
    | (have hx2 : exR Z N.syns (p + 1) = true := (by rw [hxn, decide_eq_true (by omega)]; rfl)
       refine VNext.mk (p + 1, true) ⟨by dsimp only; omega, hx2.symm⟩ (by dsimp only; omega) aE ?_
       dsimp only
       rw [← errsR_end]
       exact aH)
    | (have hx2 : exR Z N.syns (p + 1) = false := (by first | (rw [hxn]; rfl) | (rw [hxn, decide_eq_false (by omega)]; rfl))
       refine VNext.mk (p + 1, false) ⟨by dsimp only; omega, hx2.symm⟩ (by dsimp only; omega) aE ?_
       dsimp only
       rw [← errsR_end]
       exact aH)
    | trace_state

end Go.Proofs
