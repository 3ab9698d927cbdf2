import Derived.Test.YtjjcoiicikaaiaaGreatPlaceWaysNa
import Derived.Test.YtjjcoiicikaaiaaGreatPlaceWaysPq
import Derived.Test.YtjjcoiicikaaiaaGreatPlaceWaysPm
set_option linter.unusedVariables false
set_option linter.unusedSimpArgs false
set_option maxHeartbeats 4000000
section

namespace Go.Vx

theorem VQ.gen {a b : Int} {k : Int → Prop} (ha : 0 ≤ a) (hb : 0 < b) (h2 : a ≤ 9223372036854775807) (hk : ∀ q, a / b = q → 0 ≤ q → q ≤ a → k q) : VQ .i64 a b k :=
 .pos ha hb h2 (hk _ rfl (Int.ediv_nonneg ha (Int.le_of_lt hb)) (Int.ediv_le_self b ha))

theorem VM.gen {a b : Int} {k : Int → Prop} (ha : 0 ≤ a) (hb : 0 < b) (hk : ∀ q, a % b = q → 0 ≤ q → q < b → k q) : VM a b k :=
 .pos ha hb (hk _ rfl (Int.emod_nonneg _ (by omega)) (Int.emod_lt_of_pos _ hb))

theorem VAr.mul {a b z : Int} {k : Int → Prop} (h : a * b = z) (h1 : -9223372036854775808 ≤ z) (h2 : z ≤ 9223372036854775807) (hk : k z) : VAr .i64 (a * b) k := h ▸ .i64 h1 h2 hk

theorem VShL.one {b : Int} {k : Int → Prop} (h0 : 0 ≤ b) (h1 : b ≤ 62) (hk : k (2 ^ b.toNat)) : VShL .i64 1 b k := by
 refine .mk h0 ?_
 have e : min b.toNat (IntKind.i64.bits) = b.toNat := by
  have : IntKind.i64.bits = 64 := rfl
  rw [this]; omega
 rw [e, Int.one_mul, wrap_i64]
 ·exact hk
 ·have : (0 : Int) < 2 ^ b.toNat := Int.pow_pos (by omega)
  omega
 ·have e2 : ((2 : Int) ^ b.toNat) = ((2 ^ b.toNat : Nat) : Int) := by simp
  have h3 : 2 ^ b.toNat ≤ 2 ^ 62 := Nat.pow_le_pow_right (by omega) (by omega)
  rw [e2]
  omega

theorem VShL.is {kd : IntKind} {a b : Int} {k : Int → Prop} (hh : VShL kd a b k) : VShL kd a b k := hh

theorem VSeq.isN {at_ : Nat} {H : HP} {A : (Env → HP → Prop) → Prop} {B : Env → HP → Prop} (n : Nat) (h : at_ = n) (hh : VSeq at_ H A B) : VSeq at_ H A B := hh

theorem VBit.is {op : BinOp} {kd : IntKind} {a b : Int} {k : Int → Prop} (hh : VBit op kd a b k) : VBit op kd a b k := hh

end Go.Vx

namespace Go.Proofs

open Go Go.Vx Go.Gm

theorem near_abs (w s : Int) : nearM w s = if w < 0 then 0 - ((2 * max w (0 - w) + s - 1) / (2 * s)) else (2 * max w (0 - w) + s - 1) / (2 * s) := by
 unfold nearM
 by_cases h : w < 0
 ·rw [if_pos h, if_pos h, show max w (0 - w) = -w by omega, Int.zero_sub]
 ·rw [if_neg h, if_neg h, show max w (0 - w) = w by omega]

theorem nearest_any (x s : Int) (hx : -1099511627776 ≤ x ∧ x ≤ 1099511627776) (hs : 1 ≤ s ∧ s ≤ 1099511627776) (w : World) : Calls Tryz.prog 56 #[.int .i64 x, .int .i64 s] w fun e w' => e = .returned (.int .i64 (nearM x s)) ∧ St w [] [] w' := by
 rw [near_abs]
 refine enter (C := Tryz.cx) (F := Tryz.fx56) (args := [_, _]) Tryz.func56 rfl rfl rfl Tryz.ok56 (St.start w []) ?_
 obtain ⟨m, hm⟩ : ∃ m, max x (0 - x) = m := ⟨_, rfl⟩
 have hm0 : 0 ≤ m ∧ m ≤ 1099511627776 := by omega
 repeat' (conv => whnf); first | (refine VCall.isF 57 ?_; refine VCall.inl (F := Tryz.fx57) Tryz.func57 rfl rfl rfl Tryz.ok57 ?_) | (refine VQ.is ?_; refine VQ.is ?_; rw [hm]; refine VQ.gen (by omega) (by omega) (by omega) fun q hq hq0 hq1 => ?_) | (refine VSeq.go ?_) | (refine VB.split (fun _ => ?_) (fun _ => ?_)) | (refine VAr.is ?_; refine oA ?_)
 all_goals (conv => whnf)
 ·exact ⟨fun w' hw' => ⟨by rw [if_pos ‹_›, hq]; rfl, hw'.le .nil⟩⟩
 ·exact ⟨fun w' hw' => ⟨by rw [if_neg ‹_›, hq]; rfl, hw'.le .nil⟩⟩

theorem mul_bound {a b A B : Int} (ha : -A ≤ a ∧ a ≤ A) (hb : 0 ≤ b ∧ b ≤ B) (hA : 0 ≤ A) : -(A * B) ≤ a * b ∧ a * b ≤ A * B := mul_le_of ha.1 ha.2 hb.1 hb.2 hA

theorem fits_any (lo hi s half : Int) (hlo : -32768 ≤ lo ∧ lo ≤ 0) (hhi : 0 ≤ hi ∧ hi ≤ 32768) (hs : 1 ≤ s ∧ s ≤ 65537) (hh : 2 ≤ half ∧ half ≤ 32768) (w : World) : Calls Tryz.prog 55 #[.int .i64 lo, .int .i64 hi, .int .i64 s, .int .i64 half] w fun e w' => ∃ b : Bool, e = .returned (.bool b) ∧ (b = true ↔ fitsM lo hi s half) ∧ St w [] [] w' := by
 have n1 := (near_small (w := lo) hs.1).2 hlo.2
 have n2 := (near_small (w := hi) hs.1).1 hhi.1
 refine enter (C := Tryz.cx) (F := Tryz.fx55) (args := [_, _, _, _]) Tryz.func55 rfl rfl rfl Tryz.ok55 (St.start w []) ?_
 unfold fitsM
 obtain ⟨a, ha⟩ : ∃ a, nearM lo s = a := ⟨_, rfl⟩
 obtain ⟨b, hb⟩ : ∃ b, nearM hi s = b := ⟨_, rfl⟩
 rw [ha] at n1 ⊢
 rw [hb] at n2 ⊢
 have m1 := mul_bound (a := a) (b := s) (A := 32768) (B := 65537) (by omega) (by omega) (by omega)
 have m2 := mul_bound (a := b) (b := s) (A := 32768) (B := 65537) (by omega) (by omega) (by omega)
 obtain ⟨c, hc⟩ : ∃ c, a * s = c := ⟨_, rfl⟩
 obtain ⟨d, hd⟩ : ∃ d, b * s = d := ⟨_, rfl⟩
 rw [hc] at m1 ⊢
 rw [hd] at m2 ⊢
 repeat' (conv => whnf); first | (refine VAr.is ?_; refine VAr.is ?_; refine VAr.mul hc (by omega) (by omega) ?_) | (refine VAr.is ?_; refine VAr.is ?_; refine VAr.mul hd (by omega) (by omega) ?_) | (refine VCall.isF 56 ?_; (refine VCall.valR (fun w' _ => nearest_any _ s (by omega) (by omega) w') ?_; first | rw [ha] | rw [hb])) | (refine VSeq.go ?_) | (refine VB.split (fun _ => ?_) (fun _ => ?_)) | (refine VAr.is ?_; refine oA ?_)
 all_goals (conv => whnf)
 all_goals exact ⟨fun w' hw' => ⟨_, rfl, by first | (constructor <;> intro h <;> first | omega | (cases h; done)) | (simp; omega), hw'.le .nil⟩⟩

end Go.Proofs
end

section

namespace Go.Gm

def Spc.wf (s : Spc) : Prop := I64 s.wide ∧ I64 s.high ∧ I64 s.room

def leadM (W H r o : Int) : Prop := if o = 1 then r % W + 1 < W else if o = 2 then r / W + 1 < H else if o = 4 then 0 < r % W else if o = 8 then 0 < r / W else True

instance (W H r o : Int) : Decidable (leadM W H r o) := by unfold leadM; infer_instance

def knownE (s : Spc) (l : List Int) : Int := if meshE s ≠ 0 then 3 else if ∀ r ∈ l, 0 ≤ r ∧ r < s.wide * s.high then 0 else 4

theorem knownE_zero {s : Spc} {l : List Int} : knownE s l = 0 ↔ SpcOk s ∧ ∀ r ∈ l, 0 ≤ r ∧ r < s.wide * s.high := by
 unfold knownE
 rw [← meshE_zero]
 constructor
 ·intro h
  split at h
  ·cases h
  ·split at h
   ·exact ⟨by omega, by assumption⟩
   ·cases h
 ·rintro ⟨h1, h2⟩
  rw [if_neg (by omega), if_pos h2]

theorem lead_turn {W H r t : Int} (hW : 0 < W) (hr : 0 ≤ r ∧ r < W * H) (ht : 0 ≤ t ∧ t < W * H) : leadM W H r (turnM W r t) := by
 obtain ⟨x, y, h1⟩ := at2 hW r
 obtain ⟨a, b, h2⟩ := at2 hW t
 rw [at2_range h1] at hr
 rw [at2_range h2] at ht
 have := h1.x0; have := h1.x1; have := h2.x0; have := h2.x1
 rw [turn_at h1 h2]
 unfold leadM
 rw [h1.col, h1.row]
 by_cases c1 : x < a
 ·rw [if_pos c1, if_pos rfl]; omega
 rw [if_neg c1]
 by_cases c2 : a < x
 ·rw [if_pos c2, if_neg (by omega), if_neg (by omega), if_pos rfl]; omega
 rw [if_neg c2]
 by_cases c3 : y < b
 ·rw [if_pos c3, if_neg (by omega), if_pos rfl]; omega
 rw [if_neg c3]
 by_cases c4 : b < y
 ·rw [if_pos c4, if_neg (by omega), if_neg (by omega), if_neg (by omega), if_pos rfl]; omega
 rw [if_neg c4, if_neg (by omega), if_neg (by omega), if_neg (by omega), if_neg (by omega)]
 trivial

end Go.Gm

namespace Go.Proofs

open Go Go.Vx Go.Gm

theorem _root_.Go.Vx.VCall.arg2 (y : Value) {P : Program} {w0 : World} {M : List Nat} {H : HP} {f : Nat} {x : Value} {zs : List Value} {K : Value → HP → Prop} (hh : VCall P w0 M H f (x :: y :: zs) K) : VCall P w0 M H f (x :: y :: zs) K := hh

def spcC (s : Spc) : List Value := [.int .i64 s.wide, .int .i64 s.high, .int .i64 s.room]

theorem meshCheck_any (s : Spc) (hs : s.wf) (w : World) : Calls Tryz.prog 46 #[.agg (spcC s).toArray] w fun e w' => e = .returned (.int .i64 (meshE s)) ∧ St w [] [] w' := by
 obtain ⟨h1, h2, h3⟩ := hs
 unfold I64 at h1 h2 h3
 unfold spcC
 refine enter (C := Tryz.cx) (F := Tryz.fx46) (args := [_]) Tryz.func46 rfl rfl rfl Tryz.ok46 (St.start w []) ?_
 repeat' (conv => whnf); first | (refine VSeq.go ?_) | (refine VB.split (fun _ => ?_) (fun _ => ?_)) | (refine VLd.is ?_; refine VLd.mk (.row aT (by rfl)) ?_) | (refine VNew.mk fun _ => ?_)
 all_goals (conv => whnf)
 all_goals first
  | exact ⟨fun w' hw' => ⟨by unfold meshE; rw [if_pos (by omega)]; rfl, hw'.le .nil⟩⟩
  | exact ⟨fun w' hw' => ⟨by unfold meshE; rw [if_neg (by omega)]; rfl, hw'.le .nil⟩⟩

theorem meshAt_any (s : Spc) (hs : 1 ≤ s.wide ∧ s.wide ≤ 1000) (r : Int) (hr : 0 ≤ r ∧ r ≤ 1000000) (w : World) : Calls Tryz.prog 152 #[.agg (spcC s).toArray, .int .i64 r] w fun e w' => e = .returned (.agg #[.int .i64 (r % s.wide), .int .i64 (r / s.wide)]) ∧ St w [] [] w' := by
 unfold spcC
 refine enter (C := Tryz.cx) (F := Tryz.fx152) (args := [_, _]) Tryz.func152 rfl rfl rfl Tryz.ok152 (St.start w []) ?_
 repeat' (conv => whnf); first | (refine VNew.mk fun b4 => ?_) | (refine VHs.is ?_; refine VHs.is ?_; refine VHs.mk [.row _ 23 [.int .i64 s.wide, .int .i64 s.high, .int .i64 s.room]] aH ?_) | (refine VSeq.go ?_) | (refine VLd.is ?_; refine VLd.mk (.row aT (by rfl)) ?_) | (refine VSt.is ?_; refine VSt.row aT (by rfl) (by first | rfl | assumption) ?_) | (refine VQ.is ?_; refine oQ ?_) | (refine VM.is ?_; refine oM ?_)
 all_goals (conv => whnf)
 all_goals exact ⟨fun w' hw' => ⟨rfl, hw'.le .nil⟩⟩

theorem meshTurn_any (s : Spc) (hs : 1 ≤ s.wide ∧ s.wide ≤ 1000) (r t : Int) (hr : 0 ≤ r ∧ r ≤ 1000000) (ht : 0 ≤ t ∧ t ≤ 1000000) (w : World) : Calls Tryz.prog 154 #[.agg (spcC s).toArray, .int .i64 r, .int .i64 t] w fun e w' => e = .returned (.int .i64 (turnM s.wide r t)) ∧ St w [] [] w' := by
 refine enter (C := Tryz.cx) (F := Tryz.fx154) (args := [_, _, _]) Tryz.func154 rfl rfl rfl Tryz.ok154 (St.start w []) ?_
 have hm1 := meshAt_any s hs r hr
 have hm2 := meshAt_any s hs t ht
 obtain ⟨x, y, h1⟩ := at2 (W := s.wide) (by omega) r
 obtain ⟨a, b, h2⟩ := at2 (W := s.wide) (by omega) t
 rw [turn_at h1 h2]
 rw [h1.col, h1.row] at hm1
 rw [h2.col, h2.row] at hm2
 unfold spcC at hm1 hm2 ⊢
 repeat' (conv => whnf); first | (refine VCall.isF 152 ?_; (refine VCall.arg2 (.int .i64 r) ?_; refine VCall.valR (fun w' _ => hm1 w') ?_)) | (refine VCall.isF 152 ?_; (refine VCall.arg2 (.int .i64 t) ?_; refine VCall.valR (fun w' _ => hm2 w') ?_)) | (refine VSeq.is ?_; refine VSeq.isN 2 rfl ?_; refine VSeq.cut (at_ := 2) (α := Nat × Nat) (fun _ => True) (fun z => [(1000000, .tuple #[]), (6, .int .i64 0), (7, .pointer (some ⟨z.1, 0, none⟩)), (8, .pointer (some ⟨z.2, 0, none⟩))]) (fun z => [.row z.1 261 [.int .i64 x, .int .i64 y], .row z.2 261 [.int .i64 a, .int .i64 b]]) ?_ ?_) | (refine VSeq.go ?_) | (refine VLd.is ?_; refine VLd.mk (.row aT (by rfl)) ?_) | (refine VSt.is ?_; refine VSt.row aT (by rfl) (by first | rfl | assumption) ?_) | (refine VNew.mk fun _ => ?_) | (refine VKeep.is ?_; refine VKeep.mk aH ?_) | (refine VHs.mk _ (.refl _) ?_) | (refine And.intro ?_ ?_)
 all_goals (conv => whnf)
 any_goals (rename_i u v z; first | exact VMid.mk (v, z) trivial aE aH | exact VMid.mk (z, v) trivial aE aH)
 rintro ⟨b7, b8⟩ _
 dsimp only
 repeat' (conv => whnf); first | (refine VSeq.go ?_) | (refine VB.split (fun _ => ?_) (fun _ => ?_)) | (refine VLd.is ?_; refine VLd.mk (.row aT (by rfl)) ?_) | (refine VNew.mk fun _ => ?_)
 all_goals (conv => whnf)
 all_goals exact ⟨fun w' hw' => ⟨by (repeat (first | rw [if_pos (by omega)] | rw [if_neg (by omega)])); rfl, hw'.le .nil⟩⟩

theorem meshNext_any (s : Spc) (hs : 1 ≤ s.wide ∧ s.wide ≤ 1000) (hh : 0 ≤ s.high ∧ s.high ≤ 1000) (r o : Int) (hr : 0 ≤ r ∧ r < s.wide * s.high) (ho : isOut o) (w : World) : Calls Tryz.prog 139 #[.agg (spcC s).toArray, .int .i64 r, .int .i64 o] w fun e w' => ∃ b : Bool, e = .returned (.tuple #[.int .i64 (nextM s.wide r o), .bool b]) ∧ (b = true ↔ leadM s.wide s.high r o) ∧ St w [] [] w' := by
 have hm := fun (w' : World) => meshAt_any s hs
 have hwh : s.wide * s.high ≤ 1000 * 1000 := Int.mul_le_mul hs.2 hh.2 (by omega) (by omega)
 obtain ⟨x, y, hxy⟩ := at2 (W := s.wide) (by omega) r
 have hyr := (at2_range hxy).1 hr
 have hx0 := hxy.x0
 have hx1 := hxy.x1
 have hreq := hxy.eq
 refine enter (C := Tryz.cx) (F := Tryz.fx139) (args := [_, _, _]) Tryz.func139 rfl rfl rfl Tryz.ok139 (St.start w []) ?_
 unfold spcC at hm ⊢
 have hp : ∀ d : Int, (y + d) * s.wide = s.wide * y + d * s.wide := fun d => by rw [Int.add_mul, Int.mul_comm y]
 have hp0 : y * s.wide = s.wide * y := Int.mul_comm _ _
 have hp1 : (y + 1) * s.wide = s.wide * y + s.wide := by rw [hp, Int.one_mul]
 have hp2 : (y - 1) * s.wide = s.wide * y - s.wide := by rw [Int.sub_mul, Int.mul_comm y, Int.one_mul]
 have hb0 : 0 ≤ s.wide * y := Int.mul_nonneg (by omega) hyr.1
 obtain ⟨m, hmm⟩ : ∃ m, s.wide * y = m := ⟨_, rfl⟩
 rw [hmm] at hp0 hp1 hp2 hb0 hreq
 unfold isOut at ho
 have hm2 : ∀ w' : World, Calls Tryz.prog 152 #[.agg #[.int .i64 s.wide, .int .i64 s.high, .int .i64 s.room], .int .i64 r] w' fun e w'' => e = .returned (.agg #[.int .i64 x, .int .i64 y]) ∧ St w' [] [] w'' := fun w' => by
  have := hm w' r (by omega) w'
  rw [hxy.col, hxy.row] at this
  exact this
 have hcase : ∃ (v : Int) (p : Prop), nextM s.wide r o = v ∧ (leadM s.wide s.high r o ↔ p) ∧ ((o = 1 ∧ v = m + (x + 1) ∧ p = (x + 1 < s.wide)) ∨ (o = 2 ∧ v = m + s.wide + x ∧ p = (y + 1 < s.high)) ∨ (o = 4 ∧ v = m + (x - 1) ∧ p = (0 < x)) ∨ (o = 8 ∧ v = m - s.wide + x ∧ p = (0 < y)) ∨ (o = 16 ∧ v = m + x ∧ p = True)) := by
  unfold nextM leadM
  rw [hxy.col, hxy.row]
  rcases ho with rfl | rfl | rfl | rfl | rfl
  ·exact ⟨_, _, rfl, Iff.rfl, .inl ⟨rfl, by simp; omega, by simp⟩⟩
  ·exact ⟨_, _, rfl, Iff.rfl, .inr (.inl ⟨rfl, by simp; omega, by simp⟩)⟩
  ·exact ⟨_, _, rfl, Iff.rfl, .inr (.inr (.inl ⟨rfl, by simp; omega, by simp⟩))⟩
  ·exact ⟨_, _, rfl, Iff.rfl, .inr (.inr (.inr (.inl ⟨rfl, by simp; omega, by simp⟩)))⟩
  ·exact ⟨_, _, rfl, Iff.rfl, .inr (.inr (.inr (.inr ⟨rfl, by simp; omega, by simp⟩)))⟩
 obtain ⟨v, pr, hv, hpr, hor⟩ := hcase
 rw [hv]
 have hfin : ∀ (w' : World) (H : HP), St w [] H w' → ∀ b : Bool, (b = true ↔ pr) → ∃ b' : Bool, Ending.returned (.tuple #[.int .i64 v, .bool b]) = .returned (.tuple #[.int .i64 v, .bool b']) ∧ (b' = true ↔ leadM s.wide s.high r o) ∧ St w [] [] w' := fun w' H hw' b hb => ⟨b, rfl, hb.trans hpr.symm, hw'.le .nil⟩
 clear hv hpr hm ho
 rcases hor with ⟨rfl, rfl, rfl⟩ | ⟨rfl, rfl, rfl⟩ | ⟨rfl, rfl, rfl⟩ | ⟨rfl, rfl, rfl⟩ | ⟨rfl, rfl, rfl⟩
 all_goals
  repeat' (conv => whnf); first | (refine VNew.mk fun b4 => ?_) | (refine VCall.isF 152 ?_; (refine VCall.valR (fun w' _ => hm2 w') ?_)) | (refine VAr.is ?_; refine VAr.is ?_; refine VAr.mul hp0 (by omega) (by omega) ?_) | (refine VAr.is ?_; refine VAr.is ?_; refine VAr.mul hp1 (by omega) (by omega) ?_) | (refine VAr.is ?_; refine VAr.is ?_; refine VAr.mul hp2 (by omega) (by omega) ?_) | (refine VSeq.go ?_) | (refine VB.is ?_; refine VB.yes (by omega) fun _ => ?_) | (refine VB.is ?_; refine VB.no (by omega) fun _ => ?_) | (refine VB.split (fun _ => ?_) (fun _ => ?_)) | (refine VLd.is ?_; refine VLd.mk (.row aT (by rfl)) ?_) | (refine VSt.is ?_; refine VSt.row aT (by rfl) (by first | rfl | assumption) ?_) | (refine VAr.is ?_; refine oA ?_) | (refine VHs.mk _ (.refl _) ?_)
  all_goals (conv => whnf)
  all_goals first
   | exact ⟨fun w' hw' => hfin w' _ hw' true ⟨fun _ => by first | trivial | omega, fun _ => rfl⟩⟩
   | exact ⟨fun w' hw' => hfin w' _ hw' false ⟨fun h => (by cases h), fun h => by omega⟩⟩
   | (exfalso; omega)
   | trace_state

end Go.Proofs
end
