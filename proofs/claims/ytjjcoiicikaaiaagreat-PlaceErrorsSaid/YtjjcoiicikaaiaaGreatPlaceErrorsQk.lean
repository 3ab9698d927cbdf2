import Derived.Test.YtjjcoiicikaaiaaGreatPlaceErrorsNa
import Derived.Test.YtjjcoiicikaaiaaGreatPlaceErrorsPq
set_option linter.unusedVariables false
set_option linter.unusedSimpArgs false
set_option maxHeartbeats 4000000

namespace Go.Vx

theorem VQ.gen {a b : Int} {k : Int → Prop} (ha : 0 ≤ a) (hb : 0 < b) (h2 : a ≤ 9223372036854775807) (hk : ∀ q, a / b = q → 0 ≤ q → q ≤ a → k q) : VQ .i64 a b k :=
 .pos ha hb h2 (hk _ rfl (Int.ediv_nonneg ha (Int.le_of_lt hb)) (Int.ediv_le_self b ha))

theorem VM.gen {a b : Int} {k : Int → Prop} (ha : 0 ≤ a) (hb : 0 < b) (hk : ∀ q, a % b = q → 0 ≤ q → q < b → k q) : VM a b k :=
 .pos ha hb (hk _ rfl (Int.emod_nonneg _ (by omega)) (Int.emod_lt_of_pos _ hb))

theorem VAr.mul {a b z : Int} {k : Int → Prop} (h : a * b = z) (h1 : -9223372036854775808 ≤ z) (h2 : z ≤ 9223372036854775807) (hk : k z) : VAr .i64 (a * b) k := h ▸ .i64 h1 h2 hk

theorem VShL.one {b : Int} {k : Int → Prop} (h0 : 0 ≤ b) (h1 : b ≤ 62) (hk : k (2 ^ b.toNat)) : VShL .i64 1 b k := by
 refine .mk h0 ?_
 have e : min b.toNat (IntKind.i64.bits) = b.toNat := by
  have : IntKind.i64.bits = 64 := rfl
  rw [this]; omega
 rw [e, Int.one_mul, wrap_i64]
 ·exact hk
 ·have : (0 : Int) < 2 ^ b.toNat := Int.pow_pos (by omega)
  omega
 ·have e2 : ((2 : Int) ^ b.toNat) = ((2 ^ b.toNat : Nat) : Int) := by simp
  have h3 : 2 ^ b.toNat ≤ 2 ^ 62 := Nat.pow_le_pow_right (by omega) (by omega)
  rw [e2]
  omega

theorem VShL.is {kd : IntKind} {a b : Int} {k : Int → Prop} (hh : VShL kd a b k) : VShL kd a b k := hh

theorem VSeq.isN {at_ : Nat} {H : HP} {A : (Env → HP → Prop) → Prop} {B : Env → HP → Prop} (n : Nat) (h : at_ = n) (hh : VSeq at_ H A B) : VSeq at_ H A B := hh

theorem VBit.is {op : BinOp} {kd : IntKind} {a b : Int} {k : Int → Prop} (hh : VBit op kd a b k) : VBit op kd a b k := hh

end Go.Vx

namespace Go.Proofs

open Go Go.Vx Go.Gm

theorem near_abs (w s : Int) : nearM w s = if w < 0 then 0 - ((2 * max w (0 - w) + s - 1) / (2 * s)) else (2 * max w (0 - w) + s - 1) / (2 * s) := by
 unfold nearM
 by_cases h : w < 0
 ·rw [if_pos h, if_pos h, show max w (0 - w) = -w by omega, Int.zero_sub]
 ·rw [if_neg h, if_neg h, show max w (0 - w) = w by omega]

theorem nearest_any (x s : Int) (hx : -1099511627776 ≤ x ∧ x ≤ 1099511627776) (hs : 1 ≤ s ∧ s ≤ 1099511627776) (w : World) : Calls Tryz.prog 56 #[.int .i64 x, .int .i64 s] w fun e w' => e = .returned (.int .i64 (nearM x s)) ∧ St w [] [] w' := by
 rw [near_abs]
 refine enter (C := Tryz.cx) (F := Tryz.fx56) (args := [_, _]) Tryz.func56 rfl rfl rfl Tryz.ok56 (St.start w []) ?_
 obtain ⟨m, hm⟩ : ∃ m, max x (0 - x) = m := ⟨_, rfl⟩
 have hm0 : 0 ≤ m ∧ m ≤ 1099511627776 := by omega
 repeat' (conv => whnf); first | (refine VCall.isF 57 ?_; refine VCall.inl (F := Tryz.fx57) Tryz.func57 rfl rfl rfl Tryz.ok57 ?_) | (refine VQ.is ?_; refine VQ.is ?_; rw [hm]; refine VQ.gen (by omega) (by omega) (by omega) fun q hq hq0 hq1 => ?_) | (refine VSeq.go ?_) | (refine VB.split (fun _ => ?_) (fun _ => ?_)) | (refine VAr.is ?_; refine oA ?_)
 all_goals (conv => whnf)
 ·exact ⟨fun w' hw' => ⟨by rw [if_pos ‹_›, hq]; rfl, hw'.le .nil⟩⟩
 ·exact ⟨fun w' hw' => ⟨by rw [if_neg ‹_›, hq]; rfl, hw'.le .nil⟩⟩

theorem mul_bound {a b A B : Int} (ha : -A ≤ a ∧ a ≤ A) (hb : 0 ≤ b ∧ b ≤ B) (hA : 0 ≤ A) : -(A * B) ≤ a * b ∧ a * b ≤ A * B := mul_le_of ha.1 ha.2 hb.1 hb.2 hA

theorem fits_any (lo hi s half : Int) (hlo : -32768 ≤ lo ∧ lo ≤ 0) (hhi : 0 ≤ hi ∧ hi ≤ 32768) (hs : 1 ≤ s ∧ s ≤ 65537) (hh : 2 ≤ half ∧ half ≤ 32768) (w : World) : Calls Tryz.prog 55 #[.int .i64 lo, .int .i64 hi, .int .i64 s, .int .i64 half] w fun e w' => ∃ b : Bool, e = .returned (.bool b) ∧ (b = true ↔ fitsM lo hi s half) ∧ St w [] [] w' := by
 have n1 := (near_small (w := lo) hs.1).2 hlo.2
 have n2 := (near_small (w := hi) hs.1).1 hhi.1
 refine enter (C := Tryz.cx) (F := Tryz.fx55) (args := [_, _, _, _]) Tryz.func55 rfl rfl rfl Tryz.ok55 (St.start w []) ?_
 unfold fitsM
 obtain ⟨a, ha⟩ : ∃ a, nearM lo s = a := ⟨_, rfl⟩
 obtain ⟨b, hb⟩ : ∃ b, nearM hi s = b := ⟨_, rfl⟩
 rw [ha] at n1 ⊢
 rw [hb] at n2 ⊢
 have m1 := mul_bound (a := a) (b := s) (A := 32768) (B := 65537) (by omega) (by omega) (by omega)
 have m2 := mul_bound (a := b) (b := s) (A := 32768) (B := 65537) (by omega) (by omega) (by omega)
 obtain ⟨c, hc⟩ : ∃ c, a * s = c := ⟨_, rfl⟩
 obtain ⟨d, hd⟩ : ∃ d, b * s = d := ⟨_, rfl⟩
 rw [hc] at m1 ⊢
 rw [hd] at m2 ⊢
 repeat' (conv => whnf); first | (refine VAr.is ?_; refine VAr.is ?_; refine VAr.mul hc (by omega) (by omega) ?_) | (refine VAr.is ?_; refine VAr.is ?_; refine VAr.mul hd (by omega) (by omega) ?_) | (refine VCall.isF 56 ?_; (refine VCall.valR (fun w' _ => nearest_any _ s (by omega) (by omega) w') ?_; first | rw [ha] | rw [hb])) | (refine VSeq.go ?_) | (refine VB.split (fun _ => ?_) (fun _ => ?_)) | (refine VAr.is ?_; refine oA ?_)
 all_goals (conv => whnf)
 all_goals exact ⟨fun w' hw' => ⟨_, rfl, by first | (constructor <;> intro h <;> first | omega | (cases h; done)) | (simp; omega), hw'.le .nil⟩⟩

end Go.Proofs
