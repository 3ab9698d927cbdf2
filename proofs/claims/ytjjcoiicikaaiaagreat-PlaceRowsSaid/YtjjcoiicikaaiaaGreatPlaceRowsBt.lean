import Derived.Test.YtjjcoiicikaaiaaGreatPlaceRowsMs
import Derived.Test.YtjjcoiicikaaiaaGreatPlaceRowsPv
import Derived.KernelRfl
set_option linter.unusedVariables false
set_option linter.unusedSimpArgs false
set_option maxHeartbeats 4000000

namespace Go.Gm

def pop1 (x : Nat) : Nat := ((x >>> 1) &&& 6148914691236517205) + (x &&& 6148914691236517205)

def pop2 (x : Nat) : Nat := ((x >>> 2) &&& 3689348814741910323) + (x &&& 3689348814741910323)

def pop3 (x : Nat) : Nat := ((x >>> 4) + x) &&& 1085102592571150095

def pop4 (x : Nat) : Nat := x + (x >>> 8)

def pop5 (x : Nat) : Nat := x + (x >>> 16)

def pop6 (x : Nat) : Nat := x + (x >>> 32)

def popF (x : Nat) : Nat := pop6 (pop5 (pop4 (pop3 (pop2 (pop1 x))))) &&& 127

def powB (x : Nat) : Bool := Nat.beq x 1 || Nat.beq x 2 || Nat.beq x 4 || Nat.beq x 8 || Nat.beq x 16 || Nat.beq x 32 || Nat.beq x 64 || Nat.beq x 128 || Nat.beq x 256 || Nat.beq x 512 || Nat.beq x 1024 || Nat.beq x 2048 || Nat.beq x 4096 || Nat.beq x 8192 || Nat.beq x 16384 || Nat.beq x 32768

def allB : Nat → Nat → (Nat → Bool) → Bool
 | 0, lo, p => p lo
 | k + 1, lo, p => allB k lo p && allB k (lo + 2 ^ k) p

theorem allB_spec {p : Nat → Bool} : ∀ (k lo : Nat), allB k lo p = true → ∀ x, lo ≤ x → x < lo + 2 ^ k → p x = true
 | 0, lo, h, x, h1, h2 => by
  have : x = lo := by simp at h2; omega
  subst this; exact h
 | k + 1, lo, h, x, h1, h2 => by
  simp only [allB, Bool.and_eq_true] at h
  rw [Nat.pow_succ] at h2
  by_cases hx : x < lo + 2 ^ k
  ·exact allB_spec k lo h.1 x h1 hx
  ·exact allB_spec k (lo + 2 ^ k) h.2 x (by omega) (by omega)

theorem pop_all : allB 16 0 (fun x => Bool.or (Bool.not (Nat.beq (popF x) 1)) (powB x)) = true := by kernel_rfl

theorem pop_one {x : Nat} (h : x < 65536) : popF x = 1 ↔ isPow (x : Int) := by
 constructor
 ·intro hp
  have := allB_spec 16 0 pop_all x (Nat.zero_le _) (by simpa using h)
  rw [hp] at this
  simp only [Nat.beq_refl, Bool.not_true, Bool.false_or, powB, Bool.or_eq_true, Nat.beq_eq] at this
  unfold isPow
  rcases this with (((((((((((((((rfl | rfl) | rfl) | rfl) | rfl) | rfl) | rfl) | rfl) | rfl) | rfl) | rfl) | rfl) | rfl) | rfl) | rfl) | rfl)
  ·exact ⟨0, by omega, rfl⟩
  ·exact ⟨1, by omega, rfl⟩
  ·exact ⟨2, by omega, rfl⟩
  ·exact ⟨3, by omega, rfl⟩
  ·exact ⟨4, by omega, rfl⟩
  ·exact ⟨5, by omega, rfl⟩
  ·exact ⟨6, by omega, rfl⟩
  ·exact ⟨7, by omega, rfl⟩
  ·exact ⟨8, by omega, rfl⟩
  ·exact ⟨9, by omega, rfl⟩
  ·exact ⟨10, by omega, rfl⟩
  ·exact ⟨11, by omega, rfl⟩
  ·exact ⟨12, by omega, rfl⟩
  ·exact ⟨13, by omega, rfl⟩
  ·exact ⟨14, by omega, rfl⟩
  ·exact ⟨15, by omega, rfl⟩
 ·rintro ⟨i, hi, he⟩
  have hx : x = 2 ^ i := by omega
  subst hx
  have : i = 0 ∨ i = 1 ∨ i = 2 ∨ i = 3 ∨ i = 4 ∨ i = 5 ∨ i = 6 ∨ i = 7 ∨ i = 8 ∨ i = 9 ∨ i = 10 ∨ i = 11 ∨ i = 12 ∨ i = 13 ∨ i = 14 ∨ i = 15 := by omega
  rcases this with rfl | rfl | rfl | rfl | rfl | rfl | rfl | rfl | rfl | rfl | rfl | rfl | rfl | rfl | rfl | rfl <;> decide

end Go.Gm

namespace Go.Proofs

open Go Go.Vx Go.Gm

theorem bits_xor {a b : Nat} (ha : a < 2 ^ 62) (hb : b < 2 ^ 62) : bitsI .xor .i64 (a : Int) (b : Int) = ((a ^^^ b : Nat) : Int) := by
 unfold bitsI
 dsimp only
 have hbb : IntKind.i64.bits = 64 := rfl
 have h1 : (BitVec.ofInt IntKind.i64.bits (a : Int) ^^^ BitVec.ofInt IntKind.i64.bits (b : Int)).toNat = a ^^^ b := by
  rw [BitVec.toNat_xor]
  have e1 : (BitVec.ofInt IntKind.i64.bits (a : Int)).toNat = a := by rw [BitVec.toNat_ofInt, hbb]; omega
  have e2 : (BitVec.ofInt IntKind.i64.bits (b : Int)).toNat = b := by rw [BitVec.toNat_ofInt, hbb]; omega
  rw [e1, e2]
 have h2 : a ^^^ b < 2 ^ 62 := Nat.xor_lt_two_pow ha hb
 rw [h1, wrap_i64 (by omega) (by omega)]

theorem and_not_add (x y : BitVec 64) : (x &&& ~~~y) + (x &&& y) = x := by
 rw [BitVec.add_eq_or_of_and_eq_zero]
 ·ext i h
  simp only [BitVec.getElem_or, BitVec.getElem_and, BitVec.getElem_not]
  cases x[i] <;> cases y[i] <;> rfl
 ·ext i h
  simp only [BitVec.getElem_and, BitVec.getElem_not, BitVec.getElem_zero]
  cases x[i] <;> cases y[i] <;> rfl

theorem and_not_nat (x y : BitVec 64) : (x &&& ~~~y).toNat = x.toNat - (x.toNat &&& y.toNat) := by
 have h := and_not_add x y
 have h2 : (x &&& ~~~y) = x - (x &&& y) := by rw [BitVec.eq_sub_iff_add_eq, h]
 have h3 : (x &&& y).toNat ≤ x.toNat := by rw [BitVec.toNat_and]; exact Nat.and_le_left
 rw [h2, BitVec.toNat_sub_of_le (by exact h3), BitVec.toNat_and]

theorem bits_less {a b : Nat} (ha : a < 2 ^ 62) (hb : b < 2 ^ 62) : bitsI .andNot .i64 (a : Int) (b : Int) = ((a - (a &&& b) : Nat) : Int) := by
 unfold bitsI
 dsimp only
 have hbb : IntKind.i64.bits = 64 := rfl
 have h1 : (BitVec.ofInt IntKind.i64.bits (a : Int) &&& ~~~BitVec.ofInt IntKind.i64.bits (b : Int)).toNat = a - (a &&& b) := by
  have := and_not_nat (BitVec.ofInt 64 (a : Int)) (BitVec.ofInt 64 (b : Int))
  have e1 : (BitVec.ofInt 64 (a : Int)).toNat = a := by rw [BitVec.toNat_ofInt]; omega
  have e2 : (BitVec.ofInt 64 (b : Int)).toNat = b := by rw [BitVec.toNat_ofInt]; omega
  rw [e1, e2] at this
  exact this
 rw [h1, wrap_i64 (by omega) (by omega)]

theorem _root_.Go.Vx.VBit.xor {a b : Int} {k : Int → Prop} (ha : 0 ≤ a ∧ a ≤ 4611686018427387903) (hb : 0 ≤ b ∧ b ≤ 4611686018427387903) (hk : k ((a.toNat ^^^ b.toNat : Nat) : Int)) : VBit .xor .i64 a b k := by
 refine .mk ?_
 have := bits_xor (a := a.toNat) (b := b.toNat) (by omega) (by omega)
 rw [Int.toNat_of_nonneg ha.1, Int.toNat_of_nonneg hb.1] at this
 rw [this]
 exact hk

theorem _root_.Go.Vx.VBit.less {a b : Int} {k : Int → Prop} (ha : 0 ≤ a ∧ a ≤ 4611686018427387903) (hb : 0 ≤ b ∧ b ≤ 4611686018427387903) (hk : k ((a.toNat - (a.toNat &&& b.toNat) : Nat) : Int)) : VBit .andNot .i64 a b k := by
 refine .mk ?_
 have := bits_less (a := a.toNat) (b := b.toNat) (by omega) (by omega)
 rw [Int.toNat_of_nonneg ha.1, Int.toNat_of_nonneg hb.1] at this
 rw [this]
 exact hk

theorem wrap_u64 {z : Nat} (h : z < 2 ^ 64) : IntKind.u64.wrap (z : Int) = (z : Int) := by
 have : IntKind.u64.wrap (z : Int) = ((z : Int) % (2 ^ 64 : Nat) : Int) := rfl
 rw [this]
 omega

theorem _root_.Go.Vx.VAr.u64 {z : Nat} {k : Int → Prop} (h : z < 2 ^ 64) (hk : k (z : Int)) : VAr .u64 (z : Int) k := .fits (wrap_u64 h) hk

theorem _root_.Go.Vx.VAr.u64g {z : Int} {k : Int → Prop} (h0 : 0 ≤ z) (h : z < 18446744073709551616) (hk : ∀ c : Nat, (c : Int) = z → k (c : Int)) : VAr .u64 z k := by
 have e : z = (z.toNat : Int) := by omega
 rw [e]
 refine .fits (wrap_u64 (by omega)) (hk _ ?_)
 rw [← e]

theorem bits_andU {a b : Nat} (ha : a < 2 ^ 64) (hb : b < 2 ^ 64) : bitsI .and .u64 (a : Int) (b : Int) = ((a &&& b : Nat) : Int) := by
 unfold bitsI
 dsimp only
 have hbb : IntKind.u64.bits = 64 := rfl
 have h1 : (BitVec.ofInt IntKind.u64.bits (a : Int) &&& BitVec.ofInt IntKind.u64.bits (b : Int)).toNat = a &&& b := by
  rw [BitVec.toNat_and]
  have e1 : (BitVec.ofInt IntKind.u64.bits (a : Int)).toNat = a := by rw [BitVec.toNat_ofInt, hbb]; omega
  have e2 : (BitVec.ofInt IntKind.u64.bits (b : Int)).toNat = b := by rw [BitVec.toNat_ofInt, hbb]; omega
  rw [e1, e2]
 have h2 : a &&& b ≤ a := Nat.and_le_left
 rw [h1, wrap_u64 (by omega)]

theorem _root_.Go.Vx.VBit.andU {a b : Nat} {k : Int → Prop} (ha : a < 2 ^ 64) (hb : b < 2 ^ 64) (hk : ∀ c : Nat, c = a &&& b → c ≤ a → k (c : Int)) : VBit .and .u64 (a : Int) (b : Int) k := by
 refine .mk ?_
 rw [bits_andU ha hb]
 exact hk _ rfl Nat.and_le_left

theorem _root_.Go.Vx.VShR.natU {a : Nat} (n : Nat) (hn : n ≤ 64) {k : Int → Prop} (hk : ∀ c : Nat, c = a >>> n → c ≤ a → k (c : Int)) : VShR .u64 (a : Int) (n : Int) k := by
 refine .mk (by omega) ?_
 have hbb : IntKind.u64.bits = 64 := rfl
 have e : min (n : Int).toNat IntKind.u64.bits = n := by rw [hbb]; omega
 rw [e]
 have h2 : (a : Int).fdiv (2 ^ n) = ((a >>> n : Nat) : Int) := by
  rw [Int.fdiv_eq_ediv_of_nonneg _ (Int.pow_nonneg (by omega)), Nat.shiftRight_eq_div_pow]
  rw [Int.natCast_ediv, Int.natCast_pow]; rfl
 rw [h2]
 exact hk _ rfl (by rw [Nat.shiftRight_eq_div_pow]; exact Nat.div_le_self ..)

theorem _root_.Go.Vx.VShR.is {kd : IntKind} {a b : Int} {k : Int → Prop} (hh : VShR kd a b k) : VShR kd a b k := hh

theorem onesCount_any (x : Nat) (hx : x < 65536) (w : World) : Calls Tryz.prog 186 #[.int .u64 (x : Int)] w fun e w' => ∃ n : Nat, e = .returned (.int .i64 (n : Int)) ∧ (n = 1 ↔ isPow (x : Int)) ∧ St w [] [] w' := by
 refine enter (C := Tryz.cx) (F := Tryz.fx186) (args := [_]) Tryz.func186 rfl rfl rfl Tryz.ok186 (St.start w []) ?_
 repeat' (conv => whnf); first | (refine VCall.isF 205 ?_; refine VCall.inl (F := Tryz.fx205) Tryz.func205 rfl rfl rfl Tryz.ok205 ?_) | (refine VShR.is ?_; refine VShR.is ?_; first | refine VShR.natU 1 (by omega) fun c hc hle => ?_ | refine VShR.natU 2 (by omega) fun c hc hle => ?_ | refine VShR.natU 4 (by omega) fun c hc hle => ?_ | refine VShR.natU 8 (by omega) fun c hc hle => ?_ | refine VShR.natU 16 (by omega) fun c hc hle => ?_ | refine VShR.natU 32 (by omega) fun c hc hle => ?_) | (refine VBit.is ?_; refine VBit.is ?_; first | refine VBit.andU (b := 6148914691236517205) (by omega) (by omega) fun c hc hle => ?_ | refine VBit.andU (b := 3689348814741910323) (by omega) (by omega) fun c hc hle => ?_ | refine VBit.andU (b := 1085102592571150095) (by omega) (by omega) fun c hc hle => ?_ | refine VBit.and (by omega) (by omega) ?_) | (refine VAr.is ?_; refine VAr.is ?_; refine VAr.u64g (by omega) (by omega) fun c hc => ?_) | (refine VSeq.go ?_) | (refine VAr.is ?_; refine oA ?_)
 all_goals (conv => whnf)
 rename_i x1 p1 q1 x2 p2 q2 x3 p3 q3 s1 t1 x4 p4 q4 x5 p5 q5 x6 p6 q6 s2 t2 x7 p7 q7 s3 t3 x8 p8 q8 x9 p9 q9 s4 t4 x10 p10 q10 s5 t5 x11 p11
 have r1 : s1 = x2 + x3 := by omega
 have r2 : s2 = x5 + x6 := by omega
 have r3 : s3 = x7 + s2 := by omega
 have r4 : s4 = x8 + x9 := by omega
 have r5 : s5 = s4 + x10 := by omega
 have r6 : c = s5 + x11 := by omega
 have e : (Int.toNat (c : Int) &&& Int.toNat 127) = popF x := by
  rw [Int.toNat_natCast]
  have e127 : Int.toNat 127 = 127 := rfl
  rw [e127]
  unfold popF pop6 pop5 pop4 pop3 pop2 pop1
  rw [r6, p11, r5, p10, r4, p9, p8, r3, p7, r2, p6, p5, p4, r1, p3, p2, p1]
 exact ⟨fun w' hw' => ⟨popF x, by rw [← e]; rfl, pop_one hx, hw'.le .nil⟩⟩

end Go.Proofs
