import Derived.Test.YtjjcoiicikaaiaaGreatPlaceWaysPv
import Derived.KernelRfl
set_option linter.unusedVariables false
set_option linter.unusedSimpArgs false
set_option maxHeartbeats 4000000
section

namespace Go.Gm

def pop1 (x : Nat) : Nat := ((x >>> 1) &&& 6148914691236517205) + (x &&& 6148914691236517205)

def pop2 (x : Nat) : Nat := ((x >>> 2) &&& 3689348814741910323) + (x &&& 3689348814741910323)

def pop3 (x : Nat) : Nat := ((x >>> 4) + x) &&& 1085102592571150095

def pop4 (x : Nat) : Nat := x + (x >>> 8)

def pop5 (x : Nat) : Nat := x + (x >>> 16)

def pop6 (x : Nat) : Nat := x + (x >>> 32)

def popF (x : Nat) : Nat := pop6 (pop5 (pop4 (pop3 (pop2 (pop1 x))))) &&& 127

def powB (x : Nat) : Bool := Nat.beq x 1 || Nat.beq x 2 || Nat.beq x 4 || Nat.beq x 8 || Nat.beq x 16 || Nat.beq x 32 || Nat.beq x 64 || Nat.beq x 128 || Nat.beq x 256 || Nat.beq x 512 || Nat.beq x 1024 || Nat.beq x 2048 || Nat.beq x 4096 || Nat.beq x 8192 || Nat.beq x 16384 || Nat.beq x 32768

def allB : Nat → Nat → (Nat → Bool) → Bool
 | 0, lo, p => p lo
 | k + 1, lo, p => allB k lo p && allB k (lo + 2 ^ k) p

theorem allB_spec {p : Nat → Bool} : ∀ (k lo : Nat), allB k lo p = true → ∀ x, lo ≤ x → x < lo + 2 ^ k → p x = true
 | 0, lo, h, x, h1, h2 => by
  have : x = lo := by simp at h2; omega
  subst this; exact h
 | k + 1, lo, h, x, h1, h2 => by
  simp only [allB, Bool.and_eq_true] at h
  rw [Nat.pow_succ] at h2
  by_cases hx : x < lo + 2 ^ k
  ·exact allB_spec k lo h.1 x h1 hx
  ·exact allB_spec k (lo + 2 ^ k) h.2 x (by omega) (by omega)

theorem pop_all : allB 16 0 (fun x => Bool.or (Bool.not (Nat.beq (popF x) 1)) (powB x)) = true := by kernel_rfl

theorem pop_one {x : Nat} (h : x < 65536) : popF x = 1 ↔ isPow (x : Int) := by
 constructor
 ·intro hp
  have := allB_spec 16 0 pop_all x (Nat.zero_le _) (by simpa using h)
  rw [hp] at this
  simp only [Nat.beq_refl, Bool.not_true, Bool.false_or, powB, Bool.or_eq_true, Nat.beq_eq] at this
  unfold isPow
  rcases this with (((((((((((((((rfl | rfl) | rfl) | rfl) | rfl) | rfl) | rfl) | rfl) | rfl) | rfl) | rfl) | rfl) | rfl) | rfl) | rfl) | rfl)
  ·exact ⟨0, by omega, rfl⟩
  ·exact ⟨1, by omega, rfl⟩
  ·exact ⟨2, by omega, rfl⟩
  ·exact ⟨3, by omega, rfl⟩
  ·exact ⟨4, by omega, rfl⟩
  ·exact ⟨5, by omega, rfl⟩
  ·exact ⟨6, by omega, rfl⟩
  ·exact ⟨7, by omega, rfl⟩
  ·exact ⟨8, by omega, rfl⟩
  ·exact ⟨9, by omega, rfl⟩
  ·exact ⟨10, by omega, rfl⟩
  ·exact ⟨11, by omega, rfl⟩
  ·exact ⟨12, by omega, rfl⟩
  ·exact ⟨13, by omega, rfl⟩
  ·exact ⟨14, by omega, rfl⟩
  ·exact ⟨15, by omega, rfl⟩
 ·rintro ⟨i, hi, he⟩
  have hx : x = 2 ^ i := by omega
  subst hx
  have : i = 0 ∨ i = 1 ∨ i = 2 ∨ i = 3 ∨ i = 4 ∨ i = 5 ∨ i = 6 ∨ i = 7 ∨ i = 8 ∨ i = 9 ∨ i = 10 ∨ i = 11 ∨ i = 12 ∨ i = 13 ∨ i = 14 ∨ i = 15 := by omega
  rcases this with rfl | rfl | rfl | rfl | rfl | rfl | rfl | rfl | rfl | rfl | rfl | rfl | rfl | rfl | rfl | rfl <;> decide

end Go.Gm

namespace Go.Proofs

open Go Go.Vx Go.Gm

theorem bits_xor {a b : Nat} (ha : a < 2 ^ 62) (hb : b < 2 ^ 62) : bitsI .xor .i64 (a : Int) (b : Int) = ((a ^^^ b : Nat) : Int) := by
 unfold bitsI
 dsimp only
 have hbb : IntKind.i64.bits = 64 := rfl
 have h1 : (BitVec.ofInt IntKind.i64.bits (a : Int) ^^^ BitVec.ofInt IntKind.i64.bits (b : Int)).toNat = a ^^^ b := by
  rw [BitVec.toNat_xor]
  have e1 : (BitVec.ofInt IntKind.i64.bits (a : Int)).toNat = a := by rw [BitVec.toNat_ofInt, hbb]; omega
  have e2 : (BitVec.ofInt IntKind.i64.bits (b : Int)).toNat = b := by rw [BitVec.toNat_ofInt, hbb]; omega
  rw [e1, e2]
 have h2 : a ^^^ b < 2 ^ 62 := Nat.xor_lt_two_pow ha hb
 rw [h1, wrap_i64 (by omega) (by omega)]

theorem and_not_add (x y : BitVec 64) : (x &&& ~~~y) + (x &&& y) = x := by
 rw [BitVec.add_eq_or_of_and_eq_zero]
 ·ext i h
  simp only [BitVec.getElem_or, BitVec.getElem_and, BitVec.getElem_not]
  cases x[i] <;> cases y[i] <;> rfl
 ·ext i h
  simp only [BitVec.getElem_and, BitVec.getElem_not, BitVec.getElem_zero]
  cases x[i] <;> cases y[i] <;> rfl

theorem and_not_nat (x y : BitVec 64) : (x &&& ~~~y).toNat = x.toNat - (x.toNat &&& y.toNat) := by
 have h := and_not_add x y
 have h2 : (x &&& ~~~y) = x - (x &&& y) := by rw [BitVec.eq_sub_iff_add_eq, h]
 have h3 : (x &&& y).toNat ≤ x.toNat := by rw [BitVec.toNat_and]; exact Nat.and_le_left
 rw [h2, BitVec.toNat_sub_of_le (by exact h3), BitVec.toNat_and]

theorem bits_less {a b : Nat} (ha : a < 2 ^ 62) (hb : b < 2 ^ 62) : bitsI .andNot .i64 (a : Int) (b : Int) = ((a - (a &&& b) : Nat) : Int) := by
 unfold bitsI
 dsimp only
 have hbb : IntKind.i64.bits = 64 := rfl
 have h1 : (BitVec.ofInt IntKind.i64.bits (a : Int) &&& ~~~BitVec.ofInt IntKind.i64.bits (b : Int)).toNat = a - (a &&& b) := by
  have := and_not_nat (BitVec.ofInt 64 (a : Int)) (BitVec.ofInt 64 (b : Int))
  have e1 : (BitVec.ofInt 64 (a : Int)).toNat = a := by rw [BitVec.toNat_ofInt]; omega
  have e2 : (BitVec.ofInt 64 (b : Int)).toNat = b := by rw [BitVec.toNat_ofInt]; omega
  rw [e1, e2] at this
  exact this
 rw [h1, wrap_i64 (by omega) (by omega)]

theorem _root_.Go.Vx.VBit.xor {a b : Int} {k : Int → Prop} (ha : 0 ≤ a ∧ a ≤ 4611686018427387903) (hb : 0 ≤ b ∧ b ≤ 4611686018427387903) (hk : k ((a.toNat ^^^ b.toNat : Nat) : Int)) : VBit .xor .i64 a b k := by
 refine .mk ?_
 have := bits_xor (a := a.toNat) (b := b.toNat) (by omega) (by omega)
 rw [Int.toNat_of_nonneg ha.1, Int.toNat_of_nonneg hb.1] at this
 rw [this]
 exact hk

theorem _root_.Go.Vx.VBit.less {a b : Int} {k : Int → Prop} (ha : 0 ≤ a ∧ a ≤ 4611686018427387903) (hb : 0 ≤ b ∧ b ≤ 4611686018427387903) (hk : k ((a.toNat - (a.toNat &&& b.toNat) : Nat) : Int)) : VBit .andNot .i64 a b k := by
 refine .mk ?_
 have := bits_less (a := a.toNat) (b := b.toNat) (by omega) (by omega)
 rw [Int.toNat_of_nonneg ha.1, Int.toNat_of_nonneg hb.1] at this
 rw [this]
 exact hk

theorem wrap_u64 {z : Nat} (h : z < 2 ^ 64) : IntKind.u64.wrap (z : Int) = (z : Int) := by
 have : IntKind.u64.wrap (z : Int) = ((z : Int) % (2 ^ 64 : Nat) : Int) := rfl
 rw [this]
 omega

theorem _root_.Go.Vx.VAr.u64 {z : Nat} {k : Int → Prop} (h : z < 2 ^ 64) (hk : k (z : Int)) : VAr .u64 (z : Int) k := .fits (wrap_u64 h) hk

theorem _root_.Go.Vx.VAr.u64g {z : Int} {k : Int → Prop} (h0 : 0 ≤ z) (h : z < 18446744073709551616) (hk : ∀ c : Nat, (c : Int) = z → k (c : Int)) : VAr .u64 z k := by
 have e : z = (z.toNat : Int) := by omega
 rw [e]
 refine .fits (wrap_u64 (by omega)) (hk _ ?_)
 rw [← e]

theorem bits_andU {a b : Nat} (ha : a < 2 ^ 64) (hb : b < 2 ^ 64) : bitsI .and .u64 (a : Int) (b : Int) = ((a &&& b : Nat) : Int) := by
 unfold bitsI
 dsimp only
 have hbb : IntKind.u64.bits = 64 := rfl
 have h1 : (BitVec.ofInt IntKind.u64.bits (a : Int) &&& BitVec.ofInt IntKind.u64.bits (b : Int)).toNat = a &&& b := by
  rw [BitVec.toNat_and]
  have e1 : (BitVec.ofInt IntKind.u64.bits (a : Int)).toNat = a := by rw [BitVec.toNat_ofInt, hbb]; omega
  have e2 : (BitVec.ofInt IntKind.u64.bits (b : Int)).toNat = b := by rw [BitVec.toNat_ofInt, hbb]; omega
  rw [e1, e2]
 have h2 : a &&& b ≤ a := Nat.and_le_left
 rw [h1, wrap_u64 (by omega)]

theorem _root_.Go.Vx.VBit.andU {a b : Nat} {k : Int → Prop} (ha : a < 2 ^ 64) (hb : b < 2 ^ 64) (hk : ∀ c : Nat, c = a &&& b → c ≤ a → k (c : Int)) : VBit .and .u64 (a : Int) (b : Int) k := by
 refine .mk ?_
 rw [bits_andU ha hb]
 exact hk _ rfl Nat.and_le_left

theorem _root_.Go.Vx.VShR.natU {a : Nat} (n : Nat) (hn : n ≤ 64) {k : Int → Prop} (hk : ∀ c : Nat, c = a >>> n → c ≤ a → k (c : Int)) : VShR .u64 (a : Int) (n : Int) k := by
 refine .mk (by omega) ?_
 have hbb : IntKind.u64.bits = 64 := rfl
 have e : min (n : Int).toNat IntKind.u64.bits = n := by rw [hbb]; omega
 rw [e]
 have h2 : (a : Int).fdiv (2 ^ n) = ((a >>> n : Nat) : Int) := by
  rw [Int.fdiv_eq_ediv_of_nonneg _ (Int.pow_nonneg (by omega)), Nat.shiftRight_eq_div_pow]
  rw [Int.natCast_ediv, Int.natCast_pow]; rfl
 rw [h2]
 exact hk _ rfl (by rw [Nat.shiftRight_eq_div_pow]; exact Nat.div_le_self ..)

theorem _root_.Go.Vx.VShR.is {kd : IntKind} {a b : Int} {k : Int → Prop} (hh : VShR kd a b k) : VShR kd a b k := hh

theorem onesCount_any (x : Nat) (hx : x < 65536) (w : World) : Calls Tryz.prog 186 #[.int .u64 (x : Int)] w fun e w' => ∃ n : Nat, e = .returned (.int .i64 (n : Int)) ∧ (n = 1 ↔ isPow (x : Int)) ∧ St w [] [] w' := by
 refine enter (C := Tryz.cx) (F := Tryz.fx186) (args := [_]) Tryz.func186 rfl rfl rfl Tryz.ok186 (St.start w []) ?_
 repeat' (conv => whnf); first | (refine VCall.isF 205 ?_; refine VCall.inl (F := Tryz.fx205) Tryz.func205 rfl rfl rfl Tryz.ok205 ?_) | (refine VShR.is ?_; refine VShR.is ?_; first | refine VShR.natU 1 (by omega) fun c hc hle => ?_ | refine VShR.natU 2 (by omega) fun c hc hle => ?_ | refine VShR.natU 4 (by omega) fun c hc hle => ?_ | refine VShR.natU 8 (by omega) fun c hc hle => ?_ | refine VShR.natU 16 (by omega) fun c hc hle => ?_ | refine VShR.natU 32 (by omega) fun c hc hle => ?_) | (refine VBit.is ?_; refine VBit.is ?_; first | refine VBit.andU (b := 6148914691236517205) (by omega) (by omega) fun c hc hle => ?_ | refine VBit.andU (b := 3689348814741910323) (by omega) (by omega) fun c hc hle => ?_ | refine VBit.andU (b := 1085102592571150095) (by omega) (by omega) fun c hc hle => ?_ | refine VBit.and (by omega) (by omega) ?_) | (refine VAr.is ?_; refine VAr.is ?_; refine VAr.u64g (by omega) (by omega) fun c hc => ?_) | (refine VSeq.go ?_) | (refine VAr.is ?_; refine oA ?_)
 all_goals (conv => whnf)
 rename_i x1 p1 q1 x2 p2 q2 x3 p3 q3 s1 t1 x4 p4 q4 x5 p5 q5 x6 p6 q6 s2 t2 x7 p7 q7 s3 t3 x8 p8 q8 x9 p9 q9 s4 t4 x10 p10 q10 s5 t5 x11 p11
 have r1 : s1 = x2 + x3 := by omega
 have r2 : s2 = x5 + x6 := by omega
 have r3 : s3 = x7 + s2 := by omega
 have r4 : s4 = x8 + x9 := by omega
 have r5 : s5 = s4 + x10 := by omega
 have r6 : c = s5 + x11 := by omega
 have e : (Int.toNat (c : Int) &&& Int.toNat 127) = popF x := by
  rw [Int.toNat_natCast]
  have e127 : Int.toNat 127 = 127 := rfl
  rw [e127]
  unfold popF pop6 pop5 pop4 pop3 pop2 pop1
  rw [r6, p11, r5, p10, r4, p9, p8, r3, p7, r2, p6, p5, p4, r1, p3, p2, p1]
 exact ⟨fun w' hw' => ⟨popF x, by rw [← e]; rfl, pop_one hx, hw'.le .nil⟩⟩

end Go.Proofs
end

section

namespace Go.Gm

structure EtyOk (x : Ety) : Prop where
 key : 0 ≤ x.key ∧ x.key ≤ 65535
 mask : 0 ≤ x.mask ∧ x.mask ≤ 65535
 fits : band x.key x.mask = x.key
 outs : 1 ≤ x.outs ∧ x.outs ≤ 31

theorem band_le (a b : Int) : 0 ≤ band a b ∧ band a b ≤ a.toNat ∧ band a b ≤ b.toNat := by
 unfold band
 have h1 : a.toNat &&& b.toNat ≤ a.toNat := Nat.and_le_left
 have h2 : a.toNat &&& b.toNat ≤ b.toNat := Nat.and_le_right
 omega

theorem bless_le (a b : Int) : 0 ≤ bless a b ∧ bless a b ≤ a.toNat := by
 unfold bless
 omega

theorem bxor_lt {a b : Int} (ha : 0 ≤ a ∧ a ≤ 65535) (hb : 0 ≤ b ∧ b ≤ 65535) : 0 ≤ bxor a b ∧ bxor a b ≤ 65535 := by
 unfold bxor
 have : a.toNat ^^^ b.toNat < 2 ^ 16 := Nat.xor_lt_two_pow (by omega) (by omega)
 omega

theorem or_add {a b : Nat} (h : a &&& b = 0) : a ||| b = a + b := by
 have hw : a + b < 2 ^ (a + b) := Nat.lt_two_pow_self
 have ha : a % 2 ^ (a + b) = a := Nat.mod_eq_of_lt (by omega)
 have hb : b % 2 ^ (a + b) = b := Nat.mod_eq_of_lt (by omega)
 have h1 := BitVec.add_eq_or_of_and_eq_zero (BitVec.ofNat (a + b) a) (BitVec.ofNat (a + b) b) (by
  apply BitVec.eq_of_toNat_eq
  rw [BitVec.toNat_and, BitVec.toNat_ofNat, BitVec.toNat_ofNat, ha, hb, h]; simp)
 have h2 := congrArg BitVec.toNat h1
 rw [BitVec.toNat_add, BitVec.toNat_or, BitVec.toNat_ofNat, BitVec.toNat_ofNat, ha, hb, Nat.mod_eq_of_lt hw] at h2
 exact h2.symm

theorem less_bit (a b i : Nat) : (a - (a &&& b)).testBit i = (a.testBit i && !b.testBit i) := by
 have h : a - (a &&& b) = a ^^^ (a &&& b) := by
  have h1 : (a ^^^ (a &&& b)) &&& (a &&& b) = 0 := by
   apply Nat.eq_of_testBit_eq
   intro j
   simp only [Nat.testBit_and, Nat.testBit_xor, Nat.zero_testBit]
   cases a.testBit j <;> cases b.testBit j <;> rfl
  have h2 : (a ^^^ (a &&& b)) ||| (a &&& b) = a := by
   apply Nat.eq_of_testBit_eq
   intro j
   simp only [Nat.testBit_and, Nat.testBit_xor, Nat.testBit_or]
   cases a.testBit j <;> cases b.testBit j <;> rfl
  have h3 := or_add h1
  omega
 rw [h, Nat.testBit_xor, Nat.testBit_and]
 cases a.testBit i <;> cases b.testBit i <;> rfl

theorem less_fits {k m d : Nat} (h : k &&& m = k) : (k - (k &&& d)) &&& (m - (m &&& d)) = k - (k &&& d) := by
 apply Nat.eq_of_testBit_eq
 intro i
 have hi := congrArg (fun x => x.testBit i) h
 simp only [Nat.testBit_and] at hi
 rw [Nat.testBit_and, less_bit, less_bit]
 revert hi
 cases k.testBit i <;> cases m.testBit i <;> cases d.testBit i <;> simp

theorem join_ok {x y z : Ety} (hx : EtyOk x) (h : joinE x y = some z) : EtyOk z := by
 unfold joinE at h
 split at h
 ·cases h
 ·cases h
  have h1 := bless_le x.key (bxor x.key y.key)
  have h2 := bless_le x.mask (bxor x.key y.key)
  have hk := hx.key
  have hm := hx.mask
  refine ⟨by dsimp only; omega, by dsimp only; omega, ?_, hx.outs⟩
  have hf := hx.fits
  unfold band bless at *
  dsimp only at *
  have e : x.key.toNat &&& x.mask.toNat = x.key.toNat := by omega
  have := less_fits (d := (bxor x.key y.key).toNat) e
  rw [Int.toNat_natCast, Int.toNat_natCast, this]

def hits (key : Int) (x : Ety) : Bool := decide (band key x.mask = x.key)

theorem findE_at {l : List Ety} {key : Int} {j : Nat} {x : Ety} (hj : l[j]? = some x) (h : hits key x = true) (hb : ∀ y ∈ l.take j, hits key y = false) : findE l key = some x.outs := by
 unfold findE
 have : l.find? (fun x => decide (band key x.mask = x.key)) = some x := by
  have hlt := (List.getElem?_eq_some_iff.1 hj).1
  rw [List.find?_eq_some_iff_append]
  refine ⟨h, l.take j, l.drop (j + 1), ?_, fun a ha => ?_⟩
  ·have e : l = l.take j ++ l.drop j := (List.take_append_drop j l).symm
   have e2 : l.drop j = x :: l.drop (j + 1) := by
    rw [List.drop_eq_getElem_cons hlt, (List.getElem?_eq_some_iff.1 hj).2]
   rw [← e2]; exact e
  ·have := hb a ha
   unfold hits at this
   simp [this]
 rw [this]; rfl

theorem findE_none {l : List Ety} {key : Int} (hb : ∀ y ∈ l, hits key y = false) : findE l key = none := by
 unfold findE
 have : l.find? (fun x => decide (band key x.mask = x.key)) = none := by
  rw [List.find?_eq_none]
  intro y hy
  have := hb y hy
  unfold hits at this
  simp [this]
 rw [this]; rfl

theorem findE_mem {l : List Ety} {key o : Int} (h : findE l key = some o) : ∃ x ∈ l, x.outs = o := by
 unfold findE at h
 cases hf : l.find? (fun x => decide (band key x.mask = x.key)) with
 | none => rw [hf] at h; cases h
 | some x =>
  rw [hf] at h
  simp only [Option.map_some, Option.some.injEq] at h
  exact ⟨x, List.mem_of_find?_eq_some hf, h⟩

theorem merged_ok {l : List Ety} (h : ∀ x ∈ l, EtyOk x) {k j : Nat} {z : Ety} (hz : EtyOk z) : ∀ x ∈ mergedAt l k j z, EtyOk x := by
 intro x hx
 unfold mergedAt at hx
 rcases List.mem_or_eq_of_mem_set hx with hx | rfl
 ·exact h x (List.mem_of_mem_eraseIdx hx)
 ·exact hz

theorem merged_len {l : List Ety} {k j : Nat} {z : Ety} (hj : j < l.length) : (mergedAt l k j z).length = l.length - 1 := by
 unfold mergedAt
 rw [List.length_set, List.length_eraseIdx_of_lt hj]

def tried (want l : List Ety) (keys : List Int) (k j : Nat) : Option (List Ety) := tryE want l keys (k, j)

theorem pairs_split (n k j : Nat) : ∀ p : Nat × Nat, p ∈ pairsM n ↔ p.1 < p.2 ∧ p.2 < n := by
 intro p
 unfold pairsM
 rw [List.mem_flatMap]
 constructor
 ·rintro ⟨k, hk, hp⟩
  rw [List.mem_map] at hp
  obtain ⟨j, hj, rfl⟩ := hp
  rw [List.mem_filter] at hj
  simp only [List.mem_range, decide_eq_true_eq] at hj hk
  exact ⟨hj.2, hj.1⟩
 ·rintro ⟨h1, h2⟩
  refine ⟨p.1, by simp; omega, ?_⟩
  rw [List.mem_map]
  refine ⟨p.2, ?_, rfl⟩
  rw [List.mem_filter]
  simp [h1, h2]

def bfrP (k j : Nat) (p : Nat × Nat) : Prop := p.1 < k ∨ (p.1 = k ∧ p.2 < j)

theorem pairs_asc (n : Nat) : (pairsM n).Pairwise fun p q => bfrP q.1 q.2 p := by
 unfold pairsM
 rw [List.pairwise_flatMap]
 refine ⟨fun k _ => ?_, ?_⟩
 ·rw [List.pairwise_map]
  refine (List.Pairwise.filter _ List.pairwise_lt_range).imp fun h => .inr ⟨rfl, h⟩
 ·refine List.pairwise_lt_range.imp fun h p hp q hq => ?_
  rw [List.mem_map] at hp hq
  obtain ⟨_, _, rfl⟩ := hp
  obtain ⟨_, _, rfl⟩ := hq
  exact .inl h

theorem pairs_take {n k j : Nat} (hj : k < j) (hjn : j < n) : ∃ A B, pairsM n = A ++ (k, j) :: B ∧ ∀ p, p ∈ A → (p ∈ pairsM n ∧ bfrP k j p) := by
 obtain ⟨A, B, e⟩ := List.append_of_mem ((pairs_split n 0 0 (k, j)).2 ⟨hj, hjn⟩)
 refine ⟨A, B, e, fun p hp => ⟨by rw [e]; exact List.mem_append_left _ hp, ?_⟩⟩
 have := pairs_asc n
 rw [e, List.pairwise_append] at this
 exact this.2.2 p hp (k, j) List.mem_cons_self

theorem mergeStep_at {want l : List Ety} {keys : List Int} {k j : Nat} {t : List Ety} (hk : k < j) (hj : j < l.length) (h : tried want l keys k j = some t) (hb : ∀ p, p.1 < p.2 → p.2 < l.length → bfrP k j p → tried want l keys p.1 p.2 = none) : mergeStep want l keys = some t := by
 obtain ⟨A, B, e, hA⟩ := pairs_take hk hj
 unfold mergeStep
 rw [e, List.findSome?_append]
 have : A.findSome? (tryE want l keys) = none := by
  rw [List.findSome?_eq_none_iff]
  intro p hp
  obtain ⟨h1, h2⟩ := hA p hp
  obtain ⟨h3, h4⟩ := (pairs_split l.length k j p).1 h1
  exact hb p h3 h4 h2
 rw [this, Option.none_or, List.findSome?_cons]
 unfold tried at h
 rw [h]

theorem mergeStep_none {want l : List Ety} {keys : List Int} (hb : ∀ p : Nat × Nat, p.1 < p.2 → p.2 < l.length → tried want l keys p.1 p.2 = none) : mergeStep want l keys = none := by
 unfold mergeStep
 rw [List.findSome?_eq_none_iff]
 intro p hp
 obtain ⟨h3, h4⟩ := (pairs_split l.length 0 0 p).1 hp
 exact hb p h3 h4

theorem tryE_some {want l : List Ety} {keys : List Int} {p : Nat × Nat} {t : List Ety} (h : tryE want l keys p = some t) : ∃ x y z, l[p.1]? = some x ∧ l[p.2]? = some y ∧ joinE x y = some z ∧ t = mergedAt l p.1 p.2 z ∧ sameE want t keys = true := by
 unfold tryE at h
 split at h
 ·rename_i x y h1 h2
  split at h
  ·rename_i z h3
   split at h
   ·rename_i h4
    cases h
    exact ⟨x, y, z, h1, h2, h3, rfl, h4⟩
   ·cases h
  ·cases h
 ·cases h

theorem mergeStep_some {want l : List Ety} {keys : List Int} {t : List Ety} (h : mergeStep want l keys = some t) : ∃ p : Nat × Nat, p.1 < p.2 ∧ p.2 < l.length ∧ tryE want l keys p = some t := by
 unfold mergeStep at h
 obtain ⟨p, hp, h1⟩ := List.exists_of_findSome?_eq_some h
 obtain ⟨h3, h4⟩ := (pairs_split l.length 0 0 p).1 hp
 exact ⟨p, h3, h4, h1⟩

theorem mergeStep_len {want l : List Ety} {keys : List Int} {t : List Ety} (h : mergeStep want l keys = some t) : t.length + 1 = l.length := by
 obtain ⟨p, h1, h2, h3⟩ := mergeStep_some h
 obtain ⟨x, y, z, _, _, _, rfl, _⟩ := tryE_some h3
 have := merged_len (l := l) (k := p.1) (z := z) h2
 omega

theorem mergeStep_ok {want l : List Ety} {keys : List Int} {t : List Ety} (hl : ∀ x ∈ l, EtyOk x) (h : mergeStep want l keys = some t) : (∀ x ∈ t, EtyOk x) ∧ sameE want t keys = true := by
 obtain ⟨p, h1, h2, h3⟩ := mergeStep_some h
 obtain ⟨x, y, z, hx, _, hj, rfl, hs⟩ := tryE_some h3
 exact ⟨merged_ok hl (join_ok (hl x (List.mem_of_getElem? hx)) hj), hs⟩

def mergeE (want : List Ety) (keys : List Int) (l : List Ety) : List Ety := mergeF want keys l.length l

theorem mergeE_step {want l : List Ety} {keys : List Int} {t : List Ety} (h : mergeStep want l keys = some t) : mergeE want keys l = mergeE want keys t := by
 have hlen := mergeStep_len h
 unfold mergeE
 rw [← hlen]
 simp only [mergeF, h]

theorem mergeE_stop {want l : List Ety} {keys : List Int} (h : mergeStep want l keys = none) : mergeE want keys l = l := by
 unfold mergeE
 cases hl : l.length with
 | zero => rfl
 | succ m => simp [mergeF, h]

theorem sameE_refl (l : List Ety) (keys : List Int) : sameE l l keys = true := by
 unfold sameE
 rw [List.all_eq_true]
 intro k _
 simp

theorem findE_pos {l : List Ety} (hl : ∀ x ∈ l, EtyOk x) {m : List Ety} (hm : ∀ x ∈ m, EtyOk x) (key : Int) : (findE l key).getD 0 = (findE m key).getD 0 ↔ findE l key = findE m key := by
 constructor
 ·intro h
  cases h1 : findE l key with
  | none =>
   cases h2 : findE m key with
   | none => rfl
   | some o =>
    obtain ⟨x, hx, rfl⟩ := findE_mem h2
    rw [h1, h2] at h
    have := (hm x hx).outs
    simp only [Option.getD_none, Option.getD_some] at h
    omega
  | some a =>
   obtain ⟨x, hx, rfl⟩ := findE_mem h1
   have h3 := (hl x hx).outs
   cases h2 : findE m key with
   | none =>
    rw [h1, h2] at h
    simp only [Option.getD_none, Option.getD_some] at h
    omega
   | some b =>
    rw [h1, h2] at h
    simp only [Option.getD_some] at h
    rw [h]
 ·intro h; rw [h]

theorem etyAt_some {T : Int → List Int} {r : Nat} {key : Int} {x : Ety} (h : etyAt T r key = some x) : x = ⟨key, 65535, (T key)[r]?.getD 0⟩ ∧ (T key)[r]?.getD 0 ≠ 0 := by
 unfold etyAt at h
 dsimp only at h
 split at h
 ·cases h
 ·rename_i h1
  cases h
  exact ⟨rfl, h1⟩

theorem table_ok {T : Int → List Int} (hT : ∀ k, OutsOk (T k)) {keys : List Int} (hk : ∀ k ∈ keys, 0 ≤ k ∧ k ≤ 65535) (r : Nat) : ∀ x ∈ tableM T keys r, EtyOk x := by
 intro x hx
 unfold tableM at hx
 rw [List.mem_filterMap] at hx
 obtain ⟨k, hkm, h⟩ := hx
 obtain ⟨rfl, h1⟩ := etyAt_some h
 have hr := hk k hkm
 refine ⟨hr, ⟨by dsimp only; omega, by dsimp only; omega⟩, ?_, ?_⟩
 ·unfold band
  dsimp only
  have : (65535 : Int).toNat = 2 ^ 16 - 1 := rfl
  rw [this, Nat.and_two_pow_sub_one_eq_mod, Nat.mod_eq_of_lt (by omega)]
  omega
 ·dsimp only
  cases hg : (T k)[r]? with
  | none => rw [hg] at h1; exact absurd rfl h1
  | some v =>
   rw [hg] at h1
   have := hT k v (List.mem_of_getElem? hg)
   simp only [Option.getD_some] at h1 ⊢
   omega

theorem table_keys (T : Int → List Int) (keys : List Int) (r : Nat) : (tableM T keys r).map (·.key) = keys.filter fun k => decide ((T k)[r]?.getD 0 ≠ 0) := by
 unfold tableM
 induction keys with
 | nil => rfl
 | cons k l ih =>
  rw [List.filterMap_cons, List.filter_cons]
  cases h : etyAt T r k with
  | none =>
   have : (T k)[r]?.getD 0 = 0 := by
    unfold etyAt at h
    dsimp only at h
    split at h
    ·assumption
    ·cases h
   rw [if_neg (by simp [this])]
   exact ih
  | some x =>
   obtain ⟨rfl, h1⟩ := etyAt_some h
   rw [if_pos (by simpa using h1), List.map_cons, ih]

theorem table_len (T : Int → List Int) (keys : List Int) (r : Nat) : (tableM T keys r).length ≤ keys.length := by
 have := congrArg List.length (table_keys T keys r)
 rw [List.length_map] at this
 rw [this]
 exact List.length_filter_le ..

end Go.Gm
end
