import Derived.Test.YtjjcoiicikaaiaaGreatPlaceImprovesMt
import Derived.Test.YtjjcoiicikaaiaaGreatPlaceImprovesMw
import Derived.Test.YtjjcoiicikaaiaaGreatPlaceImprovesPv
import Derived.KernelRfl
section
set_option linter.unusedVariables false

set_option linter.unusedSimpArgs false

namespace Go.Vx

open Go

structure Vis (es : Array MapEntry) (seen : Array Nat) (vs : List MapEntry) : Prop where
  seen : seen.toList = vs.map (·.born)
  sub : ∀ y ∈ vs, y ∈ es.toList
  nodup : vs.Nodup

def leftV (es : Array MapEntry) (seen : Array Nat) : Nat := es.toList.countP fun x => decide (x.born ∉ seen)

theorem leftV_push {es : Array MapEntry} {seen : Array Nat} {x : MapEntry} (hx : x ∈ es.toList) (hn : x.born ∉ seen) : leftV es (seen.push x.born) < leftV es seen := by
  unfold leftV
  have key : ∀ l : List MapEntry, x ∈ l → l.countP (fun y => decide (y.born ∉ seen.push x.born)) < l.countP (fun y => decide (y.born ∉ seen)) := by
    intro l
    induction l with
    | nil => intro h; cases h
    | cons y l ih =>
      intro h
      have hle : ∀ l : List MapEntry, l.countP (fun y => decide (y.born ∉ seen.push x.born)) ≤ l.countP (fun y => decide (y.born ∉ seen)) := by
        intro l
        refine List.countP_mono_left fun z _ hz => ?_
        simp only [decide_eq_true_eq, Array.mem_push, not_or] at hz ⊢
        exact hz.1
      rw [List.countP_cons, List.countP_cons]
      by_cases e : y = x
      · subst e
        have h1 := hle l
        have h2 : decide (y.born ∉ seen.push y.born) = false := by simp
        have h3 : decide (y.born ∉ seen) = true := decide_eq_true hn
        rw [h2, h3]
        simp only [Bool.false_eq_true, if_false, if_true]
        omega
      · have h1 := ih ((List.mem_cons.1 h).resolve_left fun e2 => e e2.symm)
        by_cases h2 : y.born ∈ seen.push x.born
        · have h3 : decide (y.born ∉ seen.push x.born) = false := decide_eq_false (fun h => h h2)
          rw [h3]
          simp only [Bool.false_eq_true, if_false]
          split <;> omega
        · have h3 : y.born ∉ seen := fun h3 => h2 (Array.mem_push_of_mem _ h3)
          have h4 : decide (y.born ∉ seen.push x.born) = true := decide_eq_true h2
          have h5 : decide (y.born ∉ seen) = true := decide_eq_true h3
          rw [h4, h5]
          simp only [if_true]
          omega
  exact key _ hx

theorem Vis.nil (es : Array MapEntry) : Vis es #[] [] := ⟨rfl, by simp, List.nodup_nil⟩

theorem born_inj {es : Array MapEntry} {clock : Nat} (hst : MapKept.Stamped es clock) {x y : MapEntry} (hx : x ∈ es.toList) (hy : y ∈ es.toList) (h : x.born = y.born) : x = y := by
  obtain ⟨i, hi⟩ := List.getElem?_of_mem hx
  obtain ⟨j, hj⟩ := List.getElem?_of_mem hy
  have e1 : (es.toList.map (·.born))[i]? = some x.born := by rw [List.getElem?_map, hi]; rfl
  have e2 : (es.toList.map (·.born))[j]? = some x.born := by rw [List.getElem?_map, hj, h]; rfl
  have e3 := (List.getElem?_inj (List.getElem?_eq_some_iff.1 e1).1 hst.2.1).1 (e1.trans e2.symm)
  subst e3
  rw [hi] at hj
  exact Option.some.inj hj

theorem born_find {es : Array MapEntry} {clock : Nat} (hst : MapKept.Stamped es clock) {x : MapEntry} (hx : x ∈ es.toList) : es.find? (fun e => e.born == x.born) = some x := by
  rw [← Array.find?_toList]
  cases h : es.toList.find? (fun e => e.born == x.born) with
  | none =>
    have := List.find?_eq_none.1 h x hx
    simp at this
  | some y =>
    have h1 := List.mem_of_find?_eq_some h
    have h2 := List.find?_some h
    simp only [beq_iff_eq] at h2
    rw [born_inj hst h1 hx h2]

theorem Vis.next {es : Array MapEntry} {seen : Array Nat} {vs : List MapEntry} (h : Vis es seen vs) {x : MapEntry} (hx : x ∈ es.toList) (hn : x.born ∉ seen) : Vis es (seen.push x.born) (vs ++ [x]) := by
  refine ⟨by rw [Array.toList_push, h.seen, List.map_append]; rfl, fun y hy => ?_, ?_⟩
  · rcases List.mem_append.1 hy with hy | hy
    · exact h.sub y hy
    · rw [List.mem_singleton] at hy; subst hy; exact hx
  · rw [List.nodup_append]
    refine ⟨h.nodup, by simp, fun a ha b hb e => ?_⟩
    rw [List.mem_singleton] at hb
    subst hb; subst e
    refine hn ?_
    rw [← Array.mem_toList_iff, h.seen]
    exact List.mem_map_of_mem ha

theorem Vis.done {es : Array MapEntry} {clock : Nat} (hst : MapKept.Stamped es clock) {seen : Array Nat} {vs : List MapEntry} (h : Vis es seen vs) (hall : ∀ x ∈ es.toList, x.born ∈ seen) : vs.Perm es.toList := by
  have hnd : es.toList.Nodup := by
    have := hst.2.1
    rw [List.Nodup, List.pairwise_map] at this
    exact this.imp fun h1 e => h1 (by rw [e])
  refine (List.perm_ext_iff_of_nodup h.nodup hnd).2 fun y => ⟨h.sub y, fun hy => ?_⟩
  have := hall y hy
  rw [← Array.mem_toList_iff, h.seen, List.mem_map] at this
  obtain ⟨z, hz, he⟩ := this
  rw [born_inj hst (h.sub z hz) hy he] at hz
  exact hz

theorem nodup_len {α : Type} [DecidableEq α] : ∀ {l m : List α}, l.Nodup → (∀ x ∈ l, x ∈ m) → l.length ≤ m.length
  | [], _, _, _ => Nat.zero_le _
  | x :: l, m, h, hs => by
    rw [List.nodup_cons] at h
    have hx := hs x List.mem_cons_self
    have h1 := nodup_len (l := l) (m := m.erase x) h.2 fun y hy => (List.mem_erase_of_ne fun e => h.1 (by rw [← e]; exact hy)).2 (hs y (List.mem_cons_of_mem _ hy))
    rw [List.length_erase_of_mem hx] at h1
    have := List.length_pos_of_mem hx
    rw [List.length_cons]; omega

theorem Vis.len {es : Array MapEntry} {clock : Nat} (hst : MapKept.Stamped es clock) {seen : Array Nat} {vs : List MapEntry} (h : Vis es seen vs) : vs.length ≤ es.size := by
  have h1 : (vs.map (·.born)).Nodup := by
    rw [List.Nodup, List.pairwise_map]
    exact h.nodup.imp_of_mem fun ha hb hne e => hne (born_inj hst (h.sub _ ha) (h.sub _ hb) e)
  have h2 := nodup_len (m := es.toList.map (·.born)) h1 fun x hx => by
    obtain ⟨y, hy, rfl⟩ := List.mem_map.1 hx
    exact List.mem_map_of_mem (h.sub y hy)
  rw [List.length_map, List.length_map] at h2
  simpa using h2

theorem HLe.mapBack {H H' r : HP} {u : Ent → HP} {b clock : Nat} {es : Array MapEntry} {m : List (Int × Value)} (h : At H (.obj b (.map es clock)) u r) (hes : es.toList.map (fun x => (x.key, x.val)) = m.map (fun x => (Value.int .i64 x.1, x.2))) (hst : MapKept.Stamped es clock) (hr : HLe H' r) : HLe (.map b m :: H') H :=
  HLe.weak h hr (fun w hw => ⟨es, clock, hw, hes, hst⟩) rfl

theorem vis_pick {α : Type} {f : α → Int × Value} {es : Array MapEntry} {l : List α} (hes : es.toList.map (fun x => (x.key, x.val)) = (l.map f).map (fun x => (Value.int .i64 x.1, x.2))) {x : MapEntry} (hx : x ∈ es.toList) :
    ∃ d ∈ l, x.key = .int .i64 (f d).1 ∧ x.val = (f d).2 := by
  have h1 : (x.key, x.val) ∈ es.toList.map (fun x => (x.key, x.val)) := List.mem_map_of_mem (f := fun x : MapEntry => (x.key, x.val)) hx
  rw [hes, List.map_map] at h1
  obtain ⟨d, hd, he⟩ := List.mem_map.1 h1
  simp only [Function.comp_apply, Prod.mk.injEq] at he
  exact ⟨d, hd, he.1.symm, he.2.symm⟩

def keyI : Value → Int
  | .int _ n => n
  | _ => 0

theorem vis_keys {α : Type} {f : α → Int × Value} {es : Array MapEntry} {l : List α} (hes : es.toList.map (fun x => (x.key, x.val)) = (l.map f).map (fun x => (Value.int .i64 x.1, x.2))) {vs : List MapEntry} (h : vs.Perm es.toList) : (vs.map fun x => keyI x.key).Perm (l.map fun d => (f d).1) := by
  have h1 : (vs.map fun x => keyI x.key).Perm (es.toList.map fun x => keyI x.key) := h.map _
  have h2 : es.toList.map (fun x => keyI x.key) = l.map fun d => (f d).1 := by
    have := congrArg (fun L => L.map fun p : Value × Value => keyI p.1) hes
    simp only [List.map_map] at this
    exact this
  rw [h2] at h1
  exact h1

theorem mfind_absent {m : List (Int × Value)} {j : Int} (h : ∀ p ∈ m, p.1 ≠ j) : mfind m j = none ∧ ∀ v, mset m j v = m ++ [(j, v)] := by
  induction m with
  | nil => exact ⟨rfl, fun _ => rfl⟩
  | cons p r ih =>
    obtain ⟨h1, h2⟩ := ih fun q hq => h q (List.mem_cons_of_mem _ hq)
    have hp := h p List.mem_cons_self
    obtain ⟨a, v0⟩ := p
    constructor
    · simp only [mfind]
      rw [if_neg hp]; exact h1
    · intro v
      simp only [mset]
      rw [if_neg hp, h2]; rfl

end Go.Vx
end

section
set_option linter.unusedVariables false

set_option linter.unusedSimpArgs false

namespace Go.Gm

def pop1 (x : Nat) : Nat := ((x >>> 1) &&& 6148914691236517205) + (x &&& 6148914691236517205)

def pop2 (x : Nat) : Nat := ((x >>> 2) &&& 3689348814741910323) + (x &&& 3689348814741910323)

def pop3 (x : Nat) : Nat := ((x >>> 4) + x) &&& 1085102592571150095

def pop4 (x : Nat) : Nat := x + (x >>> 8)

def pop5 (x : Nat) : Nat := x + (x >>> 16)

def pop6 (x : Nat) : Nat := x + (x >>> 32)

def popF (x : Nat) : Nat := pop6 (pop5 (pop4 (pop3 (pop2 (pop1 x))))) &&& 127

def powB (x : Nat) : Bool := Nat.beq x 1 || Nat.beq x 2 || Nat.beq x 4 || Nat.beq x 8 || Nat.beq x 16 || Nat.beq x 32 || Nat.beq x 64 || Nat.beq x 128 || Nat.beq x 256 || Nat.beq x 512 || Nat.beq x 1024 || Nat.beq x 2048 || Nat.beq x 4096 || Nat.beq x 8192 || Nat.beq x 16384 || Nat.beq x 32768

def allB : Nat → Nat → (Nat → Bool) → Bool
  | 0, lo, p => p lo
  | k + 1, lo, p => allB k lo p && allB k (lo + 2 ^ k) p

theorem allB_spec {p : Nat → Bool} : ∀ (k lo : Nat), allB k lo p = true → ∀ x, lo ≤ x → x < lo + 2 ^ k → p x = true
  | 0, lo, h, x, h1, h2 => by
    have : x = lo := by simp at h2; omega
    subst this; exact h
  | k + 1, lo, h, x, h1, h2 => by
    simp only [allB, Bool.and_eq_true] at h
    rw [Nat.pow_succ] at h2
    by_cases hx : x < lo + 2 ^ k
    · exact allB_spec k lo h.1 x h1 hx
    · exact allB_spec k (lo + 2 ^ k) h.2 x (by omega) (by omega)

theorem pop_all : allB 16 0 (fun x => Bool.or (Bool.not (Nat.beq (popF x) 1)) (powB x)) = true := by kernel_rfl

theorem pop_one {x : Nat} (h : x < 65536) : popF x = 1 ↔ isPow (x : Int) := by
  constructor
  · intro hp
    have := allB_spec 16 0 pop_all x (Nat.zero_le _) (by simpa using h)
    rw [hp] at this
    simp only [Nat.beq_refl, Bool.not_true, Bool.false_or, powB, Bool.or_eq_true, Nat.beq_eq] at this
    unfold isPow
    rcases this with (((((((((((((((rfl | rfl) | rfl) | rfl) | rfl) | rfl) | rfl) | rfl) | rfl) | rfl) | rfl) | rfl) | rfl) | rfl) | rfl) | rfl)
    · exact ⟨0, by omega, rfl⟩
    · exact ⟨1, by omega, rfl⟩
    · exact ⟨2, by omega, rfl⟩
    · exact ⟨3, by omega, rfl⟩
    · exact ⟨4, by omega, rfl⟩
    · exact ⟨5, by omega, rfl⟩
    · exact ⟨6, by omega, rfl⟩
    · exact ⟨7, by omega, rfl⟩
    · exact ⟨8, by omega, rfl⟩
    · exact ⟨9, by omega, rfl⟩
    · exact ⟨10, by omega, rfl⟩
    · exact ⟨11, by omega, rfl⟩
    · exact ⟨12, by omega, rfl⟩
    · exact ⟨13, by omega, rfl⟩
    · exact ⟨14, by omega, rfl⟩
    · exact ⟨15, by omega, rfl⟩
  · rintro ⟨i, hi, he⟩
    have hx : x = 2 ^ i := by omega
    subst hx
    have : i = 0 ∨ i = 1 ∨ i = 2 ∨ i = 3 ∨ i = 4 ∨ i = 5 ∨ i = 6 ∨ i = 7 ∨ i = 8 ∨ i = 9 ∨ i = 10 ∨ i = 11 ∨ i = 12 ∨ i = 13 ∨ i = 14 ∨ i = 15 := by omega
    rcases this with rfl | rfl | rfl | rfl | rfl | rfl | rfl | rfl | rfl | rfl | rfl | rfl | rfl | rfl | rfl | rfl <;> decide

end Go.Gm

namespace Go.Proofs

open Go Go.Vx Go.Gm

theorem bits_xor {a b : Nat} (ha : a < 2 ^ 62) (hb : b < 2 ^ 62) : bitsI .xor .i64 (a : Int) (b : Int) = ((a ^^^ b : Nat) : Int) := by
  unfold bitsI
  dsimp only
  have hbb : IntKind.i64.bits = 64 := rfl
  have h1 : (BitVec.ofInt IntKind.i64.bits (a : Int) ^^^ BitVec.ofInt IntKind.i64.bits (b : Int)).toNat = a ^^^ b := by
    rw [BitVec.toNat_xor]
    have e1 : (BitVec.ofInt IntKind.i64.bits (a : Int)).toNat = a := by rw [BitVec.toNat_ofInt, hbb]; omega
    have e2 : (BitVec.ofInt IntKind.i64.bits (b : Int)).toNat = b := by rw [BitVec.toNat_ofInt, hbb]; omega
    rw [e1, e2]
  have h2 : a ^^^ b < 2 ^ 62 := Nat.xor_lt_two_pow ha hb
  rw [h1, wrap_i64 (by omega) (by omega)]

theorem and_not_add (x y : BitVec 64) : (x &&& ~~~y) + (x &&& y) = x := by
  rw [BitVec.add_eq_or_of_and_eq_zero]
  · ext i h
    simp only [BitVec.getElem_or, BitVec.getElem_and, BitVec.getElem_not]
    cases x[i] <;> cases y[i] <;> rfl
  · ext i h
    simp only [BitVec.getElem_and, BitVec.getElem_not, BitVec.getElem_zero]
    cases x[i] <;> cases y[i] <;> rfl

theorem and_not_nat (x y : BitVec 64) : (x &&& ~~~y).toNat = x.toNat - (x.toNat &&& y.toNat) := by
  have h := and_not_add x y
  have h2 : (x &&& ~~~y) = x - (x &&& y) := by rw [BitVec.eq_sub_iff_add_eq, h]
  have h3 : (x &&& y).toNat ≤ x.toNat := by rw [BitVec.toNat_and]; exact Nat.and_le_left
  rw [h2, BitVec.toNat_sub_of_le (by exact h3), BitVec.toNat_and]

theorem bits_less {a b : Nat} (ha : a < 2 ^ 62) (hb : b < 2 ^ 62) : bitsI .andNot .i64 (a : Int) (b : Int) = ((a - (a &&& b) : Nat) : Int) := by
  unfold bitsI
  dsimp only
  have hbb : IntKind.i64.bits = 64 := rfl
  have h1 : (BitVec.ofInt IntKind.i64.bits (a : Int) &&& ~~~BitVec.ofInt IntKind.i64.bits (b : Int)).toNat = a - (a &&& b) := by
    have := and_not_nat (BitVec.ofInt 64 (a : Int)) (BitVec.ofInt 64 (b : Int))
    have e1 : (BitVec.ofInt 64 (a : Int)).toNat = a := by rw [BitVec.toNat_ofInt]; omega
    have e2 : (BitVec.ofInt 64 (b : Int)).toNat = b := by rw [BitVec.toNat_ofInt]; omega
    rw [e1, e2] at this
    exact this
  rw [h1, wrap_i64 (by omega) (by omega)]

theorem _root_.Go.Vx.VBit.xor {a b : Int} {k : Int → Prop} (ha : 0 ≤ a ∧ a ≤ 4611686018427387903) (hb : 0 ≤ b ∧ b ≤ 4611686018427387903) (hk : k ((a.toNat ^^^ b.toNat : Nat) : Int)) : VBit .xor .i64 a b k := by
  refine .mk ?_
  have := bits_xor (a := a.toNat) (b := b.toNat) (by omega) (by omega)
  rw [Int.toNat_of_nonneg ha.1, Int.toNat_of_nonneg hb.1] at this
  rw [this]
  exact hk

theorem _root_.Go.Vx.VBit.less {a b : Int} {k : Int → Prop} (ha : 0 ≤ a ∧ a ≤ 4611686018427387903) (hb : 0 ≤ b ∧ b ≤ 4611686018427387903) (hk : k ((a.toNat - (a.toNat &&& b.toNat) : Nat) : Int)) : VBit .andNot .i64 a b k := by
  refine .mk ?_
  have := bits_less (a := a.toNat) (b := b.toNat) (by omega) (by omega)
  rw [Int.toNat_of_nonneg ha.1, Int.toNat_of_nonneg hb.1] at this
  rw [this]
  exact hk

theorem wrap_u64 {z : Nat} (h : z < 2 ^ 64) : IntKind.u64.wrap (z : Int) = (z : Int) := by
  have : IntKind.u64.wrap (z : Int) = ((z : Int) % (2 ^ 64 : Nat) : Int) := rfl
  rw [this]
  omega

theorem _root_.Go.Vx.VAr.u64 {z : Nat} {k : Int → Prop} (h : z < 2 ^ 64) (hk : k (z : Int)) : VAr .u64 (z : Int) k := .fits (wrap_u64 h) hk

theorem _root_.Go.Vx.VAr.u64g {z : Int} {k : Int → Prop} (h0 : 0 ≤ z) (h : z < 18446744073709551616) (hk : ∀ c : Nat, (c : Int) = z → k (c : Int)) : VAr .u64 z k := by
  have e : z = (z.toNat : Int) := by omega
  rw [e]
  refine .fits (wrap_u64 (by omega)) (hk _ ?_)
  rw [← e]

theorem bits_andU {a b : Nat} (ha : a < 2 ^ 64) (hb : b < 2 ^ 64) : bitsI .and .u64 (a : Int) (b : Int) = ((a &&& b : Nat) : Int) := by
  unfold bitsI
  dsimp only
  have hbb : IntKind.u64.bits = 64 := rfl
  have h1 : (BitVec.ofInt IntKind.u64.bits (a : Int) &&& BitVec.ofInt IntKind.u64.bits (b : Int)).toNat = a &&& b := by
    rw [BitVec.toNat_and]
    have e1 : (BitVec.ofInt IntKind.u64.bits (a : Int)).toNat = a := by rw [BitVec.toNat_ofInt, hbb]; omega
    have e2 : (BitVec.ofInt IntKind.u64.bits (b : Int)).toNat = b := by rw [BitVec.toNat_ofInt, hbb]; omega
    rw [e1, e2]
  have h2 : a &&& b ≤ a := Nat.and_le_left
  rw [h1, wrap_u64 (by omega)]

theorem _root_.Go.Vx.VBit.andU {a b : Nat} {k : Int → Prop} (ha : a < 2 ^ 64) (hb : b < 2 ^ 64) (hk : ∀ c : Nat, c = a &&& b → c ≤ a → k (c : Int)) : VBit .and .u64 (a : Int) (b : Int) k := by
  refine .mk ?_
  rw [bits_andU ha hb]
  exact hk _ rfl Nat.and_le_left

theorem _root_.Go.Vx.VShR.natU {a : Nat} (n : Nat) (hn : n ≤ 64) {k : Int → Prop} (hk : ∀ c : Nat, c = a >>> n → c ≤ a → k (c : Int)) : VShR .u64 (a : Int) (n : Int) k := by
  refine .mk (by omega) ?_
  have hbb : IntKind.u64.bits = 64 := rfl
  have e : min (n : Int).toNat IntKind.u64.bits = n := by rw [hbb]; omega
  rw [e]
  have h2 : (a : Int).fdiv (2 ^ n) = ((a >>> n : Nat) : Int) := by
    rw [Int.fdiv_eq_ediv_of_nonneg _ (Int.pow_nonneg (by omega)), Nat.shiftRight_eq_div_pow]
    rw [Int.natCast_ediv, Int.natCast_pow]; rfl
  rw [h2]
  exact hk _ rfl (by rw [Nat.shiftRight_eq_div_pow]; exact Nat.div_le_self ..)

theorem _root_.Go.Vx.VShR.is {kd : IntKind} {a b : Int} {k : Int → Prop} (hh : VShR kd a b k) : VShR kd a b k := hh

theorem onesCount_any (x : Nat) (hx : x < 65536) (w : World) : Calls Tryz.prog 186 #[.int .u64 (x : Int)] w fun e w' => ∃ n : Nat, e = .returned (.int .i64 (n : Int)) ∧ (n = 1 ↔ isPow (x : Int)) ∧ St w [] [] w' := by
  refine enter (C := Tryz.cx) (F := Tryz.fx186) (args := [_]) Tryz.func186 rfl rfl rfl Tryz.ok186 (St.start w []) ?_
  repeat' (conv => whnf); first | (refine VCall.isF 205 ?_; refine VCall.inl (F := Tryz.fx205) Tryz.func205 rfl rfl rfl Tryz.ok205 ?_) | (refine VShR.is ?_; refine VShR.is ?_; first | refine VShR.natU 1 (by omega) fun c hc hle => ?_ | refine VShR.natU 2 (by omega) fun c hc hle => ?_ | refine VShR.natU 4 (by omega) fun c hc hle => ?_ | refine VShR.natU 8 (by omega) fun c hc hle => ?_ | refine VShR.natU 16 (by omega) fun c hc hle => ?_ | refine VShR.natU 32 (by omega) fun c hc hle => ?_) | (refine VBit.is ?_; refine VBit.is ?_; first | refine VBit.andU (b := 6148914691236517205) (by omega) (by omega) fun c hc hle => ?_ | refine VBit.andU (b := 3689348814741910323) (by omega) (by omega) fun c hc hle => ?_ | refine VBit.andU (b := 1085102592571150095) (by omega) (by omega) fun c hc hle => ?_ | refine VBit.and (by omega) (by omega) ?_) | (refine VAr.is ?_; refine VAr.is ?_; refine VAr.u64g (by omega) (by omega) fun c hc => ?_) | (refine VSeq.go ?_) | (refine VB.is ?_; refine VB.yes (by omega) fun _ => ?_) | (refine VB.is ?_; refine VB.no (by omega) fun _ => ?_) | (refine VB.split (fun _ => ?_) (fun _ => ?_)) | (refine boolE_split (fun h => ?_) (fun h => ?_) <;> subst h) | (refine VLd.is ?_; refine VLd.mk (.row aT (by rfl)) ?_) | (refine VSt.is ?_; refine VSt.row aT (by rfl) (by first | rfl | assumption) ?_) | (refine VNew.mk fun _ => ?_) | (refine VAr.is ?_; refine oA ?_) | (refine VIx.is ?_; refine VIx.mk rfl (by omega) (by omega) ?_) | (refine VKeep.is ?_; refine VKeep.mk aH ?_) | (refine VHs.mk _ (.refl _) ?_) | (refine VQ.is ?_; refine oQ ?_) | (refine VM.is ?_; refine oM ?_) | (refine And.intro ?_ ?_)
  all_goals (conv => whnf)
  rename_i x1 p1 q1 x2 p2 q2 x3 p3 q3 s1 t1 x4 p4 q4 x5 p5 q5 x6 p6 q6 s2 t2 x7 p7 q7 s3 t3 x8 p8 q8 x9 p9 q9 s4 t4 x10 p10 q10 s5 t5 x11 p11
  have r1 : s1 = x2 + x3 := by omega
  have r2 : s2 = x5 + x6 := by omega
  have r3 : s3 = x7 + s2 := by omega
  have r4 : s4 = x8 + x9 := by omega
  have r5 : s5 = s4 + x10 := by omega
  have r6 : c = s5 + x11 := by omega
  have e : (Int.toNat (c : Int) &&& Int.toNat 127) = popF x := by
    rw [Int.toNat_natCast]
    have e127 : Int.toNat 127 = 127 := rfl
    rw [e127]
    unfold popF pop6 pop5 pop4 pop3 pop2 pop1
    rw [r6, p11, r5, p10, r4, p9, p8, r3, p7, r2, p6, p5, p4, r1, p3, p2, p1]
  exact ⟨fun w' hw' => ⟨popF x, by rw [← e]; rfl, pop_one hx, hw'.le .nil⟩⟩

end Go.Proofs
end
