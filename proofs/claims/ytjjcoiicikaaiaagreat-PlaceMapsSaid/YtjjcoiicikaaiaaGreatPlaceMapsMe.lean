import Derived.Test.YtjjcoiicikaaiaaGreatPlaceMapsGa
import Derived.Test.YtjjcoiicikaaiaaGreatPlaceMapsQk
set_option linter.unusedVariables false
set_option linter.unusedSimpArgs false
set_option maxHeartbeats 4000000
section

namespace Go.Gm

structure Spc where
 wide : Int
 high : Int
 room : Int
 deriving DecidableEq

structure SpcOk (s : Spc) : Prop where
 wide : 1 ≤ s.wide ∧ s.wide ≤ 8
 high : 1 ≤ s.high ∧ s.high ≤ 8
 room : 1 ≤ s.room ∧ s.room ≤ 64

def meshE (s : Spc) : Int := if (1 ≤ s.wide ∧ s.wide ≤ 8) ∧ (1 ≤ s.high ∧ s.high ≤ 8) ∧ 1 ≤ s.room ∧ s.room ≤ 64 then 0 else 3

theorem meshE_zero {s : Spc} : meshE s = 0 ↔ SpcOk s := by
 unfold meshE
 constructor
 ·intro h
  split at h
  ·rename_i h1; exact ⟨h1.1, h1.2.1, h1.2.2⟩
  ·cases h
 ·rintro ⟨h1, h2, h3⟩
  rw [if_pos ⟨h1, h2, h3⟩]

def turnM (W r t : Int) : Int := if r % W < t % W then 1 else if t % W < r % W then 4 else if r / W < t / W then 2 else if t / W < r / W then 8 else 16

def nextM (W r o : Int) : Int := if o = 1 then r + 1 else if o = 2 then r + W else if o = 4 then r - 1 else if o = 8 then r - W else r

def distM (W r t : Int) : Nat := (r % W - t % W).natAbs + (r / W - t / W).natAbs

def routeM (W : Int) : Nat → Int → Int → List Int
 | 0, r, _ => [r]
 | n + 1, r, t => if r = t then [r] else r :: routeM W n (nextM W r (turnM W r t)) t

def rte (W r t : Int) : List Int := routeM W (distM W r t) r t

structure At2 (W r x y : Int) : Prop where
 eq : r = W * y + x
 col : r % W = x
 row : r / W = y
 x0 : 0 ≤ x
 x1 : x < W

theorem at2 {W : Int} (hW : 0 < W) (r : Int) : ∃ x y, At2 W r x y :=
 ⟨r % W, r / W, by have := Int.emod_add_mul_ediv r W; omega, rfl, rfl, Int.emod_nonneg _ (by omega), Int.emod_lt_of_pos _ hW⟩

theorem at2_of {W x y : Int} (h0 : 0 ≤ x) (h1 : x < W) : At2 W (W * y + x) x y := by
 refine ⟨rfl, ?_, ?_, h0, h1⟩
 ·rw [Int.add_comm, Int.add_mul_emod_self_left, Int.emod_eq_of_lt h0 h1]
 ·rw [Int.add_comm, Int.add_mul_ediv_left _ _ (by omega), Int.ediv_eq_zero_of_lt h0 h1, Int.zero_add]

theorem At2.inj {W r t x y : Int} (h1 : At2 W r x y) (h2 : At2 W t x y) : r = t := by rw [h1.eq, h2.eq]

theorem at2_range {W H r x y : Int} (h : At2 W r x y) : (0 ≤ r ∧ r < W * H) ↔ (0 ≤ y ∧ y < H) := by
 have hW : 0 < W := by have := h.x0; have := h.x1; omega
 rw [h.eq]
 constructor
 ·rintro ⟨h1, h2⟩
  refine ⟨?_, ?_⟩
  ·refine Int.not_lt.1 fun hy => ?_
   have : W * y ≤ W * (-1) := Int.mul_le_mul_of_nonneg_left (by omega) (by omega)
   have := h.x1
   omega
  ·refine Int.not_le.1 fun hy => ?_
   have : W * H ≤ W * y := Int.mul_le_mul_of_nonneg_left hy (by omega)
   have := h.x0
   omega
 ·rintro ⟨h1, h2⟩
  have g1 : 0 ≤ W * y := Int.mul_nonneg (by omega) h1
  have g2 : W * (y + 1) ≤ W * H := Int.mul_le_mul_of_nonneg_left (by omega) (by omega)
  rw [Int.mul_add] at g2
  have := h.x0
  have := h.x1
  omega

theorem dist_at {W r t x y a b : Int} (h1 : At2 W r x y) (h2 : At2 W t a b) : distM W r t = (x - a).natAbs + (y - b).natAbs := by
 unfold distM
 rw [h1.col, h1.row, h2.col, h2.row]

theorem turn_at {W r t x y a b : Int} (h1 : At2 W r x y) (h2 : At2 W t a b) : turnM W r t = if x < a then 1 else if a < x then 4 else if y < b then 2 else if b < y then 8 else 16 := by
 unfold turnM
 rw [h1.col, h1.row, h2.col, h2.row]

theorem step_at {W r t x y a b : Int} (h1 : At2 W r x y) (h2 : At2 W t a b) : ∃ x' y', At2 W (nextM W r (turnM W r t)) x' y' ∧
  ((x < a ∧ x' = x + 1 ∧ y' = y) ∨ (a < x ∧ x' = x - 1 ∧ y' = y) ∨ (x = a ∧ y < b ∧ x' = x ∧ y' = y + 1) ∨ (x = a ∧ b < y ∧ x' = x ∧ y' = y - 1) ∨ (x = a ∧ y = b ∧ x' = x ∧ y' = y)) := by
 have hx0 := h1.x0
 have hx1 := h1.x1
 have ha0 := h2.x0
 have ha1 := h2.x1
 have hr := h1.eq
 rw [turn_at h1 h2]
 by_cases c1 : x < a
 ·rw [if_pos c1]
  refine ⟨x + 1, y, ?_, .inl ⟨c1, rfl, rfl⟩⟩
  have e : nextM W r 1 = W * y + (x + 1) := by unfold nextM; rw [if_pos rfl]; omega
  rw [e]
  exact at2_of (by omega) (by omega)
 rw [if_neg c1]
 by_cases c2 : a < x
 ·rw [if_pos c2]
  refine ⟨x - 1, y, ?_, .inr (.inl ⟨c2, rfl, rfl⟩)⟩
  have e : nextM W r 4 = W * y + (x - 1) := by unfold nextM; simp; omega
  rw [e]
  exact at2_of (by omega) (by omega)
 rw [if_neg c2]
 by_cases c3 : y < b
 ·rw [if_pos c3]
  refine ⟨x, y + 1, ?_, .inr (.inr (.inl ⟨by omega, c3, rfl, rfl⟩))⟩
  have e : nextM W r 2 = W * (y + 1) + x := by unfold nextM; simp; rw [Int.mul_add]; omega
  rw [e]
  exact at2_of (by omega) (by omega)
 rw [if_neg c3]
 by_cases c4 : b < y
 ·rw [if_pos c4]
  refine ⟨x, y - 1, ?_, .inr (.inr (.inr (.inl ⟨by omega, c4, rfl, rfl⟩)))⟩
  have e : nextM W r 8 = W * (y - 1) + x := by unfold nextM; simp; rw [Int.mul_sub]; omega
  rw [e]
  exact at2_of (by omega) (by omega)
 rw [if_neg c4]
 refine ⟨x, y, ?_, .inr (.inr (.inr (.inr ⟨by omega, by omega, rfl, rfl⟩)))⟩
 have e : nextM W r 16 = r := by unfold nextM; simp
 rw [e]
 exact h1

theorem dist_zero {W r t : Int} (hW : 0 < W) : distM W r t = 0 ↔ r = t := by
 obtain ⟨x, y, h1⟩ := at2 hW r
 obtain ⟨a, b, h2⟩ := at2 hW t
 rw [dist_at h1 h2]
 constructor
 ·intro h
  have e1 : x = a := by omega
  have e2 : y = b := by omega
  subst e1; subst e2
  exact h1.inj h2
 ·rintro rfl
  have e1 := h1.col.symm.trans h2.col
  have e2 := h1.row.symm.trans h2.row
  omega

theorem dist_step {W r t : Int} (hW : 0 < W) (hne : r ≠ t) : distM W (nextM W r (turnM W r t)) t + 1 = distM W r t := by
 obtain ⟨x, y, h1⟩ := at2 hW r
 obtain ⟨a, b, h2⟩ := at2 hW t
 obtain ⟨x', y', h3, h4⟩ := step_at h1 h2
 rw [dist_at h1 h2, dist_at h3 h2]
 rcases h4 with h4 | h4 | h4 | h4 | ⟨e1, e2, _⟩
 ·omega
 ·omega
 ·omega
 ·omega
 ·subst e1; subst e2
  exact absurd (h1.inj h2) hne

theorem step_range {W H r t : Int} (hW : 0 < W) (hr : 0 ≤ r ∧ r < W * H) (ht : 0 ≤ t ∧ t < W * H) : 0 ≤ nextM W r (turnM W r t) ∧ nextM W r (turnM W r t) < W * H := by
 obtain ⟨x, y, h1⟩ := at2 hW r
 obtain ⟨a, b, h2⟩ := at2 hW t
 obtain ⟨x', y', h3, h4⟩ := step_at h1 h2
 rw [at2_range h1] at hr
 rw [at2_range h2] at ht
 rw [at2_range h3]
 omega

theorem dist_le {W H r t : Int} (hW : 0 < W) (hr : 0 ≤ r ∧ r < W * H) (ht : 0 ≤ t ∧ t < W * H) : (distM W r t : Int) ≤ W + H - 2 := by
 obtain ⟨x, y, h1⟩ := at2 hW r
 obtain ⟨a, b, h2⟩ := at2 hW t
 rw [at2_range h1] at hr
 rw [at2_range h2] at ht
 rw [dist_at h1 h2]
 have := h1.x0; have := h1.x1; have := h2.x0; have := h2.x1
 omega

theorem turn_cases (W r t : Int) : turnM W r t = 1 ∨ turnM W r t = 2 ∨ turnM W r t = 4 ∨ turnM W r t = 8 ∨ turnM W r t = 16 := by
 unfold turnM
 split
 ·exact .inl rfl
 ·split
  ·exact .inr (.inr (.inl rfl))
  ·split
   ·exact .inr (.inl rfl)
   ·split
    ·exact .inr (.inr (.inr (.inl rfl)))
    ·exact .inr (.inr (.inr (.inr rfl)))

theorem turn_local {W r t : Int} (hW : 0 < W) : turnM W r t = 16 ↔ r = t := by
 obtain ⟨x, y, h1⟩ := at2 hW r
 obtain ⟨a, b, h2⟩ := at2 hW t
 rw [turn_at h1 h2]
 constructor
 ·intro h
  have e1 : x = a := by
   by_cases c1 : x < a
   ·rw [if_pos c1] at h; cases h
   ·rw [if_neg c1] at h
    by_cases c2 : a < x
    ·rw [if_pos c2] at h; cases h
    ·omega
  have e2 : y = b := by
   rw [if_neg (by omega), if_neg (by omega)] at h
   by_cases c1 : y < b
   ·rw [if_pos c1] at h; cases h
   ·rw [if_neg c1] at h
    by_cases c2 : b < y
    ·rw [if_pos c2] at h; cases h
    ·omega
  subst e1; subst e2
  exact h1.inj h2
 ·rintro rfl
  have e1 := h1.col.symm.trans h2.col
  have e2 := h1.row.symm.trans h2.row
  rw [if_neg (by omega), if_neg (by omega), if_neg (by omega), if_neg (by omega)]

theorem rte_self (W t : Int) (hW : 0 < W) : rte W t t = [t] := by
 unfold rte
 rw [(dist_zero hW).2 rfl]
 rfl

theorem rte_step {W r t : Int} (hW : 0 < W) (hne : r ≠ t) : rte W r t = r :: rte W (nextM W r (turnM W r t)) t := by
 unfold rte
 rw [← dist_step hW hne, routeM, if_neg hne]

theorem rte_head {W r t : Int} (hW : 0 < W) : ∃ l, rte W r t = r :: l := by
 by_cases h : r = t
 ·subst h; exact ⟨[], rte_self W r hW⟩
 ·exact ⟨_, rte_step hW h⟩

theorem rte_length {W : Int} (hW : 0 < W) : ∀ (n : Nat) (r t : Int), distM W r t = n → (rte W r t).length = n + 1
 | 0, r, t, h => by
  rw [(dist_zero hW).1 h, rte_self W t hW]; rfl
 | n + 1, r, t, h => by
  have hne : r ≠ t := fun e => by rw [(dist_zero hW).2 e] at h; cases h
  have := dist_step hW hne
  rw [rte_step hW hne, List.length_cons, rte_length hW n _ _ (by omega)]

theorem rte_range {W H : Int} (hW : 0 < W) {t : Int} (ht : 0 ≤ t ∧ t < W * H) : ∀ (n : Nat) (r : Int), distM W r t = n → (0 ≤ r ∧ r < W * H) → ∀ q ∈ rte W r t, 0 ≤ q ∧ q < W * H
 | 0, r, h, hr => by
  rw [(dist_zero hW).1 h, rte_self W t hW]
  intro q hq
  rw [List.mem_singleton] at hq
  subst hq; exact ht
 | n + 1, r, h, hr => by
  have hne : r ≠ t := fun e => by rw [(dist_zero hW).2 e] at h; cases h
  have hd := dist_step hW hne
  rw [rte_step hW hne]
  intro q hq
  rcases List.mem_cons.1 hq with rfl | hq
  ·exact hr
  ·exact rte_range hW ht n _ (by omega) (step_range hW hr ht) q hq

def bor (a b : Int) : Int := ((a.toNat ||| b.toNat : Nat) : Int)

def hasB (x b : Int) : Prop := x.toNat &&& b.toNat ≠ 0

instance (x b : Int) : Decidable (hasB x b) := by unfold hasB; infer_instance

theorem hasB_zero (c : Int) : ¬ hasB 0 c := by simp [hasB]

def isOut (b : Int) : Prop := b = 1 ∨ b = 2 ∨ b = 4 ∨ b = 8 ∨ b = 16

theorem bor_lt {a b : Int} (ha : 0 ≤ a ∧ a < 32) (hb : 0 ≤ b ∧ b < 32) : 0 ≤ bor a b ∧ bor a b < 32 := by
 unfold bor
 have h1 : a.toNat < 2 ^ 5 := by omega
 have h2 : b.toNat < 2 ^ 5 := by omega
 have := Nat.or_lt_two_pow h1 h2
 omega

def stepT (W t : Int) (out : List Int) (r : Int) : List Int := out.set r.toNat (bor (out[r.toNat]?.getD 0) (turnM W r t))

def wayT (W src : Int) (out : List Int) (t : Int) : List Int := (rte W src t).foldl (stepT W t) out

def treeM (W : Int) (n : Nat) (src : Int) (ts : List Int) : List Int := ts.foldl (wayT W src) (List.replicate n 0)

theorem stepT_length (W t : Int) (out : List Int) (r : Int) : (stepT W t out r).length = out.length := List.length_set ..

theorem foldT_length (W t : Int) : ∀ (l : List Int) (out : List Int), (l.foldl (stepT W t) out).length = out.length
 | [], _ => rfl
 | r :: l, out => by rw [List.foldl_cons, foldT_length W t l, stepT_length]

theorem foldW_length (W src : Int) : ∀ (ts : List Int) (out : List Int), (ts.foldl (wayT W src) out).length = out.length
 | [], _ => rfl
 | t :: ts, out => by rw [List.foldl_cons, foldW_length W src ts]; exact foldT_length W t _ out

theorem tree_length (W : Int) (n : Nat) (src : Int) (ts : List Int) : (treeM W n src ts).length = n := by
 unfold treeM
 rw [foldW_length, List.length_replicate]

def OutsOk (out : List Int) : Prop := ∀ x ∈ out, 0 ≤ x ∧ x < 32

theorem turn_lt (W r t : Int) : 0 ≤ turnM W r t ∧ turnM W r t < 32 := by
 have := turn_cases W r t
 omega

theorem stepT_ok {W t : Int} {out : List Int} (h : OutsOk out) (r : Int) : OutsOk (stepT W t out r) := by
 intro x hx
 rcases List.mem_or_eq_of_mem_set hx with hx | rfl
 ·exact h x hx
 ·refine bor_lt ?_ (turn_lt W r t)
  cases hg : out[r.toNat]? with
  | none => simp
  | some y => exact h y (List.mem_of_getElem? hg)

theorem foldT_ok {W t : Int} : ∀ (l : List Int) {out : List Int}, OutsOk out → OutsOk (l.foldl (stepT W t) out)
 | [], _, h => h
 | r :: l, _, h => foldT_ok l (stepT_ok h r)

theorem foldW_ok {W src : Int} : ∀ (ts : List Int) {out : List Int}, OutsOk out → OutsOk (ts.foldl (wayT W src) out)
 | [], _, h => h
 | t :: ts, _, h => foldW_ok ts (foldT_ok _ h)

theorem tree_ok (W : Int) (n : Nat) (src : Int) (ts : List Int) : OutsOk (treeM W n src ts) :=
 foldW_ok ts fun x hx => by rw [List.eq_of_mem_replicate hx]; omega

def linkN (x : Int) : Nat := ([1, 2, 4, 8] : List Int).countP fun b => decide (hasB x b)

def linksM (tree : List Int) : Nat := (tree.map linkN).sum

def outsOf (r : Nat) (x : Int) : List (Int × Int) := (([1, 2, 4, 8, 16] : List Int).filter fun b => decide (hasB x b)).map fun b => ((r : Int), b)

def outsM (tree : List Int) : List (Int × Int) := (tree.zipIdx.map fun x => outsOf x.2 x.1).flatten

end Go.Gm
end

section

namespace Go.Gm

def Spc.wf (s : Spc) : Prop := I64 s.wide ∧ I64 s.high ∧ I64 s.room

def leadM (W H r o : Int) : Prop := if o = 1 then r % W + 1 < W else if o = 2 then r / W + 1 < H else if o = 4 then 0 < r % W else if o = 8 then 0 < r / W else True

instance (W H r o : Int) : Decidable (leadM W H r o) := by unfold leadM; infer_instance

def knownE (s : Spc) (l : List Int) : Int := if meshE s ≠ 0 then 3 else if ∀ r ∈ l, 0 ≤ r ∧ r < s.wide * s.high then 0 else 4

theorem knownE_zero {s : Spc} {l : List Int} : knownE s l = 0 ↔ SpcOk s ∧ ∀ r ∈ l, 0 ≤ r ∧ r < s.wide * s.high := by
 unfold knownE
 rw [← meshE_zero]
 constructor
 ·intro h
  split at h
  ·cases h
  ·split at h
   ·exact ⟨by omega, by assumption⟩
   ·cases h
 ·rintro ⟨h1, h2⟩
  rw [if_neg (by omega), if_pos h2]

theorem lead_turn {W H r t : Int} (hW : 0 < W) (hr : 0 ≤ r ∧ r < W * H) (ht : 0 ≤ t ∧ t < W * H) : leadM W H r (turnM W r t) := by
 obtain ⟨x, y, h1⟩ := at2 hW r
 obtain ⟨a, b, h2⟩ := at2 hW t
 rw [at2_range h1] at hr
 rw [at2_range h2] at ht
 have := h1.x0; have := h1.x1; have := h2.x0; have := h2.x1
 rw [turn_at h1 h2]
 unfold leadM
 rw [h1.col, h1.row]
 by_cases c1 : x < a
 ·rw [if_pos c1, if_pos rfl]; omega
 rw [if_neg c1]
 by_cases c2 : a < x
 ·rw [if_pos c2, if_neg (by omega), if_neg (by omega), if_pos rfl]; omega
 rw [if_neg c2]
 by_cases c3 : y < b
 ·rw [if_pos c3, if_neg (by omega), if_pos rfl]; omega
 rw [if_neg c3]
 by_cases c4 : b < y
 ·rw [if_pos c4, if_neg (by omega), if_neg (by omega), if_neg (by omega), if_pos rfl]; omega
 rw [if_neg c4, if_neg (by omega), if_neg (by omega), if_neg (by omega), if_neg (by omega)]
 trivial

end Go.Gm

namespace Go.Proofs

open Go Go.Vx Go.Gm

theorem _root_.Go.Vx.VCall.arg2 (y : Value) {P : Program} {w0 : World} {M : List Nat} {H : HP} {f : Nat} {x : Value} {zs : List Value} {K : Value → HP → Prop} (hh : VCall P w0 M H f (x :: y :: zs) K) : VCall P w0 M H f (x :: y :: zs) K := hh

def spcC (s : Spc) : List Value := [.int .i64 s.wide, .int .i64 s.high, .int .i64 s.room]

theorem meshCheck_any (s : Spc) (hs : s.wf) (w : World) : Calls Tryz.prog 46 #[.agg (spcC s).toArray] w fun e w' => e = .returned (.int .i64 (meshE s)) ∧ St w [] [] w' := by
 obtain ⟨h1, h2, h3⟩ := hs
 unfold I64 at h1 h2 h3
 unfold spcC
 refine enter (C := Tryz.cx) (F := Tryz.fx46) (args := [_]) Tryz.func46 rfl rfl rfl Tryz.ok46 (St.start w []) ?_
 repeat' (conv => whnf); first | (refine VSeq.go ?_) | (refine VB.split (fun _ => ?_) (fun _ => ?_)) | (refine VLd.is ?_; refine VLd.mk (.row aT (by rfl)) ?_) | (refine VNew.mk fun _ => ?_)
 all_goals (conv => whnf)
 all_goals first
  | exact ⟨fun w' hw' => ⟨by unfold meshE; rw [if_pos (by omega)]; rfl, hw'.le .nil⟩⟩
  | exact ⟨fun w' hw' => ⟨by unfold meshE; rw [if_neg (by omega)]; rfl, hw'.le .nil⟩⟩

theorem meshAt_any (s : Spc) (hs : 1 ≤ s.wide ∧ s.wide ≤ 1000) (r : Int) (hr : 0 ≤ r ∧ r ≤ 1000000) (w : World) : Calls Tryz.prog 152 #[.agg (spcC s).toArray, .int .i64 r] w fun e w' => e = .returned (.agg #[.int .i64 (r % s.wide), .int .i64 (r / s.wide)]) ∧ St w [] [] w' := by
 unfold spcC
 refine enter (C := Tryz.cx) (F := Tryz.fx152) (args := [_, _]) Tryz.func152 rfl rfl rfl Tryz.ok152 (St.start w []) ?_
 repeat' (conv => whnf); first | (refine VNew.mk fun b4 => ?_) | (refine VHs.is ?_; refine VHs.is ?_; refine VHs.mk [.row _ 23 [.int .i64 s.wide, .int .i64 s.high, .int .i64 s.room]] aH ?_) | (refine VSeq.go ?_) | (refine VLd.is ?_; refine VLd.mk (.row aT (by rfl)) ?_) | (refine VSt.is ?_; refine VSt.row aT (by rfl) (by first | rfl | assumption) ?_) | (refine VQ.is ?_; refine oQ ?_) | (refine VM.is ?_; refine oM ?_)
 all_goals (conv => whnf)
 all_goals exact ⟨fun w' hw' => ⟨rfl, hw'.le .nil⟩⟩

theorem meshTurn_any (s : Spc) (hs : 1 ≤ s.wide ∧ s.wide ≤ 1000) (r t : Int) (hr : 0 ≤ r ∧ r ≤ 1000000) (ht : 0 ≤ t ∧ t ≤ 1000000) (w : World) : Calls Tryz.prog 154 #[.agg (spcC s).toArray, .int .i64 r, .int .i64 t] w fun e w' => e = .returned (.int .i64 (turnM s.wide r t)) ∧ St w [] [] w' := by
 refine enter (C := Tryz.cx) (F := Tryz.fx154) (args := [_, _, _]) Tryz.func154 rfl rfl rfl Tryz.ok154 (St.start w []) ?_
 have hm1 := meshAt_any s hs r hr
 have hm2 := meshAt_any s hs t ht
 obtain ⟨x, y, h1⟩ := at2 (W := s.wide) (by omega) r
 obtain ⟨a, b, h2⟩ := at2 (W := s.wide) (by omega) t
 rw [turn_at h1 h2]
 rw [h1.col, h1.row] at hm1
 rw [h2.col, h2.row] at hm2
 unfold spcC at hm1 hm2 ⊢
 repeat' (conv => whnf); first | (refine VCall.isF 152 ?_; (refine VCall.arg2 (.int .i64 r) ?_; refine VCall.valR (fun w' _ => hm1 w') ?_)) | (refine VCall.isF 152 ?_; (refine VCall.arg2 (.int .i64 t) ?_; refine VCall.valR (fun w' _ => hm2 w') ?_)) | (refine VSeq.is ?_; refine VSeq.isN 2 rfl ?_; refine VSeq.cut (at_ := 2) (α := Nat × Nat) (fun _ => True) (fun z => [(1000000, .tuple #[]), (6, .int .i64 0), (7, .pointer (some ⟨z.1, 0, none⟩)), (8, .pointer (some ⟨z.2, 0, none⟩))]) (fun z => [.row z.1 261 [.int .i64 x, .int .i64 y], .row z.2 261 [.int .i64 a, .int .i64 b]]) ?_ ?_) | (refine VSeq.go ?_) | (refine VLd.is ?_; refine VLd.mk (.row aT (by rfl)) ?_) | (refine VSt.is ?_; refine VSt.row aT (by rfl) (by first | rfl | assumption) ?_) | (refine VNew.mk fun _ => ?_) | (refine VKeep.is ?_; refine VKeep.mk aH ?_) | (refine VHs.mk _ (.refl _) ?_) | (refine And.intro ?_ ?_)
 all_goals (conv => whnf)
 any_goals (rename_i u v z; first | exact VMid.mk (v, z) trivial aE aH | exact VMid.mk (z, v) trivial aE aH)
 rintro ⟨b7, b8⟩ _
 dsimp only
 repeat' (conv => whnf); first | (refine VSeq.go ?_) | (refine VB.split (fun _ => ?_) (fun _ => ?_)) | (refine VLd.is ?_; refine VLd.mk (.row aT (by rfl)) ?_) | (refine VNew.mk fun _ => ?_)
 all_goals (conv => whnf)
 all_goals exact ⟨fun w' hw' => ⟨by (repeat (first | rw [if_pos (by omega)] | rw [if_neg (by omega)])); rfl, hw'.le .nil⟩⟩

theorem meshNext_any (s : Spc) (hs : 1 ≤ s.wide ∧ s.wide ≤ 1000) (hh : 0 ≤ s.high ∧ s.high ≤ 1000) (r o : Int) (hr : 0 ≤ r ∧ r < s.wide * s.high) (ho : isOut o) (w : World) : Calls Tryz.prog 139 #[.agg (spcC s).toArray, .int .i64 r, .int .i64 o] w fun e w' => ∃ b : Bool, e = .returned (.tuple #[.int .i64 (nextM s.wide r o), .bool b]) ∧ (b = true ↔ leadM s.wide s.high r o) ∧ St w [] [] w' := by
 have hm := fun (w' : World) => meshAt_any s hs
 have hwh : s.wide * s.high ≤ 1000 * 1000 := Int.mul_le_mul hs.2 hh.2 (by omega) (by omega)
 obtain ⟨x, y, hxy⟩ := at2 (W := s.wide) (by omega) r
 have hyr := (at2_range hxy).1 hr
 have hx0 := hxy.x0
 have hx1 := hxy.x1
 have hreq := hxy.eq
 refine enter (C := Tryz.cx) (F := Tryz.fx139) (args := [_, _, _]) Tryz.func139 rfl rfl rfl Tryz.ok139 (St.start w []) ?_
 unfold spcC at hm ⊢
 have hp : ∀ d : Int, (y + d) * s.wide = s.wide * y + d * s.wide := fun d => by rw [Int.add_mul, Int.mul_comm y]
 have hp0 : y * s.wide = s.wide * y := Int.mul_comm _ _
 have hp1 : (y + 1) * s.wide = s.wide * y + s.wide := by rw [hp, Int.one_mul]
 have hp2 : (y - 1) * s.wide = s.wide * y - s.wide := by rw [Int.sub_mul, Int.mul_comm y, Int.one_mul]
 have hb0 : 0 ≤ s.wide * y := Int.mul_nonneg (by omega) hyr.1
 obtain ⟨m, hmm⟩ : ∃ m, s.wide * y = m := ⟨_, rfl⟩
 rw [hmm] at hp0 hp1 hp2 hb0 hreq
 unfold isOut at ho
 have hm2 : ∀ w' : World, Calls Tryz.prog 152 #[.agg #[.int .i64 s.wide, .int .i64 s.high, .int .i64 s.room], .int .i64 r] w' fun e w'' => e = .returned (.agg #[.int .i64 x, .int .i64 y]) ∧ St w' [] [] w'' := fun w' => by
  have := hm w' r (by omega) w'
  rw [hxy.col, hxy.row] at this
  exact this
 have hcase : ∃ (v : Int) (p : Prop), nextM s.wide r o = v ∧ (leadM s.wide s.high r o ↔ p) ∧ ((o = 1 ∧ v = m + (x + 1) ∧ p = (x + 1 < s.wide)) ∨ (o = 2 ∧ v = m + s.wide + x ∧ p = (y + 1 < s.high)) ∨ (o = 4 ∧ v = m + (x - 1) ∧ p = (0 < x)) ∨ (o = 8 ∧ v = m - s.wide + x ∧ p = (0 < y)) ∨ (o = 16 ∧ v = m + x ∧ p = True)) := by
  unfold nextM leadM
  rw [hxy.col, hxy.row]
  rcases ho with rfl | rfl | rfl | rfl | rfl
  ·exact ⟨_, _, rfl, Iff.rfl, .inl ⟨rfl, by simp; omega, by simp⟩⟩
  ·exact ⟨_, _, rfl, Iff.rfl, .inr (.inl ⟨rfl, by simp; omega, by simp⟩)⟩
  ·exact ⟨_, _, rfl, Iff.rfl, .inr (.inr (.inl ⟨rfl, by simp; omega, by simp⟩))⟩
  ·exact ⟨_, _, rfl, Iff.rfl, .inr (.inr (.inr (.inl ⟨rfl, by simp; omega, by simp⟩)))⟩
  ·exact ⟨_, _, rfl, Iff.rfl, .inr (.inr (.inr (.inr ⟨rfl, by simp; omega, by simp⟩)))⟩
 obtain ⟨v, pr, hv, hpr, hor⟩ := hcase
 rw [hv]
 have hfin : ∀ (w' : World) (H : HP), St w [] H w' → ∀ b : Bool, (b = true ↔ pr) → ∃ b' : Bool, Ending.returned (.tuple #[.int .i64 v, .bool b]) = .returned (.tuple #[.int .i64 v, .bool b']) ∧ (b' = true ↔ leadM s.wide s.high r o) ∧ St w [] [] w' := fun w' H hw' b hb => ⟨b, rfl, hb.trans hpr.symm, hw'.le .nil⟩
 clear hv hpr hm ho
 rcases hor with ⟨rfl, rfl, rfl⟩ | ⟨rfl, rfl, rfl⟩ | ⟨rfl, rfl, rfl⟩ | ⟨rfl, rfl, rfl⟩ | ⟨rfl, rfl, rfl⟩
 all_goals
  repeat' (conv => whnf); first | (refine VNew.mk fun b4 => ?_) | (refine VCall.isF 152 ?_; (refine VCall.valR (fun w' _ => hm2 w') ?_)) | (refine VAr.is ?_; refine VAr.is ?_; refine VAr.mul hp0 (by omega) (by omega) ?_) | (refine VAr.is ?_; refine VAr.is ?_; refine VAr.mul hp1 (by omega) (by omega) ?_) | (refine VAr.is ?_; refine VAr.is ?_; refine VAr.mul hp2 (by omega) (by omega) ?_) | (refine VSeq.go ?_) | (refine VB.is ?_; refine VB.yes (by omega) fun _ => ?_) | (refine VB.is ?_; refine VB.no (by omega) fun _ => ?_) | (refine VB.split (fun _ => ?_) (fun _ => ?_)) | (refine VLd.is ?_; refine VLd.mk (.row aT (by rfl)) ?_) | (refine VSt.is ?_; refine VSt.row aT (by rfl) (by first | rfl | assumption) ?_) | (refine VAr.is ?_; refine oA ?_) | (refine VHs.mk _ (.refl _) ?_)
  all_goals (conv => whnf)
  all_goals first
   | exact ⟨fun w' hw' => hfin w' _ hw' true ⟨fun _ => by first | trivial | omega, fun _ => rfl⟩⟩
   | exact ⟨fun w' hw' => hfin w' _ hw' false ⟨fun h => (by cases h), fun h => by omega⟩⟩
   | (exfalso; omega)
   | trace_state

end Go.Proofs
end
