import Derived.Test.YtjjcoiicikaaiaaGreatPlaceMapsPc
import Derived.Test.YtjjcoiicikaaiaaGreatPlaceMapsQk
set_option linter.unusedVariables false
set_option linter.unusedSimpArgs false
set_option maxHeartbeats 4000000
section

namespace Go.Gm

structure RowE where
 key : Int
 slot : Int
 wt : Int
 dl : Int
 deriving DecidableEq

def slotAt (cores : List Int) (i : Nat) : Int := (useN (cores.take i) (cores[i]?.getD 0) : Nat)

def slotsM (cores : List Int) : List Int := (List.range cores.length).map (slotAt cores)

def rowOf (N : Net) (cores : List Int) (s : Syn) (q : Int) : RowE := ⟨keyM N s.frm, (slotsM cores)[s.to.toNat]?.getD 0, q, s.dl⟩

def rowsM (N : Net) (cores : List Int) (l : List (Syn × Int)) (k : Int) : List RowE := (l.filter fun x => decide (cores[x.1.to.toNat]? = some k)).map fun x => rowOf N cores x.1 x.2

theorem rowsM_snoc {N : Net} {cores : List Int} {l : List (Syn × Int)} {x : Syn × Int} (k : Int) : rowsM N cores (l ++ [x]) k = rowsM N cores l k ++ if cores[x.1.to.toNat]? = some k then [rowOf N cores x.1 x.2] else [] := by
 unfold rowsM
 rw [List.filter_append, List.map_append]
 congr 1
 by_cases h : cores[x.1.to.toNat]? = some k <;> simp [h]

abbrev Out := Int × Int

def isOutO (o : Out) : Prop := 0 ≤ o.1 ∧ isOut o.2

def cntM (ts : List (List Int)) (o : Out) : Nat := ts.countP fun t => decide (hasB (t[o.1.toNat]?.getD 0) o.2)

theorem cntM_snoc (ts : List (List Int)) (t : List Int) (o : Out) : cntM (ts ++ [t]) o = cntM ts o + if hasB (t[o.1.toNat]?.getD 0) o.2 then 1 else 0 := by
 unfold cntM
 rw [List.countP_append]
 by_cases h : hasB (t[o.1.toNat]?.getD 0) o.2 <;> simp [h]

theorem mem_outsOf {r : Nat} {x : Int} {o : Out} : o ∈ outsOf r x ↔ o.1 = (r : Int) ∧ isOut o.2 ∧ hasB x o.2 := by
 unfold outsOf isOut
 obtain ⟨a, b⟩ := o
 simp only [List.mem_map, List.mem_filter, List.mem_cons, List.not_mem_nil, or_false, decide_eq_true_eq, Prod.mk.injEq]
 constructor
 ·rintro ⟨c, ⟨h1, h2⟩, rfl, rfl⟩
  exact ⟨rfl, h1, h2⟩
 ·rintro ⟨rfl, h1, h2⟩
  exact ⟨b, ⟨h1, h2⟩, rfl, rfl⟩

theorem mem_outsM {t : List Int} {o : Out} : o ∈ outsM t ↔ isOutO o ∧ hasB (t[o.1.toNat]?.getD 0) o.2 := by
 unfold outsM isOutO
 rw [List.mem_flatten]
 constructor
 ·rintro ⟨l, hl, ho⟩
  obtain ⟨x, hx, rfl⟩ := List.mem_map.1 hl
  obtain ⟨h1, h2, h3⟩ := mem_outsOf.1 ho
  have := List.mem_zipIdx hx
  have e : o.1.toNat = x.2 := by omega
  rw [e]
  have hg : t[x.2]? = some x.1 := by
   have h5 := List.mem_zipIdx_iff_getElem?.1 hx
   simpa using h5
  rw [hg]
  exact ⟨⟨by omega, h2⟩, h3⟩
 ·rintro ⟨⟨h1, h2⟩, h3⟩
  cases hg : t[o.1.toNat]? with
  | none => rw [hg] at h3; exact absurd h3 (hasB_zero _)
  | some x =>
   rw [hg] at h3
   exact ⟨outsOf o.1.toNat x, List.mem_map.2 ⟨(x, o.1.toNat), List.mem_zipIdx_iff_getElem?.2 (by simpa using hg), rfl⟩, mem_outsOf.2 ⟨by omega, h2, h3⟩⟩

structure IsMost (ts : List (List Int)) (m : Nat) : Prop where
 le : ∀ o, isOutO o → cntM ts o ≤ m
 ex : m = 0 ∨ ∃ o, isOutO o ∧ cntM ts o = m

theorem IsMost.uniq {ts : List (List Int)} {m n : Nat} (h1 : IsMost ts m) (h2 : IsMost ts n) : m = n := by
 have a : m ≤ n := by
  rcases h1.ex with h | ⟨o, ho, h⟩
  ·omega
  ·rw [← h]; exact h2.le o ho
 have b : n ≤ m := by
  rcases h2.ex with h | ⟨o, ho, h⟩
  ·omega
  ·rw [← h]; exact h1.le o ho
 omega

def mostM : List (List Int) → Nat
 | [] => 0
 | ts@(_ :: _) => ((ts.map outsM).flatten.map fun o => cntM ts o).foldl max 0

theorem foldl_maxN : ∀ (l : List Nat) (a : Nat), a ≤ l.foldl max a ∧ (∀ x ∈ l, x ≤ l.foldl max a) ∧ (l.foldl max a = a ∨ l.foldl max a ∈ l)
 | [], a => ⟨Nat.le_refl _, by simp, .inl rfl⟩
 | y :: l, a => by
  obtain ⟨h1, h2, h3⟩ := foldl_maxN l (max a y)
  rw [List.foldl_cons]
  refine ⟨by omega, fun x hx => ?_, ?_⟩
  ·rcases List.mem_cons.1 hx with rfl | hx
   ·omega
   ·exact h2 x hx
  ·rcases h3 with h | h
   ·by_cases hay : a ≤ y
    ·rw [h, Nat.max_eq_right hay]; exact .inr List.mem_cons_self
    ·rw [h, Nat.max_eq_left (by omega)]; exact .inl rfl
   ·exact .inr (List.mem_cons_of_mem _ h)

theorem mostM_is (ts : List (List Int)) : IsMost ts (mostM ts) := by
 cases ts with
 | nil => exact ⟨fun o _ => Nat.le_refl _, .inl rfl⟩
 | cons t r =>
  obtain ⟨h1, h2, h3⟩ := foldl_maxN (((t :: r).map outsM).flatten.map fun o => cntM (t :: r) o) 0
  refine ⟨fun o ho => ?_, ?_⟩
  ·by_cases hc : cntM (t :: r) o = 0
   ·omega
   ·refine h2 _ (List.mem_map.2 ⟨o, ?_, rfl⟩)
    have hp : 0 < cntM (t :: r) o := by omega
    unfold cntM at hp
    rw [List.countP_pos_iff] at hp
    obtain ⟨u, hu, hh⟩ := hp
    rw [decide_eq_true_eq] at hh
    exact List.mem_flatten.2 ⟨outsM u, List.mem_map.2 ⟨u, hu, rfl⟩, mem_outsM.2 ⟨ho, hh⟩⟩
  ·rcases h3 with h | h
   ·exact .inl h
   ·obtain ⟨o, ho, he⟩ := List.mem_map.1 h
    obtain ⟨l, hl, hol⟩ := List.mem_flatten.1 ho
    obtain ⟨u, _, rfl⟩ := List.mem_map.1 hl
    exact .inr ⟨o, (mem_outsM.1 hol).1, he⟩

def takesM (room : Int) (ts : List (List Int)) (t : List Int) : Bool := (outsM t).all fun o => decide ((cntM ts o : Int) < room)

theorem takes_iff {room : Int} {ts : List (List Int)} {t : List Int} (h : (mostM ts : Int) ≤ room) (h1 : 1 ≤ room) : takesM room ts t = true ↔ (mostM (ts ++ [t]) : Int) ≤ room := by
 unfold takesM
 rw [List.all_eq_true]
 constructor
 ·intro ha
  rcases (mostM_is (ts ++ [t])).ex with he | ⟨o, ho, he⟩
  ·omega
  ·rw [← he, cntM_snoc]
   have hle := (mostM_is ts).le o ho
   split
   ·rename_i hb
    have := of_decide_eq_true (ha o (mem_outsM.2 ⟨ho, hb⟩))
    omega
   ·omega
 ·intro hm o ho
  have ho2 := mem_outsM.1 ho
  have := (mostM_is (ts ++ [t])).le o ho2.1
  rw [cntM_snoc, if_pos ho2.2] at this
  rw [decide_eq_true_eq]
  omega

def waveAdd (T : Int → List Int) (room : Int) (ws : List (List Int)) (key : Int) : List (List Int) :=
 match ws.findIdx? fun w => takesM room (w.map T) (T key) with
 | some k => ws.modify k (· ++ [key])
 | none => ws ++ [[key]]

def wavesM (T : Int → List Int) (room : Int) (keys : List Int) : List (List Int) := keys.foldl (waveAdd T room) []

def waveOf (ws : List (List Int)) (key : Int) : Int :=
 match ws.findIdx? fun w => decide (key ∈ w) with
 | some k => (k : Int)
 | none => -1

def reachM (W : Int) (home : Int → Int) (tg : Int → List Int) (w : List Int) : Nat := (w.flatMap fun key => (tg key).map fun t => distM W (home key) t).foldl max 0

def stepsM (W : Int) (T : Int → List Int) (home : Int → Int) (tg : Int → List Int) (ws : List (List Int)) : Nat := (ws.map fun w => (reachM W home tg w + 1) * mostM (w.map T)).sum

structure Ety where
 key : Int
 mask : Int
 outs : Int
 deriving DecidableEq

def etyAt (T : Int → List Int) (r : Nat) (key : Int) : Option Ety :=
 let x := (T key)[r]?.getD 0
 if x = 0 then none else some ⟨key, 65535, x⟩

def tableM (T : Int → List Int) (keys : List Int) (r : Nat) : List Ety := keys.filterMap (etyAt T r)

def band (a b : Int) : Int := ((a.toNat &&& b.toNat : Nat) : Int)

def bxor (a b : Int) : Int := ((a.toNat ^^^ b.toNat : Nat) : Int)

def bless (a b : Int) : Int := ((a.toNat - (a.toNat &&& b.toNat) : Nat) : Int)

def findE (l : List Ety) (key : Int) : Option Int := (l.find? fun x => decide (band key x.mask = x.key)).map (·.outs)

def isPow (d : Int) : Prop := ∃ i : Nat, i < 16 ∧ d = ((2 ^ i : Nat) : Int)

instance (d : Int) : Decidable (isPow d) := by unfold isPow; exact Nat.decidableExistsLT _

def joinE (x y : Ety) : Option Ety := if x.mask ≠ y.mask ∨ x.outs ≠ y.outs ∨ ¬ isPow (bxor x.key y.key) then none else some ⟨bless x.key (bxor x.key y.key), bless x.mask (bxor x.key y.key), x.outs⟩

def sameE (a b : List Ety) (keys : List Int) : Bool := keys.all fun k => decide (findE a k = findE b k)

def mergedAt (l : List Ety) (k j : Nat) (x : Ety) : List Ety := (l.eraseIdx j).set k x

def pairsM (n : Nat) : List (Nat × Nat) := (List.range n).flatMap fun k => ((List.range n).filter fun j => decide (k < j)).map fun j => (k, j)

def tryE (want l : List Ety) (keys : List Int) (p : Nat × Nat) : Option (List Ety) :=
 match l[p.1]?, l[p.2]? with
 | some x, some y => match joinE x y with
  | some z => if sameE want (mergedAt l p.1 p.2 z) keys = true then some (mergedAt l p.1 p.2 z) else none
  | none => none
 | _, _ => none

def mergeStep (want l : List Ety) (keys : List Int) : Option (List Ety) := (pairsM l.length).findSome? (tryE want l keys)

def mergeF (want : List Ety) (keys : List Int) : Nat → List Ety → List Ety
 | 0, l => l
 | n + 1, l => match mergeStep want l keys with
  | some t => mergeF want keys n t
  | none => l

def mergeM (l : List Ety) (keys : List Int) : List Ety := mergeF l keys l.length l

end Go.Gm
end

section

namespace Go.Gm

structure IsMax (c : Out → Nat) (m : Nat) : Prop where
 le : ∀ o, isOutO o → c o ≤ m
 ex : m = 0 ∨ ∃ o, isOutO o ∧ c o = m

theorem IsMax.bump {c : Out → Nat} {m : Nat} (h : IsMax c m) {o : Out} (ho : isOutO o) : IsMax (fun q => if q = o then c o + 1 else c q) (max m (c o + 1)) := by
 refine ⟨fun q hq => ?_, .inr ?_⟩
 ·have := h.le q hq
  show (if q = o then c o + 1 else c q) ≤ _
  split <;> omega
 ·by_cases hm : m ≤ c o + 1
  ·exact ⟨o, ho, by rw [if_pos rfl]; omega⟩
  ·rcases h.ex with h0 | ⟨q, hq, he⟩
   ·omega
   ·have : ¬ q = o := fun e => by subst e; omega
    exact ⟨q, hq, by rw [if_neg this]; omega⟩

theorem IsMax.same {c d : Out → Nat} {m : Nat} (h : IsMax c m) (e : ∀ o, isOutO o → d o = c o) : IsMax d m := by
 refine ⟨fun q hq => by rw [e q hq]; exact h.le q hq, ?_⟩
 rcases h.ex with h0 | ⟨q, hq, he⟩
 ·exact .inl h0
 ·exact .inr ⟨q, hq, by rw [e q hq]; exact he⟩

theorem IsMax.most {ts : List (List Int)} {m : Nat} (h : IsMax (cntM ts) m) : mostM ts = m := (mostM_is ts).uniq ⟨h.le, h.ex⟩

theorem IsMax.of (ts : List (List Int)) : IsMax (cntM ts) (mostM ts) := ⟨(mostM_is ts).le, (mostM_is ts).ex⟩

def bfr (i k : Nat) (o : Out) : Prop := o.1 < (i : Int) ∨ (o.1 = (i : Int) ∧ o.2 < ((2 ^ k : Nat) : Int))

instance (i k : Nat) (o : Out) : Decidable (bfr i k o) := by unfold bfr; infer_instance

def cntP (ts : List (List Int)) (t : List Int) (i k : Nat) (o : Out) : Nat := cntM ts o + if bfr i k o ∧ hasB (t[o.1.toNat]?.getD 0) o.2 then 1 else 0

theorem pow5 {k : Nat} (hk : k < 5) : k = 0 ∧ (2 ^ k : Nat) = 1 ∨ k = 1 ∧ (2 ^ k : Nat) = 2 ∨ k = 2 ∧ (2 ^ k : Nat) = 4 ∨ k = 3 ∧ (2 ^ k : Nat) = 8 ∨ k = 4 ∧ (2 ^ k : Nat) = 16 := by
 have : k = 0 ∨ k = 1 ∨ k = 2 ∨ k = 3 ∨ k = 4 := by omega
 rcases this with rfl | rfl | rfl | rfl | rfl <;> simp

theorem bfr_zero {o : Out} (h : isOutO o) : ¬ bfr 0 0 o := by
 unfold isOutO isOut at h
 unfold bfr
 simp only [Nat.pow_zero]
 omega

theorem bfr_next {i k : Nat} (hk : k < 5) {o : Out} (h : isOutO o) : bfr i (k + 1) o ↔ bfr i k o ∨ o = ((i : Int), ((2 ^ k : Nat) : Int)) := by
 unfold isOutO isOut at h
 unfold bfr
 obtain ⟨a, b⟩ := o
 dsimp only at h ⊢
 rw [Prod.mk.injEq, Nat.pow_succ]
 have := pow5 hk
 omega

theorem bfr_row {i : Nat} {o : Out} (h : isOutO o) : bfr i 5 o ↔ bfr (i + 1) 0 o := by
 unfold isOutO isOut at h
 unfold bfr
 simp only [Nat.pow_zero]
 have : (2 ^ 5 : Nat) = 32 := rfl
 rw [this]
 omega

theorem cntP_zero (ts : List (List Int)) (t : List Int) {o : Out} (h : isOutO o) : cntP ts t 0 0 o = cntM ts o := by
 unfold cntP
 rw [if_neg (fun x => bfr_zero h x.1)]; rfl

theorem cntP_row (ts : List (List Int)) (t : List Int) (i : Nat) {o : Out} (h : isOutO o) : cntP ts t (i + 1) 0 o = cntP ts t i 5 o := by
 unfold cntP
 have := bfr_row (i := i) h
 by_cases hb : bfr i 5 o ∧ hasB (t[o.1.toNat]?.getD 0) o.2
 ·rw [if_pos hb, if_pos ⟨this.1 hb.1, hb.2⟩]
 ·rw [if_neg hb, if_neg (fun x => hb ⟨this.2 x.1, x.2⟩)]

theorem bfr_self (i k : Nat) : ¬ bfr i k ((i : Int), ((2 ^ k : Nat) : Int)) := by
 unfold bfr; dsimp only; omega

theorem cntP_skip (ts : List (List Int)) {t : List Int} {i k : Nat} {v : Int} (hv : t[i]? = some v) (hk : k < 5) (hb : ¬ hasB v ((2 ^ k : Nat) : Int)) {o : Out} (h : isOutO o) : cntP ts t i (k + 1) o = cntP ts t i k o := by
 unfold cntP
 have := bfr_next (i := i) hk h
 congr 1
 by_cases h1 : bfr i k o ∧ hasB (t[o.1.toNat]?.getD 0) o.2
 ·rw [if_pos h1, if_pos ⟨this.2 (.inl h1.1), h1.2⟩]
 ·rw [if_neg h1, if_neg ?_]
  rintro ⟨h2, h3⟩
  rcases this.1 h2 with h4 | rfl
  ·exact h1 ⟨h4, h3⟩
  ·dsimp only at h3
   rw [Int.toNat_natCast, hv] at h3
   exact hb h3

theorem cntP_at (ts : List (List Int)) (t : List Int) (i k : Nat) : cntP ts t i k ((i : Int), ((2 ^ k : Nat) : Int)) = cntM ts ((i : Int), ((2 ^ k : Nat) : Int)) := by
 unfold cntP
 rw [if_neg (fun x => bfr_self i k x.1)]; rfl

theorem cntP_next (ts : List (List Int)) {t : List Int} {i k : Nat} {v : Int} (hv : t[i]? = some v) (hk : k < 5) (hb : hasB v ((2 ^ k : Nat) : Int)) {o : Out} (h : isOutO o) :
  cntP ts t i (k + 1) o = if o = ((i : Int), ((2 ^ k : Nat) : Int)) then cntP ts t i k ((i : Int), ((2 ^ k : Nat) : Int)) + 1 else cntP ts t i k o := by
 have := bfr_next (i := i) hk h
 by_cases he : o = ((i : Int), ((2 ^ k : Nat) : Int))
 ·rw [if_pos he, cntP_at, he]
  unfold cntP
  rw [if_pos ⟨by rw [he] at this; exact this.2 (.inr rfl), by dsimp only; rw [Int.toNat_natCast, hv]; exact hb⟩]
 ·rw [if_neg he]
  unfold cntP
  congr 1
  by_cases h1 : bfr i k o ∧ hasB (t[o.1.toNat]?.getD 0) o.2
  ·rw [if_pos h1, if_pos ⟨this.2 (.inl h1.1), h1.2⟩]
  ·rw [if_neg h1, if_neg ?_]
   rintro ⟨h2, h3⟩
   rcases this.1 h2 with h4 | h4
   ·exact h1 ⟨h4, h3⟩
   ·exact he h4

theorem cntP_end (ts : List (List Int)) (t : List Int) {o : Out} (h : isOutO o) : cntP ts t t.length 0 o = cntM (ts ++ [t]) o := by
 rw [cntM_snoc]
 unfold cntP
 congr 1
 by_cases hb : hasB (t[o.1.toNat]?.getD 0) o.2
 ·have hlt : o.1.toNat < t.length := by
   refine Decidable.byContradiction fun hn => ?_
   rw [List.getElem?_eq_none (by omega)] at hb
   exact hasB_zero _ hb
  have h0 := h.1
  rw [if_pos ⟨.inl (by omega), hb⟩, if_pos hb]
 ·rw [if_neg (fun x => hb x.2), if_neg hb]

theorem cntP_le (ts : List (List Int)) (t : List Int) (i k : Nat) (o : Out) : cntP ts t i k o ≤ ts.length + 1 := by
 have : cntM ts o ≤ ts.length := List.countP_le_length ..
 unfold cntP
 split <;> omega

def takesK (room : Int) (ts : List (List Int)) (t : List Int) (i k : Nat) : Prop := ∀ o, isOutO o → bfr i k o → hasB (t[o.1.toNat]?.getD 0) o.2 → (cntM ts o : Int) < room

theorem takesK_zero (room : Int) (ts : List (List Int)) (t : List Int) : takesK room ts t 0 0 := fun o ho hb _ => absurd hb (bfr_zero ho)

theorem takesK_row {room : Int} {ts : List (List Int)} {t : List Int} {i : Nat} (h : takesK room ts t i 5) : takesK room ts t (i + 1) 0 := fun o ho hb hh => h o ho ((bfr_row ho).2 hb) hh

theorem takesK_skip {room : Int} {ts : List (List Int)} {t : List Int} {i k : Nat} {v : Int} (hv : t[i]? = some v) (hk : k < 5) (hb : ¬ hasB v ((2 ^ k : Nat) : Int)) (h : takesK room ts t i k) : takesK room ts t i (k + 1) := fun o ho hf hh => by
 rcases (bfr_next hk ho).1 hf with hf | rfl
 ·exact h o ho hf hh
 ·dsimp only at hh
  rw [Int.toNat_natCast, hv] at hh
  exact absurd hh hb

theorem takesK_next {room : Int} {ts : List (List Int)} {t : List Int} {i k : Nat} (hk : k < 5) (hc : (cntM ts ((i : Int), ((2 ^ k : Nat) : Int)) : Int) < room) (h : takesK room ts t i k) : takesK room ts t i (k + 1) := fun o ho hf hh => by
 rcases (bfr_next hk ho).1 hf with hf | rfl
 ·exact h o ho hf hh
 ·exact hc

theorem takesK_end {room : Int} {ts : List (List Int)} {t : List Int} (h : takesK room ts t t.length 0) : takesM room ts t = true := by
 unfold takesM
 rw [List.all_eq_true]
 intro o ho
 obtain ⟨h1, h2⟩ := mem_outsM.1 ho
 rw [decide_eq_true_eq]
 have hlt : o.1.toNat < t.length := by
  refine Decidable.byContradiction fun hn => ?_
  rw [List.getElem?_eq_none (by omega)] at h2
  exact hasB_zero _ h2
 have h0 := h1.1
 exact h o h1 (.inl (by omega)) h2

theorem takes_not {room : Int} {ts : List (List Int)} {t : List Int} {i k : Nat} {v : Int} (hv : t[i]? = some v) (hk : k < 5) (hb : hasB v ((2 ^ k : Nat) : Int)) (hc : ¬ (cntM ts ((i : Int), ((2 ^ k : Nat) : Int)) : Int) < room) : takesM room ts t = false := by
 cases hm : takesM room ts t with
 | false => rfl
 | true =>
  unfold takesM at hm
  rw [List.all_eq_true] at hm
  refine absurd (of_decide_eq_true (hm ((i : Int), ((2 ^ k : Nat) : Int)) (mem_outsM.2 ⟨⟨by dsimp only; omega, ?_⟩, ?_⟩))) hc
  ·have := pow5 hk
   unfold isOut
   dsimp only
   omega
  ·dsimp only
   rw [Int.toNat_natCast, hv]
   exact hb

theorem reachM_snoc (W : Int) (home : Int → Int) (tg : Int → List Int) (ks : List Int) (key : Int) : reachM W home tg (ks ++ [key]) = ((tg key).map fun t => distM W (home key) t).foldl max (reachM W home tg ks) := by
 unfold reachM
 rw [List.flatMap_append, List.foldl_append]
 simp

def waveIx (T : Int → List Int) (room : Int) (ws : List (List Int)) (key : Int) : Nat := (ws.findIdx? fun w => takesM room (w.map T) (T key)).getD ws.length

theorem waveAdd_eq (T : Int → List Int) (room : Int) (ws : List (List Int)) (key : Int) :
  waveAdd T room ws key = if waveIx T room ws key < ws.length then ws.set (waveIx T room ws key) (ws[waveIx T room ws key]?.getD [] ++ [key]) else ws ++ [[key]] := by
 unfold waveAdd waveIx
 cases h : ws.findIdx? fun w => takesM room (w.map T) (T key) with
 | none => simp
 | some k =>
  have hlt : k < ws.length := by
   rw [List.findIdx?_eq_some_iff_getElem] at h
   exact h.1
  simp only [Option.getD_some]
  rw [if_pos hlt]
  apply List.ext_getElem?
  intro j
  rw [List.getElem?_modify, List.getElem?_set]
  by_cases hj : k = j
  ·subst hj
   rw [if_pos rfl, if_pos hlt, List.getElem?_eq_getElem hlt]
   simp
  ·simp [hj]

theorem waveIx_le (T : Int → List Int) (room : Int) (ws : List (List Int)) (key : Int) : waveIx T room ws key ≤ ws.length := by
 unfold waveIx
 cases h : ws.findIdx? fun w => takesM room (w.map T) (T key) with
 | none => exact Nat.le_refl _
 | some k =>
  rw [List.findIdx?_eq_some_iff_getElem] at h
  exact Nat.le_of_lt h.1

theorem waveIx_spec {T : Int → List Int} {room : Int} {ws : List (List Int)} {key : Int} {k : Nat} (hk : k ≤ ws.length) (h1 : ∀ j, j < k → takesM room ((ws[j]?.getD []).map T) (T key) = false)
  (h2 : k < ws.length → takesM room ((ws[k]?.getD []).map T) (T key) = true) : waveIx T room ws key = k := by
 unfold waveIx
 rcases Nat.lt_or_ge k ws.length with hlt | hge
 ·have : ws.findIdx? (fun w => takesM room (w.map T) (T key)) = some k := by
   rw [List.findIdx?_eq_some_iff_getElem]
   refine ⟨hlt, ?_, fun j hj => ?_⟩
   ·have := h2 hlt
    rw [List.getElem?_eq_getElem hlt] at this
    exact this
   ·have := h1 j hj
    rw [List.getElem?_eq_getElem (by omega), Option.getD_some] at this
    rw [this]
    exact Bool.false_ne_true
  rw [this]; rfl
 ·have hkl : k = ws.length := by omega
  have : ws.findIdx? (fun w => takesM room (w.map T) (T key)) = none := by
   rw [List.findIdx?_eq_none_iff]
   intro w hw
   obtain ⟨j, hj⟩ := List.getElem?_of_mem hw
   have hjl := (List.getElem?_eq_some_iff.1 hj).1
   have := h1 j (by omega)
   rw [hj] at this
   exact this
  rw [this]; exact hkl.symm

theorem waveOf_add {T : Int → List Int} {room : Int} {ws : List (List Int)} {key : Int} (hn : ∀ w ∈ ws, key ∉ w) (x : Int) : waveOf (waveAdd T room ws key) x = if x = key then (waveIx T room ws key : Int) else waveOf ws x := by
 rw [waveAdd_eq]
 have hle := waveIx_le T room ws key
 generalize waveIx T room ws key = k at hle ⊢
 unfold waveOf
 by_cases hlt : k < ws.length
 ·rw [if_pos hlt]
  have hget : ws[k]? = some ws[k] := List.getElem?_eq_getElem hlt
  by_cases hx : x = key
  ·subst hx
   rw [if_pos rfl]
   have : (ws.set k (ws[k]?.getD [] ++ [x])).findIdx? (fun w => decide (x ∈ w)) = some k := by
    rw [List.findIdx?_eq_some_iff_getElem]
    refine ⟨by simpa using hlt, by simp, fun j hj => ?_⟩
    rw [List.getElem_set, if_neg (by omega)]
    simpa using hn _ (List.getElem_mem (by omega))
   rw [this]
  ·rw [if_neg hx]
   have : (ws.set k (ws[k]?.getD [] ++ [key])).findIdx? (fun w => decide (x ∈ w)) = ws.findIdx? (fun w => decide (x ∈ w)) := by
    have hm : (ws.set k (ws[k]?.getD [] ++ [key])).map (fun w => decide (x ∈ w)) = ws.map (fun w => decide (x ∈ w)) := by
     rw [List.map_set, hget, Option.getD_some]
     have : decide (x ∈ ws[k] ++ [key]) = decide (x ∈ ws[k]) := by
      congr 1
      rw [List.mem_append, List.mem_singleton]
      exact propext ⟨fun h => h.elim id fun h => absurd h hx, .inl⟩
     rw [this]
     apply List.ext_getElem?
     intro i
     rw [List.getElem?_set]
     by_cases hi : k = i
     ·subst hi
      rw [if_pos rfl, if_pos (by simpa using hlt), List.getElem?_map, hget]; rfl
     ·rw [if_neg hi]
    have key2 : ∀ {l m : List (List Int)} (p : List Int → Bool), l.map p = m.map p → l.findIdx? p = m.findIdx? p := by
     intro l m p h
     have e : ∀ l : List (List Int), l.findIdx? p = (l.map p).findIdx? id := fun l => by rw [List.findIdx?_map]; rfl
     rw [e l, e m, h]
    exact key2 _ hm
   rw [this]
 ·rw [if_neg hlt]
  have hk : k = ws.length := by omega
  by_cases hx : x = key
  ·subst hx
   rw [if_pos rfl]
   have : (ws ++ [[x]]).findIdx? (fun w => decide (x ∈ w)) = some k := by
    rw [List.findIdx?_append]
    have h0 : ws.findIdx? (fun w => decide (x ∈ w)) = none := by
     rw [List.findIdx?_eq_none_iff]
     intro w hw
     simpa using hn w hw
    rw [h0]
    simp [hk]
   rw [this]
  ·rw [if_neg hx]
   have : (ws ++ [[key]]).findIdx? (fun w => decide (x ∈ w)) = ws.findIdx? (fun w => decide (x ∈ w)) := by
    rw [List.findIdx?_append]
    have h1 : [[key]].findIdx? (fun w => decide (x ∈ w)) = none := by simp [hx]
    rw [h1]
    cases ws.findIdx? (fun w => decide (x ∈ w)) <;> rfl
   rw [this]

theorem wavesM_snoc (T : Int → List Int) (room : Int) (keys : List Int) (key : Int) : wavesM T room (keys ++ [key]) = waveAdd T room (wavesM T room keys) key := by
 unfold wavesM
 rw [List.foldl_append]; rfl

theorem mem_waveAdd {T : Int → List Int} {room : Int} {ws : List (List Int)} {key x : Int} : (∃ w ∈ waveAdd T room ws key, x ∈ w) ↔ (∃ w ∈ ws, x ∈ w) ∨ x = key := by
 rw [waveAdd_eq]
 have hle := waveIx_le T room ws key
 generalize waveIx T room ws key = k at hle ⊢
 split
 ·rename_i hlt
  have hget : ws[k]? = some ws[k] := List.getElem?_eq_getElem hlt
  rw [hget, Option.getD_some]
  constructor
  ·rintro ⟨w, hw, hx⟩
   rcases List.mem_or_eq_of_mem_set hw with hw | rfl
   ·exact .inl ⟨w, hw, hx⟩
   ·rcases List.mem_append.1 hx with hx | hx
    ·exact .inl ⟨_, List.getElem_mem hlt, hx⟩
    ·exact .inr (by simpa using hx)
  ·rintro (⟨w, hw, hx⟩ | rfl)
   ·obtain ⟨j, hj⟩ := List.getElem?_of_mem hw
    by_cases hjk : k = j
    ·subst hjk
     rw [hget] at hj
     cases hj
     exact ⟨_, List.mem_of_getElem? (i := k) (by rw [List.getElem?_set, if_pos rfl, if_pos hlt]), List.mem_append_left _ hx⟩
    ·exact ⟨w, List.mem_of_getElem? (i := j) (by rw [List.getElem?_set, if_neg hjk, hj]), hx⟩
   ·exact ⟨_, List.mem_of_getElem? (i := k) (by rw [List.getElem?_set, if_pos rfl, if_pos hlt]), by simp⟩
 ·constructor
  ·rintro ⟨w, hw, hx⟩
   rcases List.mem_append.1 hw with hw | hw
   ·exact .inl ⟨w, hw, hx⟩
   ·rw [List.mem_singleton] at hw
    subst hw
    exact .inr (by simpa using hx)
  ·rintro (⟨w, hw, hx⟩ | rfl)
   ·exact ⟨w, List.mem_append_left _ hw, hx⟩
   ·exact ⟨[x], by simp, by simp⟩

theorem mem_wavesM {T : Int → List Int} {room : Int} (keys : List Int) {x : Int} : (∃ w ∈ wavesM T room keys, x ∈ w) ↔ x ∈ keys := by
 refine snoc_ind (P := fun keys => (∃ w ∈ wavesM T room keys, x ∈ w) ↔ x ∈ keys) (by simp [wavesM]) (fun l y ih => ?_) keys
 rw [wavesM_snoc, mem_waveAdd, ih, List.mem_append, List.mem_singleton]

end Go.Gm
end
