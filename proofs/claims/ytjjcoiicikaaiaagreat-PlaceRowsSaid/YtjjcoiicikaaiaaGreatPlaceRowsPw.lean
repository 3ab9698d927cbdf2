import Derived.Test.YtjjcoiicikaaiaaGreatPlaceRowsPc
import Derived.Test.YtjjcoiicikaaiaaGreatPlaceRowsPq
set_option linter.unusedVariables false
set_option linter.unusedSimpArgs false
set_option maxHeartbeats 4000000

namespace Go.Gm

structure RowE where
 key : Int
 slot : Int
 wt : Int
 dl : Int
 deriving DecidableEq

def slotAt (cores : List Int) (i : Nat) : Int := (useN (cores.take i) (cores[i]?.getD 0) : Nat)

def slotsM (cores : List Int) : List Int := (List.range cores.length).map (slotAt cores)

def rowOf (N : Net) (cores : List Int) (s : Syn) (q : Int) : RowE := ⟨keyM N s.frm, (slotsM cores)[s.to.toNat]?.getD 0, q, s.dl⟩

def rowsM (N : Net) (cores : List Int) (l : List (Syn × Int)) (k : Int) : List RowE := (l.filter fun x => decide (cores[x.1.to.toNat]? = some k)).map fun x => rowOf N cores x.1 x.2

theorem rowsM_snoc {N : Net} {cores : List Int} {l : List (Syn × Int)} {x : Syn × Int} (k : Int) : rowsM N cores (l ++ [x]) k = rowsM N cores l k ++ if cores[x.1.to.toNat]? = some k then [rowOf N cores x.1 x.2] else [] := by
 unfold rowsM
 rw [List.filter_append, List.map_append]
 congr 1
 by_cases h : cores[x.1.to.toNat]? = some k <;> simp [h]

abbrev Out := Int × Int

def isOutO (o : Out) : Prop := 0 ≤ o.1 ∧ isOut o.2

def cntM (ts : List (List Int)) (o : Out) : Nat := ts.countP fun t => decide (hasB (t[o.1.toNat]?.getD 0) o.2)

theorem cntM_snoc (ts : List (List Int)) (t : List Int) (o : Out) : cntM (ts ++ [t]) o = cntM ts o + if hasB (t[o.1.toNat]?.getD 0) o.2 then 1 else 0 := by
 unfold cntM
 rw [List.countP_append]
 by_cases h : hasB (t[o.1.toNat]?.getD 0) o.2 <;> simp [h]

theorem mem_outsOf {r : Nat} {x : Int} {o : Out} : o ∈ outsOf r x ↔ o.1 = (r : Int) ∧ isOut o.2 ∧ hasB x o.2 := by
 unfold outsOf isOut
 obtain ⟨a, b⟩ := o
 simp only [List.mem_map, List.mem_filter, List.mem_cons, List.not_mem_nil, or_false, decide_eq_true_eq, Prod.mk.injEq]
 constructor
 ·rintro ⟨c, ⟨h1, h2⟩, rfl, rfl⟩
  exact ⟨rfl, h1, h2⟩
 ·rintro ⟨rfl, h1, h2⟩
  exact ⟨b, ⟨h1, h2⟩, rfl, rfl⟩

theorem mem_outsM {t : List Int} {o : Out} : o ∈ outsM t ↔ isOutO o ∧ hasB (t[o.1.toNat]?.getD 0) o.2 := by
 unfold outsM isOutO
 rw [List.mem_flatten]
 constructor
 ·rintro ⟨l, hl, ho⟩
  obtain ⟨x, hx, rfl⟩ := List.mem_map.1 hl
  obtain ⟨h1, h2, h3⟩ := mem_outsOf.1 ho
  have := List.mem_zipIdx hx
  have e : o.1.toNat = x.2 := by omega
  rw [e]
  have hg : t[x.2]? = some x.1 := by
   have h5 := List.mem_zipIdx_iff_getElem?.1 hx
   simpa using h5
  rw [hg]
  exact ⟨⟨by omega, h2⟩, h3⟩
 ·rintro ⟨⟨h1, h2⟩, h3⟩
  cases hg : t[o.1.toNat]? with
  | none => rw [hg] at h3; exact absurd h3 (hasB_zero _)
  | some x =>
   rw [hg] at h3
   exact ⟨outsOf o.1.toNat x, List.mem_map.2 ⟨(x, o.1.toNat), List.mem_zipIdx_iff_getElem?.2 (by simpa using hg), rfl⟩, mem_outsOf.2 ⟨by omega, h2, h3⟩⟩

structure IsMost (ts : List (List Int)) (m : Nat) : Prop where
 le : ∀ o, isOutO o → cntM ts o ≤ m
 ex : m = 0 ∨ ∃ o, isOutO o ∧ cntM ts o = m

theorem IsMost.uniq {ts : List (List Int)} {m n : Nat} (h1 : IsMost ts m) (h2 : IsMost ts n) : m = n := by
 have a : m ≤ n := by
  rcases h1.ex with h | ⟨o, ho, h⟩
  ·omega
  ·rw [← h]; exact h2.le o ho
 have b : n ≤ m := by
  rcases h2.ex with h | ⟨o, ho, h⟩
  ·omega
  ·rw [← h]; exact h1.le o ho
 omega

def mostM : List (List Int) → Nat
 | [] => 0
 | ts@(_ :: _) => ((ts.map outsM).flatten.map fun o => cntM ts o).foldl max 0

theorem foldl_maxN : ∀ (l : List Nat) (a : Nat), a ≤ l.foldl max a ∧ (∀ x ∈ l, x ≤ l.foldl max a) ∧ (l.foldl max a = a ∨ l.foldl max a ∈ l)
 | [], a => ⟨Nat.le_refl _, by simp, .inl rfl⟩
 | y :: l, a => by
  obtain ⟨h1, h2, h3⟩ := foldl_maxN l (max a y)
  rw [List.foldl_cons]
  refine ⟨by omega, fun x hx => ?_, ?_⟩
  ·rcases List.mem_cons.1 hx with rfl | hx
   ·omega
   ·exact h2 x hx
  ·rcases h3 with h | h
   ·by_cases hay : a ≤ y
    ·rw [h, Nat.max_eq_right hay]; exact .inr List.mem_cons_self
    ·rw [h, Nat.max_eq_left (by omega)]; exact .inl rfl
   ·exact .inr (List.mem_cons_of_mem _ h)

theorem mostM_is (ts : List (List Int)) : IsMost ts (mostM ts) := by
 cases ts with
 | nil => exact ⟨fun o _ => Nat.le_refl _, .inl rfl⟩
 | cons t r =>
  obtain ⟨h1, h2, h3⟩ := foldl_maxN (((t :: r).map outsM).flatten.map fun o => cntM (t :: r) o) 0
  refine ⟨fun o ho => ?_, ?_⟩
  ·by_cases hc : cntM (t :: r) o = 0
   ·omega
   ·refine h2 _ (List.mem_map.2 ⟨o, ?_, rfl⟩)
    have hp : 0 < cntM (t :: r) o := by omega
    unfold cntM at hp
    rw [List.countP_pos_iff] at hp
    obtain ⟨u, hu, hh⟩ := hp
    rw [decide_eq_true_eq] at hh
    exact List.mem_flatten.2 ⟨outsM u, List.mem_map.2 ⟨u, hu, rfl⟩, mem_outsM.2 ⟨ho, hh⟩⟩
  ·rcases h3 with h | h
   ·exact .inl h
   ·obtain ⟨o, ho, he⟩ := List.mem_map.1 h
    obtain ⟨l, hl, hol⟩ := List.mem_flatten.1 ho
    obtain ⟨u, _, rfl⟩ := List.mem_map.1 hl
    exact .inr ⟨o, (mem_outsM.1 hol).1, he⟩

def takesM (room : Int) (ts : List (List Int)) (t : List Int) : Bool := (outsM t).all fun o => decide ((cntM ts o : Int) < room)

def waveAdd (T : Int → List Int) (room : Int) (ws : List (List Int)) (key : Int) : List (List Int) :=
 match ws.findIdx? fun w => takesM room (w.map T) (T key) with
 | some k => ws.modify k (· ++ [key])
 | none => ws ++ [[key]]

def wavesM (T : Int → List Int) (room : Int) (keys : List Int) : List (List Int) := keys.foldl (waveAdd T room) []

def waveOf (ws : List (List Int)) (key : Int) : Int :=
 match ws.findIdx? fun w => decide (key ∈ w) with
 | some k => (k : Int)
 | none => -1

def reachM (W : Int) (home : Int → Int) (tg : Int → List Int) (w : List Int) : Nat := (w.flatMap fun key => (tg key).map fun t => distM W (home key) t).foldl max 0

def stepsM (W : Int) (T : Int → List Int) (home : Int → Int) (tg : Int → List Int) (ws : List (List Int)) : Nat := (ws.map fun w => (reachM W home tg w + 1) * mostM (w.map T)).sum

structure Ety where
 key : Int
 mask : Int
 outs : Int
 deriving DecidableEq

def etyAt (T : Int → List Int) (r : Nat) (key : Int) : Option Ety :=
 let x := (T key)[r]?.getD 0
 if x = 0 then none else some ⟨key, 65535, x⟩

def tableM (T : Int → List Int) (keys : List Int) (r : Nat) : List Ety := keys.filterMap (etyAt T r)

def band (a b : Int) : Int := ((a.toNat &&& b.toNat : Nat) : Int)

def bxor (a b : Int) : Int := ((a.toNat ^^^ b.toNat : Nat) : Int)

def bless (a b : Int) : Int := ((a.toNat - (a.toNat &&& b.toNat) : Nat) : Int)

def findE (l : List Ety) (key : Int) : Option Int := (l.find? fun x => decide (band key x.mask = x.key)).map (·.outs)

def isPow (d : Int) : Prop := ∃ i : Nat, i < 16 ∧ d = ((2 ^ i : Nat) : Int)

instance (d : Int) : Decidable (isPow d) := by unfold isPow; exact Nat.decidableExistsLT _

def joinE (x y : Ety) : Option Ety := if x.mask ≠ y.mask ∨ x.outs ≠ y.outs ∨ ¬ isPow (bxor x.key y.key) then none else some ⟨bless x.key (bxor x.key y.key), bless x.mask (bxor x.key y.key), x.outs⟩

def sameE (a b : List Ety) (keys : List Int) : Bool := keys.all fun k => decide (findE a k = findE b k)

def mergedAt (l : List Ety) (k j : Nat) (x : Ety) : List Ety := (l.eraseIdx j).set k x

def pairsM (n : Nat) : List (Nat × Nat) := (List.range n).flatMap fun k => ((List.range n).filter fun j => decide (k < j)).map fun j => (k, j)

def tryE (want l : List Ety) (keys : List Int) (p : Nat × Nat) : Option (List Ety) :=
 match l[p.1]?, l[p.2]? with
 | some x, some y => match joinE x y with
  | some z => if sameE want (mergedAt l p.1 p.2 z) keys = true then some (mergedAt l p.1 p.2 z) else none
  | none => none
 | _, _ => none

def mergeStep (want l : List Ety) (keys : List Int) : Option (List Ety) := (pairsM l.length).findSome? (tryE want l keys)

def mergeF (want : List Ety) (keys : List Int) : Nat → List Ety → List Ety
 | 0, l => l
 | n + 1, l => match mergeStep want l keys with
  | some t => mergeF want keys n t
  | none => l

def mergeM (l : List Ety) (keys : List Int) : List Ety := mergeF l keys l.length l

end Go.Gm
