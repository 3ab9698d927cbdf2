import Derived.Test.YtjjcoiicikaaiaaGreatPlaceWaysPq
import Derived.Test.YtjjcoiicikaaiaaGreatPlaceWaysDm
import Derived.Test.YtjjcoiicikaaiaaGreatPlaceWaysNa
import Derived.DeepKeys4
import Derived.KernelRfl
set_option linter.unusedVariables false
set_option linter.unusedSimpArgs false
set_option maxHeartbeats 4000000
section

namespace Go.Gm

structure RowE where
 key : Int
 slot : Int
 wt : Int
 dl : Int
 deriving DecidableEq

def slotAt (cores : List Int) (i : Nat) : Int := (useN (cores.take i) (cores[i]?.getD 0) : Nat)

def slotsM (cores : List Int) : List Int := (List.range cores.length).map (slotAt cores)

def rowOf (N : Net) (cores : List Int) (s : Syn) (q : Int) : RowE := ⟨keyM N s.frm, (slotsM cores)[s.to.toNat]?.getD 0, q, s.dl⟩

def rowsM (N : Net) (cores : List Int) (l : List (Syn × Int)) (k : Int) : List RowE := (l.filter fun x => decide (cores[x.1.to.toNat]? = some k)).map fun x => rowOf N cores x.1 x.2

theorem rowsM_snoc {N : Net} {cores : List Int} {l : List (Syn × Int)} {x : Syn × Int} (k : Int) : rowsM N cores (l ++ [x]) k = rowsM N cores l k ++ if cores[x.1.to.toNat]? = some k then [rowOf N cores x.1 x.2] else [] := by
 unfold rowsM
 rw [List.filter_append, List.map_append]
 congr 1
 by_cases h : cores[x.1.to.toNat]? = some k <;> simp [h]

abbrev Out := Int × Int

def isOutO (o : Out) : Prop := 0 ≤ o.1 ∧ isOut o.2

def cntM (ts : List (List Int)) (o : Out) : Nat := ts.countP fun t => decide (hasB (t[o.1.toNat]?.getD 0) o.2)

theorem cntM_snoc (ts : List (List Int)) (t : List Int) (o : Out) : cntM (ts ++ [t]) o = cntM ts o + if hasB (t[o.1.toNat]?.getD 0) o.2 then 1 else 0 := by
 unfold cntM
 rw [List.countP_append]
 by_cases h : hasB (t[o.1.toNat]?.getD 0) o.2 <;> simp [h]

theorem mem_outsOf {r : Nat} {x : Int} {o : Out} : o ∈ outsOf r x ↔ o.1 = (r : Int) ∧ isOut o.2 ∧ hasB x o.2 := by
 unfold outsOf isOut
 obtain ⟨a, b⟩ := o
 simp only [List.mem_map, List.mem_filter, List.mem_cons, List.not_mem_nil, or_false, decide_eq_true_eq, Prod.mk.injEq]
 constructor
 ·rintro ⟨c, ⟨h1, h2⟩, rfl, rfl⟩
  exact ⟨rfl, h1, h2⟩
 ·rintro ⟨rfl, h1, h2⟩
  exact ⟨b, ⟨h1, h2⟩, rfl, rfl⟩

theorem mem_outsM {t : List Int} {o : Out} : o ∈ outsM t ↔ isOutO o ∧ hasB (t[o.1.toNat]?.getD 0) o.2 := by
 unfold outsM isOutO
 rw [List.mem_flatten]
 constructor
 ·rintro ⟨l, hl, ho⟩
  obtain ⟨x, hx, rfl⟩ := List.mem_map.1 hl
  obtain ⟨h1, h2, h3⟩ := mem_outsOf.1 ho
  have := List.mem_zipIdx hx
  have e : o.1.toNat = x.2 := by omega
  rw [e]
  have hg : t[x.2]? = some x.1 := by
   have h5 := List.mem_zipIdx_iff_getElem?.1 hx
   simpa using h5
  rw [hg]
  exact ⟨⟨by omega, h2⟩, h3⟩
 ·rintro ⟨⟨h1, h2⟩, h3⟩
  cases hg : t[o.1.toNat]? with
  | none => rw [hg] at h3; exact absurd h3 (hasB_zero _)
  | some x =>
   rw [hg] at h3
   exact ⟨outsOf o.1.toNat x, List.mem_map.2 ⟨(x, o.1.toNat), List.mem_zipIdx_iff_getElem?.2 (by simpa using hg), rfl⟩, mem_outsOf.2 ⟨by omega, h2, h3⟩⟩

structure IsMost (ts : List (List Int)) (m : Nat) : Prop where
 le : ∀ o, isOutO o → cntM ts o ≤ m
 ex : m = 0 ∨ ∃ o, isOutO o ∧ cntM ts o = m

theorem IsMost.uniq {ts : List (List Int)} {m n : Nat} (h1 : IsMost ts m) (h2 : IsMost ts n) : m = n := by
 have a : m ≤ n := by
  rcases h1.ex with h | ⟨o, ho, h⟩
  ·omega
  ·rw [← h]; exact h2.le o ho
 have b : n ≤ m := by
  rcases h2.ex with h | ⟨o, ho, h⟩
  ·omega
  ·rw [← h]; exact h1.le o ho
 omega

def mostM : List (List Int) → Nat
 | [] => 0
 | ts@(_ :: _) => ((ts.map outsM).flatten.map fun o => cntM ts o).foldl max 0

theorem foldl_maxN : ∀ (l : List Nat) (a : Nat), a ≤ l.foldl max a ∧ (∀ x ∈ l, x ≤ l.foldl max a) ∧ (l.foldl max a = a ∨ l.foldl max a ∈ l)
 | [], a => ⟨Nat.le_refl _, by simp, .inl rfl⟩
 | y :: l, a => by
  obtain ⟨h1, h2, h3⟩ := foldl_maxN l (max a y)
  rw [List.foldl_cons]
  refine ⟨by omega, fun x hx => ?_, ?_⟩
  ·rcases List.mem_cons.1 hx with rfl | hx
   ·omega
   ·exact h2 x hx
  ·rcases h3 with h | h
   ·by_cases hay : a ≤ y
    ·rw [h, Nat.max_eq_right hay]; exact .inr List.mem_cons_self
    ·rw [h, Nat.max_eq_left (by omega)]; exact .inl rfl
   ·exact .inr (List.mem_cons_of_mem _ h)

theorem mostM_is (ts : List (List Int)) : IsMost ts (mostM ts) := by
 cases ts with
 | nil => exact ⟨fun o _ => Nat.le_refl _, .inl rfl⟩
 | cons t r =>
  obtain ⟨h1, h2, h3⟩ := foldl_maxN (((t :: r).map outsM).flatten.map fun o => cntM (t :: r) o) 0
  refine ⟨fun o ho => ?_, ?_⟩
  ·by_cases hc : cntM (t :: r) o = 0
   ·omega
   ·refine h2 _ (List.mem_map.2 ⟨o, ?_, rfl⟩)
    have hp : 0 < cntM (t :: r) o := by omega
    unfold cntM at hp
    rw [List.countP_pos_iff] at hp
    obtain ⟨u, hu, hh⟩ := hp
    rw [decide_eq_true_eq] at hh
    exact List.mem_flatten.2 ⟨outsM u, List.mem_map.2 ⟨u, hu, rfl⟩, mem_outsM.2 ⟨ho, hh⟩⟩
  ·rcases h3 with h | h
   ·exact .inl h
   ·obtain ⟨o, ho, he⟩ := List.mem_map.1 h
    obtain ⟨l, hl, hol⟩ := List.mem_flatten.1 ho
    obtain ⟨u, _, rfl⟩ := List.mem_map.1 hl
    exact .inr ⟨o, (mem_outsM.1 hol).1, he⟩

def takesM (room : Int) (ts : List (List Int)) (t : List Int) : Bool := (outsM t).all fun o => decide ((cntM ts o : Int) < room)

theorem takes_iff {room : Int} {ts : List (List Int)} {t : List Int} (h : (mostM ts : Int) ≤ room) (h1 : 1 ≤ room) : takesM room ts t = true ↔ (mostM (ts ++ [t]) : Int) ≤ room := by
 unfold takesM
 rw [List.all_eq_true]
 constructor
 ·intro ha
  rcases (mostM_is (ts ++ [t])).ex with he | ⟨o, ho, he⟩
  ·omega
  ·rw [← he, cntM_snoc]
   have hle := (mostM_is ts).le o ho
   split
   ·rename_i hb
    have := of_decide_eq_true (ha o (mem_outsM.2 ⟨ho, hb⟩))
    omega
   ·omega
 ·intro hm o ho
  have ho2 := mem_outsM.1 ho
  have := (mostM_is (ts ++ [t])).le o ho2.1
  rw [cntM_snoc, if_pos ho2.2] at this
  rw [decide_eq_true_eq]
  omega

def waveAdd (T : Int → List Int) (room : Int) (ws : List (List Int)) (key : Int) : List (List Int) :=
 match ws.findIdx? fun w => takesM room (w.map T) (T key) with
 | some k => ws.modify k (· ++ [key])
 | none => ws ++ [[key]]

def wavesM (T : Int → List Int) (room : Int) (keys : List Int) : List (List Int) := keys.foldl (waveAdd T room) []

def waveOf (ws : List (List Int)) (key : Int) : Int :=
 match ws.findIdx? fun w => decide (key ∈ w) with
 | some k => (k : Int)
 | none => -1

def reachM (W : Int) (home : Int → Int) (tg : Int → List Int) (w : List Int) : Nat := (w.flatMap fun key => (tg key).map fun t => distM W (home key) t).foldl max 0

def stepsM (W : Int) (T : Int → List Int) (home : Int → Int) (tg : Int → List Int) (ws : List (List Int)) : Nat := (ws.map fun w => (reachM W home tg w + 1) * mostM (w.map T)).sum

structure Ety where
 key : Int
 mask : Int
 outs : Int
 deriving DecidableEq

def etyAt (T : Int → List Int) (r : Nat) (key : Int) : Option Ety :=
 let x := (T key)[r]?.getD 0
 if x = 0 then none else some ⟨key, 65535, x⟩

def tableM (T : Int → List Int) (keys : List Int) (r : Nat) : List Ety := keys.filterMap (etyAt T r)

def band (a b : Int) : Int := ((a.toNat &&& b.toNat : Nat) : Int)

def bxor (a b : Int) : Int := ((a.toNat ^^^ b.toNat : Nat) : Int)

def bless (a b : Int) : Int := ((a.toNat - (a.toNat &&& b.toNat) : Nat) : Int)

def findE (l : List Ety) (key : Int) : Option Int := (l.find? fun x => decide (band key x.mask = x.key)).map (·.outs)

def isPow (d : Int) : Prop := ∃ i : Nat, i < 16 ∧ d = ((2 ^ i : Nat) : Int)

instance (d : Int) : Decidable (isPow d) := by unfold isPow; exact Nat.decidableExistsLT _

def joinE (x y : Ety) : Option Ety := if x.mask ≠ y.mask ∨ x.outs ≠ y.outs ∨ ¬ isPow (bxor x.key y.key) then none else some ⟨bless x.key (bxor x.key y.key), bless x.mask (bxor x.key y.key), x.outs⟩

def sameE (a b : List Ety) (keys : List Int) : Bool := keys.all fun k => decide (findE a k = findE b k)

def mergedAt (l : List Ety) (k j : Nat) (x : Ety) : List Ety := (l.eraseIdx j).set k x

def pairsM (n : Nat) : List (Nat × Nat) := (List.range n).flatMap fun k => ((List.range n).filter fun j => decide (k < j)).map fun j => (k, j)

def tryE (want l : List Ety) (keys : List Int) (p : Nat × Nat) : Option (List Ety) :=
 match l[p.1]?, l[p.2]? with
 | some x, some y => match joinE x y with
  | some z => if sameE want (mergedAt l p.1 p.2 z) keys = true then some (mergedAt l p.1 p.2 z) else none
  | none => none
 | _, _ => none

def mergeStep (want l : List Ety) (keys : List Int) : Option (List Ety) := (pairsM l.length).findSome? (tryE want l keys)

def mergeF (want : List Ety) (keys : List Int) : Nat → List Ety → List Ety
 | 0, l => l
 | n + 1, l => match mergeStep want l keys with
  | some t => mergeF want keys n t
  | none => l

def mergeM (l : List Ety) (keys : List Int) : List Ety := mergeF l keys l.length l

end Go.Gm
end

section

namespace Go.Proofs

open Go Go.Vx Go.Gm

structure KeyTy {α : Type} (T : TypeId) (A : α → Value) (wf : α → Prop) : Prop where
 law : WideMaps.KeyLaw Tryz.prog T
 key : ∀ x, wf x → ∃ l, keyOf Tryz.prog T (A x) = some l
 inj : ∀ x y, A x = A y → x = y

structure MapF {α β : Type} (A : α → Value) (wf : α → Prop) (V : β → Value) (m : List (Value × Value)) (f : α → Option β) : Prop where
 only : ∀ p ∈ m, ∃ x v, wf x ∧ f x = some v ∧ p = (A x, V v)
 has : ∀ x v, f x = some v → ∃ p ∈ m, p.1 = A x
 nodup : (m.map (·.1)).Nodup

section

variable {α β : Type} {T : TypeId} {A : α → Value} {wf : α → Prop} {V : β → Value} {m : List (Value × Value)} {f : α → Option β} {H : HP} {b : Nat} {u : Ent → HP} {r : HP}

theorem MapF.nil : MapF A wf V [] fun _ => none := ⟨by simp, fun x v h => (by cases h), by simp⟩

theorem MapF.congr (h : MapF A wf V m f) {g : α → Option β} (e : ∀ x, g x = f x) : MapF A wf V m g := by
 have : g = f := funext e
 rw [this]; exact h

theorem MapF.keys (K : KeyTy T A wf) (h : MapF A wf V m f) : ∀ p ∈ m, ∃ l, keyOf Tryz.prog T p.1 = some l := by
 intro p hp
 obtain ⟨x, v, hx, _, rfl⟩ := h.only p hp
 exact K.key x hx

theorem MapF.at_ (K : KeyTy T A wf) (h : MapF A wf V m f) {x : α} {j : Nat} {v : Value} (hj : m[j]? = some (A x, v)) : ∃ y, f x = some y ∧ v = V y := by
 obtain ⟨z, y, _, h1, h2⟩ := h.only _ (List.mem_of_getElem? hj)
 simp only [Prod.mk.injEq] at h2
 rw [K.inj _ _ h2.1]
 exact ⟨y, h1, h2.2⟩

theorem MapF.absent (K : KeyTy T A wf) (h : MapF A wf V m f) {x : α} (hn : ∀ p ∈ m, p.1 ≠ A x) : f x = none := by
 cases he : f x with
 | none => rfl
 | some v =>
  obtain ⟨p, hp, h1⟩ := h.has x v he
  exact absurd h1 (hn p hp)

theorem MapF.get (K : KeyTy T A wf) (hat : At H (.mapk b m) u r) (h : MapF A wf V m f) (x : α) (hx : wf x) {k : Option Value → Prop}
  (h0 : f x = none → k none) (h1 : ∀ y, f x = some y → k (some (V y))) : VLkK Tryz.prog T H b (A x) k :=
 .mk hat K.law (K.key x hx) (h.keys K) (fun hn => h0 (h.absent K hn)) (fun j v hj => by
  obtain ⟨y, h2, rfl⟩ := h.at_ K hj
  exact h1 y h2)

theorem MapF.push (K : KeyTy T A wf) (h : MapF A wf V m f) [DecidableEq α] {x : α} (hx : wf x) (y : β) (hn : ∀ p ∈ m, p.1 ≠ A x) : MapF A wf V (m ++ [(A x, V y)]) fun z => if z = x then some y else f z := by
 refine ⟨fun p hp => ?_, fun z v hz => ?_, ?_⟩
 ·rcases List.mem_append.1 hp with hp | hp
  ·obtain ⟨z, v, h1, h2, rfl⟩ := h.only p hp
   have hne : ¬ z = x := fun e => hn _ hp (by rw [e])
   exact ⟨z, v, h1, by rw [if_neg hne]; exact h2, rfl⟩
  ·rw [List.mem_singleton] at hp
   exact ⟨x, y, hx, by rw [if_pos rfl], hp⟩
 ·by_cases e : z = x
  ·exact ⟨(A x, V y), by simp, by rw [e]⟩
  ·rw [if_neg e] at hz
   obtain ⟨p, hp, h1⟩ := h.has z v hz
   exact ⟨p, List.mem_append_left _ hp, h1⟩
 ·rw [List.map_append, List.nodup_append]
  refine ⟨h.nodup, by simp, fun a ha c hc => ?_⟩
  obtain ⟨p, hp, rfl⟩ := List.mem_map.1 ha
  simp only [List.map_cons, List.map_nil, List.mem_singleton] at hc
  rw [hc]
  exact hn p hp

theorem MapF.set (K : KeyTy T A wf) (h : MapF A wf V m f) [DecidableEq α] {x : α} (hx : wf x) (y : β) {j : Nat} {v0 : Value} (hj : m[j]? = some (A x, v0)) : MapF A wf V (m.set j (A x, V y)) fun z => if z = x then some y else f z := by
 refine ⟨fun p hp => ?_, fun z v hz => ?_, ?_⟩
 ·obtain ⟨i, hi⟩ := List.getElem?_of_mem hp
  rw [List.getElem?_set] at hi
  by_cases hji : j = i
  ·rw [if_pos hji] at hi
   split at hi
   ·cases hi
    exact ⟨x, y, hx, by rw [if_pos rfl], rfl⟩
   ·cases hi
  ·rw [if_neg hji] at hi
   obtain ⟨z, v, h1, h2, rfl⟩ := h.only p (List.mem_of_getElem? hi)
   by_cases e : z = x
   ·subst e
    have e1 : (m.map (·.1))[j]? = some (A z) := by rw [List.getElem?_map, hj]; rfl
    have e2 : (m.map (·.1))[i]? = some (A z) := by rw [List.getElem?_map, hi]; rfl
    exact absurd ((List.getElem?_inj (List.getElem?_eq_some_iff.1 e1).1 h.nodup).1 (e1.trans e2.symm)) hji
   ·exact ⟨z, v, h1, by rw [if_neg e]; exact h2, rfl⟩
 ·by_cases e : z = x
  ·refine ⟨(A x, V y), List.mem_of_getElem? (i := j) ?_, by rw [e]⟩
   rw [List.getElem?_set, if_pos rfl, if_pos (List.getElem?_eq_some_iff.1 hj).1]
  ·rw [if_neg e] at hz
   obtain ⟨p, hp, h1⟩ := h.has z v hz
   obtain ⟨i, hi⟩ := List.getElem?_of_mem hp
   have hji : ¬ j = i := by
    intro hji
    subst hji
    rw [hj] at hi
    cases hi
    exact e (K.inj _ _ h1.symm)
   refine ⟨p, List.mem_of_getElem? (i := i) ?_, h1⟩
   rw [List.getElem?_set, if_neg hji, hi]
 ·have : (m.set j (A x, V y)).map (·.1) = m.map (·.1) := by
   rw [List.map_set]
   apply List.ext_getElem?
   intro i
   rw [List.getElem?_set]
   by_cases hji : j = i
   ·subst hji
    have hlt := (List.getElem?_eq_some_iff.1 hj).1
    rw [if_pos rfl, if_pos (by rw [List.length_map]; exact hlt), List.getElem?_map, hj]; rfl
   ·rw [if_neg hji]
  rw [this]
  exact h.nodup

theorem MapF.put (K : KeyTy T A wf) [DecidableEq α] (hat : At H (.mapk b m) u r) (h : MapF A wf V m f) (x : α) (hx : wf x) (y : β) {k : HP → Prop}
  (hk : ∀ m', (MapF A wf V m' fun z => if z = x then some y else f z) → k (u (.mapk b m'))) : VUpK Tryz.prog T H b (A x) (V y) k :=
 .mk hat K.law (K.key x hx) (h.keys K) (fun hn => hk _ (h.push K hx y hn)) (fun j v0 hj => hk _ (h.set K hx y hj))

theorem MapF.erase (K : KeyTy T A wf) (h : MapF A wf V m f) [DecidableEq α] {x : α} {j : Nat} {v0 : Value} (hj : m[j]? = some (A x, v0)) : MapF A wf V (m.eraseIdx j) fun z => if z = x then .none else f z := by
 have hsub : (m.eraseIdx j).map (·.1) = (m.map (·.1)).eraseIdx j := by
  have hme : ∀ {γ δ : Type} (g : γ → δ) (l : List γ) (i : Nat), (l.eraseIdx i).map g = (l.map g).eraseIdx i := by
   intro γ δ g l
   induction l with
   | nil => intro i; simp
   | cons x r ih => intro i; cases i <;> simp [ih]
  exact hme ..
 have e1 : (m.map (·.1))[j]? = some (A x) := by rw [List.getElem?_map, hj]; rfl
 refine ⟨fun p hp => ?_, fun z v hz => ?_, ?_⟩
 ·obtain ⟨i, hi⟩ := List.getElem?_of_mem hp
  rw [List.getElem?_eraseIdx] at hi
  obtain ⟨q, hq, hne⟩ : ∃ q, m[q]? = some p ∧ q ≠ j := by
   split at hi
   ·exact ⟨i, hi, by omega⟩
   ·exact ⟨i + 1, hi, by omega⟩
  obtain ⟨z, v, h1, h2, rfl⟩ := h.only p (List.mem_of_getElem? hq)
  have e : ¬ z = x := by
   intro e
   subst e
   have e2 : (m.map (·.1))[q]? = some (A z) := by rw [List.getElem?_map, hq]; rfl
   exact hne ((List.getElem?_inj (List.getElem?_eq_some_iff.1 e2).1 h.nodup).1 (e2.trans e1.symm))
  exact ⟨z, v, h1, by rw [if_neg e]; exact h2, rfl⟩
 ·by_cases e : z = x
  ·rw [if_pos e] at hz; cases hz
  ·rw [if_neg e] at hz
   obtain ⟨p, hp, h1⟩ := h.has z v hz
   obtain ⟨i, hi⟩ := List.getElem?_of_mem hp
   have hji : i ≠ j := by
    intro hji
    subst hji
    rw [hj] at hi
    cases hi
    exact e (K.inj _ _ h1.symm)
   refine ⟨p, ?_, h1⟩
   by_cases hlt : i < j
   ·exact List.mem_of_getElem? (i := i) (by rw [List.getElem?_eraseIdx, if_pos hlt]; exact hi)
   ·exact List.mem_of_getElem? (i := i - 1) (by rw [List.getElem?_eraseIdx, if_neg (by omega), show i - 1 + 1 = i by omega]; exact hi)
 ·rw [hsub]
  exact h.nodup.sublist (List.eraseIdx_sublist ..)

theorem MapF.del (K : KeyTy T A wf) [DecidableEq α] (hat : At H (.mapk b m) u r) (h : MapF A wf V m f) (x : α) (hx : wf x) {k : HP → Prop}
  (hk : ∀ m', (MapF A wf V m' fun z => if z = x then .none else f z) → k (u (.mapk b m'))) : VDlK Tryz.prog T H b (A x) k :=
 .mk hat K.law (K.key x hx) (h.keys K) (fun hn => hk _ (h.congr fun z => by
  by_cases e : z = x
  ·rw [if_pos e, e, h.absent K hn]
  ·rw [if_neg e])) (fun j v0 hj => hk _ (h.erase K hj))

structure Bare [DecidableEq α] (A : α → Value) (wf : α → Prop) (V : β → Value) (x : α) (z : β) (es : Array MapEntry) (clock st : Nat) (f : α → Option β) : Prop where
 stamped : MapKept.Stamped es clock
 ok : ∃ (m : List (Value × Value)) (j : Nat) (v : Value) (e : MapEntry), es.toList.map (fun x => (x.key, x.val)) = m ∧ m[j]? = some (A x, v) ∧ es.toList[j]? = some e ∧ e.born = st ∧ MapF A wf V m (fun y => if y = x then some ((f x).getD z) else f y)

theorem MapF.entry (K : KeyTy T A wf) [DecidableEq α] (hat : At H (.mapk b m) u r) (h : MapF A wf V m f) (x : α) (hx : wf x) (z : β) {k : Value → HP → Prop}
  (hk : ∀ es clock st, Bare A wf V x z es clock st f → k (.tuple #[V ((f x).getD z), .int .i64 (st : Int)]) (u (.obj b (.map es clock)))) : VMpE Tryz.prog T (V z) H b (A x) k := by
 refine .mk hat K.law (K.key x hx) (h.keys K) (fun hn es clock st h1 h2 ⟨e, h3, h4⟩ => ?_) (fun j v hj es clock st h1 h2 ⟨e, h3, h4⟩ => ?_)
 ·have h0 := h.absent K hn
  have := hk es clock st ⟨h2, _, m.length, V z, e, h1, by simp, h3, h4, by rw [h0]; exact h.push K hx z hn⟩
  rw [h0] at this
  exact this
 ·obtain ⟨y, h5, rfl⟩ := h.at_ K hj
  have := hk es clock st ⟨h2, _, j, V y, e, h1, hj, h3, h4, h.congr fun q => by
   by_cases e : q = x
   ·rw [if_pos e, e, h5]; rfl
   ·rw [if_neg e]⟩
  rw [h5] at this
  exact this

theorem Bare.get (K : KeyTy T A wf) [DecidableEq α] {x : α} {z : β} {es : Array MapEntry} {clock st : Nat} (hat : At H (.obj b (.map es clock)) u r) (h : Bare A wf V x z es clock st f) (hx : wf x) {k : Option Value → Prop}
  (hk : k (some (V ((f x).getD z)))) : VLkK Tryz.prog T H b (A x) k := by
 obtain ⟨hst, m, j, v, e, h1, h2, h3, h4, h5⟩ := h
 refine .obj hat h1 hst K.law (K.key x hx) (h5.keys K) (fun hn => ?_) (fun i v hi => ?_)
 ·have := h5.absent K hn
  rw [if_pos rfl] at this
  cases this
 ·obtain ⟨y, h6, rfl⟩ := h5.at_ K hi
  rw [if_pos rfl] at h6
  cases h6
  exact hk

theorem Bare.store (K : KeyTy T A wf) [DecidableEq α] {x : α} {z : β} {es : Array MapEntry} {clock st : Nat} (hat : At H (.obj b (.map es clock)) u r) (h : Bare A wf V x z es clock st f) (hx : wf x) (y : β) {k : HP → Prop}
  (hk : ∀ m', (MapF A wf V m' fun q => if q = x then some y else f q) → k (u (.mapk b m'))) : VEnS H b (st : Int) (V y) k := by
 obtain ⟨hst, m, j, v, e, h1, h2, h3, h4, h5⟩ := h
 have hek : e.key = A x := by
  have := congrArg (fun l => l[j]?) h1
  simp only [List.getElem?_map, h3, h2] at this
  simp only [Option.map_some, Option.some.injEq, Prod.mk.injEq] at this
  exact this.1
 refine .mk hat h1 hst h3 (by rw [h4]) (hk _ ?_)
 rw [hek]
 exact (h5.set K hx y h2).congr fun q => by
  by_cases e : q = x
  ·rw [if_pos e, if_pos e]
  ·rw [if_neg e, if_neg e, if_neg e]

end

theorem Tryz.laidK : laidOutB Tryz.prog = true := by kernel_rfl

theorem Tryz.cellsIK : Tryz.prog.cellsOf 3 = 1 := by kernel_rfl

theorem Tryz.undIK : Tryz.prog.underlying 3 = some (.int .i64) := by kernel_rfl

theorem litIntK (n : Int) (hn : I64 n) : (Lit.int .i64 n).wf = true := by
 unfold I64 at hn
 simp only [Lit.wf, Bool.and_eq_true, decide_eq_true_eq]
 exact hn

theorem keyLits_intK (d : Nat) (n : Int) (hn : I64 n) : Tryz.prog.keyLits (d + 1) 3 [.int .i64 n] = some [.int .i64 n] := by
 unfold Program.keyLits
 rw [Tryz.undIK]
 simp only [true_and]
 rw [if_pos (litIntK n hn)]

def twoFields (fs : List (Nat × TypeId)) (ok : Bool) : Bool := decide (fs = [(0, 3), (1, 3)]) && ok

theorem key_two {T : TypeId} (hrow : T < Tryz.prog.types.size) (hdeep : Tryz.prog.keyType T = true) (hf : (match Tryz.prog.underlying T with | some (.struct fs) => twoFields (fs.toList.map fun f => (f.offset, f.type)) (fs.all (·.name != "_")) | _ => false) = true)
  (hc : Tryz.prog.cellsOf T = 2) (a b : Int) (ha : I64 a) (hb : I64 b) : ∃ l, keyOf Tryz.prog T (.agg #[.int .i64 a, .int .i64 b]) = some l := by
 have hpos : ∃ d, Tryz.prog.types.size + 1 = d + 2 := ⟨Tryz.prog.types.size - 1, by have h : 0 < Tryz.prog.types.size := Nat.lt_of_le_of_lt (Nat.zero_le _) hrow; omega⟩
 obtain ⟨d, hd⟩ := hpos
 unfold keyOf
 rw [hdeep, hd]
 cases hu : Tryz.prog.underlying T with
 | none => rw [hu] at hf; cases hf
 | some td =>
  rw [hu] at hf
  cases td <;> try (cases hf; done)
  rename_i fs
  simp only [twoFields, Bool.and_eq_true, decide_eq_true_eq] at hf
  obtain ⟨h1, h2⟩ := hf
  have hform : (Value.agg #[.int .i64 a, .int .i64 b]).formed Tryz.prog T = true := by
   simp [Value.formed, hu, hc]
  simp only [hform, Bool.and_self, if_true]
  unfold Program.keyLits
  rw [hu]
  dsimp only
  have h3 : (Value.agg #[.int .i64 a, .int .i64 b]).cells.toList = [.int .i64 a, .int .i64 b] := rfl
  rw [h3, if_pos ⟨by rw [hc]; rfl, h2⟩]
  obtain ⟨L, hL⟩ : ∃ L, fs.toList = L := ⟨_, rfl⟩
  rw [hL] at h1 ⊢
  rcases L with _ | ⟨f, _ | ⟨g, _ | ⟨e, L⟩⟩⟩
  ·simp at h1
  ·simp at h1
  rotate_left
  ·simp at h1
  ·simp only [List.map_cons, List.map_nil, List.cons.injEq, Prod.mk.injEq, and_true] at h1
   obtain ⟨⟨f1, f2⟩, g1, g2⟩ := h1
   simp only [List.mapM_cons, List.mapM_nil, f1, f2, g1, g2, Tryz.cellsIK, List.drop_zero, List.drop_succ_cons, List.take_succ_cons, List.take_zero]
   rw [keyLits_intK d a ha, keyLits_intK d b hb]
   exact ⟨_, rfl⟩

def outA (o : Out) : Value := .agg #[.int .i64 o.1, .int .i64 o.2]

theorem outA_inj (x y : Out) (h : outA x = outA y) : x = y := by
 obtain ⟨a, b⟩ := x
 obtain ⟨c, d⟩ := y
 simp only [outA, Value.agg.injEq, Array.mk.injEq, List.cons.injEq, Value.int.injEq, true_and, and_true] at h
 rw [h.1, h.2]

def outW (o : Out) : Prop := isOutO o ∧ o.1 < 65536

theorem outW.i64 {o : Out} (h : outW o) : I64 o.1 ∧ I64 o.2 := by
 obtain ⟨⟨h1, h2⟩, h3⟩ := h
 unfold isOut at h2
 unfold I64
 omega

theorem Tryz.rowO : (214 : TypeId) < Tryz.prog.types.size := of_decide_eq_true (by kernel_rfl)

theorem Tryz.kindO : (match Tryz.prog.underlying 214 with | some (.array _ _) | some (.struct _) => true | _ => false) = true := by kernel_rfl

set_option maxRecDepth 100000 in
theorem Tryz.lawO : WideMaps.KeyLaw Tryz.prog 214 := deep_law_laid Tryz.laidK (m := 2) (by omega) Tryz.rowO (by kernel_rfl) Tryz.kindO

set_option maxRecDepth 100000 in
theorem Tryz.deepO : Tryz.prog.keyType 214 = true := by kernel_rfl

theorem Tryz.fldO : (match Tryz.prog.underlying 214 with | some (.struct fs) => twoFields (fs.toList.map fun f => (f.offset, f.type)) (fs.all (·.name != "_")) | _ => false) = true := by kernel_rfl

theorem Tryz.cellsO : Tryz.prog.cellsOf 214 = 2 := by kernel_rfl

theorem keyO : KeyTy 214 outA outW := ⟨Tryz.lawO, fun x hx => key_two Tryz.rowO Tryz.deepO Tryz.fldO Tryz.cellsO x.1 x.2 hx.i64.1 hx.i64.2, outA_inj⟩

instance (o : Out) : Decidable (isOutO o) := by unfold isOutO isOut; infer_instance

instance (o : Out) : Decidable (outW o) := by unfold outW; infer_instance

def natV (n : Nat) : Value := .int .i64 (n : Int)

abbrev CntOf (m : List (Value × Value)) (c : Out → Nat) : Prop := MapF outA outW natV m fun o => if outW o ∧ c o ≠ 0 then some (c o) else none

theorem CntOf.nil : CntOf [] fun _ => 0 := MapF.nil.congr fun o => by simp

theorem CntOf.same {m : List (Value × Value)} {c d : Out → Nat} (h : CntOf m c) (e : ∀ o, outW o → d o = c o) : CntOf m d := MapF.congr h fun o => by
 by_cases hw : outW o
 ·rw [e o hw]
 ·rw [if_neg (fun x => hw x.1), if_neg (fun x => hw x.1)]

theorem CntOf.bumped {m : List (Value × Value)} {c : Out → Nat} {o : Out} (hw : outW o) (h : MapF outA outW natV m fun q => if q = o then some (c o + 1) else if outW q ∧ c q ≠ 0 then some (c q) else none) : CntOf m fun q => if q = o then c o + 1 else c q :=
 MapF.congr h fun q => by
  by_cases e : q = o
  ·subst e
   simp [hw]
  ·simp [e]

theorem CntOf.val {c : Out → Nat} {o : Out} (hw : outW o) : (if outW o ∧ c o ≠ 0 then some (c o) else none).getD 0 = c o := by
 by_cases h : c o = 0
 ·rw [if_neg (fun x => x.2 h), h]; rfl
 ·rw [if_pos ⟨hw, h⟩]; rfl

end Go.Proofs
end
