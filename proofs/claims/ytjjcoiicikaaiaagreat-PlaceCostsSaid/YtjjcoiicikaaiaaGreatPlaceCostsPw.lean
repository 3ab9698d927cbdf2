import Derived.Test.YtjjcoiicikaaiaaGreatPlaceCostsPp
import Derived.Test.YtjjcoiicikaaiaaGreatPlaceCostsQk
section
set_option linter.unusedVariables false

set_option linter.unusedSimpArgs false

namespace Go.Gm

def flStep (v : Int → Int) (acc : Option (Int × Int)) (x : Int) : Option (Int × Int) :=
  match acc with
  | none => some (x, v x)
  | some (b, m) => if v x < m then some (x, v x) else some (b, m)

def firstL (v : Int → Int) (l : List Int) : Option (Int × Int) := l.foldl (flStep v) none

theorem firstL_snoc (v : Int → Int) (l : List Int) (x : Int) : firstL v (l ++ [x]) = flStep v (firstL v l) x := by
  unfold firstL; rw [List.foldl_append]; rfl

theorem snoc_ind {α : Type} {P : List α → Prop} (h0 : P []) (h1 : ∀ l x, P l → P (l ++ [x])) : ∀ l, P l := by
  intro l
  have key : ∀ n (l : List α), l.length = n → P l := by
    intro n
    induction n with
    | zero => intro l h; rw [List.eq_nil_of_length_eq_zero h]; exact h0
    | succ n ih =>
      intro l h
      have hne : l ≠ [] := fun e => by subst e; cases h
      rw [← List.dropLast_concat_getLast hne]
      refine h1 _ _ (ih _ ?_)
      rw [List.length_dropLast]; omega
  exact key _ l rfl

theorem firstL_mem {v : Int → Int} {l : List Int} {b m : Int} (h : firstL v l = some (b, m)) : b ∈ l ∧ m = v b ∧ ∀ x ∈ l, m ≤ v x := by
  revert b m
  refine snoc_ind (P := fun l => ∀ {b m : Int}, firstL v l = some (b, m) → b ∈ l ∧ m = v b ∧ ∀ x ∈ l, m ≤ v x) (by simp [firstL]) (fun l x ih => ?_) l
  intro b m h
  rw [firstL_snoc] at h
  cases hl : firstL v l with
  | none =>
    rw [hl] at h
    simp only [flStep, Option.some.injEq, Prod.mk.injEq] at h
    obtain ⟨rfl, rfl⟩ := h
    refine ⟨by simp, rfl, fun y hy => ?_⟩
    rcases List.mem_append.1 hy with hy | hy
    · have : l = [] := by
        refine Decidable.byContradiction fun hne => ?_
        have key : ∀ l : List Int, l ≠ [] → firstL v l ≠ none := by
          refine snoc_ind (fun h => absurd rfl h) fun l x ih _ => ?_
          rw [firstL_snoc]
          cases firstL v l with
          | none => simp [flStep]
          | some p => simp only [flStep]; split <;> simp
        exact key l hne hl
      subst this; cases hy
    · rw [List.mem_singleton] at hy; subst hy; omega
  | some p =>
    obtain ⟨b0, m0⟩ := p
    obtain ⟨g1, g2, g3⟩ := ih hl
    rw [hl] at h
    simp only [flStep] at h
    split at h
    · simp only [Option.some.injEq, Prod.mk.injEq] at h
      obtain ⟨rfl, rfl⟩ := h
      refine ⟨by simp, rfl, fun y hy => ?_⟩
      rcases List.mem_append.1 hy with hy | hy
      · have := g3 y hy; omega
      · rw [List.mem_singleton] at hy; subst hy; omega
    · simp only [Option.some.injEq, Prod.mk.injEq] at h
      obtain ⟨rfl, rfl⟩ := h
      refine ⟨List.mem_append_left _ g1, g2, fun y hy => ?_⟩
      rcases List.mem_append.1 hy with hy | hy
      · exact g3 y hy
      · rw [List.mem_singleton] at hy; subst hy; omega

def spaceP (C : Chp) (l : List Syn) (cores : List Int) (i : Nat) (k : Int) : Prop := k ∉ C.dead ∧ (useN cores k : Int) < C.nr ∧ (useR l cores k : Int) + rowN l i ≤ C.sy

instance (C : Chp) (l : List Syn) (cores : List Int) (i : Nat) (k : Int) : Decidable (spaceP C l cores i k) := by unfold spaceP; infer_instance

def allC (C : Chp) : List Int := (List.range (nCores C)).map fun (k : Nat) => (k : Int)

def spacesM (C : Chp) (l : List Syn) (cores : List Int) (i : Nat) : List Int := (allC C).filter fun k => decide (spaceP C l cores i k)

theorem mem_allC {C : Chp} {k : Int} : k ∈ allC C ↔ 0 ≤ k ∧ k < nCores C := by
  unfold allC
  rw [List.mem_map]
  constructor
  · rintro ⟨j, hj, rfl⟩
    rw [List.mem_range] at hj
    omega
  · intro h
    exact ⟨k.toNat, List.mem_range.2 (by omega), by omega⟩

def fitsR (C : Chp) (l : List Syn) (cores : List Int) : Prop := ∀ k : Nat, k < nCores C → (useN cores k : Int) ≤ C.nr ∧ (useR l cores k : Int) ≤ C.sy ∧ ¬ (0 < useN cores k ∧ (k : Int) ∈ C.dead)

instance (C : Chp) (l : List Syn) (cores : List Int) : Decidable (fitsR C l cores) := by unfold fitsR; exact Nat.decidableBallLT _ _

structure SoFar (C : Chp) (l : List Syn) (cores : List Int) : Prop where
  core : ∀ k ∈ cores, (0 ≤ k ∧ k < nCores C) ∧ k ∉ C.dead
  fits : fitsA C l cores

theorem useN_pos {cores : List Int} {k : Int} : 0 < useN cores k ↔ k ∈ cores := by
  unfold useN
  rw [List.countP_pos_iff]
  constructor
  · rintro ⟨a, ha, h⟩
    rw [decide_eq_true_eq] at h
    subst h; exact ha
  · intro h; exact ⟨k, h, by simp⟩

theorem SoFar.fitsR {C : Chp} {l : List Syn} {cores : List Int} (h : SoFar C l cores) : fitsR C l cores := fun k hk =>
  ⟨(h.fits k hk).1, (h.fits k hk).2, fun ⟨h1, h2⟩ => (h.core k (useN_pos.1 h1)).2 h2⟩

theorem soFar_of {C : Chp} {l : List Syn} {cores : List Int} (hr : ∀ k ∈ cores, 0 ≤ k ∧ k < nCores C) (h : Gm.fitsR C l cores) : SoFar C l cores :=
  ⟨fun k hk => ⟨hr k hk, fun hd => by
    obtain ⟨h1, h2⟩ := hr k hk
    obtain ⟨j, rfl⟩ : ∃ j : Nat, k = j := ⟨k.toNat, by omega⟩
    exact (h j (by omega)).2.2 ⟨useN_pos.2 hk, hd⟩⟩, fun k hk => ⟨(h k hk).1, (h k hk).2.1⟩⟩

theorem fits_snoc {C : Chp} {l : List Syn} {cores : List Int} (h : SoFar C l cores) {k : Int} (hk : 0 ≤ k ∧ k < nCores C) : Gm.fitsR C l (cores ++ [k]) ↔ spaceP C l cores cores.length k := by
  constructor
  · intro hf
    obtain ⟨j, rfl⟩ : ∃ j : Nat, k = j := ⟨k.toNat, by omega⟩
    obtain ⟨h1, h2, h3⟩ := hf j (by omega)
    rw [useN_snoc, if_pos rfl] at h1 h3
    rw [useR_snoc, if_pos rfl] at h2
    exact ⟨fun hd => h3 ⟨by omega, hd⟩, by omega, by omega⟩
  · rintro ⟨h1, h2, h3⟩ j hj
    have hf := h.fitsR j hj
    rw [useN_snoc, useR_snoc]
    by_cases e : k = (j : Int)
    · rw [if_pos e, if_pos e]
      subst e
      exact ⟨by omega, by omega, fun hh => h1 hh.2⟩
    · rw [if_neg e, if_neg e]
      exact hf

theorem SoFar.snoc {C : Chp} {l : List Syn} {cores : List Int} (h : SoFar C l cores) {k : Int} (hk : 0 ≤ k ∧ k < nCores C) (hs : spaceP C l cores cores.length k) : SoFar C l (cores ++ [k]) := by
  refine soFar_of (fun x hx => ?_) ((fits_snoc h hk).2 hs)
  rcases List.mem_append.1 hx with hx | hx
  · exact (h.core x hx).1
  · rw [List.mem_singleton] at hx; subst hx; exact hk

def near1 (i : Int) (cores : List Int) (k : Int) (s : Syn) : Prop := (s.frm = i ∧ (0 ≤ s.to ∧ s.to < cores.length) ∧ cores[s.to.toNat]? = some k) ∨ (s.to = i ∧ (0 ≤ s.frm ∧ s.frm < cores.length) ∧ cores[s.frm.toNat]? = some k)

instance (i : Int) (cores : List Int) (k : Int) (s : Syn) : Decidable (near1 i cores k s) := by unfold near1; infer_instance

def affM (l : List Syn) (i : Int) (cores : List Int) (k : Int) : Nat := l.countP fun s => decide (near1 i cores k s)

def stepP (C : Chp) (l : List Syn) (cores : List Int) : Option (Int × Int) := firstL (fun k => -(affM l cores.length cores k : Int)) (spacesM C l cores cores.length)

def placeF (C : Chp) (l : List Syn) : Nat → List Int → Option (List Int)
  | 0, cores => some cores
  | n + 1, cores => match stepP C l cores with
    | none => none
    | some (k, _) => placeF C l n (cores ++ [k])

def placeR (N : Net) (C : Chp) : List Int × Int :=
  if planE N C ≠ 0 then ([], planE N C) else match placeF C N.syns N.ps.length [] with
    | none => ([], 15)
    | some c => (c, 0)

theorem stepP_space {C : Chp} {l : List Syn} {cores : List Int} {k m : Int} (h : stepP C l cores = some (k, m)) : (0 ≤ k ∧ k < nCores C) ∧ spaceP C l cores cores.length k := by
  obtain ⟨h1, h2, h3⟩ := firstL_mem h
  obtain ⟨h4, h5⟩ := List.mem_filter.1 h1
  exact ⟨mem_allC.1 h4, of_decide_eq_true h5⟩

theorem SoFar.nil {C : Chp} {l : List Syn} (h : ChpOk C) : SoFar C l [] := by
  refine ⟨by simp, fun k hk => ?_⟩
  have e1 : useN [] (k : Int) = 0 := rfl
  have e2 : useR l [] (k : Int) = 0 := by
    unfold useR
    rw [List.countP_eq_zero]
    simp
  have := h.nr
  have := h.sy
  omega

def hangs (N : Net) (i key : Int) : Prop := key = i ∨ ∃ s ∈ N.syns, keyM N s.frm = key ∧ s.to = i

instance (N : Net) (i key : Int) : Decidable (hangs N i key) := by unfold hangs; infer_instance

end Go.Gm
end

section
set_option linter.unusedVariables false

set_option linter.unusedSimpArgs false

namespace Go.Gm

structure RowE where
  key : Int
  slot : Int
  wt : Int
  dl : Int
  deriving DecidableEq

def slotAt (cores : List Int) (i : Nat) : Int := (useN (cores.take i) (cores[i]?.getD 0) : Nat)

def slotsM (cores : List Int) : List Int := (List.range cores.length).map (slotAt cores)

def rowOf (N : Net) (cores : List Int) (s : Syn) (q : Int) : RowE := ⟨keyM N s.frm, (slotsM cores)[s.to.toNat]?.getD 0, q, s.dl⟩

def rowsM (N : Net) (cores : List Int) (l : List (Syn × Int)) (k : Int) : List RowE := (l.filter fun x => decide (cores[x.1.to.toNat]? = some k)).map fun x => rowOf N cores x.1 x.2

theorem rowsM_snoc {N : Net} {cores : List Int} {l : List (Syn × Int)} {x : Syn × Int} (k : Int) : rowsM N cores (l ++ [x]) k = rowsM N cores l k ++ if cores[x.1.to.toNat]? = some k then [rowOf N cores x.1 x.2] else [] := by
  unfold rowsM
  rw [List.filter_append, List.map_append]
  congr 1
  by_cases h : cores[x.1.to.toNat]? = some k <;> simp [h]

abbrev Out := Int × Int

def isOutO (o : Out) : Prop := 0 ≤ o.1 ∧ isOut o.2

def cntM (ts : List (List Int)) (o : Out) : Nat := ts.countP fun t => decide (hasB (t[o.1.toNat]?.getD 0) o.2)

theorem cntM_snoc (ts : List (List Int)) (t : List Int) (o : Out) : cntM (ts ++ [t]) o = cntM ts o + if hasB (t[o.1.toNat]?.getD 0) o.2 then 1 else 0 := by
  unfold cntM
  rw [List.countP_append]
  by_cases h : hasB (t[o.1.toNat]?.getD 0) o.2 <;> simp [h]

theorem mem_outsOf {r : Nat} {x : Int} {o : Out} : o ∈ outsOf r x ↔ o.1 = (r : Int) ∧ isOut o.2 ∧ hasB x o.2 := by
  unfold outsOf isOut
  obtain ⟨a, b⟩ := o
  simp only [List.mem_map, List.mem_filter, List.mem_cons, List.not_mem_nil, or_false, decide_eq_true_eq, Prod.mk.injEq]
  constructor
  · rintro ⟨c, ⟨h1, h2⟩, rfl, rfl⟩
    exact ⟨rfl, h1, h2⟩
  · rintro ⟨rfl, h1, h2⟩
    exact ⟨b, ⟨h1, h2⟩, rfl, rfl⟩

theorem mem_outsM {t : List Int} {o : Out} : o ∈ outsM t ↔ isOutO o ∧ hasB (t[o.1.toNat]?.getD 0) o.2 := by
  unfold outsM isOutO
  rw [List.mem_flatten]
  constructor
  · rintro ⟨l, hl, ho⟩
    obtain ⟨x, hx, rfl⟩ := List.mem_map.1 hl
    obtain ⟨h1, h2, h3⟩ := mem_outsOf.1 ho
    have := List.mem_zipIdx hx
    have e : o.1.toNat = x.2 := by omega
    rw [e]
    have hg : t[x.2]? = some x.1 := by
      have h5 := List.mem_zipIdx_iff_getElem?.1 hx
      simpa using h5
    rw [hg]
    exact ⟨⟨by omega, h2⟩, h3⟩
  · rintro ⟨⟨h1, h2⟩, h3⟩
    cases hg : t[o.1.toNat]? with
    | none => rw [hg] at h3; exact absurd h3 (hasB_zero _)
    | some x =>
      rw [hg] at h3
      exact ⟨outsOf o.1.toNat x, List.mem_map.2 ⟨(x, o.1.toNat), List.mem_zipIdx_iff_getElem?.2 (by simpa using hg), rfl⟩, mem_outsOf.2 ⟨by omega, h2, h3⟩⟩

structure IsMost (ts : List (List Int)) (m : Nat) : Prop where
  le : ∀ o, isOutO o → cntM ts o ≤ m
  ex : m = 0 ∨ ∃ o, isOutO o ∧ cntM ts o = m

theorem IsMost.uniq {ts : List (List Int)} {m n : Nat} (h1 : IsMost ts m) (h2 : IsMost ts n) : m = n := by
  have a : m ≤ n := by
    rcases h1.ex with h | ⟨o, ho, h⟩
    · omega
    · rw [← h]; exact h2.le o ho
  have b : n ≤ m := by
    rcases h2.ex with h | ⟨o, ho, h⟩
    · omega
    · rw [← h]; exact h1.le o ho
  omega

def mostM : List (List Int) → Nat
  | [] => 0
  | ts@(_ :: _) => ((ts.map outsM).flatten.map fun o => cntM ts o).foldl max 0

theorem foldl_maxN : ∀ (l : List Nat) (a : Nat), a ≤ l.foldl max a ∧ (∀ x ∈ l, x ≤ l.foldl max a) ∧ (l.foldl max a = a ∨ l.foldl max a ∈ l)
  | [], a => ⟨Nat.le_refl _, by simp, .inl rfl⟩
  | y :: l, a => by
    obtain ⟨h1, h2, h3⟩ := foldl_maxN l (max a y)
    rw [List.foldl_cons]
    refine ⟨by omega, fun x hx => ?_, ?_⟩
    · rcases List.mem_cons.1 hx with rfl | hx
      · omega
      · exact h2 x hx
    · rcases h3 with h | h
      · by_cases hay : a ≤ y
        · rw [h, Nat.max_eq_right hay]; exact .inr List.mem_cons_self
        · rw [h, Nat.max_eq_left (by omega)]; exact .inl rfl
      · exact .inr (List.mem_cons_of_mem _ h)

theorem mostM_is (ts : List (List Int)) : IsMost ts (mostM ts) := by
  cases ts with
  | nil => exact ⟨fun o _ => Nat.le_refl _, .inl rfl⟩
  | cons t r =>
    obtain ⟨h1, h2, h3⟩ := foldl_maxN (((t :: r).map outsM).flatten.map fun o => cntM (t :: r) o) 0
    refine ⟨fun o ho => ?_, ?_⟩
    · by_cases hc : cntM (t :: r) o = 0
      · omega
      · refine h2 _ (List.mem_map.2 ⟨o, ?_, rfl⟩)
        have hp : 0 < cntM (t :: r) o := by omega
        unfold cntM at hp
        rw [List.countP_pos_iff] at hp
        obtain ⟨u, hu, hh⟩ := hp
        rw [decide_eq_true_eq] at hh
        exact List.mem_flatten.2 ⟨outsM u, List.mem_map.2 ⟨u, hu, rfl⟩, mem_outsM.2 ⟨ho, hh⟩⟩
    · rcases h3 with h | h
      · exact .inl h
      · obtain ⟨o, ho, he⟩ := List.mem_map.1 h
        obtain ⟨l, hl, hol⟩ := List.mem_flatten.1 ho
        obtain ⟨u, _, rfl⟩ := List.mem_map.1 hl
        exact .inr ⟨o, (mem_outsM.1 hol).1, he⟩

def takesM (room : Int) (ts : List (List Int)) (t : List Int) : Bool := (outsM t).all fun o => decide ((cntM ts o : Int) < room)

def waveAdd (T : Int → List Int) (room : Int) (ws : List (List Int)) (key : Int) : List (List Int) :=
  match ws.findIdx? fun w => takesM room (w.map T) (T key) with
  | some k => ws.modify k (· ++ [key])
  | none => ws ++ [[key]]

def wavesM (T : Int → List Int) (room : Int) (keys : List Int) : List (List Int) := keys.foldl (waveAdd T room) []

def waveOf (ws : List (List Int)) (key : Int) : Int :=
  match ws.findIdx? fun w => decide (key ∈ w) with
  | some k => (k : Int)
  | none => -1

def reachM (W : Int) (home : Int → Int) (tg : Int → List Int) (w : List Int) : Nat := (w.flatMap fun key => (tg key).map fun t => distM W (home key) t).foldl max 0

def stepsM (W : Int) (T : Int → List Int) (home : Int → Int) (tg : Int → List Int) (ws : List (List Int)) : Nat := (ws.map fun w => (reachM W home tg w + 1) * mostM (w.map T)).sum

structure Ety where
  key : Int
  mask : Int
  outs : Int
  deriving DecidableEq

def etyAt (T : Int → List Int) (r : Nat) (key : Int) : Option Ety :=
  let x := (T key)[r]?.getD 0
  if x = 0 then none else some ⟨key, 65535, x⟩

def tableM (T : Int → List Int) (keys : List Int) (r : Nat) : List Ety := keys.filterMap (etyAt T r)

def band (a b : Int) : Int := ((a.toNat &&& b.toNat : Nat) : Int)

def bxor (a b : Int) : Int := ((a.toNat ^^^ b.toNat : Nat) : Int)

def bless (a b : Int) : Int := ((a.toNat - (a.toNat &&& b.toNat) : Nat) : Int)

def findE (l : List Ety) (key : Int) : Option Int := (l.find? fun x => decide (band key x.mask = x.key)).map (·.outs)

def isPow (d : Int) : Prop := ∃ i : Nat, i < 16 ∧ d = ((2 ^ i : Nat) : Int)

instance (d : Int) : Decidable (isPow d) := by unfold isPow; exact Nat.decidableExistsLT _

def joinE (x y : Ety) : Option Ety := if x.mask ≠ y.mask ∨ x.outs ≠ y.outs ∨ ¬ isPow (bxor x.key y.key) then none else some ⟨bless x.key (bxor x.key y.key), bless x.mask (bxor x.key y.key), x.outs⟩

def sameE (a b : List Ety) (keys : List Int) : Bool := keys.all fun k => decide (findE a k = findE b k)

def mergedAt (l : List Ety) (k j : Nat) (x : Ety) : List Ety := (l.eraseIdx j).set k x

def pairsM (n : Nat) : List (Nat × Nat) := (List.range n).flatMap fun k => ((List.range n).filter fun j => decide (k < j)).map fun j => (k, j)

def tryE (want l : List Ety) (keys : List Int) (p : Nat × Nat) : Option (List Ety) :=
  match l[p.1]?, l[p.2]? with
  | some x, some y => match joinE x y with
    | some z => if sameE want (mergedAt l p.1 p.2 z) keys = true then some (mergedAt l p.1 p.2 z) else none
    | none => none
  | _, _ => none

def mergeStep (want l : List Ety) (keys : List Int) : Option (List Ety) := (pairsM l.length).findSome? (tryE want l keys)

def mergeF (want : List Ety) (keys : List Int) : Nat → List Ety → List Ety
  | 0, l => l
  | n + 1, l => match mergeStep want l keys with
    | some t => mergeF want keys n t
    | none => l

def mergeM (l : List Ety) (keys : List Int) : List Ety := mergeF l keys l.length l

end Go.Gm
end
