/- Rn: Renumber, of the program and of the reference, walked. -/

import Derived.Test.YtbnipfgbfnhibaaNetKnownNb

set_option linter.unusedVariables false

set_option linter.unusedSimpArgs false

namespace Go.Gm

/-- A list that has to have numbers below n, each once. -/
def permFrom (n : Nat) : List Int → List Int → Int
  | _, [] => 0
  | seen, k :: r => if ¬ (0 ≤ k ∧ k < n) then 3 else if k ∈ seen then 5 else permFrom n (seen ++ [k]) r

def permErr (n : Nat) (to : List Int) : Int := if to.length ≠ n then 13 else permFrom n [] to

theorem permFrom_range {n : Nat} {to : List Int} {i : Nat} {k : Int} {seen : List Int} (h : to[i]? = some k) (hk : ¬ (0 ≤ k ∧ k < n)) : permFrom n seen (to.drop i) = 3 := by
  obtain ⟨hlt, rfl⟩ := List.getElem?_eq_some_iff.1 h
  rw [List.drop_eq_getElem_cons hlt]; simp only [permFrom]; rw [if_pos hk]

theorem permFrom_have {n : Nat} {to : List Int} {i : Nat} {k : Int} {seen : List Int} (h : to[i]? = some k) (hk : 0 ≤ k ∧ k < n) (hs : k ∈ seen) : permFrom n seen (to.drop i) = 5 := by
  obtain ⟨hlt, rfl⟩ := List.getElem?_eq_some_iff.1 h
  rw [List.drop_eq_getElem_cons hlt]; simp only [permFrom]; rw [if_neg (by omega), if_pos hs]

theorem permFrom_next {n : Nat} {to : List Int} {i : Nat} {k : Int} (h : to[i]? = some k) (hk : 0 ≤ k ∧ k < n) (hs : ¬ k ∈ to.take i) : permFrom n (to.take i) (to.drop i) = permFrom n (to.take (i + 1)) (to.drop (i + 1)) := by
  have h' := h
  obtain ⟨hlt, rfl⟩ := List.getElem?_eq_some_iff.1 h
  rw [List.drop_eq_getElem_cons hlt]; simp only [permFrom]; rw [if_neg (by omega), if_neg hs, List.take_add_one, h']; rfl

/-- Which numbers were met. -/
def metL (n : Nat) (seen : List Int) : List Bool := (List.range n).map fun (j : Nat) => decide ((j : Int) ∈ seen)

theorem metL_get {n : Nat} {seen : List Int} {k : Int} (hk : 0 ≤ k ∧ k < n) : (metL n seen)[k.toNat]? = some (decide (k ∈ seen)) := by
  unfold metL
  rw [List.getElem?_map, List.getElem?_range (by omega)]
  simp only [Option.map_some]
  rw [show ((k.toNat : Nat) : Int) = k by omega]

theorem metL_set {n : Nat} {seen : List Int} {k : Int} (hk : 0 ≤ k ∧ k < n) : (metL n seen).set k.toNat true = metL n (seen ++ [k]) := by
  apply List.ext_getElem?
  intro j
  unfold metL
  rw [List.getElem?_set]
  simp only [List.getElem?_map, List.length_map, List.length_range]
  by_cases hj : j < n
  · rw [List.getElem?_range hj]
    by_cases he : k.toNat = j
    · have : (j : Int) = k := by omega
      simp [he, hj, this]
    · have : ¬ (j : Int) = k := by omega
      simp [he, this]
  · rw [List.getElem?_eq_none (by simp; omega)]
    have : ¬ k.toNat = j := by omega
    simp [this]

theorem metL_nil (n : Nat) : metL n [] = List.replicate n false := by
  unfold metL
  simp [List.map_const']

def zPar : Par := ⟨0, 0, 0, 0, 0, 0, 0, 0⟩

/-- Elements put to their numbers. -/
def putAll (n : Nat) (to : List Int) (ps : List Par) : List Par := (to.zip ps).foldl (fun acc x => acc.set x.1.toNat x.2) (List.replicate n zPar)

theorem putAll_length (n : Nat) (to : List Int) (ps : List Par) : (putAll n to ps).length = n := by
  unfold putAll
  have : ∀ (l : List (Int × Par)) (a : List Par), (l.foldl (fun acc x => acc.set x.1.toNat x.2) a).length = a.length := by
    intro l
    induction l with
    | nil => intro a; rfl
    | cons x l ih => intro a; rw [List.foldl_cons, ih]; simp
  rw [this]; simp

theorem putAll_next {n : Nat} {to : List Int} {ps : List Par} {i : Nat} {k : Int} {p : Par} (h1 : to[i]? = some k) (h2 : ps[i]? = some p) : (putAll n (to.take i) (ps.take i)).set k.toNat p = putAll n (to.take (i + 1)) (ps.take (i + 1)) := by
  unfold putAll
  have l1 := (List.getElem?_eq_some_iff.1 h1).1
  have l2 := (List.getElem?_eq_some_iff.1 h2).1
  rw [List.take_add_one, h1, List.take_add_one, h2, Option.toList_some, Option.toList_some, List.zip_append (by simp; omega), List.foldl_append]
  rfl

def toAt (to : List Int) (k : Int) : Int := (to[k.toNat]?).getD 0

def renSyn (to : List Int) (s : Syn) : Syn := ⟨if 0 ≤ s.frm then toAt to s.frm else s.frm, toAt to s.to, s.wt, s.dl⟩

/-- A network with other numbers of its neurons. -/
def renNet (N : Net) (to : List Int) : Net := ⟨putAll N.ps.length to N.ps, N.inputs, N.syns.map (renSyn to)⟩

def renErr (N : Net) (to : List Int) : Int := if netchk N ≠ 0 then netchk N else permErr N.ps.length to

def noNet : Net := ⟨[], 0, []⟩

/-- What Renumber returns. -/
def renRes (N : Net) (to : List Int) : Net × Int := if renErr N to ≠ 0 then (noNet, renErr N to) else (renNet N to, 0)

theorem ren_chk {N : Net} {to : List Int} (h : netchk N ≠ 0) : renRes N to = (noNet, netchk N) := by
  have : renErr N to = netchk N := by unfold renErr; rw [if_pos h]
  unfold renRes
  rw [this, if_pos h]

theorem ren_perm {N : Net} {to : List Int} (h : netchk N = 0) (h2 : permErr N.ps.length to ≠ 0) : renRes N to = (noNet, permErr N.ps.length to) := by
  have : renErr N to = permErr N.ps.length to := by unfold renErr; rw [if_neg (by omega)]
  unfold renRes
  rw [this, if_pos h2]

theorem ren_ok {N : Net} {to : List Int} (h : netchk N = 0) (h2 : permErr N.ps.length to = 0) : renRes N to = (renNet N to, 0) := by
  have : renErr N to = permErr N.ps.length to := by unfold renErr; rw [if_neg (by omega)]
  unfold renRes
  rw [this, if_neg (by omega)]

/-- Some of the first elements turned. -/
def turned {α : Type} (f : α → α) (l : List α) (i : Nat) : List α := (l.take i).map f ++ l.drop i

theorem turned_length {α : Type} (f : α → α) (l : List α) (i : Nat) : (turned f l i).length = l.length := by
  unfold turned
  simp
  omega

theorem turned_get {α : Type} {f : α → α} {l : List α} {i : Nat} {x : α} (h : l[i]? = some x) : (turned f l i)[i]? = some x := by
  have hlt := (List.getElem?_eq_some_iff.1 h).1
  unfold turned
  rw [List.getElem?_append_right (by simp; omega)]
  simp only [List.length_map, List.length_take, Nat.min_eq_left (Nat.le_of_lt hlt), Nat.sub_self, List.getElem?_drop, Nat.add_zero]
  exact h

theorem turned_next {α : Type} {f : α → α} {l : List α} {i : Nat} {x : α} (h : l[i]? = some x) : (turned f l i).set i (f x) = turned f l (i + 1) := by
  have h' := h
  obtain ⟨hlt, rfl⟩ := List.getElem?_eq_some_iff.1 h
  unfold turned
  rw [List.take_add_one, h', Option.toList_some, List.map_append, List.set_append_right _ _ (by simp; omega)]
  simp [Nat.min_eq_left (Nat.le_of_lt hlt)]
  rw [List.drop_eq_getElem_cons hlt]
  rfl

theorem turned_zero {α : Type} (f : α → α) (l : List α) : turned f l 0 = l := by simp [turned]

theorem turned_all {α : Type} (f : α → α) {l : List α} {i : Nat} (h : l.length ≤ i) : turned f l i = l.map f := by
  unfold turned
  rw [List.take_of_length_le h, List.drop_eq_nil_of_le h, List.append_nil]

end Go.Gm

namespace Go.Proofs

open Go Go.Vx Go.Gm

theorem _root_.Go.Vx.VSl.from_ {p : Option Addr} {size l n c : Nat} {k : Option Addr → Nat → Nat → Prop} (hl : l ≤ n) (hc : n ≤ c) (hk : ∀ q, (l < n → q = p.map (·.add (l * size))) → (q = p.map (·.add (l * size)) ∨ q = p) → k q (n - l) (c - l)) : VSl p size (l : Int) (n : Int) (c : Int) k := by
  refine .mk (by omega) (by omega) (by omega) fun q h1 h2 => ?_
  have e1 : (n : Int).toNat - (l : Int).toNat = n - l := by omega
  have e2 : (c : Int).toNat - (l : Int).toNat = c - l := by omega
  rw [e1, e2]
  refine hk q (fun h => ?_) ?_
  · exact h1 (by omega)
  · by_cases h : l < c
    · exact .inl (h1 (by omega))
    · exact .inr (h2 (by omega))

def bV (b : Bool) : List Value := [.bool b]

end Go.Proofs
