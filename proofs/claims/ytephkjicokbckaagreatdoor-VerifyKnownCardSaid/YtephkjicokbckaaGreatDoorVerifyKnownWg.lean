import Derived.Test.YtephkjicokbckaaGreatDoorVerifyKnownWe
import Derived.Test.YtephkjicokbckaaGreatDoorVerifyKnownWb
set_option linter.unusedVariables false

set_option linter.unusedSimpArgs false

namespace Go.Proofs

open Go Go.Vx Go.Gm

def drV (d : DRow) : List Value := [drowV d]

def knE (S M : List Evt) (x : Evt) : Int := if x ∈ S then 2 else if x ∈ M then 1 else 0

theorem KnownOf.congr {m : List (Value × Value)} {f g : Evt → Int} (h : KnownOf m f) (e : ∀ x, f x = g x) : KnownOf m g := by
  have : f = g := funext e
  rw [← this]; exact h

theorem knE_may {S M : List Evt} {i : Nat} {x : Evt} (h : M[i]? = some x) (y : Evt) : (if y = x then 1 else knE [] (M.take i) y) = knE [] (M.take (i + 1)) y := by
  unfold knE
  rw [List.take_add_one, h, Option.toList_some]
  simp only [List.not_mem_nil, if_false, List.mem_append, List.mem_singleton]
  by_cases e : y = x
  · simp [e]
  · simp [e]

theorem knE_sure {S M : List Evt} {i : Nat} {x : Evt} (h : S[i]? = some x) (y : Evt) : (if y = x then 2 else knE (S.take i) M y) = knE (S.take (i + 1)) M y := by
  unfold knE
  rw [List.take_add_one, h, Option.toList_some]
  simp only [List.mem_append, List.mem_singleton]
  by_cases e : y = x
  · simp [e]
  · simp [e]

def mE (x : Nat × List (Int × Value)) : Ent := .map x.1 x.2

def csM (N : Net) (MD : List (Nat × List (Int × Value))) : List (Par × Value) :=
  (List.range N.ps.length).map fun k => match MD[k]? with
    | none => (par0, .map none)
    | some x => (N.ps[k]?.getD par0, .map (some x.1))

theorem csM_len (N : Net) (MD : List (Nat × List (Int × Value))) : (csM N MD).length = N.ps.length := by simp [csM]

theorem csM_get {N : Net} {MD : List (Nat × List (Int × Value))} {k : Nat} (h : k < N.ps.length) : (csM N MD)[k]? = some (match MD[k]? with
    | none => (par0, .map none)
    | some x => (N.ps[k]?.getD par0, .map (some x.1))) := by
  unfold csM
  rw [List.getElem?_map, List.getElem?_range h]; rfl

theorem csM_nil (N : Net) : csM N [] = List.replicate N.ps.length (par0, .map none) := by
  apply List.ext_getElem?
  intro k
  rw [List.getElem?_replicate]
  by_cases hk : k < N.ps.length
  · rw [csM_get hk, if_pos hk]; rfl
  · rw [if_neg hk, List.getElem?_eq_none (by rw [csM_len]; omega)]

theorem csM_set {N : Net} {MD MD' : List (Nat × List (Int × Value))} {i : Nat} {p : Par} {x : Nat × List (Int × Value)} (hp : N.ps[i]? = some p) (hx : MD'[i]? = some x) (ho : ∀ k, k ≠ i → MD'[k]? = MD[k]?) :
    (csM N MD).set i (p, .map (some x.1)) = csM N MD' := by
  have hi := (List.getElem?_eq_some_iff.1 hp).1
  apply List.ext_getElem?
  intro k
  rw [List.getElem?_set, csM_len]
  by_cases hk : k < N.ps.length
  · by_cases hik : i = k
    · subst hik
      rw [if_pos rfl, if_pos hi, csM_get hi, hx, hp]; rfl
    · rw [if_neg hik, csM_get hk, csM_get hk, ho k (fun e => hik e.symm)]
  · rw [if_neg (by omega), List.getElem?_eq_none (by rw [csM_len]; omega), List.getElem?_eq_none (by rw [csM_len]; omega)]

theorem MapOf.cell0 (p : Par) : MapOf [(0, spA ⟨0, 0⟩)] (cget (cell0 p)) := by
  intro r
  rw [cell0_get]
  by_cases h : (0 : Int) = r
  · subst h; rfl
  · rw [if_neg (fun e => h e.symm)]
    simp [mfind, h]

def parted {α : Type} (f g : Nat → α) (n i : Nat) : List α := (List.range n).map fun k => if k < i then f k else g k

theorem parted_len {α : Type} (f g : Nat → α) (n i : Nat) : (parted f g n i).length = n := by simp [parted]

theorem parted_get {α : Type} {f g : Nat → α} {n i k : Nat} (h : k < n) : (parted f g n i)[k]? = some (if k < i then f k else g k) := by
  unfold parted
  rw [List.getElem?_map, List.getElem?_range h]; rfl

theorem parted_zero {α : Type} (f g : Nat → α) (n : Nat) : parted f g n 0 = (List.range n).map g := by simp [parted]

theorem parted_all {α : Type} (f g : Nat → α) (n : Nat) : parted f g n n = (List.range n).map f := by
  unfold parted
  refine List.map_congr_left fun k hk => ?_
  rw [if_pos (List.mem_range.1 hk)]

theorem parted_set {α : Type} {f g : Nat → α} {n i : Nat} (h : i < n) : (parted f g n i).set i (f i) = parted f g n (i + 1) := by
  apply List.ext_getElem?
  intro k
  rw [List.getElem?_set, parted_len]
  by_cases hk : k < n
  · rw [parted_get hk]
    by_cases hik : i = k
    · subst hik; rw [if_pos rfl, if_pos h, parted_get h, if_pos (by omega)]
    · rw [if_neg hik, parted_get hk]
      by_cases h2 : k < i
      · rw [if_pos h2, if_pos (by omega)]
      · rw [if_neg h2, if_neg (by omega)]
  · rw [if_neg (by omega), List.getElem?_eq_none (by rw [parted_len]; omega), List.getElem?_eq_none (by rw [parted_len]; omega)]

theorem addV_none {v w : Int} {s : Sp} (h2 : v ≠ 2) (h1 : v ≠ 1) : addV v w s = s := by
  unfold addV
  rw [if_neg h2, if_neg h1]

theorem modify_at {α : Type} {l : List α} {k : Nat} {a : α} (f : α → α) (h : l[k]? = some a) : l.modify k f = l.set k (f a) := by
  obtain ⟨hlt, rfl⟩ := List.getElem?_eq_some_iff.1 h
  apply List.ext_getElem?
  intro i
  rw [List.getElem?_modify, List.getElem?_set]
  by_cases hi : k = i
  · subst hi; simp [hlt]
  · simp [hi]

theorem set_at {α : Type} {l : List α} {i : Nat} {y : α} (h : i < l.length) : (l.set i y)[i]? = some y := by simp [h]

theorem set_same {α : Type} {l : List α} {k : Nat} {a : α} (h : l[k]? = some a) : l.set k a = l := by
  obtain ⟨hlt, rfl⟩ := List.getElem?_eq_some_iff.1 h
  exact List.set_getElem_self hlt

def bndErr (N : Net) (sure may : List Evt) (ticks : Int) : Int := if netchk N ≠ 0 then netchk N else if evEr N sure ≠ 0 then evEr N sure else if evEr N may ≠ 0 then evEr N may else tmE ticks

def bndRes (N : Net) (sure may : List Evt) (ticks : Int) : List (List Int) × Int := if bndErr N sure may ticks ≠ 0 then ([], bndErr N sure may ticks) else ((bst N sure may ticks.toNat).out, 0)

end Go.Proofs
