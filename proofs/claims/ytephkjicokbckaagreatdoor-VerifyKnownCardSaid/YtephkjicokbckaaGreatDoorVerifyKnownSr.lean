import Derived.Test.YtephkjicokbckaaGreatDoorVerifyKnownCh
import Derived.Test.YtephkjicokbckaaGreatDoorVerifyKnownEb
import Derived.Test.YtephkjicokbckaaGreatDoorVerifyKnownStp
import Derived.Test.YtephkjicokbckaaGreatDoorVerifyKnownGd
set_option linter.unusedVariables false

set_option linter.unusedSimpArgs false

namespace Go.Proofs

open Go Go.Vx Go.Gm

structure Sit where
  sm : Sm
  left : Int
  shown : List Bool
  run : List Evt

def Sit.sig (s : Sit) : (List Sta × List (List Int)) × Int × List Bool := ((s.sm.sts, s.sm.D), s.left, s.shown)

def rSpk (N : Net) (x : Sm) : List Int := spk (fire N.ps x.sts ((x.D[0]?).getD []))

def insC (N : Net) (v : Sur) (t : Int) (c : Nat) : List Int := mergedT (fixedL v.fixed t) v.free c N.inputs.toNat

def shownAt (pat : List Mom) (sh : List Bool) (sp : List Int) (k : Nat) : Bool := (sh[k]?.getD false) && (match pat[k]? with | none => false | some m => decide (Shown m sp))

def nextShown (pat : List Mom) (sh : List Bool) (sp : List Int) : List Bool := (List.range pat.length).map fun k => if k = 0 then true else shownAt pat sh sp (k - 1)

def nextSit (N : Net) (v : Sur) (pat : List Mom) (t : Int) (s : Sit) (c : Nat) : Sit :=
  ⟨refStep N s.sm (insC N v t c), s.left - ((chosen v.free c).length : Int), nextShown pat s.shown (rSpk N s.sm), s.run ++ atL t (insC N v t c)⟩

def succC (N : Net) (v : Sur) (pat : List Mom) (t : Int) (s : Sit) (c : Nat) : List Sit := if s.left < ((chosen v.free c).length : Int) then [] else [nextSit N v pat t s c]

def succsT (N : Net) (v : Sur) (pat : List Mom) (t : Int) (s : Sit) (n : Nat) : List Sit := (List.range n).flatMap (succC N v pat t s)

def succs (N : Net) (v : Sur) (pat : List Mom) (t : Int) (s : Sit) : List Sit := succsT N v pat t s (2 ^ v.free.length)

theorem succsT_succ (N : Net) (v : Sur) (pat : List Mom) (t : Int) (s : Sit) (n : Nat) : succsT N v pat t s (n + 1) = succsT N v pat t s n ++ succC N v pat t s n := by
  unfold succsT
  rw [List.range_succ, List.flatMap_append, List.flatMap_singleton]

theorem succsT_zero (N : Net) (v : Sur) (pat : List Mom) (t : Int) (s : Sit) : succsT N v pat t s 0 = [] := rfl

def put (next : List Sit) (x : Sit) : List Sit := if next.any (fun y => decide (y.sig = x.sig)) = true then next else next ++ [x]

def grow : List Sit → List Sit → Option (List Sit)
  | next, [] => some next
  | next, x :: xs => if 5000 < (put next x).length then none else grow (put next x) xs

theorem grow_app : ∀ (n a b : List Sit), grow n (a ++ b) = (grow n a).bind fun m => grow m b
  | n, [], b => rfl
  | n, x :: a, b => by
    by_cases h : 5000 < (put n x).length
    · simp only [List.cons_append, grow, if_pos h]; rfl
    · simp only [List.cons_append, grow, if_neg h]; exact grow_app _ a b

theorem grow_one {n : List Sit} {x : Sit} : grow n [x] = if 5000 < (put n x).length then none else some (put n x) := rfl

theorem grow_some {S : List Sit} {a b n : List Sit} (h : grow S a = some n) : grow S (a ++ b) = grow n b := by rw [grow_app, h]; rfl

def goal (N : Net) (pat : List Mom) (s : Sit) : Bool := shownAt pat s.shown (rSpk N s.sm) (pat.length - 1)

def search (N : Net) (v : Sur) (pat : List Mom) : Nat → Nat → List Sit → List Evt × Int × Bool × Int
  | 0, _, _ => ([], 0, false, 0)
  | k + 1, t, S =>
    match S.find? (goal N pat) with
    | some s => (s.run ++ atL t (fixedL v.fixed t), (t : Int), true, 0)
    | none =>
      match grow [] (S.flatMap (succs N v pat t)) with
      | none => ([], 0, false, 15)
      | some n => search N v pat k (t + 1) n

def sit0 (N : Net) (v : Sur) (pat : List Mom) : Sit := ⟨sm0 N, v.most, true :: List.replicate (pat.length - 1) false, []⟩

def rchErr (N : Net) (v : Sur) (pat : List Mom) (ticks : Int) : Int := if netchk N ≠ 0 then netchk N else if surErr N v ≠ 0 then surErr N v else if patErr N.ps.length pat ≠ 0 then patErr N.ps.length pat else tmE ticks

def rchRes (N : Net) (v : Sur) (pat : List Mom) (ticks : Int) : List Evt × Int × Bool × Int := if rchErr N v pat ticks ≠ 0 then ([], 0, false, rchErr N v pat ticks) else search N v pat ticks.toNat 0 [sit0 N v pat]

def shPart (L : List Bool) (j : Nat) : List Bool := L.take (j + 1) ++ List.replicate (L.length - (j + 1)) false

theorem shPart_len {L : List Bool} {j : Nat} (h : j + 1 ≤ L.length) : (shPart L j).length = L.length := by
  unfold shPart
  rw [List.length_append, List.length_take, List.length_replicate]
  omega

theorem shPart_set {L : List Bool} {j : Nat} {b : Bool} (h : L[j + 1]? = some b) : (shPart L j).set (j + 1) b = shPart L (j + 1) := by
  have hlt := (List.getElem?_eq_some_iff.1 h).1
  apply List.ext_getElem?
  intro i
  have m1 : min (j + 1) L.length = j + 1 := by omega
  have m2 : min (j + 1 + 1) L.length = j + 1 + 1 := by omega
  unfold shPart
  simp only [List.getElem?_set, List.getElem?_append, List.length_append, List.length_take, List.length_replicate, List.getElem?_take, List.getElem?_replicate, m1, m2]
  rcases Nat.lt_trichotomy i (j + 1) with h1 | h1 | h1
  · simp only [show ¬ (j + 1 = i) from by omega, show i < j + 1 from h1, show i < j + 1 + 1 from by omega, if_true, if_false]
  · subst h1
    simp only [show j + 1 < j + 1 + (L.length - (j + 1)) from by omega, show j + 1 < j + 1 + 1 from by omega, if_true, if_false]
    exact h.symm
  · simp only [show ¬ (j + 1 = i) from by omega, show ¬ (i < j + 1) from by omega, show ¬ (i < j + 1 + 1) from by omega, if_false]
    by_cases h3 : i < L.length
    · rw [if_pos (by omega), if_pos (by omega)]
    · rw [if_neg (by omega), if_neg (by omega)]

theorem shPart_all {L : List Bool} {j : Nat} (h : L.length = j + 1) : shPart L j = L := by
  unfold shPart
  rw [List.take_of_length_le (by omega), show L.length - (j + 1) = 0 by omega, List.replicate_zero, List.append_nil]

theorem nextShown_len (pat : List Mom) (sh : List Bool) (sp : List Int) : (nextShown pat sh sp).length = pat.length := by simp [nextShown]

theorem nextShown_zero {pat : List Mom} (h : 0 < pat.length) (sh : List Bool) (sp : List Int) : (nextShown pat sh sp)[0]? = some true := by
  unfold nextShown
  rw [List.getElem?_map, List.getElem?_range h]; rfl

theorem nextShown_succ {pat : List Mom} {j : Nat} (h : j + 1 < pat.length) (sh : List Bool) (sp : List Int) : (nextShown pat sh sp)[j + 1]? = some (shownAt pat sh sp j) := by
  unfold nextShown
  rw [List.getElem?_map, List.getElem?_range h]; rfl

theorem shPart_zero {pat : List Mom} (h : 0 < pat.length) (sh : List Bool) (sp : List Int) : shPart (nextShown pat sh sp) 0 = true :: List.replicate (pat.length - 1) false := by
  unfold shPart
  rw [nextShown_len, List.take_add_one, List.take_zero, nextShown_zero h]
  rfl

theorem rep_set (n : Nat) (h : 0 < n) : (List.replicate n false).set 0 true = true :: List.replicate (n - 1) false := by
  obtain ⟨m, rfl⟩ : ∃ m, n = m + 1 := ⟨n - 1, by omega⟩
  rfl

def Due64 (D : List (List Int)) : Prop := ∀ r ∈ D, ∀ v ∈ r, I64 v

theorem Due64.add {D : List (List Int)} (h : Due64 D) (s : Syn) : Due64 (refAdd D s) := by
  intro r hr v hv
  unfold refAdd at hr
  obtain ⟨i, hi⟩ := List.getElem?_of_mem hr
  rw [List.getElem?_modify] at hi
  cases h0 : D[i]? with
  | none => rw [h0] at hi; simp at hi
  | some r0 =>
    have h1 := h r0 (List.mem_of_getElem? h0)
    rw [h0] at hi
    simp only [Option.map_eq_map, Option.map_some, Option.some.injEq] at hi
    subst hi
    split at hv
    · obtain ⟨j, hj⟩ := List.getElem?_of_mem hv
      rw [List.getElem?_modify] at hj
      cases h2 : r0[j]? with
      | none => rw [h2] at hj; simp at hj
      | some v0 =>
        rw [h2] at hj
        simp only [Option.map_eq_map, Option.map_some, Option.some.injEq] at hj
        subst hj
        split
        · unfold wadd I64; omega
        · exact h1 v0 (List.mem_of_getElem? h2)
    · exact h1 v hv

theorem Due64.fold : ∀ (L : List Syn) {D : List (List Int)}, Due64 D → Due64 (L.foldl refAdd D)
  | [], _, h => h
  | s :: L, _, h => Due64.fold L (h.add s)

theorem Due64.step {N : Net} {x : Sm} (h : Due64 x.D) (ins : List Int) : Due64 (refStep N x ins).D := by
  refine Due64.fold _ fun r hr v hv => ?_
  rcases List.mem_append.1 hr with hr | hr
  · exact h r (List.mem_of_mem_tail hr) v hv
  · rw [List.mem_singleton.1 hr] at hv
    rw [(List.mem_replicate.1 hv).2]
    unfold I64; omega

structure SurOk (N : Net) (v : Sur) : Prop where
  few : v.free.length ≤ 6
  free : Asc v.free
  freeI : ∀ i ∈ v.free, 0 ≤ i ∧ i < N.inputs
  fixed : EvOk N.inputs 10000 v.fixed
  apart : ∀ x ∈ v.fixed, x.id ∉ v.free
  most : 0 ≤ v.most

theorem freeErr_zero {n : Int} : ∀ {l : List Int} {p : Option Int}, freeErr n p l = 0 → (∀ i ∈ l, 0 ≤ i ∧ i < n) ∧ Asc l ∧ ∀ q, p = some q → ∀ i ∈ l, q < i
  | [], p, h => ⟨by simp, List.Pairwise.nil, by simp⟩
  | k :: r, p, h => by
    have key : (0 ≤ k ∧ k ≤ n - 1) ∧ (∀ q, p = some q → q < k) ∧ freeErr n (some k) r = 0 := by
      by_cases h1 : 0 ≤ k ∧ k ≤ n - 1
      · cases p with
        | none =>
          have hu : freeErr n none (k :: r) = if ¬ (0 ≤ k ∧ k ≤ n - 1) then 3 else if false = true then 2 else freeErr n (some k) r := rfl
          rw [hu, if_neg (Decidable.not_not.2 h1), if_neg (by simp)] at h
          exact ⟨h1, by simp, h⟩
        | some q =>
          have hu : freeErr n (some q) (k :: r) = if ¬ (0 ≤ k ∧ k ≤ n - 1) then 3 else if decide (k ≤ q) = true then 2 else freeErr n (some k) r := rfl
          rw [hu, if_neg (Decidable.not_not.2 h1)] at h
          by_cases h2 : k ≤ q
          · rw [if_pos (by simpa using h2)] at h
            exact absurd h (by omega)
          · rw [if_neg (by simpa using h2)] at h
            exact ⟨h1, fun q' hq => by cases hq; omega, h⟩
      · have hu : ∀ p, freeErr n p (k :: r) = 3 := fun p => by
          unfold freeErr
          rw [if_pos h1]
        rw [hu] at h
        exact absurd h (by omega)
    obtain ⟨h1, hp, h⟩ := key
    obtain ⟨g1, g2, g3⟩ := freeErr_zero h
    refine ⟨fun i hi => ?_, List.pairwise_cons.2 ⟨fun i hi => g3 k rfl i hi, g2⟩, fun q hq i hi => ?_⟩
    · rcases List.mem_cons.1 hi with rfl | hi
      · omega
      · exact g1 i hi
    · rcases List.mem_cons.1 hi with rfl | hi
      · exact hp q hq
      · have := hp q hq
        have := g3 k rfl i hi
        omega

theorem surErr_zero {N : Net} {v : Sur} (h : surErr N v = 0) : SurOk N v := by
  unfold surErr at h
  split at h
  · cases h
  · split at h
    · contradiction
    · rename_i h1 h2
      split at h
      · contradiction
      · rename_i h3
        split at h
        · cases h
        · rename_i h4
          split at h
          · cases h
          · obtain ⟨g1, g2, _⟩ := freeErr_zero (Decidable.not_not.1 h2)
            exact ⟨by omega, g2, g1, evEr_zero (Decidable.not_not.1 h3), fun x hx hi => h4 ⟨x, hx, hi⟩, by omega⟩

theorem fixedL_asc {inputs limit : Int} {l : List Evt} (h : EvOk inputs limit l) (t : Int) : Asc (fixedL l t) ∧ ∀ i ∈ fixedL l t, 0 ≤ i ∧ i < inputs := by
  unfold fixedL
  constructor
  · refine List.pairwise_map.2 ?_
    have := h.sorted.filter fun x => decide (x.tick = t)
    refine List.Pairwise.imp_of_mem ?_ this
    intro a b ha hb hab
    have h1 := (List.mem_filter.1 ha).2
    have h2 := (List.mem_filter.1 hb).2
    simp only [decide_eq_true_eq] at h1 h2
    unfold evLt at hab
    omega
  · intro i hi
    obtain ⟨x, hx, rfl⟩ := List.mem_map.1 hi
    exact (h.range x (List.mem_filter.1 hx).1).2

theorem mem_fixedL {l : List Evt} {t i : Int} (h : i ∈ fixedL l t) : ∃ x ∈ l, x.id = i := by
  obtain ⟨x, hx, rfl⟩ := List.mem_map.1 h
  exact ⟨x, (List.mem_filter.1 hx).1, rfl⟩

theorem SurOk.sorted {N : Net} {v : Sur} (h : SurOk N v) (t : Int) (c : Nat) {l : List Int} (hl : l.Pairwise (· ≤ ·)) (hp : l.Perm (fixedL v.fixed t ++ chosen v.free c)) : l = insC N v t c := by
  obtain ⟨h1, h2⟩ := fixedL_asc h.fixed t
  refine sorted_merged h1 h.free (fun i hi => ?_) (fun i hi => ?_) (fun i hi => ?_) c hl hp
  · have := h2 i hi; omega
  · have := h.freeI i hi; omega
  · obtain ⟨x, hx, rfl⟩ := mem_fixedL hi
    exact h.apart x hx

theorem insC_asc (N : Net) (v : Sur) (t : Int) (c : Nat) : Asc (insC N v t c) := mergedT_asc _ _ _ _

theorem insC_range {N : Net} (hN : 0 ≤ N.inputs) (v : Sur) (t : Int) (c : Nat) : ∀ i ∈ insC N v t c, 0 ≤ i ∧ i < N.inputs := by
  intro i hi
  have := (mem_mergedT.1 hi).1
  omega

theorem asc_err {m : Int} : ∀ {l : List Int} {p : Option Int}, Asc l → (∀ i ∈ l, 0 ≤ i ∧ i < m) → (∀ q, p = some q → ∀ i ∈ l, q < i) → ascErr m p l = 0
  | [], p, _, _, _ => rfl
  | k :: r, p, h1, h2, h3 => by
    have g1 := List.pairwise_cons.1 h1
    have g2 := h2 k List.mem_cons_self
    have := asc_err (p := some k) g1.2 (fun i hi => h2 i (List.mem_cons_of_mem _ hi)) (fun q hq i hi => by cases hq; exact g1.1 i hi)
    unfold ascErr
    rw [if_neg (by unfold inBad; omega), if_neg, this]
    cases p with
    | none => exact fun h => h
    | some q =>
      have := h3 q rfl k List.mem_cons_self
      unfold inBehind
      omega

theorem insC_err {N : Net} (hN : 0 ≤ N.inputs) (v : Sur) (t : Int) (c : Nat) : ascErr N.inputs none (insC N v t c) = 0 :=
  asc_err (insC_asc N v t c) (insC_range hN v t c) (by simp)

theorem insC_len {N : Net} (hN : 0 ≤ N.inputs) (hm : N.inputs ≤ 256) (v : Sur) (t : Int) (c : Nat) : (insC N v t c).length ≤ 256 := by
  have := (asc_zero hN (insC_err hN v t c)).2
  omega

end Go.Proofs
