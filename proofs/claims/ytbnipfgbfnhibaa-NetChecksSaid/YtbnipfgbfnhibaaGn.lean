/- Gn: the model of networks, in plain Lean. -/
import Derived.Test.YtbnipfgbfnhibaaGm
set_option linter.unusedVariables false
namespace Go.Gm

structure Syn where
  frm : Int
  to : Int
  wt : Int
  dl : Int
  deriving DecidableEq

def Syn.wf (s : Syn) : Prop := I64 s.frm ∧ I64 s.to ∧ I64 s.wt ∧ I64 s.dl

structure Net where
  ps : List Par
  inputs : Int
  syns : List Syn
  deriving DecidableEq

structure Net.wf (n : Net) : Prop where
  ps : ∀ p ∈ n.ps, p.wf
  inputs : I64 n.inputs
  syns : ∀ s ∈ n.syns, s.wf

structure Evt where
  tick : Int
  id : Int
  deriving DecidableEq

def Evt.wf (x : Evt) : Prop := I64 x.tick ∧ I64 x.id

def srcOk (n : Net) (f : Int) : Prop := -n.inputs ≤ f ∧ f ≤ (n.ps.length : Int) - 1
instance (n : Net) (f : Int) : Decidable (srcOk n f) := by unfold srcOk; infer_instance

def synOk (n : Net) (s : Syn) : Prop := srcOk n s.frm ∧ (0 ≤ s.to ∧ s.to ≤ (n.ps.length : Int) - 1) ∧ (-32768 ≤ s.wt ∧ s.wt ≤ 32768) ∧ (1 ≤ s.dl ∧ s.dl ≤ 16)
instance (n : Net) (s : Syn) : Decidable (synOk n s) := by unfold synOk; infer_instance

/-- The first neuron's error. -/
def firstErr : List Par → Int
  | [] => 0
  | p :: r => if chk p ≠ 0 then chk p else firstErr r

def synsOk (n : Net) : List Syn → Bool
  | [] => true
  | s :: r => if synOk n s then synsOk n r else false

/-- What Check returns of a network. -/
def netchk (n : Net) : Int :=
  if n.ps.length = 0 then 2
  else if 1024 < n.ps.length ∨ 256 < n.inputs ∨ 8192 < n.syns.length then 9
  else if n.inputs < 0 then 3
  else if firstErr n.ps ≠ 0 then firstErr n.ps
  else if synsOk n n.syns then 0 else 3

theorem firstErr_drop {l : List Par} {i : Nat} {p : Par} (h : l[i]? = some p) (h0 : chk p = 0) : firstErr (l.drop i) = firstErr (l.drop (i + 1)) := by
  obtain ⟨hlt, rfl⟩ := List.getElem?_eq_some_iff.1 h
  rw [List.drop_eq_getElem_cons hlt]
  simp [firstErr, h0]

theorem firstErr_err {l : List Par} {i : Nat} {p : Par} (h : l[i]? = some p) (h0 : chk p ≠ 0) : firstErr (l.drop i) = chk p := by
  obtain ⟨hlt, rfl⟩ := List.getElem?_eq_some_iff.1 h
  rw [List.drop_eq_getElem_cons hlt]
  simp [firstErr, h0]

theorem synsOk_drop {n : Net} {l : List Syn} {i : Nat} {s : Syn} (h : l[i]? = some s) (h0 : synOk n s) : synsOk n (l.drop i) = synsOk n (l.drop (i + 1)) := by
  obtain ⟨hlt, rfl⟩ := List.getElem?_eq_some_iff.1 h
  rw [List.drop_eq_getElem_cons hlt]
  simp [synsOk, h0]

theorem synsOk_not {n : Net} {l : List Syn} {i : Nat} {s : Syn} (h : l[i]? = some s) (h0 : ¬ synOk n s) : synsOk n (l.drop i) = false := by
  obtain ⟨hlt, rfl⟩ := List.getElem?_eq_some_iff.1 h
  rw [List.drop_eq_getElem_cons hlt]
  simp [synsOk, h0]

theorem synsOk_iff {n : Net} {l : List Syn} : synsOk n l = true ↔ ∀ s ∈ l, synOk n s := by
  induction l with
  | nil => simp [synsOk]
  | cons s r ih => by_cases h : synOk n s <;> simp [synsOk, h, ih]

theorem firstErr_zero {l : List Par} : firstErr l = 0 ↔ ∀ p ∈ l, ParOk p := by
  induction l with
  | nil => simp [firstErr]
  | cons p r ih =>
    by_cases h : chk p = 0
    · simp [firstErr, h, ih, good_iff.1 h]
    · have h' : ¬ ParOk p := fun hp => h (good_iff.2 hp)
      simp [firstErr, h, h']

/-- A network that Check accepts. -/
structure NetOk (n : Net) : Prop where
  some : 0 < n.ps.length
  few : n.ps.length ≤ 1024
  inputs : 0 ≤ n.inputs ∧ n.inputs ≤ 256
  fewS : n.syns.length ≤ 8192
  ps : ∀ p ∈ n.ps, ParOk p
  syns : ∀ s ∈ n.syns, synOk n s

theorem netchk_arg {n : Net} (h : n.ps.length = 0) : netchk n = 2 := by unfold netchk; rw [if_pos h]
theorem netchk_many {n : Net} (h : n.ps.length ≠ 0) (h2 : 1024 < n.ps.length ∨ 256 < n.inputs ∨ 8192 < n.syns.length) : netchk n = 9 := by unfold netchk; rw [if_neg h, if_pos h2]
theorem netchk_range {n : Net} (h : n.ps.length ≠ 0) (h2 : ¬ (1024 < n.ps.length ∨ 256 < n.inputs ∨ 8192 < n.syns.length)) (h3 : n.inputs < 0) : netchk n = 3 := by unfold netchk; rw [if_neg h, if_neg h2, if_pos h3]
theorem netchk_par {n : Net} (h : n.ps.length ≠ 0) (h2 : ¬ (1024 < n.ps.length ∨ 256 < n.inputs ∨ 8192 < n.syns.length)) (h3 : ¬ n.inputs < 0) (h4 : firstErr n.ps ≠ 0) : netchk n = firstErr n.ps := by
  unfold netchk; rw [if_neg h, if_neg h2, if_neg h3, if_pos h4]
theorem netchk_syn {n : Net} (h : n.ps.length ≠ 0) (h2 : ¬ (1024 < n.ps.length ∨ 256 < n.inputs ∨ 8192 < n.syns.length)) (h3 : ¬ n.inputs < 0) (h4 : firstErr n.ps = 0) : netchk n = if synsOk n n.syns then 0 else 3 := by
  unfold netchk; rw [if_neg h, if_neg h2, if_neg h3, if_neg (by simp [h4])]

theorem netchk_zero {n : Net} : netchk n = 0 ↔ NetOk n := by
  unfold netchk
  constructor
  · intro h
    split at h
    · cases h
    · split at h
      · cases h
      · split at h
        · cases h
        · split at h
          · contradiction
          · split at h
            · rename_i h1 h2 h3 h4 h5
              simp only [ne_eq, Decidable.not_not] at h4
              exact ⟨by omega, by omega, by omega, by omega, firstErr_zero.1 h4, synsOk_iff.1 h5⟩
            · cases h
  · rintro ⟨h1, h2, h3, h4, h5, h6⟩
    rw [if_neg (by omega), if_neg (by omega), if_neg (by omega), if_neg (by simpa using firstErr_zero.2 h5), if_pos (synsOk_iff.2 h6)]

/-! ### Synapses by their sources -/

def wireAdd : List (Int × List Syn) → Syn → List (Int × List Syn)
  | [], s => [(s.frm, [s])]
  | x :: r, s => if x.1 = s.frm then (x.1, x.2 ++ [s]) :: r else x :: wireAdd r s

def wire (l : List Syn) : List (Int × List Syn) := l.foldl wireAdd []

def wfind : List (Int × List Syn) → Int → List Syn
  | [], _ => []
  | x :: r, k => if x.1 = k then x.2 else wfind r k

theorem wfind_add (m : List (Int × List Syn)) (s : Syn) (k : Int) : wfind (wireAdd m s) k = wfind m k ++ (if s.frm = k then [s] else []) := by
  induction m with
  | nil => by_cases h : s.frm = k <;> simp [wireAdd, wfind, h]
  | cons x r ih =>
    obtain ⟨a, l⟩ := x
    by_cases h : a = s.frm
    · subst h
      by_cases h2 : s.frm = k
      · simp [wireAdd, wfind, h2]
      · simp [wireAdd, wfind, h2]
    · by_cases h3 : a = k
      · have h2 : ¬ s.frm = k := fun e => h (h3.trans e.symm)
        simp only [wireAdd, if_neg h, wfind, if_pos h3, if_neg h2, List.append_nil]
      · simp only [wireAdd, if_neg h, wfind, if_neg h3, ih]

theorem wfind_wire (l : List Syn) (k : Int) : wfind (wire l) k = l.filter (fun s => s.frm = k) := by
  have : ∀ (l : List Syn) (m : List (Int × List Syn)), wfind (l.foldl wireAdd m) k = wfind m k ++ l.filter (fun s => s.frm = k) := by
    intro l
    induction l with
    | nil => intro m; simp
    | cons s r ih =>
      intro m
      rw [List.foldl_cons, ih, wfind_add]
      by_cases h : s.frm = k <;> simp [h]
  simpa [wire, wfind] using this l []

theorem wire_take {l : List Syn} {i : Nat} {s : Syn} (h : l[i]? = some s) : wire (l.take (i + 1)) = wireAdd (wire (l.take i)) s := by
  obtain ⟨hlt, rfl⟩ := List.getElem?_eq_some_iff.1 h
  simp only [wire, List.take_add_one, h, Option.toList_some, List.foldl_append, List.foldl_cons, List.foldl_nil]

/-! ### Events -/

/-- An event's error, behind another one. -/
def evBad (inputs limit : Int) (x : Evt) : Prop := ¬ (0 ≤ x.tick ∧ x.tick ≤ limit - 1) ∨ ¬ (0 ≤ x.id ∧ x.id ≤ inputs - 1)
instance (a b : Int) (x : Evt) : Decidable (evBad a b x) := by unfold evBad; infer_instance

def evLate (p x : Evt) : Prop := x.tick < p.tick ∨ (x.tick = p.tick ∧ x.id ≤ p.id)
instance (p x : Evt) : Decidable (evLate p x) := by unfold evLate; infer_instance

def evBehind (x : Evt) : Option Evt → Prop
  | none => False
  | some p => evLate p x
instance (x : Evt) (p : Option Evt) : Decidable (evBehind x p) := by cases p <;> (unfold evBehind; infer_instance)

def ordErr (inputs limit : Int) : Option Evt → List Evt → Int
  | _, [] => 0
  | p, x :: r => if evBad inputs limit x then 3 else if evBehind x p then 2 else ordErr inputs limit (some x) r

def prevOf {α : Type} (l : List α) : Nat → Option α
  | 0 => none
  | i + 1 => l[i]?

/-- What ordered returns. -/
def evErr (inputs limit : Int) (l : List Evt) : Int := if 65536 < l.length then 9 else ordErr inputs limit none l

theorem ordErr_bad {inputs limit : Int} {l : List Evt} {i : Nat} {x : Evt} {p : Option Evt} (h : l[i]? = some x) (hb : evBad inputs limit x) : ordErr inputs limit p (l.drop i) = 3 := by
  obtain ⟨hlt, rfl⟩ := List.getElem?_eq_some_iff.1 h
  rw [List.drop_eq_getElem_cons hlt]; simp [ordErr, hb]
theorem ordErr_late {inputs limit : Int} {l : List Evt} {i : Nat} {x : Evt} {p : Option Evt} (h : l[i]? = some x) (hb : ¬ evBad inputs limit x) (hl : evBehind x p) : ordErr inputs limit p (l.drop i) = 2 := by
  obtain ⟨hlt, rfl⟩ := List.getElem?_eq_some_iff.1 h
  rw [List.drop_eq_getElem_cons hlt]; simp [ordErr, hb, hl]
theorem ordErr_next {inputs limit : Int} {l : List Evt} {i : Nat} {x : Evt} {p : Option Evt} (h : l[i]? = some x) (hb : ¬ evBad inputs limit x) (hl : ¬ evBehind x p) : ordErr inputs limit p (l.drop i) = ordErr inputs limit (prevOf l (i + 1)) (l.drop (i + 1)) := by
  have h' := h
  obtain ⟨hlt, rfl⟩ := List.getElem?_eq_some_iff.1 h
  rw [List.drop_eq_getElem_cons hlt]; simp [ordErr, hb, hl, prevOf, h']

/-- One event is before another one. -/
def evLt (p x : Evt) : Prop := p.tick < x.tick ∨ (p.tick = x.tick ∧ p.id < x.id)

theorem evLate_iff {p x : Evt} : ¬ evLate p x ↔ evLt p x := by unfold evLate evLt; omega

/-- Events that ordered accepts. -/
structure EvOk (inputs limit : Int) (l : List Evt) : Prop where
  few : l.length ≤ 65536
  range : ∀ x ∈ l, (0 ≤ x.tick ∧ x.tick < limit) ∧ (0 ≤ x.id ∧ x.id < inputs)
  sorted : l.Pairwise evLt

theorem ordErr_zero {inputs limit : Int} : ∀ (l : List Evt) (p : Option Evt), ordErr inputs limit p l = 0 ↔
    (∀ x ∈ l, (0 ≤ x.tick ∧ x.tick < limit) ∧ (0 ≤ x.id ∧ x.id < inputs)) ∧ l.Pairwise evLt ∧ (∀ q, p = some q → ∀ x ∈ l, evLt q x)
  | [], p => by simp [ordErr]
  | x :: r, p => by
    have ih := ordErr_zero (inputs := inputs) (limit := limit) r (some x)
    unfold ordErr
    by_cases hb : evBad inputs limit x
    · simp only [hb, if_true]
      refine ⟨fun h => (by cases h), fun ⟨h1, _⟩ => ?_⟩
      have := h1 x (by simp)
      unfold evBad at hb
      omega
    · simp only [hb, if_false]
      by_cases hl : evBehind x p
      · simp only [hl, if_true]
        refine ⟨fun h => (by cases h), fun ⟨_, _, h3⟩ => ?_⟩
        cases p with
        | none => exact hl.elim
        | some q => exact absurd hl (evLate_iff.2 (h3 q rfl x (by simp)))
      · simp only [hl, if_false]
        rw [ih]
        simp only [List.mem_cons, forall_eq_or_imp, List.pairwise_cons, Option.some.injEq, forall_eq']
        have hb' : (0 ≤ x.tick ∧ x.tick < limit) ∧ (0 ≤ x.id ∧ x.id < inputs) := by unfold evBad at hb; omega
        constructor
        · rintro ⟨h1, h2, h3⟩
          refine ⟨⟨hb', h1⟩, ⟨h3, h2⟩, fun q hq => ?_⟩
          subst hq
          have hqx : evLt q x := evLate_iff.1 hl
          refine ⟨hqx, fun y hy => ?_⟩
          have := h3 y hy
          unfold evLt at *
          omega
        · rintro ⟨⟨_, h1⟩, ⟨h3, h2⟩, _⟩
          exact ⟨h1, h2, h3⟩

theorem evErr_zero {inputs limit : Int} {l : List Evt} : evErr inputs limit l = 0 ↔ EvOk inputs limit l := by
  unfold evErr
  constructor
  · intro h
    split at h
    · cases h
    · obtain ⟨h1, h2, _⟩ := (ordErr_zero l none).1 h
      exact ⟨by omega, h1, h2⟩
  · rintro ⟨h1, h2, h3⟩
    rw [if_neg (by omega)]
    exact (ordErr_zero l none).2 ⟨h2, h3, by simp⟩

/-! ### Inputs of a tick -/
def inBad (inputs k : Int) : Prop := ¬ (0 ≤ k ∧ k ≤ inputs - 1)
instance (a k : Int) : Decidable (inBad a k) := by unfold inBad; infer_instance
def inBehind (k : Int) : Option Int → Prop
  | none => False
  | some p => k ≤ p
instance (x : Int) (p : Option Int) : Decidable (inBehind x p) := by cases p <;> (unfold inBehind; infer_instance)

/-- What ascending returns. -/
def ascErr (inputs : Int) : Option Int → List Int → Int
  | _, [] => 0
  | p, k :: r => if inBad inputs k then 3 else if inBehind k p then 2 else ascErr inputs (some k) r

theorem ascErr_bad {inputs : Int} {l : List Int} {i : Nat} {x : Int} {p : Option Int} (h : l[i]? = some x) (hb : inBad inputs x) : ascErr inputs p (l.drop i) = 3 := by
  obtain ⟨hlt, rfl⟩ := List.getElem?_eq_some_iff.1 h
  rw [List.drop_eq_getElem_cons hlt]; simp [ascErr, hb]
theorem ascErr_late {inputs : Int} {l : List Int} {i : Nat} {x : Int} {p : Option Int} (h : l[i]? = some x) (hb : ¬ inBad inputs x) (hl : inBehind x p) : ascErr inputs p (l.drop i) = 2 := by
  obtain ⟨hlt, rfl⟩ := List.getElem?_eq_some_iff.1 h
  rw [List.drop_eq_getElem_cons hlt]; simp [ascErr, hb, hl]
theorem ascErr_next {inputs : Int} {l : List Int} {i : Nat} {x : Int} {p : Option Int} (h : l[i]? = some x) (hb : ¬ inBad inputs x) (hl : ¬ inBehind x p) : ascErr inputs p (l.drop i) = ascErr inputs (prevOf l (i + 1)) (l.drop (i + 1)) := by
  have h' := h
  obtain ⟨hlt, rfl⟩ := List.getElem?_eq_some_iff.1 h
  rw [List.drop_eq_getElem_cons hlt]; simp [ascErr, hb, hl, prevOf, h']

/-! ### A tick of a network -/

/-- int's sum. -/
def wadd (a b : Int) : Int := (a + b + 9223372036854775808) % 18446744073709551616 - 9223372036854775808

def fire : List Par → List Sta → List Int → List (Sta × Bool)
  | p :: ps, s :: ss, x :: xs => tick p s x :: fire ps ss xs
  | _, _, _ => []

/-- The numbers, from k on, of those that fired. -/
def spkFrom : Nat → List (Sta × Bool) → List Int
  | _, [] => []
  | k, x :: r => if x.2 then (k : Int) :: spkFrom (k + 1) r else spkFrom (k + 1) r

def spk (F : List (Sta × Bool)) : List Int := spkFrom 0 F

theorem fire_length {ps : List Par} {ss : List Sta} {xs : List Int} (h1 : ss.length = ps.length) (h2 : xs.length = ps.length) : (fire ps ss xs).length = ps.length := by
  induction ps generalizing ss xs with
  | nil => cases ss <;> cases xs <;> simp_all [fire]
  | cons p ps ih =>
    cases ss with
    | nil => simp at h1
    | cons s ss =>
      cases xs with
      | nil => simp at h2
      | cons x xs => simp only [fire, List.length_cons] at *; rw [ih (by omega) (by omega)]

theorem fire_get {ps : List Par} {ss : List Sta} {xs : List Int} {i : Nat} {p : Par} {s : Sta} {x : Int} (h1 : ps[i]? = some p) (h2 : ss[i]? = some s) (h3 : xs[i]? = some x) : (fire ps ss xs)[i]? = some (tick p s x) := by
  induction ps generalizing ss xs i with
  | nil => simp at h1
  | cons q ps ih =>
    cases ss with
    | nil => simp at h2
    | cons s' ss =>
      cases xs with
      | nil => simp at h3
      | cons x' xs =>
        cases i with
        | zero => simp_all [fire]
        | succ i => simp only [fire, List.getElem?_cons_succ] at *; exact ih h1 h2 h3

theorem spkFrom_append (F G : List (Sta × Bool)) (k : Nat) : spkFrom k (F ++ G) = spkFrom k F ++ spkFrom (k + F.length) G := by
  induction F generalizing k with
  | nil => simp [spkFrom]
  | cons x F ih =>
    simp only [List.cons_append, spkFrom, List.length_cons, ih]
    have : k + 1 + F.length = k + (F.length + 1) := by omega
    rw [this]
    split <;> simp

theorem spk_take {F : List (Sta × Bool)} {i : Nat} {x : Sta × Bool} (h : F[i]? = some x) : spk (F.take (i + 1)) = spk (F.take i) ++ (if x.2 then [(i : Int)] else []) := by
  obtain ⟨hlt, rfl⟩ := List.getElem?_eq_some_iff.1 h
  unfold spk
  rw [List.take_add_one, h, Option.toList_some, spkFrom_append]
  have : (F.take i).length = i := by rw [List.length_take]; omega
  rw [this]
  simp [spkFrom]

theorem spkFrom_length (F : List (Sta × Bool)) (k : Nat) : (spkFrom k F).length ≤ F.length := by
  induction F generalizing k with
  | nil => simp [spkFrom]
  | cons x F ih =>
    have := ih (k + 1)
    simp only [spkFrom]
    split <;> simp <;> omega

theorem spk_length (F : List (Sta × Bool)) (i : Nat) : (spk (F.take i)).length ≤ i := by
  have h1 := spkFrom_length (F.take i) 0
  have h2 : (F.take i).length ≤ i := by rw [List.length_take]; omega
  unfold spk
  omega

/-- The states in the middle of a tick. -/
def mids (F : List (Sta × Bool)) (ss : List Sta) (i : Nat) : List Sta := (F.take i).map (·.1) ++ ss.drop i

theorem mids_set {F : List (Sta × Bool)} {ss : List Sta} {i : Nat} {x : Sta × Bool} (h : F[i]? = some x) (hl : F.length = ss.length) : (mids F ss i).set i x.1 = mids F ss (i + 1) := by
  obtain ⟨hlt, rfl⟩ := List.getElem?_eq_some_iff.1 h
  have hi : ((F.take i).map (·.1)).length = i := by simp; omega
  unfold mids
  rw [List.set_append_right _ _ (by omega), hi, Nat.sub_self, List.drop_eq_getElem_cons (by omega), List.set_cons_zero, List.take_add_one, h, Option.toList_some, List.map_append, List.append_assoc]
  rfl

theorem mids_get {F : List (Sta × Bool)} {ss : List Sta} {i : Nat} (hl : F.length = ss.length) (hi : i < ss.length) : (mids F ss i)[i]? = ss[i]? := by
  have h1 : ((F.take i).map (·.1)).length = i := by simp; omega
  unfold mids
  rw [List.getElem?_append_right (by omega), h1, Nat.sub_self, List.getElem?_drop]
  simp

theorem mids_length {F : List (Sta × Bool)} {ss : List Sta} {i : Nat} (hl : F.length = ss.length) (hi : i ≤ ss.length) : (mids F ss i).length = ss.length := by
  unfold mids
  simp
  omega

/-- What a synapse adds to what is due. -/
def due1 (t : Nat) (D : List (List Int)) (s : Syn) : List (List Int) :=
  D.modify ((t + s.dl.toNat) % 16) fun l => l.modify s.to.toNat fun a => wadd a s.wt

def yields (W : List (Int × List Syn)) (srcs : List Int) : List Syn := srcs.flatMap (wfind W)

end Go.Gm
