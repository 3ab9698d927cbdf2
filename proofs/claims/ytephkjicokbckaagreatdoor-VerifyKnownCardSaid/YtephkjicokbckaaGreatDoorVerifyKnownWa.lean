import Derived.Test.YtephkjicokbckaaGreatDoorVerifyKnownGa
set_option linter.unusedVariables false

set_option linter.unusedSimpArgs false

namespace Go.Gm

structure Sp where
  lo : Int
  hi : Int
  deriving DecidableEq

def Sp.jn (a b : Sp) : Sp := ⟨min a.lo b.lo, max a.hi b.hi⟩

def jo : Option Sp → Option Sp → Option Sp
  | none, b => b
  | some a, none => some a
  | some a, some b => some (a.jn b)

theorem jn_comm (a b : Sp) : a.jn b = b.jn a := by
  unfold Sp.jn
  rw [Int.min_comm, Int.max_comm]

theorem jn_assoc (a b c : Sp) : (a.jn b).jn c = a.jn (b.jn c) := by
  unfold Sp.jn
  rw [Int.min_assoc, Int.max_assoc]

theorem none_jo (a : Option Sp) : jo none a = a := rfl

theorem jo_none (a : Option Sp) : jo a none = a := by cases a <;> rfl

theorem jo_comm (a b : Option Sp) : jo a b = jo b a := by cases a <;> cases b <;> simp [jo, jn_comm]

theorem jo_assoc (a b c : Option Sp) : jo (jo a b) c = jo a (jo b c) := by cases a <;> cases b <;> cases c <;> simp [jo, jn_assoc]

theorem jo_left (a b c : Option Sp) : jo a (jo b c) = jo b (jo a c) := by rw [← jo_assoc, jo_comm a b, jo_assoc]

def cget (C : List (Option Sp)) (k : Int) : Option Sp := if 0 ≤ k then (C[k.toNat]?).join else none

theorem cget_nat (C : List (Option Sp)) (k : Nat) : cget C (k : Int) = (C[k]?).join := by
  unfold cget
  rw [if_pos (by omega), Int.toNat_natCast]

theorem cget_neg {C : List (Option Sp)} {k : Int} (h : k < 0) : cget C k = none := by
  unfold cget
  rw [if_neg (by omega)]

theorem cget_big {C : List (Option Sp)} {k : Int} (h : (C.length : Int) ≤ k) : cget C k = none := by
  unfold cget
  rw [if_pos (by omega), List.getElem?_eq_none (by omega)]; rfl

theorem cget_some {C : List (Option Sp)} {k : Int} {s : Sp} (h : cget C k = some s) : 0 ≤ k ∧ k < C.length ∧ C[k.toNat]? = some (some s) := by
  unfold cget at h
  split at h
  · rename_i hk
    cases hc : C[k.toNat]? with
    | none => rw [hc] at h; cases h
    | some x =>
      rw [hc] at h
      have hlt := (List.getElem?_eq_some_iff.1 hc).1
      refine ⟨hk, by omega, ?_⟩
      cases x with
      | none => cases h
      | some y => exact congrArg _ h
  · cases h

def tlo (p : Par) (d s : Sp) : Int := max p.fl (min 1048576 (leak p s.lo + d.lo + p.bias))

def thi (p : Par) (d s : Sp) : Int := max p.fl (min 1048576 (leak p s.hi + d.hi + p.bias))

def stayC (p : Par) (d s : Sp) : Option Sp := if tlo p d s < p.th then some ⟨tlo p d s, min (thi p d s) (p.th - 1)⟩ else none

def spikeS (p : Par) (d s : Sp) : Sp := if p.rk = 1 then ⟨max (tlo p d s) p.th - p.th, thi p d s - p.th⟩ else ⟨p.rs, p.rs⟩

def spikeC (p : Par) (d s : Sp) : Option Sp := if thi p d s < p.th then none else some (spikeS p d s)

def contr0 (p : Par) (d s : Sp) (r : Int) : Option Sp := jo (if r = 0 then stayC p d s else none) (if r = p.rest then spikeC p d s else none)

def contrO (p : Par) (d : Sp) : Option Sp → Int → Option Sp
  | none, _ => none
  | some s, r => contr0 p d s r

def caseAt (p : Par) (C : List (Option Sp)) (d : Sp) (r : Int) : Option Sp := jo (cget C (r + 1)) (contrO p d (cget C 0) r)

def tickC (p : Par) (C : List (Option Sp)) (d : Sp) : List (Option Sp) := (List.range C.length).map fun (r : Nat) => caseAt p C d (r : Int)

def rests (C : List (Option Sp)) : Prop := ∃ k : Int, 0 < k ∧ cget C k ≠ none

theorem rests_iff {C : List (Option Sp)} : rests C ↔ ∃ j, 1 ≤ j ∧ j < C.length ∧ ∃ s, C[j]? = some (some s) := by
  constructor
  · rintro ⟨k, hk, h⟩
    cases hc : cget C k with
    | none => exact absurd hc h
    | some s =>
      obtain ⟨h1, h2, h3⟩ := cget_some hc
      exact ⟨k.toNat, by omega, by omega, s, h3⟩
  · rintro ⟨j, h1, h2, s, h3⟩
    refine ⟨(j : Int), by omega, ?_⟩
    rw [cget_nat, h3]
    simp

def restsB (C : List (Option Sp)) : Bool := (C.drop 1).any fun x => x.isSome

theorem restsB_iff {C : List (Option Sp)} : restsB C = true ↔ rests C := by
  rw [rests_iff]
  unfold restsB
  rw [List.any_eq_true]
  constructor
  · rintro ⟨x, hx, h⟩
    obtain ⟨i, hi⟩ := List.getElem?_of_mem hx
    rw [List.getElem?_drop] at hi
    obtain ⟨s, rfl⟩ := Option.isSome_iff_exists.1 h
    exact ⟨1 + i, by omega, (List.getElem?_eq_some_iff.1 hi).1, s, hi⟩
  · rintro ⟨j, h1, h2, s, h3⟩
    refine ⟨some s, List.mem_of_getElem? (i := j - 1) ?_, rfl⟩
    rw [List.getElem?_drop, show 1 + (j - 1) = j by omega, h3]

def tickV (p : Par) (C : List (Option Sp)) (d : Sp) : Int :=
  match cget C 0 with
  | none => 0
  | some s => if thi p d s < p.th then 0 else if restsB C = true ∨ tlo p d s < p.th then 1 else 2

theorem tickC_len (p : Par) (C : List (Option Sp)) (d : Sp) : (tickC p C d).length = C.length := by simp [tickC]

theorem tickC_get {p : Par} {C : List (Option Sp)} {d : Sp} {r : Nat} (h : r < C.length) : (tickC p C d)[r]? = some (caseAt p C d r) := by
  unfold tickC
  rw [List.getElem?_map, List.getElem?_range h]; rfl

def gotAt (p : Par) (C : List (Option Sp)) (d : Sp) (ks : List Int) (r : Int) : Option Sp :=
  jo (if 0 ≤ r ∧ r + 1 ∈ ks then cget C (r + 1) else none) (if 0 ∈ ks then contrO p d (cget C 0) r else none)

theorem gotAt_nil (p : Par) (C : List (Option Sp)) (d : Sp) (r : Int) : gotAt p C d [] r = none := by simp [gotAt, jo]

theorem gotAt_move {p : Par} {C : List (Option Sp)} {d : Sp} {ks : List Int} {k : Int} {s : Sp} (hk : 0 < k) (hn : k ∉ ks) (hs : cget C k = some s) (r : Int) :
    gotAt p C d (k :: ks) r = if r = k - 1 then jo (some s) (gotAt p C d ks r) else gotAt p C d ks r := by
  unfold gotAt
  have e0 : ((0 : Int) ∈ k :: ks) = (0 ∈ ks) := by
    simp only [List.mem_cons, eq_iff_iff]
    constructor
    · rintro (h | h)
      · omega
      · exact h
    · exact .inr
  simp only [e0]
  by_cases hr : r = k - 1
  · subst hr
    have e1 : k - 1 + 1 = k := by omega
    rw [if_pos (rfl : k - 1 = k - 1), e1, if_pos ⟨by omega, List.mem_cons_self⟩, if_neg (fun h : 0 ≤ k - 1 ∧ k ∈ ks => hn h.2), none_jo, hs]
  · rw [if_neg hr]
    have e1 : (0 ≤ r ∧ r + 1 ∈ k :: ks) = (0 ≤ r ∧ r + 1 ∈ ks) := by
      simp only [List.mem_cons, eq_iff_iff]
      constructor
      · rintro ⟨h1, h | h⟩
        · omega
        · exact ⟨h1, h⟩
      · rintro ⟨h1, h⟩; exact ⟨h1, .inr h⟩
    simp only [e1]

theorem gotAt_zero {p : Par} {C : List (Option Sp)} {d : Sp} {ks : List Int} {s : Sp} (hn : (0 : Int) ∉ ks) (hs : cget C 0 = some s) (r : Int) :
    gotAt p C d (0 :: ks) r = jo (if r = p.rest then spikeC p d s else none) (jo (if r = 0 then stayC p d s else none) (gotAt p C d ks r)) := by
  unfold gotAt
  rw [if_pos (List.mem_cons_self), if_neg hn, jo_none, hs]
  have e1 : (0 ≤ r ∧ r + 1 ∈ 0 :: ks) = (0 ≤ r ∧ r + 1 ∈ ks) := by
    simp only [List.mem_cons, eq_iff_iff]
    constructor
    · rintro ⟨h1, h | h⟩
      · omega
      · exact ⟨h1, h⟩
    · rintro ⟨h1, h⟩; exact ⟨h1, .inr h⟩
  simp only [e1, contrO, contr0]
  rw [jo_comm, jo_assoc, jo_left]

theorem gotAt_all {p : Par} {C : List (Option Sp)} {d : Sp} {ks : List Int} (hp : ParOk p) (hC : (C.length : Int) = p.rest + 1) (hall : ∀ k, cget C k ≠ none → k ∈ ks) (r : Int) :
    gotAt p C d ks r = cget (tickC p C d) r := by
  have hrest := hp.rest
  unfold gotAt
  have e0 : (if (0 : Int) ∈ ks then contrO p d (cget C 0) r else none) = contrO p d (cget C 0) r := by
    split
    · rfl
    · rename_i h
      have : cget C 0 = none := by
        cases hc : cget C 0 with
        | none => rfl
        | some s => exact absurd (hall 0 (by rw [hc]; simp)) h
      rw [this]; rfl
  rw [e0]
  have hneg : ∀ q : Option Sp, ¬ (0 ≤ r ∧ r < C.length) → contrO p d q r = none := by
    intro q hq
    cases q with
    | none => rfl
    | some s =>
      show contr0 p d s r = none
      unfold contr0
      rw [if_neg (by omega), if_neg (by omega)]; rfl
  by_cases hr : 0 ≤ r ∧ r < C.length
  · obtain ⟨n, rfl⟩ : ∃ n : Nat, r = n := ⟨r.toNat, by omega⟩
    rw [cget_nat, tickC_get (by omega)]
    show _ = caseAt p C d n
    unfold caseAt
    congr 1
    split
    · rfl
    · rename_i h
      cases hc : cget C ((n : Int) + 1) with
      | none => rfl
      | some s => exact absurd ⟨hr.1, hall _ (by rw [hc]; simp)⟩ h
  · rw [hneg _ hr, jo_none]
    have e : cget (tickC p C d) r = none := by
      by_cases h0 : 0 ≤ r
      · exact cget_big (by rw [tickC_len]; omega)
      · exact cget_neg (by omega)
    rw [e]
    split
    · rename_i h
      exact cget_big (by omega)
    · rfl

structure CellOk (p : Par) (C : List (Option Sp)) : Prop where
  len : (C.length : Int) = p.rest + 1
  sp : ∀ s, some s ∈ C → (-1048576 ≤ s.lo ∧ s.lo ≤ 1048576) ∧ (-1048576 ≤ s.hi ∧ s.hi ≤ 1048576)

theorem CellOk.get {p : Par} {C : List (Option Sp)} (h : CellOk p C) {k : Int} {s : Sp} (hs : cget C k = some s) : (-1048576 ≤ s.lo ∧ s.lo ≤ 1048576) ∧ (-1048576 ≤ s.hi ∧ s.hi ≤ 1048576) :=
  h.sp s (List.mem_of_getElem? (cget_some hs).2.2)

def SpIn (s : Sp) : Prop := (-1048576 ≤ s.lo ∧ s.lo ≤ 1048576) ∧ (-1048576 ≤ s.hi ∧ s.hi ≤ 1048576)

theorem jo_in {a b : Option Sp} (ha : ∀ s, a = some s → SpIn s) (hb : ∀ s, b = some s → SpIn s) : ∀ s, jo a b = some s → SpIn s := by
  intro s hs
  cases a with
  | none => exact hb s hs
  | some x =>
    cases b with
    | none => exact ha s hs
    | some y =>
      have h1 := ha x rfl
      have h2 := hb y rfl
      simp only [jo, Option.some.injEq] at hs
      subst hs
      unfold SpIn Sp.jn at *
      dsimp only
      omega

theorem tlo_in {p : Par} (hp : ParOk p) (d s : Sp) : p.fl ≤ tlo p d s ∧ tlo p d s ≤ 1048576 := by
  have := hp.fl
  unfold tlo; omega

theorem thi_in {p : Par} (hp : ParOk p) (d s : Sp) : p.fl ≤ thi p d s ∧ thi p d s ≤ 1048576 := by
  have := hp.fl
  unfold thi; omega

theorem stayC_in {p : Par} (hp : ParOk p) (d s : Sp) : ∀ x, stayC p d s = some x → SpIn x := by
  intro x hx
  have h1 := tlo_in hp d s
  have h2 := thi_in hp d s
  have h3 := hp.fl
  have h4 := hp.th
  unfold stayC at hx
  split at hx
  · cases hx
    unfold SpIn
    dsimp only
    omega
  · cases hx

theorem spikeS_in {p : Par} (hp : ParOk p) (d s : Sp) (h : ¬ thi p d s < p.th) : SpIn (spikeS p d s) := by
  have h1 := tlo_in hp d s
  have h2 := thi_in hp d s
  have h3 := hp.fl
  have h4 := hp.th
  have h5 := hp.rs
  unfold spikeS SpIn
  split
  · dsimp only; omega
  · dsimp only; omega

theorem spikeC_in {p : Par} (hp : ParOk p) (d s : Sp) : ∀ x, spikeC p d s = some x → SpIn x := by
  intro x hx
  unfold spikeC at hx
  split at hx
  · cases hx
  · cases hx
    exact spikeS_in hp d s ‹_›

theorem caseAt_in {p : Par} (hp : ParOk p) {C : List (Option Sp)} (hC : CellOk p C) (d : Sp) (r : Int) : ∀ s, caseAt p C d r = some s → SpIn s := by
  unfold caseAt
  refine jo_in (fun s hs => hC.get hs) ?_
  cases cget C 0 with
  | none => intro s hs; cases hs
  | some x =>
    show ∀ s, contr0 p d x r = some s → SpIn s
    unfold contr0
    refine jo_in (fun s hs => ?_) (fun s hs => ?_)
    · split at hs
      · exact stayC_in hp d x s hs
      · cases hs
    · split at hs
      · exact spikeC_in hp d x s hs
      · cases hs

theorem CellOk.tick {p : Par} (hp : ParOk p) {C : List (Option Sp)} (hC : CellOk p C) (d : Sp) : CellOk p (tickC p C d) := by
  refine ⟨by rw [tickC_len]; exact hC.len, fun s hs => ?_⟩
  unfold tickC at hs
  obtain ⟨r, _, hr⟩ := List.mem_map.1 hs
  exact caseAt_in hp hC d r s hr

def cell0 (p : Par) : List (Option Sp) := some ⟨0, 0⟩ :: List.replicate p.rest.toNat none

theorem cell0_ok {p : Par} (hp : ParOk p) : CellOk p (cell0 p) := by
  have := hp.rest
  refine ⟨by simp [cell0]; omega, fun s hs => ?_⟩
  unfold cell0 at hs
  rcases List.mem_cons.1 hs with h | h
  · cases h; simp
  · have := (List.mem_replicate.1 h).2
    cases this

theorem cell0_get (p : Par) (k : Int) : cget (cell0 p) k = if k = 0 then some ⟨0, 0⟩ else none := by
  by_cases h : k = 0
  · subst h; rfl
  · rw [if_neg h]
    by_cases h0 : 0 ≤ k
    · obtain ⟨n, rfl⟩ : ∃ n : Nat, k = n := ⟨k.toNat, by omega⟩
      obtain ⟨m, rfl⟩ : ∃ m, n = m + 1 := ⟨n - 1, by omega⟩
      rw [cget_nat]
      unfold cell0
      rw [List.getElem?_cons_succ, List.getElem?_replicate]
      split <;> rfl
    · exact cget_neg (by omega)

def addV (v w : Int) (s : Sp) : Sp := if v = 2 then ⟨s.lo + w, s.hi + w⟩ else if v = 1 then ⟨s.lo + min 0 w, s.hi + max 0 w⟩ else s

def sentV (sure may : List Evt) (out : List (List Int)) (frm t : Int) : Int :=
  if t < 0 then 0 else if 0 ≤ frm then ((out[t.toNat]?.getD [])[frm.toNat]?).getD 0
  else if (⟨t, -1 - frm⟩ : Evt) ∈ sure then 2 else if (⟨t, -1 - frm⟩ : Evt) ∈ may then 1 else 0

def inOne (f : Syn → Int) (X : List Sp) (s : Syn) : List Sp := X.modify s.to.toNat (addV (f s) s.wt)

def insV (N : Net) (f : Syn → Int) (j : Nat) : List Sp := (N.syns.take j).foldl (inOne f) (List.replicate N.ps.length ⟨0, 0⟩)

theorem insV_zero (N : Net) (f : Syn → Int) : insV N f 0 = List.replicate N.ps.length ⟨0, 0⟩ := rfl

theorem insV_step {N : Net} {f : Syn → Int} {j : Nat} {s : Syn} (h : N.syns[j]? = some s) : insV N f (j + 1) = (insV N f j).modify s.to.toNat (addV (f s) s.wt) := by
  unfold insV
  rw [List.take_add_one, h, Option.toList_some, List.foldl_append]; rfl

theorem insV_len (N : Net) (f : Syn → Int) (j : Nat) : (insV N f j).length = N.ps.length := by
  unfold insV
  generalize hX : List.replicate N.ps.length (⟨0, 0⟩ : Sp) = X
  have hl : X.length = N.ps.length := by rw [← hX]; simp
  clear hX
  generalize N.syns.take j = l
  induction l generalizing X with
  | nil => exact hl
  | cons s l ih => rw [List.foldl_cons]; exact ih _ (by simp [inOne, hl])

theorem addV_in {v w B : Int} {s : Sp} (hw : -32768 ≤ w ∧ w ≤ 32768) (h : (-B ≤ s.lo ∧ s.lo ≤ B) ∧ (-B ≤ s.hi ∧ s.hi ≤ B)) :
    (-(B + 32768) ≤ (addV v w s).lo ∧ (addV v w s).lo ≤ B + 32768) ∧ (-(B + 32768) ≤ (addV v w s).hi ∧ (addV v w s).hi ≤ B + 32768) := by
  unfold addV
  split
  · dsimp only; omega
  · split
    · dsimp only; omega
    · omega

theorem insV_in {N : Net} {f : Syn → Int} (hw : ∀ s ∈ N.syns, -32768 ≤ s.wt ∧ s.wt ≤ 32768) : ∀ {j : Nat}, j ≤ N.syns.length → ∀ s ∈ insV N f j, (-(32768 * (j : Int)) ≤ s.lo ∧ s.lo ≤ 32768 * (j : Int)) ∧ (-(32768 * (j : Int)) ≤ s.hi ∧ s.hi ≤ 32768 * (j : Int))
  | 0, _, s, hs => by
    rw [insV_zero] at hs
    have := (List.mem_replicate.1 hs).2
    subst this
    simp
  | j + 1, hj, s, hs => by
    obtain ⟨y, hy⟩ : ∃ y, N.syns[j]? = some y := ⟨N.syns[j]'(by omega), List.getElem?_eq_getElem _⟩
    rw [insV_step hy] at hs
    obtain ⟨i, hi⟩ := List.getElem?_of_mem hs
    rw [List.getElem?_modify] at hi
    cases hx : (insV N f j)[i]? with
    | none => rw [hx] at hi; simp at hi
    | some x =>
      have h1 := insV_in hw (j := j) (by omega) x (List.mem_of_getElem? hx)
      have h2 := addV_in (v := f y) (hw y (List.mem_of_getElem? hy)) h1
      rw [hx] at hi
      have hi : some (if y.to.toNat = i then addV (f y) y.wt x else x) = some s := hi
      by_cases hji : y.to.toNat = i
      · rw [if_pos hji] at hi
        have e : addV (f y) y.wt x = s := Option.some.inj hi
        rw [← e]; omega
      · rw [if_neg hji] at hi
        have e : x = s := Option.some.inj hi
        rw [← e]; omega

def par0 : Par := ⟨0, 0, 0, 0, 0, 0, 0, 0⟩

def tkC (N : Net) (cells : List (List (Option Sp))) (X : List Sp) (i : Nat) : List (Option Sp) := tickC (N.ps[i]?.getD par0) (cells[i]?.getD []) (X[i]?.getD ⟨0, 0⟩)

def tkV (N : Net) (cells : List (List (Option Sp))) (X : List Sp) (i : Nat) : Int := tickV (N.ps[i]?.getD par0) (cells[i]?.getD []) (X[i]?.getD ⟨0, 0⟩)

structure BSt where
  cells : List (List (Option Sp))
  out : List (List Int)

def inB (N : Net) (sure may : List Evt) (out : List (List Int)) : List Sp := insV N (fun s => sentV sure may out s.frm ((out.length : Int) - s.dl)) N.syns.length

def bstep (N : Net) (sure may : List Evt) (b : BSt) : BSt :=
  ⟨(List.range N.ps.length).map (tkC N b.cells (inB N sure may b.out)), b.out ++ [(List.range N.ps.length).map (tkV N b.cells (inB N sure may b.out))]⟩

def bst (N : Net) (sure may : List Evt) : Nat → BSt
  | 0 => ⟨N.ps.map cell0, []⟩
  | t + 1 => bstep N sure may (bst N sure may t)

structure BOk (N : Net) (t : Nat) (b : BSt) : Prop where
  cells : b.cells.length = N.ps.length
  ok : ∀ (i : Nat) p C, N.ps[i]? = some p → b.cells[i]? = some C → CellOk p C
  out : b.out.length = t
  row : ∀ r ∈ b.out, r.length = N.ps.length ∧ ∀ v ∈ r, 0 ≤ v ∧ v ≤ 2

theorem tickV_in (p : Par) (C : List (Option Sp)) (d : Sp) : 0 ≤ tickV p C d ∧ tickV p C d ≤ 2 := by
  unfold tickV
  split
  · omega
  · split
    · omega
    · split <;> omega

theorem bst_ok {N : Net} (hp : ∀ p ∈ N.ps, ParOk p) (sure may : List Evt) : ∀ t, BOk N t (bst N sure may t)
  | 0 => by
    refine ⟨by simp [bst], fun i p C h1 h2 => ?_, rfl, by simp [bst]⟩
    simp only [bst, List.getElem?_map, h1, Option.map_some, Option.some.injEq] at h2
    subst h2
    exact cell0_ok (hp p (List.mem_of_getElem? h1))
  | t + 1 => by
    have h := bst_ok hp sure may t
    refine ⟨by simp [bst, bstep], fun i p C h1 h2 => ?_, by simp [bst, bstep, h.out], fun r hr => ?_⟩
    · simp only [bst, bstep, List.getElem?_map] at h2
      have hi := (List.getElem?_eq_some_iff.1 h1).1
      rw [List.getElem?_range hi] at h2
      simp only [Option.map_some, Option.some.injEq] at h2
      subst h2
      obtain ⟨D, hD⟩ : ∃ D, (bst N sure may t).cells[i]? = some D := ⟨(bst N sure may t).cells[i]'(by rw [h.cells]; exact hi), List.getElem?_eq_getElem _⟩
      unfold tkC
      rw [h1, hD]
      exact (h.ok i p D h1 hD).tick (hp p (List.mem_of_getElem? h1)) _
    · simp only [bst, bstep] at hr
      rcases List.mem_append.1 hr with hr | hr
      · exact h.row r hr
      · simp only [List.mem_singleton] at hr
        subst hr
        refine ⟨by simp, fun v hv => ?_⟩
        obtain ⟨i, _, rfl⟩ := List.mem_map.1 hv
        exact tickV_in _ _ _

end Go.Gm
