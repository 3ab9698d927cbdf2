/- Ev: runs of the example, and still times. -/
import Derived.Test.YtbnipfgbfnhibaaGd2
import Derived.KernelRfl
set_option linter.unusedVariables false
set_option linter.unusedSimpArgs false
namespace Go.Proofs
open Go Go.Vx Go.Gm

/-- Run's rounds are those of the sequence. -/
theorem runFrom_eq {N : Net} {l : List Evt} {inputs limit : Int} (hl : EvOk inputs limit l) : ∀ (n t k : Nat), TkInv l t k → (outTo N l t).length ≤ 65536 →
    runFrom N n t (stAt N l t) (l.drop k) (outTo N l t) = if 65536 < (outTo N l (t + n)).length then none else some (outTo N l (t + n))
  | 0, t, k, _, ho => by
    simp only [runFrom, Nat.add_zero]
    rw [if_neg (by omega)]
  | n + 1, t, k, hk, ho => by
    obtain ⟨h1, h2⟩ := hk.next hl
    have e : outTo N l t ++ (ringSpk N t (stAt N l t)).map (fun i => (⟨t, i⟩ : Evt)) = outTo N l (t + 1) := rfl
    simp only [runFrom, e, h2]
    by_cases h : 65536 < (outTo N l (t + 1)).length
    · have hm := outTo_mono N l (a := t + 1) (b := t + (n + 1)) (by omega)
      rw [if_pos h, if_pos (Nat.lt_of_lt_of_le h hm)]
    · rw [if_neg h, List.drop_drop]
      have := runFrom_eq (N := N) hl n (t + 1) _ h1 (by omega)
      rw [show t + 1 + n = t + (n + 1) by omega] at this
      exact this

theorem runRes_eq {N : Net} {l : List Evt} {ticks : Int} (h : prepErr N l ticks 10000 = 0) : runRes N l ticks = if 65536 < (outTo N l ticks.toNat).length then ([], 8) else (outTo N l ticks.toNat, 0) := by
  obtain ⟨h1, h2, h3⟩ := prep_zero.1 h
  unfold runRes
  rw [if_neg (by omega)]
  have := runFrom_eq (N := N) h3 ticks.toNat 0 0 ⟨by simp, by simp, fun e he => by have := h3.range e (by simpa using he); omega⟩ (by simp [outTo])
  simp only [List.drop_zero, Nat.zero_add] at this
  have e : runFrom N ticks.toNat 0 (sm0 N) l [] = _ := this
  rw [e]
  by_cases h65 : 65536 < (outTo N l ticks.toNat).length
  · rw [if_pos h65, if_pos h65]
  · rw [if_neg h65, if_neg h65]

/-- Nothing is due, and silent ticks change nothing. -/
def stillB (N : Net) (x : Sm) : Bool := (x.D.all fun r => r.all fun a => a = 0) && ((N.ps.zip x.sts).all fun y => tick y.1 y.2 0 = (y.2, false))

theorem fire_still {ps : List Par} : ∀ {ss : List Sta} {xs : List Int}, ss.length = ps.length → xs.length = ps.length → (xs.all fun a => a = 0) = true → ((ps.zip ss).all fun y => tick y.1 y.2 0 = (y.2, false)) = true →
    fire ps ss xs = ss.map fun s => (s, false) := by
  induction ps with
  | nil => intro ss xs h1 _ _ _; have : ss = [] := List.eq_nil_of_length_eq_zero h1; subst this; simp [fire]
  | cons p ps ih =>
    intro ss xs h1 h2 h3 h4
    cases ss with
    | nil => simp at h1
    | cons s ss =>
      cases xs with
      | nil => simp at h2
      | cons x xs =>
        simp only [List.all_cons, Bool.and_eq_true, decide_eq_true_eq, List.zip_cons_cons] at h3 h4
        simp only [fire, List.map_cons]
        rw [h3.1, h4.1, ih (by simpa using h1) (by simpa using h2) h3.2 h4.2]

theorem zeros {l : List Int} (h : (l.all fun a => a = 0) = true) : List.replicate l.length 0 = l := by
  induction l with
  | nil => rfl
  | cons a l ih =>
    simp only [List.all_cons, Bool.and_eq_true, decide_eq_true_eq] at h
    rw [List.length_cons, List.replicate_succ, ih h.2, h.1]

theorem spkFrom_none (l : List Sta) : ∀ k, spkFrom k (l.map fun s => (s, false)) = [] := by
  induction l with
  | nil => intro k; rfl
  | cons a l ih => intro k; simp only [List.map_cons, spkFrom, Bool.false_eq_true, if_false, ih]

theorem still_step {N : Net} {x : Sm} (hx : SmOk N x) (h : stillB N x = true) (t : Nat) : ringSpk N t x = [] ∧ ringStep N t x [] = x := by
  unfold stillB at h
  simp only [Bool.and_eq_true] at h
  obtain ⟨r, h1, h2⟩ := hx.row t
  have hr : (r.all fun a => a = 0) = true := List.all_eq_true.1 h.1 r (List.mem_of_getElem? h1)
  have hf := fire_still hx.sts h2 hr h.2
  have hs : ringSpk N t x = [] := by
    unfold ringSpk spk
    rw [h1, Option.getD_some, hf]
    exact spkFrom_none _ 0
  refine ⟨hs, ?_⟩
  unfold ringSpk at hs
  unfold ringStep
  simp only [hs, List.map_nil, List.append_nil]
  rw [h1, Option.getD_some, hf]
  have e1 : (x.sts.map fun s => (s, false)).map (·.1) = x.sts := by
    rw [List.map_map]
    exact List.map_id'' (fun _ => rfl) x.sts
  have e2 : x.D.modify (t % 16) (fun l => List.replicate l.length 0) = x.D := by
    rw [modify_of_get _ h1, zeros hr]
    exact set_self h1
  rw [e1, e2]
  rfl

theorem skipTo {N : Net} (hN : NetOk N) {l : List Evt} {a : Nat} (h : stillB N (stAt N l a) = true) : ∀ n : Nat, (∀ t, a ≤ t → t < a + n → insAt l t = []) → stAt N l (a + n) = stAt N l a ∧ outTo N l (a + n) = outTo N l a
  | 0, _ => ⟨rfl, rfl⟩
  | n + 1, hi => by
    obtain ⟨h1, h2⟩ := skipTo hN h n (fun t h1 h2 => hi t h1 (by omega))
    have hs := still_step (stAt_ok hN l (a + n)) (by rw [h1]; exact h) (a + n)
    have hin := hi (a + n) (by omega) (by omega)
    constructor
    · show ringStep N (a + n) (stAt N l (a + n)) (insAt l (a + n)) = _
      rw [hin, hs.2, h1]
    · show outTo N l (a + n) ++ (ringSpk N (a + n) (stAt N l (a + n))).map _ = _
      rw [hs.1, h2]
      simp

/-- Some ticks, with their events. -/
def stFrom (N : Net) : Nat → Sm → List (List Int) → Sm
  | _, x, [] => x
  | t, x, ins :: r => stFrom N (t + 1) (ringStep N t x ins) r

def outFrom (N : Net) : Nat → Sm → List (List Int) → List Evt
  | _, _, [] => []
  | t, x, ins :: r => (ringSpk N t x).map (fun i => (⟨t, i⟩ : Evt)) ++ outFrom N (t + 1) (ringStep N t x ins) r

theorem stFrom_eq (N : Net) (l : List Evt) : ∀ (L : List (List Int)) (a : Nat), (∀ (j : Nat) ins, L[j]? = some ins → insAt l (a + j) = ins) → stAt N l (a + L.length) = stFrom N a (stAt N l a) L ∧ outTo N l (a + L.length) = outTo N l a ++ outFrom N a (stAt N l a) L
  | [], a, _ => by simp [stFrom, outFrom]
  | ins :: r, a, h => by
    have h0 : insAt l a = ins := h 0 ins rfl
    have := stFrom_eq N l r (a + 1) (fun j i hj => by have := h (j + 1) i (by simpa using hj); rw [← this]; congr 1; omega)
    rw [List.length_cons, show a + (r.length + 1) = a + 1 + r.length by omega]
    have e : stAt N l (a + 1) = ringStep N a (stAt N l a) ins := by rw [← h0]; rfl
    have e2 : outTo N l (a + 1) = outTo N l a ++ (ringSpk N a (stAt N l a)).map (fun i => (⟨a, i⟩ : Evt)) := rfl
    simp only [stFrom, outFrom]
    rw [this.1, this.2, e, e2]
    exact ⟨rfl, by simp⟩

/-! ### The example -/
def parA : Par := ⟨1, 1, 0, 5, 0, 0, -4, 1⟩
def netE : Net := ⟨[parA, parA], 1, [⟨-1, 0, 6, 1⟩, ⟨0, 1, 6, 3⟩]⟩

theorem netE_ok : NetOk netE := netchk_zero.1 (by kernel_rfl)

def evR : List Evt := [⟨0, 0⟩, ⟨2, 0⟩]
def outR : List Evt := [⟨1, 0⟩, ⟨3, 0⟩, ⟨4, 1⟩, ⟨6, 1⟩]
def outD : List Evt := [⟨1000000001, 0⟩, ⟨1000000004, 1⟩]

theorem run_E : runRes netE evR 10 = (outR, 0) := by kernel_rfl

def evE : List Evt := [⟨1000000000, 0⟩]

theorem insE {t : Nat} (h : t ≠ 1000000000) : insAt evE t = [] := by
  unfold insAt evE
  rw [List.filter_cons_of_neg (by simp; omega)]
  rfl

theorem insE0 : insAt evE 1000000000 = [0] := by kernel_rfl
theorem still0 : stillB netE (sm0 netE) = true := by kernel_rfl
theorem still8 : stillB netE (stFrom netE 1000000000 (sm0 netE) [[0], [], [], [], [], [], [], []]) = true := by kernel_rfl
theorem out8 : outFrom netE 1000000000 (sm0 netE) [[0], [], [], [], [], [], [], []] = [⟨1000000001, 0⟩, ⟨1000000004, 1⟩] := by kernel_rfl

theorem outTo_E : outTo netE evE 1073741824 = [⟨1000000001, 0⟩, ⟨1000000004, 1⟩] := by
  have h1 := skipTo netE_ok (l := evE) (a := 0) still0 1000000000 (fun t _ ht => insE (by omega))
  simp only [Nat.zero_add] at h1
  have h2 := stFrom_eq netE evE [[0], [], [], [], [], [], [], []] 1000000000 (by
    intro j ins hj
    match j, hj with
    | 0, hj => cases hj; exact insE0
    | 1, hj => cases hj; exact insE (by omega)
    | 2, hj => cases hj; exact insE (by omega)
    | 3, hj => cases hj; exact insE (by omega)
    | 4, hj => cases hj; exact insE (by omega)
    | 5, hj => cases hj; exact insE (by omega)
    | 6, hj => cases hj; exact insE (by omega)
    | 7, hj => cases hj; exact insE (by omega)
    | n + 8, hj => simp at hj)
  rw [h1.1, h1.2] at h2
  have h3 := skipTo netE_ok (l := evE) (a := 1000000008) (by
    show stillB netE (stAt netE evE (1000000000 + 8)) = true
    have := h2.1
    simp only [List.length_cons, List.length_nil] at this
    rw [this]
    exact still8) 73741816 (fun t h _ => insE (by omega))
  have e : outTo netE evE 1073741824 = outTo netE evE 1000000008 := h3.2
  rw [e]
  have e2 : outTo netE evE 1000000008 = _ := h2.2
  rw [e2]
  exact out8

end Go.Proofs
