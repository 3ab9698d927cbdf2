import Derived.Test.YtephkjicokbckaaGreatDoorVerifyKnownDb
import Derived.Test.YtephkjicokbckaaGreatDoorVerifyKnownNb
import Derived.Test.YtephkjicokbckaaGreatDoorVerifyKnownGa
import Derived.KernelRfl
section

set_option linter.unusedVariables false

namespace Go.Proofs

open Go Go.Vx Go.Gm

def insAt (l : List Evt) (t : Nat) : List Int := (l.filter fun e => e.tick = (t : Int)).map fun e => e.id

def stAt (N : Net) (l : List Evt) : Nat → Sm
  | 0 => sm0 N
  | t + 1 => ringStep N t (stAt N l t) (insAt l t)

def spkAt (N : Net) (l : List Evt) (t : Nat) : List Int := ringSpk N t (stAt N l t)

def outTo (N : Net) (l : List Evt) : Nat → List Evt
  | 0 => []
  | t + 1 => outTo N l t ++ (spkAt N l t).map fun i => ⟨t, i⟩

def dueCount (Q : List DueRow) : Nat := (Q.map fun r => r.l.length).foldr (· + ·) 0

structure IInv (N : Net) (i : Nat) (cs : List CellM) (A : List Evt) : Prop where
  len : cs.length = i
  cell : ∀ (j : Nat) c p, cs[j]? = some c → N.ps[j]? = some p → c.p = p ∧ c.s = ⟨0, 0⟩ ∧ c.tick = 0 ∧ NextC c ∧ (0 ≤ c.next → ⟨c.next, j⟩ ∈ A)
  alarms : ∀ a ∈ A, 0 ≤ a.tick ∧ 0 ≤ a.id ∧ a.id < N.ps.length
  heap : HeapOk A
  few : A.length ≤ i

structure QInv (N : Net) (l : List Evt) (T : Nat) (Q : List DueRow) : Prop where
  keys : (Q.map (·.key)).Nodup
  rows : ∀ r ∈ Q, (r.l.map (·.1)).Nodup
  ne : ∀ r ∈ Q, r.l ≠ []
  span : ∀ r ∈ Q, (T : Int) ≤ r.key ∧ r.key < T + 16 ∧ ∀ x ∈ r.l, 0 ≤ x.1 ∧ x.1 < N.ps.length
  ring : ∀ (t i : Nat), T ≤ t → t < T + 16 → i < N.ps.length → ∃ row, (stAt N l T).D[t % 16]? = some row ∧ row[i]? = some ((dueAt Q t i).getD 0)

def Rested (N : Net) (l : List Evt) (T i : Nat) (c : CellM) : Prop :=
  c.tick ≤ T ∧ staOk c.p c.s ∧ quiet c.p c.s (T - c.tick) ∧ (stAt N l T).sts[i]? = some (silN c.p c.s (T - c.tick))

structure DInv (N : Net) (l : List Evt) (T : Nat) (cs : List CellM) (Q : List DueRow) (A : List Evt) : Prop where
  len : cs.length = N.ps.length
  cell : ∀ (i : Nat) c p, cs[i]? = some c → N.ps[i]? = some p → c.p = p ∧ NextC c ∧ (0 ≤ c.next → ⟨c.next, i⟩ ∈ A) ∧ Rested N l T i c
  due : QInv N l T Q
  dueA : ∀ t i v, dueAt Q t i = some v → ⟨t, i⟩ ∈ A
  alarms : ∀ a ∈ A, (T : Int) ≤ a.tick ∧ 0 ≤ a.id ∧ a.id < N.ps.length
  heap : HeapOk A
  few : A.length ≤ 1024 * (T + 1) + dueCount Q

structure TkInv (l : List Evt) (T k : Nat) : Prop where
  le : k ≤ l.length
  past : ∀ e ∈ l.take k, e.tick < (T : Int)
  rest : ∀ e ∈ l.drop k, (T : Int) ≤ e.tick

structure PInv (N : Net) (l : List Evt) (T : Nat) (cs : List CellM) (Q : List DueRow) (A : List Evt) (sp : List Int) : Prop where
  len : cs.length = N.ps.length
  cell : ∀ (i : Nat) c p, cs[i]? = some c → N.ps[i]? = some p → c.p = p ∧ NextC c ∧ (0 ≤ c.next → ⟨c.next, i⟩ ∈ A) ∧
    ((Rested N l T i c ∧ (i : Int) ∉ sp ∧ ∀ v, dueAt Q T i = some v → ⟨(T : Int), (i : Int)⟩ ∈ A) ∨
     (c.tick = T + 1 ∧ staOk c.p c.s ∧ ∃ s b, (stAt N l T).sts[i]? = some s ∧ tick p s ((dueAt Q T i).getD 0) = (c.s, b) ∧ ((i : Int) ∈ sp ↔ b = true)))
  due : QInv N l T Q
  dueA : ∀ t i v, t ≠ (T : Int) → dueAt Q t i = some v → ⟨t, i⟩ ∈ A
  alarms : ∀ a ∈ A, (T : Int) ≤ a.tick ∧ 0 ≤ a.id ∧ a.id < N.ps.length
  heap : HeapOk A
  spk : sp.Nodup ∧ ∀ i ∈ sp, 0 ≤ i ∧ i < N.ps.length
  few : A.length ≤ 1024 * (T + 1) + dueCount Q

end Go.Proofs

end

section

set_option linter.unusedVariables false

set_option linter.unusedSimpArgs false

namespace Go.Proofs

open Go Go.Vx Go.Gm

theorem nodup_le : ∀ (n : Nat) (a : Int) (l : List Int), l.Nodup → (∀ x ∈ l, a ≤ x ∧ x < a + n) → l.length ≤ n
  | 0, a, l, _, h => by
    cases l with
    | nil => simp
    | cons x r => have := h x (by simp); omega
  | n + 1, a, l, hn, h => by
    have h1 : (l.erase (a + n)).length ≤ n := by
      refine nodup_le n a _ (hn.erase _) fun x hx => ?_
      have h2 := (hn.mem_erase_iff.1 hx)
      have h3 := h x h2.2
      have : x ≠ a + n := h2.1
      omega
    rw [List.length_erase] at h1
    split at h1 <;> omega

theorem outTo_mono (N : Net) (l : List Evt) {a b : Nat} (h : a ≤ b) : (outTo N l a).length ≤ (outTo N l b).length := by
  induction b with
  | zero => obtain rfl : a = 0 := by omega
            exact Nat.le_refl _
  | succ b ih =>
    by_cases e : a = b + 1
    · rw [e]; exact Nat.le_refl _
    · have := ih (by omega)
      simp only [outTo, List.length_append]
      omega

structure SmOk (N : Net) (x : Sm) : Prop where
  sts : x.sts.length = N.ps.length
  ok : StaAll N x.sts
  due : x.D.length = 16
  rows : ∀ r ∈ x.D, r.length = N.ps.length

theorem sm0_ok {N : Net} (hN : NetOk N) : SmOk N (sm0 N) := by
  refine ⟨by simp [sm0], ?_, by simp [sm0], fun r hr => ?_⟩
  · intro i p s g1 g2
    simp only [sm0, List.getElem?_replicate] at g2
    split at g2
    · cases g2
      have := (hN.ps p (List.mem_of_getElem? g1))
      have h1 := this.fl
      have h2 := this.rest
      unfold staOk
      dsimp only
      omega
    · cases g2
  · simp only [sm0] at hr
    rw [(List.mem_replicate.1 hr).2]
    simp

theorem due1_len (t : Nat) (D : List (List Int)) (s : Syn) : (due1 t D s).length = D.length ∧ ∀ n, (∀ r ∈ D, r.length = n) → ∀ r ∈ due1 t D s, r.length = n := by
  refine ⟨by simp [due1], fun n h r hr => ?_⟩
  obtain ⟨i, hi⟩ := List.getElem?_of_mem hr
  unfold due1 at hi
  rw [List.getElem?_modify] at hi
  cases hd : D[i]? with
  | none => simp [hd] at hi
  | some r0 =>
    have h0 := h r0 (List.mem_of_getElem? hd)
    simp only [hd, Option.map_eq_map, Option.map_some, Option.some.injEq] at hi
    split at hi <;> subst hi <;> simp [h0]

theorem due1s_len (t : Nat) : ∀ (l : List Syn) (D : List (List Int)), (l.foldl (due1 t) D).length = D.length ∧ ∀ n, (∀ r ∈ D, r.length = n) → ∀ r ∈ l.foldl (due1 t) D, r.length = n
  | [], D => ⟨rfl, fun n h => h⟩
  | s :: l, D => by
    have h1 := due1_len t D s
    have h2 := due1s_len t l (due1 t D s)
    exact ⟨h2.1.trans h1.1, fun n h => h2.2 n (h1.2 n h)⟩

theorem SmOk.row {N : Net} {x : Sm} (h : SmOk N x) (t : Nat) : ∃ r, x.D[t % 16]? = some r ∧ r.length = N.ps.length := by
  have := h.due
  exact ⟨x.D[t % 16]'(by omega), List.getElem?_eq_getElem _, h.rows _ (List.getElem_mem _)⟩

theorem SmOk.fire {N : Net} {x : Sm} (h : SmOk N x) (t : Nat) : (fire N.ps x.sts ((x.D[t % 16]?).getD [])).length = N.ps.length := by
  obtain ⟨r, h1, h2⟩ := h.row t
  rw [h1]
  exact fire_length h.sts h2

theorem SmOk.step {N : Net} (hN : NetOk N) {x : Sm} (h : SmOk N x) (t : Nat) (ins : List Int) : SmOk N (ringStep N t x ins) := by
  obtain ⟨r, h1, h2⟩ := h.row t
  have hl := due1s_len t (yields (wire N.syns) (spk (Gm.fire N.ps x.sts ((x.D[t % 16]?).getD [])) ++ ins.map fun k => -1 - k)) (x.D.modify (t % 16) fun l => List.replicate l.length 0)
  refine ⟨?_, ?_, ?_, ?_⟩
  · simp only [ringStep, List.length_map]
    exact h.fire t
  · intro i p s g1 g2
    simp only [ringStep, List.getElem?_map] at g2
    have hlt : i < N.ps.length := (List.getElem?_eq_some_iff.1 g1).1
    have hsl := h.sts
    have e1 : x.sts[i]? = some (x.sts[i]'(by omega)) := List.getElem?_eq_getElem _
    have e2 : r[i]? = some (r[i]'(by omega)) := List.getElem?_eq_getElem _
    rw [h1, Option.getD_some, fire_get g1 e1 e2] at g2
    simp only [Option.map_some, Option.some.injEq] at g2
    subst g2
    exact tick_ok (hN.ps p (List.mem_of_getElem? g1)) (h.ok i p _ g1 e1) _
  · simp only [ringStep]
    rw [hl.1]
    simp [h.due]
  · simp only [ringStep]
    refine hl.2 _ fun q hq => ?_
    obtain ⟨i, hi⟩ := List.getElem?_of_mem hq
    rw [List.getElem?_modify] at hi
    cases hd : x.D[i]? with
    | none => simp [hd] at hi
    | some r0 =>
      have h0 := h.rows r0 (List.mem_of_getElem? hd)
      simp only [hd, Option.map_eq_map, Option.map_some, Option.some.injEq] at hi
      split at hi <;> subst hi <;> simp [h0]

theorem stAt_ok {N : Net} (hN : NetOk N) (l : List Evt) (t : Nat) : SmOk N (stAt N l t) := by
  induction t with
  | zero => exact sm0_ok hN
  | succ t ih => exact ih.step hN t _

theorem atLen_sorted (t : Int) : ∀ (l : List Evt), l.Pairwise evLt → (∀ e ∈ l, t ≤ e.tick) → l.take (atLen t l) = l.filter (fun e => e.tick = t) ∧ ∀ e ∈ l.drop (atLen t l), t + 1 ≤ e.tick
  | [], _, _ => by simp [atLen]
  | x :: r, hp, h => by
    obtain ⟨h1, h2⟩ := List.pairwise_cons.1 hp
    have h3 := h x (by simp)
    by_cases hx : x.tick = t
    · have ih := atLen_sorted t r h2 (fun e he => h e (by simp [he]))
      simp only [atLen, hx, if_true, List.take_succ_cons, List.drop_succ_cons]
      refine ⟨?_, ih.2⟩
      rw [List.filter_cons_of_pos (by simpa using hx), ih.1]
    · simp only [atLen, hx, if_false, List.take_zero, List.drop_zero]
      have hall : ∀ e ∈ r, e.tick ≠ t := fun e he => by have := h1 e he; unfold evLt at this; omega
      refine ⟨?_, fun e he => ?_⟩
      · rw [List.filter_cons_of_neg (by simpa using hx)]
        symm
        rw [List.filter_eq_nil_iff]
        intro e he
        simpa using hall e he
      · rcases List.mem_cons.1 he with rfl | he
        · omega
        · have := h1 e he
          unfold evLt at this
          omega

theorem TkInv.next {l : List Evt} {inputs limit : Int} (hl : EvOk inputs limit l) {T k : Nat} (h : TkInv l T k) : TkInv l (T + 1) (k + atLen T (l.drop k)) ∧ ((l.drop k).take (atLen T (l.drop k))).map (fun e => e.id) = insAt l T := by
  have hp : (l.drop k).Pairwise evLt := hl.sorted.sublist (List.drop_sublist k l)
  obtain ⟨h1, h2⟩ := atLen_sorted T (l.drop k) hp h.rest
  have hle := atLen_le T (l.drop k)
  have hk := h.le
  rw [List.length_drop] at hle
  refine ⟨⟨by omega, fun e he => ?_, fun e he => ?_⟩, ?_⟩
  · rw [List.take_add] at he
    rcases List.mem_append.1 he with he | he
    · have := h.past e he; omega
    · rw [h1] at he
      have := (List.mem_filter.1 he).2
      simp only [decide_eq_true_eq] at this
      omega
  · rw [← List.drop_drop] at he
    have := h2 e he
    omega
  · rw [h1]
    unfold insAt
    conv => rhs; rw [← List.take_append_drop k l, List.filter_append]
    have : (l.take k).filter (fun e => decide (e.tick = (T : Int))) = [] := by
      rw [List.filter_eq_nil_iff]
      intro e he
      have := h.past e he
      simp only [decide_eq_true_eq]
      omega
    rw [this, List.nil_append]

end Go.Proofs

end

section

set_option linter.unusedVariables false

set_option linter.unusedSimpArgs false

namespace Go.Proofs

open Go Go.Vx Go.Gm

theorem IInv.zero (N : Net) : IInv N 0 [] [] := ⟨rfl, by simp, by simp, fun i a b _ h => by simp at h, by simp⟩

theorem snoc_get {α : Type} {l : List α} {x y : α} {j : Nat} (h : (l ++ [x])[j]? = some y) : l[j]? = some y ∨ (j = l.length ∧ y = x) := by
  by_cases hj : j < l.length
  · rw [List.getElem?_append_left hj] at h; exact .inl h
  · rw [List.getElem?_append_right (by omega)] at h
    have h1 := (List.getElem?_eq_some_iff.1 h).1
    simp only [List.length_cons, List.length_nil] at h1
    have e : j - l.length = 0 := by omega
    rw [e] at h
    simp only [List.getElem?_cons_zero, Option.some.injEq] at h
    exact .inr ⟨by omega, h.symm⟩

theorem IInv.push {N : Net} {i : Nat} {cs : List CellM} {A A' : List Evt} {p : Par} {x : Int} (h : IInv N i cs A) (hp : N.ps[i]? = some p) (hc : NextC ⟨p, ⟨0, 0⟩, 0, x⟩) (hA : HeapOk A') (hAp : A'.Perm (A ++ [⟨x, i⟩])) (hx : 0 ≤ x) : IInv N (i + 1) (cs ++ [⟨p, ⟨0, 0⟩, 0, x⟩]) A' := by
  have hlt : i < N.ps.length := (List.getElem?_eq_some_iff.1 hp).1
  refine ⟨by simp [h.len], fun j c q h1 h2 => ?_, fun a ha => ?_, hA, ?_⟩
  · rcases snoc_get h1 with h3 | ⟨h3, rfl⟩
    · obtain ⟨g1, g2, g3, g4, g5⟩ := h.cell j c q h3 h2
      exact ⟨g1, g2, g3, g4, fun hh => hAp.mem_iff.2 (List.mem_append_left _ (g5 hh))⟩
    · rw [h.len] at h3
      subst h3
      rw [hp] at h2
      cases h2
      exact ⟨rfl, rfl, rfl, hc, fun _ => hAp.mem_iff.2 (by simp)⟩
  · rcases List.mem_append.1 (hAp.mem_iff.1 ha) with ha | ha
    · exact h.alarms a ha
    · simp only [List.mem_singleton] at ha
      subst ha
      dsimp only
      omega
  · have := hAp.length_eq
    have := h.few
    simp at *
    omega

theorem DInv.zero {N : Net} (hN : NetOk N) (l : List Evt) {cs : List CellM} {A : List Evt} (h : IInv N N.ps.length cs A) : DInv N l 0 cs [] A := by
  refine ⟨h.len, fun i c p h1 h2 => ?_, ⟨by simp, by simp, by simp, by simp, fun t i _ ht hi => ?_⟩, fun t i v hv => by simp [dueAt, dueFind] at hv, fun a ha => by have := h.alarms a ha; omega, h.heap, ?_⟩
  · obtain ⟨g1, g2, g3, g4, g5⟩ := h.cell i c p h1 h2
    refine ⟨g1, g4, g5, by omega, ?_, fun t ht => by omega, ?_⟩
    · rw [g2, g1]
      have := hN.ps p (List.mem_of_getElem? h2)
      have h3 := this.fl
      have h4 := this.rest
      unfold staOk
      dsimp only
      omega
    · have hlt : i < N.ps.length := (List.getElem?_eq_some_iff.1 h2).1
      rw [g2, g3]
      simp [stAt, sm0, silN, hlt]
  · refine ⟨List.replicate N.ps.length 0, ?_, ?_⟩
    · simp only [stAt, sm0, List.getElem?_replicate]
      rw [if_pos (by omega)]
    · simp [List.getElem?_replicate, hi, dueAt, dueFind]
  · have := h.few
    have := hN.few
    simp [dueCount]
    omega

theorem DInv.begin {N : Net} {l : List Evt} {T : Nat} {cs : List CellM} {Q : List DueRow} {A : List Evt} (h : DInv N l T cs Q A) : PInv N l T cs Q A [] := by
  refine ⟨h.len, fun i c p h1 h2 => ?_, h.due, fun t i v _ hv => h.dueA t i v hv, h.alarms, h.heap, by simp, h.few⟩
  obtain ⟨g1, g2, g3, g4⟩ := h.cell i c p h1 h2
  exact ⟨g1, g2, g3, .inl ⟨g4, by simp, fun v hv => h.dueA T i v hv⟩⟩

theorem par_at {N : Net} {cs : List CellM} (hl : cs.length = N.ps.length) {i : Nat} {c : CellM} (hi : cs[i]? = some c) : ∃ p, N.ps[i]? = some p := by
  have := (List.getElem?_eq_some_iff.1 hi).1
  exact ⟨N.ps[i]'(by omega), List.getElem?_eq_getElem _⟩

theorem PInv.quiet {N : Net} {l : List Evt} {T i : Nat} {cs : List CellM} {Q : List DueRow} {A : List Evt} {sp : List Int} {c : CellM} (h : PInv N l T cs Q A sp) (hN : NetOk N) (hi : cs[i]? = some c) :
    ParOk c.p ∧ staOk c.p c.s ∧ c.tick ≤ T + 1 ∧ (¬ lookSkip c (dueAt Q T i) T → Go.Gm.quiet c.p c.s (T - c.tick)) := by
  obtain ⟨p, hp⟩ := par_at h.len hi
  obtain ⟨g1, g2, g3, g4⟩ := h.cell i c p hi hp
  rw [g1]
  refine ⟨hN.ps p (List.mem_of_getElem? hp), ?_⟩
  rcases g4 with ⟨⟨k1, k2, k3, k4⟩, _⟩ | ⟨k1, k2, _⟩
  · rw [g1] at k2 k3
    exact ⟨k2, by omega, fun _ => k3⟩
  · rw [g1] at k2
    exact ⟨k2, by omega, fun hn => absurd (show lookSkip c (dueAt Q T i) T from .inl (by omega)) hn⟩

theorem NextC.ge {c : CellM} (h : NextC c) (h0 : 0 ≤ c.next) : (c.tick : Int) ≤ c.next := by
  obtain ⟨r, hr, hn⟩ := h
  by_cases h1 : 0 ≤ r
  · rw [if_pos h1] at hn; omega
  · rw [if_neg h1] at hn; omega

theorem PInv.look {N : Net} (hN : NetOk N) {l : List Evt} {T i : Nat} {cs : List CellM} {Q : List DueRow} {A A1 : List Evt} {sp : List Int} {c : CellM} {y : LookY} (h : PInv N l T cs Q A sp) (hp : A.Perm (⟨T, i⟩ :: A1)) (hA1 : HeapOk A1) (hi : cs[i]? = some c) (hy : LookRel cs i c (dueAt Q T i) T A1 y) :
    PInv N l T y.cells Q y.A (if y.spk then sp ++ [(i : Int)] else sp) := by
  obtain ⟨pi, hpi⟩ := par_at h.len hi
  have hlt : i < cs.length := (List.getElem?_eq_some_iff.1 hi).1
  have hltN : i < N.ps.length := (List.getElem?_eq_some_iff.1 hpi).1
  obtain ⟨c1, c2, c3, c4⟩ := h.cell i c pi hi hpi
  have hA : ∀ a, a ∈ A → a = ⟨(T : Int), (i : Int)⟩ ∨ a ∈ A1 := fun a ha => List.mem_cons.1 (hp.mem_iff.1 ha)
  have hin : ∀ a, a ∈ A1 → a ∈ A := fun a ha => hp.mem_iff.2 (List.mem_cons_of_mem _ ha)
  have hlen := hp.length_eq
  simp only [List.length_cons] at hlen
  rcases hy with ⟨hs, y1, y2, y3⟩ | ⟨hs, c', d1, d2, d3, d4, d5, d6⟩
  · rw [y1, y2, y3]
    simp only [Bool.false_eq_true, if_false]
    refine ⟨h.len, fun j cj pj h1 h2 => ?_, h.due, fun t k v ht hv => ?_, fun a ha => h.alarms a (hin a ha), hA1, h.spk, by have := h.few; omega⟩
    · obtain ⟨g1, g2, g3, g4⟩ := h.cell j cj pj h1 h2
      refine ⟨g1, g2, fun h0 => ?_, ?_⟩
      · rcases hA _ (g3 h0) with e | e
        · simp only [Evt.mk.injEq] at e
          obtain ⟨e1, e2⟩ := e
          have : j = i := by omega
          subst this
          rw [hi] at h1
          cases h1
          have hge := g2.ge h0
          rcases hs with hs | ⟨_, hs⟩
          · omega
          · exact absurd e1 hs
        · exact e
      · rcases g4 with ⟨k1, k2, k3⟩ | g4
        · refine .inl ⟨k1, k2, fun v hv => ?_⟩
          rcases hA _ (k3 v hv) with e | e
          · simp only [Evt.mk.injEq, true_and] at e
            have : j = i := by omega
            subst this
            rw [hi] at h1
            cases h1
            rcases hs with hs | ⟨hs, _⟩
            · have := k1.1; omega
            · rw [hs] at hv; cases hv
          · exact e
        · exact .inr g4
    · rcases hA _ (h.dueA t k v ht hv) with e | e
      · simp only [Evt.mk.injEq] at e
        exact absurd e.1 ht
      · exact e
  · have hcT : c.tick ≤ T := by
      unfold lookSkip at hs
      omega
    obtain ⟨⟨k1, k2, k3, k4⟩, k5, k6⟩ : Rested N l T i c ∧ (i : Int) ∉ sp ∧ ∀ v, dueAt Q T i = some v → ⟨(T : Int), (i : Int)⟩ ∈ A := by
      rcases c4 with c4 | ⟨c4, _⟩
      · exact c4
      · omega
    have hin' : ∀ a, a ∈ A1 → a ∈ y.A := by
      intro a ha
      rcases d6 with ⟨_, d6⟩ | ⟨_, _, d6⟩
      · rw [d6]; exact ha
      · exact d6.mem_iff.2 (List.mem_append_left _ ha)
    have hnew : ∀ a, a ∈ y.A → a ∈ A1 ∨ (a = ⟨c'.next, (i : Int)⟩ ∧ 0 ≤ c'.next) := by
      intro a ha
      rcases d6 with ⟨_, d6⟩ | ⟨d7, _, d6⟩
      · rw [d6] at ha; exact .inl ha
      · rcases List.mem_append.1 (d6.mem_iff.1 ha) with ha | ha
        · exact .inl ha
        · exact .inr ⟨by simpa using ha, d7⟩
    have hylen : y.A.length ≤ A1.length + 1 := by
      rcases d6 with ⟨_, d6⟩ | ⟨_, _, d6⟩
      · rw [d6]; omega
      · have := d6.length_eq; simp at this; omega
    have hpo : ParOk pi := hN.ps pi (List.mem_of_getElem? hpi)
    rw [c1] at k2 k3 k4 d3
    have hst : staOk pi c'.s := by
      have := tick_ok hpo (silN_ok hpo k2 (T - c.tick)) ((dueAt Q T i).getD 0)
      rw [← d3] at this
      exact this
    have hsp : ∀ j : Nat, j ≠ i → ((j : Int) ∈ (if y.spk then sp ++ [(i : Int)] else sp) ↔ (j : Int) ∈ sp) := by
      intro j hj
      split
      · simp; omega
      · rfl
    have hspi : (i : Int) ∈ (if y.spk then sp ++ [(i : Int)] else sp) ↔ y.spk = true := by
      cases y.spk <;> simp [k5]
    refine ⟨by rw [d5]; simpa using h.len, fun j cj pj h1 h2 => ?_, h.due, fun t k v ht hv => ?_, fun a ha => ?_, ?_, ?_, by have := h.few; omega⟩
    · rw [d5, List.getElem?_set] at h1
      by_cases hj : i = j
      · subst hj
        rw [if_pos rfl, if_pos hlt] at h1
        cases h1
        rw [hpi] at h2
        cases h2
        refine ⟨d1.trans c1, d4, fun h0 => ?_, .inr ⟨d2, by rw [d1, c1]; exact hst, _, y.spk, k4, d3.symm, hspi⟩⟩
        rcases d6 with ⟨d6, _⟩ | ⟨_, _, d6⟩
        · omega
        · exact d6.mem_iff.2 (by simp)
      · rw [if_neg hj] at h1
        obtain ⟨g1, g2, g3, g4⟩ := h.cell j cj pj h1 h2
        have hne : ∀ t : Int, (⟨t, (j : Int)⟩ : Evt) ∈ A → (⟨t, (j : Int)⟩ : Evt) ∈ y.A := by
          intro t ht
          rcases hA _ ht with e | e
          · simp only [Evt.mk.injEq] at e
            omega
          · exact hin' _ e
        refine ⟨g1, g2, fun h0 => hne _ (g3 h0), ?_⟩
        rcases g4 with ⟨q1, q2, q3⟩ | ⟨q1, q2, s, b, q3, q4, q5⟩
        · exact .inl ⟨q1, by rw [hsp j (Ne.symm hj)]; exact q2, fun v hv => hne _ (q3 v hv)⟩
        · exact .inr ⟨q1, q2, s, b, q3, q4, by rw [hsp j (Ne.symm hj)]; exact q5⟩
    · rcases hA _ (h.dueA t k v ht hv) with e | e
      · simp only [Evt.mk.injEq] at e
        exact absurd e.1 ht
      · exact hin' _ e
    · rcases hnew a ha with ha | ⟨rfl, h0⟩
      · exact h.alarms a (hin a ha)
      · have := d4.ge h0
        dsimp only
        omega
    · rcases d6 with ⟨_, d6⟩ | ⟨_, d6, _⟩
      · rw [d6]; exact hA1
      · exact d6
    · split
      · refine ⟨?_, fun x hx => ?_⟩
        · rw [List.nodup_append]
          exact ⟨h.spk.1, by simp, fun a ha b hb e => by simp only [List.mem_singleton] at hb; subst hb; subst e; exact k5 ha⟩
        · rcases List.mem_append.1 hx with hx | hx
          · exact h.spk.2 x hx
          · simp only [List.mem_singleton] at hx; subst hx; omega
      · exact h.spk

theorem rested_quiet {p : Par} {s : Sta} {tick T : Nat} {next : Int} (h1 : tick ≤ T) (h2 : Go.Gm.quiet p s (T - tick)) (h3 : NextC ⟨p, s, tick, next⟩) (h4 : next ≠ T) : (Gm.tick p (silN p s (T - tick)) 0).2 = false := by
  obtain ⟨r, hr, hn⟩ := h3
  dsimp only at hr hn
  rcases hr with ⟨hr, hq⟩ | ⟨n, hr, _, hq, hs⟩
  · exact hq (T - tick + 1) (T - tick) (by omega)
  · rw [hr, if_pos (by omega)] at hn
    by_cases hlt : T - tick < n
    · exact hq _ hlt
    · by_cases he : T - tick = n
      · omega
      · have := h2 n (by omega)
        rw [hs] at this
        cases this

theorem PInv.tickAt {N : Net} (hN : NetOk N) {l : List Evt} {T : Nat} {cs : List CellM} {Q : List DueRow} {A : List Evt} {sp : List Int} (h : PInv N l T cs Q A sp) (hA : ∀ a ∈ A, (T : Int) < a.tick) {i : Nat} {c : CellM} {p : Par} (hi : cs[i]? = some c) (hp : N.ps[i]? = some p) :
    c.p = p ∧ ∃ b, (fire N.ps (stAt N l T).sts (((stAt N l T).D[T % 16]?).getD []))[i]? = some (silN p c.s (T + 1 - c.tick), b) ∧ ((i : Int) ∈ sp ↔ b = true) ∧ c.tick ≤ T + 1 ∧ staOk p c.s ∧ Go.Gm.quiet p c.s (T + 1 - c.tick) := by
  obtain ⟨g1, g2, g3, g4⟩ := h.cell i c p hi hp
  have hlt : i < N.ps.length := (List.getElem?_eq_some_iff.1 hp).1
  refine ⟨g1, ?_⟩
  obtain ⟨row, r1, r2⟩ := h.due.ring T i (by omega) (by omega) hlt
  rcases g4 with ⟨⟨k1, k2, k3, k4⟩, k5, k6⟩ | ⟨k1, k2, s, b, k3, k4, k5⟩
  · have hdue : dueAt Q T i = none := by
      cases hd : dueAt Q T i with
      | none => rfl
      | some v => have := hA _ (k6 v hd); dsimp only at this; omega
    have hnext : c.next ≠ T := by
      intro e
      have := hA _ (g3 (by omega))
      dsimp only at this
      omega
    rw [g1] at k2 k3 k4
    have hq := rested_quiet (p := p) (s := c.s) (next := c.next) k1 k3 (by rw [← g1]; exact g2) hnext
    have e1 : T + 1 - c.tick = (T - c.tick) + 1 := by omega
    rw [hdue, Option.getD_none] at r2
    have hf := fire_get hp k4 r2
    rw [r1, Option.getD_some, hf, e1]
    refine ⟨false, ?_, by simp [k5], by omega, k2, ?_⟩
    · rw [← hq]; rfl
    · intro t ht
      by_cases h5 : t < T - c.tick
      · exact k3 t h5
      · obtain rfl : t = T - c.tick := by omega
        exact hq
  · rw [g1] at k2
    have hf := fire_get hp k3 r2
    rw [r1, Option.getD_some, hf, k4]
    refine ⟨b, ?_, k5, by omega, k2, fun t ht => by omega⟩
    have : T + 1 - c.tick = 0 := by omega
    rw [this]
    rfl

theorem spkFrom_mem (F : List (Sta × Bool)) : ∀ (k : Nat) (x : Int), x ∈ spkFrom k F ↔ ∃ i : Nat, x = ((k + i : Nat) : Int) ∧ ∃ s, F[i]? = some (s, true) := by
  induction F with
  | nil => intro k x; simp [spkFrom]
  | cons y F ih =>
    obtain ⟨s, b⟩ := y
    intro k x
    have key : (∃ i : Nat, x = ((k + i : Nat) : Int) ∧ ∃ s', ((s, b) :: F)[i]? = some (s', true)) ↔ (x = (k : Int) ∧ b = true) ∨ ∃ i : Nat, x = ((k + 1 + i : Nat) : Int) ∧ ∃ s, F[i]? = some (s, true) := by
      constructor
      · rintro ⟨i, h1, s', h2⟩
        cases i with
        | zero =>
          simp only [List.getElem?_cons_zero, Option.some.injEq, Prod.mk.injEq] at h2
          exact .inl ⟨by simpa using h1, h2.2⟩
        | succ i => exact .inr ⟨i, by rw [h1]; congr 1; omega, s', by simpa using h2⟩
      · rintro (⟨h1, h2⟩ | ⟨i, h1, s', h2⟩)
        · exact ⟨0, by simpa using h1, s, by simp [h2]⟩
        · exact ⟨i + 1, by rw [h1]; congr 1; omega, s', by simpa using h2⟩
    rw [key]
    simp only [spkFrom]
    cases b
    · simp only [Bool.false_eq_true, if_false, and_false, false_or]
      exact ih (k + 1) x
    · simp only [if_true, List.mem_cons, and_true]
      rw [ih (k + 1) x]

theorem spkFrom_lt (F : List (Sta × Bool)) : ∀ k : Nat, (spkFrom k F).Pairwise (· < ·) ∧ ∀ x ∈ spkFrom k F, (k : Int) ≤ x := by
  induction F with
  | nil => intro k; simp [spkFrom]
  | cons y F ih =>
    intro k
    obtain ⟨h1, h2⟩ := ih (k + 1)
    simp only [spkFrom]
    split
    · refine ⟨List.pairwise_cons.2 ⟨fun x hx => by have := h2 x hx; omega, h1⟩, fun x hx => ?_⟩
      rcases List.mem_cons.1 hx with rfl | hx
      · omega
      · have := h2 x hx; omega
    · exact ⟨h1, fun x hx => by have := h2 x hx; omega⟩

theorem PInv.spikes {N : Net} (hN : NetOk N) {l : List Evt} {T : Nat} {cs : List CellM} {Q : List DueRow} {A : List Evt} {sp : List Int} (h : PInv N l T cs Q A sp) (hA : ∀ a ∈ A, (T : Int) < a.tick) : sorted sp = spkAt N l T := by
  have hlt := (spkFrom_lt (fire N.ps (stAt N l T).sts (((stAt N l T).D[T % 16]?).getD [])) 0).1
  have hnd : (spkAt N l T).Nodup := hlt.imp (fun h e => by omega)
  have hperm : sp.Perm (spkAt N l T) := by
    rw [List.perm_ext_iff_of_nodup h.spk.1 hnd]
    intro x
    unfold spkAt ringSpk Gm.spk
    rw [spkFrom_mem]
    simp only [Nat.zero_add]
    have hfl := (stAt_ok hN l T).fire T
    constructor
    · intro hx
      have hr := h.spk.2 x hx
      have hi : cs[x.toNat]? = some (cs[x.toNat]'(by rw [h.len]; omega)) := List.getElem?_eq_getElem _
      obtain ⟨p, hp⟩ := par_at h.len hi
      obtain ⟨_, b, h1, h2, _⟩ := h.tickAt hN hA hi hp
      have e : ((x.toNat : Nat) : Int) = x := by omega
      rw [e] at h2
      exact ⟨x.toNat, e.symm, _, by rw [h1, h2.1 hx]⟩
    · rintro ⟨i, rfl, s, hs⟩
      have hil : i < N.ps.length := by rw [← hfl]; exact (List.getElem?_eq_some_iff.1 hs).1
      have hi : cs[i]? = some (cs[i]'(by rw [h.len]; omega)) := List.getElem?_eq_getElem _
      obtain ⟨p, hp⟩ := par_at h.len hi
      obtain ⟨_, b, h1, h2, _⟩ := h.tickAt hN hA hi hp
      rw [hs] at h1
      simp only [Option.some.injEq, Prod.mk.injEq] at h1
      exact h2.2 h1.2.symm
  unfold sorted
  refine List.Perm.eq_of_pairwise (le := fun x y => decide (x ≤ y) = true) ?_ ?_ ?_ ((List.mergeSort_perm _ _).trans hperm)
  · intro a b _ _ h1 h2
    simp only [decide_eq_true_eq] at h1 h2
    omega
  · exact List.pairwise_mergeSort (fun a b c h1 h2 => by simp only [decide_eq_true_eq] at *; omega) (fun a b => by simp; omega) sp
  · exact hlt.imp (fun h => by simp only [decide_eq_true_eq]; omega)

end Go.Proofs

end

section

set_option linter.unusedVariables false

set_option linter.unusedSimpArgs false

namespace Go.Proofs

open Go Go.Vx Go.Gm

theorem dueFind_none {Q : List DueRow} {t : Int} : dueFind Q t = none ↔ t ∉ Q.map (·.key) := by
  induction Q with
  | nil => simp [dueFind]
  | cons r q ih =>
    simp only [dueFind, List.map_cons, List.mem_cons, not_or]
    split
    · rename_i h; simp [h]
    · rename_i h; rw [ih]; exact ⟨fun h2 => ⟨fun e => h e.symm, h2⟩, fun h2 => h2.2⟩

theorem dueFind_set {Q : List DueRow} {j : Nat} {r r' : DueRow} (hn : (Q.map (·.key)).Nodup) (hj : Q[j]? = some r) (hk : r'.key = r.key) (t : Int) : dueFind (Q.set j r') t = if t = r.key then some r' else dueFind Q t := by
  induction Q generalizing j with
  | nil => simp at hj
  | cons z q ih =>
    simp only [List.map_cons, List.nodup_cons] at hn
    cases j with
    | zero =>
      simp only [List.getElem?_cons_zero, Option.some.injEq] at hj
      subst hj
      simp only [List.set_cons_zero, dueFind, hk]
      by_cases h : z.key = t
      · simp [h]
      · rw [if_neg h, if_neg (Ne.symm h), if_neg h]
    | succ j =>
      simp only [List.getElem?_cons_succ] at hj
      have hm : r.key ∈ q.map (·.key) := List.mem_map_of_mem (List.mem_of_getElem? hj)
      simp only [List.set_cons_succ, dueFind]
      by_cases h : z.key = t
      · rw [if_pos h, if_pos h, if_neg]
        intro e
        exact hn.1 (by rw [h, e]; exact hm)
      · rw [if_neg h, if_neg h, ih hn.2 hj]

theorem aFind_set (l : List (Int × Int)) (i v k : Int) : aFind (aSet l i v) k = if k = i then some v else aFind l k := by
  induction l with
  | nil =>
    simp only [aSet, aFind]
    by_cases h : i = k
    · simp [h]
    · rw [if_neg h, if_neg (Ne.symm h)]
  | cons x q ih =>
    simp only [aSet]
    by_cases h : x.1 = i
    · rw [if_pos h]
      simp only [aFind]
      by_cases h2 : i = k
      · rw [if_pos h2, if_pos h2.symm]
      · rw [if_neg h2, if_neg (Ne.symm h2), if_neg (by rw [h]; exact h2)]
    · rw [if_neg h]
      simp only [aFind, ih]
      by_cases h2 : x.1 = k
      · rw [if_pos h2, if_pos h2, if_neg (fun e => h (h2.trans e))]
      · rw [if_neg h2, if_neg h2]

theorem aSet_keys (l : List (Int × Int)) (i v : Int) : (∀ x ∈ aSet l i v, x.1 = i ∨ x ∈ l) ∧ ((l.map (·.1)).Nodup → ((aSet l i v).map (·.1)).Nodup) ∧ aSet l i v ≠ [] ∧
    (aFind l i = none → (aSet l i v).length = l.length + 1) ∧ (∀ u, aFind l i = some u → (aSet l i v).length = l.length) := by
  induction l with
  | nil => simp [aSet, aFind]
  | cons x q ih =>
    obtain ⟨h1, h2, h3, h4, h5⟩ := ih
    by_cases h : x.1 = i
    · have e1 : aSet (x :: q) i v = (i, v) :: q := by simp [aSet, h]
      have e2 : aFind (x :: q) i = some x.2 := by simp [aFind, h]
      rw [e1, e2]
      refine ⟨fun y hy => ?_, fun hn => ?_, by simp, by simp, by simp⟩
      · rcases List.mem_cons.1 hy with rfl | hy
        · exact .inl rfl
        · exact .inr (List.mem_cons_of_mem _ hy)
      · simpa [h] using hn
    · have e1 : aSet (x :: q) i v = x :: aSet q i v := by simp [aSet, h]
      have e2 : aFind (x :: q) i = aFind q i := by simp [aFind, h]
      rw [e1, e2]
      refine ⟨fun y hy => ?_, fun hn => ?_, by simp, fun hh => by simp [h4 hh], fun u hh => by simp [h5 u hh]⟩
      · rcases List.mem_cons.1 hy with rfl | hy
        · exact .inr (by simp)
        · rcases h1 y hy with e | e
          · exact .inl e
          · exact .inr (List.mem_cons_of_mem _ e)
      · simp only [List.map_cons, List.nodup_cons] at hn ⊢
        refine ⟨fun hm => ?_, h2 hn.2⟩
        obtain ⟨y, hy, hyx⟩ := List.mem_map.1 hm
        rcases h1 y hy with e | e
        · exact h (by rw [← hyx]; exact e)
        · exact hn.1 (by rw [← hyx]; exact List.mem_map_of_mem e)

theorem dueCount_set {Q : List DueRow} {j : Nat} {r r' : DueRow} (hj : Q[j]? = some r) : dueCount (Q.set j r') + r.l.length = dueCount Q + r'.l.length := by
  induction Q generalizing j with
  | nil => simp at hj
  | cons z q ih =>
    cases j with
    | zero =>
      simp only [List.getElem?_cons_zero, Option.some.injEq] at hj
      subst hj
      simp only [List.set_cons_zero, dueCount, List.map_cons, List.foldr_cons]
      omega
    | succ j =>
      simp only [List.getElem?_cons_succ] at hj
      have := ih hj
      simp only [List.set_cons_succ, dueCount, List.map_cons, List.foldr_cons] at this ⊢
      omega

theorem dueCount_app (Q Q' : List DueRow) : dueCount (Q ++ Q') = dueCount Q + dueCount Q' := by
  induction Q with
  | nil => simp [dueCount]
  | cons z q ih => simp only [dueCount, List.cons_append, List.map_cons, List.foldr_cons] at ih ⊢; omega

structure JInv (N : Net) (T B : Nat) (D : List (List Int)) (Q : List DueRow) (A : List Evt) : Prop where
  keys : (Q.map (·.key)).Nodup
  rows : ∀ r ∈ Q, (r.l.map (·.1)).Nodup
  ne : ∀ r ∈ Q, r.l ≠ []
  span : ∀ r ∈ Q, (T : Int) + 1 ≤ r.key ∧ r.key < T + 17 ∧ ∀ x ∈ r.l, 0 ≤ x.1 ∧ x.1 < N.ps.length
  ring : ∀ (t i : Nat), T + 1 ≤ t → t < T + 17 → i < N.ps.length → ∃ row, D[t % 16]? = some row ∧ row[i]? = some ((dueAt Q t i).getD 0)
  dueA : ∀ t i v, dueAt Q t i = some v → ⟨t, i⟩ ∈ A
  alarms : ∀ a ∈ A, (T : Int) + 1 ≤ a.tick ∧ 0 ≤ a.id ∧ a.id < N.ps.length
  few : A.length ≤ B + dueCount Q

theorem JInv.step {N : Net} {T B : Nat} {D : List (List Int)} {Q Q' : List DueRow} {A A' : List Evt} {s : Syn} (h : JInv N T B D Q A) (hs : synOk N s) (ha : AddRel Q A (T + s.dl) s.to s.wt Q' A') : JInv N T B (due1 T D s) Q' A' := by
  obtain ⟨Q1, j, r, hm, hf, hj, hk, hQ', hA'⟩ := ha
  unfold synOk srcOk at hs
  have h1 : (Q1.map (·.key)).Nodup ∧ (∀ r ∈ Q1, (r.l.map (·.1)).Nodup) ∧ (∀ x ∈ Q1, x.key ≠ (T : Int) + s.dl → x.l ≠ []) ∧ (∀ r ∈ Q1, (T : Int) + 1 ≤ r.key ∧ r.key < T + 17 ∧ ∀ x ∈ r.l, 0 ≤ x.1 ∧ x.1 < N.ps.length) ∧ (∀ t i, dueAt Q1 t i = dueAt Q t i) ∧ dueCount Q1 = dueCount Q := by
    rcases hm with ⟨rfl, _⟩ | ⟨hn, b, rfl⟩
    · exact ⟨h.keys, h.rows, fun x hx _ => h.ne x hx, h.span, fun _ _ => rfl, rfl⟩
    · have hni := dueFind_none.1 hn
      refine ⟨?_, fun x hx => ?_, fun x hx hne => ?_, fun x hx => ?_, fun t i => ?_, by rw [dueCount_app]; simp [dueCount]⟩
      · rw [List.map_append, List.nodup_append]
        exact ⟨h.keys, by simp, fun a ha b hb e => by simp only [List.map_cons, List.map_nil, List.mem_singleton] at hb; subst hb; subst e; exact hni ha⟩
      · rcases List.mem_append.1 hx with hx | hx
        · exact h.rows x hx
        · simp only [List.mem_singleton] at hx; subst hx; simp
      · rcases List.mem_append.1 hx with hx | hx
        · exact h.ne x hx
        · simp only [List.mem_singleton] at hx; subst hx; exact absurd rfl hne
      · rcases List.mem_append.1 hx with hx | hx
        · exact h.span x hx
        · simp only [List.mem_singleton] at hx; subst hx; dsimp only; exact ⟨by omega, by omega, by simp⟩
      · unfold dueAt
        have : ∀ (Q : List DueRow), dueFind Q ((T : Int) + s.dl) = none → (dueFind (Q ++ [(⟨(T : Int) + s.dl, b, []⟩ : DueRow)]) t).bind (fun r => aFind r.l i) = (dueFind Q t).bind fun r => aFind r.l i := by
          intro Q
          induction Q with
          | nil => intro _; simp only [List.nil_append, dueFind]; split <;> simp [aFind]
          | cons z q ih =>
            intro hq
            simp only [dueFind] at hq
            split at hq
            · cases hq
            · simp only [List.cons_append, dueFind]
              split
              · rfl
              · exact ih hq
        exact this Q hn
  obtain ⟨k1, k2, k3, k4, k5, k6⟩ := h1
  have hrm : r ∈ Q1 := List.mem_of_getElem? hj
  have hat : ∀ t i, dueAt Q' t i = if t = (T : Int) + s.dl ∧ i = s.to then some (wadd ((dueAt Q t i).getD 0) s.wt) else dueAt Q t i := by
    intro t i
    rw [hQ']
    unfold dueAt
    rw [dueFind_set k1 hj (by rw [hk])]
    rw [hk]
    by_cases ht : t = (T : Int) + s.dl
    · rw [if_pos ht]
      simp only [Option.bind_some, aFind_set]
      have e : ∀ i, aFind r.l i = dueAt Q t i := by
        intro i
        rw [← k5, ht]
        unfold dueAt
        rw [hf]; rfl
      by_cases hi : i = s.to
      · rw [if_pos hi, if_pos ⟨ht, hi⟩, hi, e]
        rfl
      · rw [if_neg hi, if_neg (fun e => hi e.2), e]
        rfl
    · rw [if_neg ht, if_neg (fun e => ht e.1)]
      exact k5 t i
  have hakeys := aSet_keys r.l s.to (wadd ((aFind r.l s.to).getD 0) s.wt)
  have hmem : ∀ x ∈ Q', x ∈ Q1 ∧ x.key ≠ (T : Int) + s.dl ∨ x = ⟨(T : Int) + s.dl, r.blk, aSet r.l s.to (wadd ((aFind r.l s.to).getD 0) s.wt)⟩ := by
    intro x hx
    rw [hQ'] at hx
    obtain ⟨m, hm'⟩ := List.getElem?_of_mem hx
    rw [List.getElem?_set] at hm'
    by_cases e : j = m
    · subst e
      rw [if_pos rfl, if_pos (List.getElem?_eq_some_iff.1 hj).1] at hm'
      cases hm'
      exact .inr rfl
    · rw [if_neg e] at hm'
      refine .inl ⟨List.mem_of_getElem? hm', fun ek => e ?_⟩
      have g1 : (Q1.map (·.key))[j]? = some ((T : Int) + s.dl) := by rw [List.getElem?_map, hj]; simp [hk]
      have g2 : (Q1.map (·.key))[m]? = some ((T : Int) + s.dl) := by rw [List.getElem?_map, hm']; simp [ek]
      exact (List.getElem?_inj (List.getElem?_eq_some_iff.1 g1).1 k1).1 (g1.trans g2.symm)
  have hAin : ∀ a ∈ A, a ∈ A' := by
    intro a ha
    rcases hA' with ⟨_, e⟩ | ⟨_, _, e⟩
    · rw [e]; exact ha
    · exact e.mem_iff.2 (List.mem_append_left _ ha)
  have hto : aFind r.l s.to = dueAt Q ((T : Int) + s.dl) s.to := by
    rw [← k5]; unfold dueAt; rw [hf]; rfl
  refine ⟨?_, fun x hx => ?_, fun x hx => ?_, fun x hx => ?_, fun t i ht1 ht2 hi => ?_, fun t i v hv => ?_, fun a ha => ?_, ?_⟩
  · rw [hQ', List.map_set]
    have : (Q1.map (·.key)).set j ((T : Int) + s.dl) = Q1.map (·.key) := set_self (by rw [List.getElem?_map, hj]; simp [hk])
    rw [this]
    exact k1
  · rcases hmem x hx with ⟨hx, _⟩ | rfl
    · exact k2 x hx
    · exact hakeys.2.1 (k2 r hrm)
  · rcases hmem x hx with ⟨hx, hne⟩ | rfl
    · exact k3 x hx hne
    · exact hakeys.2.2.1
  · rcases hmem x hx with ⟨hx, hne⟩ | rfl
    · exact k4 x hx
    · dsimp only
      refine ⟨by omega, by omega, fun y hy => ?_⟩
      rcases hakeys.1 y hy with e | e
      · omega
      · exact (k4 r hrm).2.2 y e
  · obtain ⟨row, r1, r2⟩ := h.ring t i ht1 ht2 hi
    rw [hat]
    unfold due1
    rw [List.getElem?_modify, r1]
    simp only [Option.map_eq_map, Option.map_some]
    by_cases e : (T + s.dl.toNat) % 16 = t % 16
    · have et : t = T + s.dl.toNat := by omega
      rw [if_pos e]
      refine ⟨_, rfl, ?_⟩
      rw [List.getElem?_modify, r2]
      simp only [Option.map_eq_map, Option.map_some]
      by_cases e2 : s.to.toNat = i
      · rw [if_pos e2, if_pos ⟨by omega, by omega⟩]
        rfl
      · rw [if_neg e2, if_neg (fun x => e2 (by omega))]
    · rw [if_neg e, if_neg (fun x => e (by omega))]
      exact ⟨row, rfl, r2⟩
  · rw [hat] at hv
    split at hv
    · rename_i e
      rw [e.1, e.2]
      rcases hA' with ⟨⟨v', hv'⟩, e'⟩ | ⟨_, _, e'⟩
      · rw [e']
        rw [hto] at hv'
        exact h.dueA _ _ v' hv'
      · exact e'.mem_iff.2 (by simp)
    · exact hAin _ (h.dueA t i v hv)
  · rcases hA' with ⟨_, e⟩ | ⟨_, _, e⟩
    · rw [e] at ha; exact h.alarms a ha
    · rcases List.mem_append.1 (e.mem_iff.1 ha) with ha | ha
      · exact h.alarms a ha
      · simp only [List.mem_singleton] at ha
        subst ha
        dsimp only
        omega
  · have hc := dueCount_set (r' := ⟨(T : Int) + s.dl, r.blk, aSet r.l s.to (wadd ((aFind r.l s.to).getD 0) s.wt)⟩) hj
    rw [← hQ', k6] at hc
    dsimp only at hc
    have hf := h.few
    have hl := hakeys.2.2.2
    rcases hA' with ⟨⟨v', hv'⟩, e⟩ | ⟨hv', _, e⟩
    · rw [e]
      have := hl.2 v' hv'
      omega
    · have := e.length_eq
      simp only [List.length_append, List.length_cons, List.length_nil] at this
      have := hl.1 hv'
      omega

theorem JInv.steps {N : Net} {T B : Nat} {D : List (List Int)} {Q Q' : List DueRow} {A A' : List Evt} {l : List Syn} (h : JInv N T B D Q A) (hl : ∀ s ∈ l, synOk N s) (ha : Adds T Q A l Q' A') : JInv N T B (l.foldl (due1 T) D) Q' A' := by
  induction ha with
  | nil => exact h
  | snoc _ h2 ih =>
    rw [List.foldl_append]
    exact (ih fun s hs => hl s (by simp [hs])).step (hl _ (by simp)) h2

theorem Adds.mono {T : Int} {Q Q' : List DueRow} {A A' : List Evt} {l : List Syn} (h : Adds T Q A l Q' A') : ∀ a ∈ A, a ∈ A' := by
  induction h with
  | nil => exact fun _ h => h
  | snoc _ h2 ih =>
    intro a ha
    have := ih a ha
    obtain ⟨_, _, _, _, _, _, _, _, ⟨_, e⟩ | ⟨_, _, e⟩⟩ := h2
    · rw [e]; exact this
    · exact e.mem_iff.2 (List.mem_append_left _ this)

theorem dueCount_filter {Q : List DueRow} {n : Nat} (hk : (Q.map (·.key)).Nodup) (hr : ∀ r ∈ Q, r.l.length ≤ n) (t : Int) : dueCount Q ≤ dueCount (Q.filter fun r => r.key ≠ t) + n := by
  induction Q with
  | nil => simp [dueCount]
  | cons z q ih =>
    simp only [List.map_cons, List.nodup_cons] at hk
    by_cases h : z.key = t
    · rw [List.filter_cons_of_neg (by simp [h]), List.filter_eq_self.2]
      · have := hr z (by simp)
        simp only [dueCount, List.map_cons, List.foldr_cons]
        omega
      · intro x hx
        have : x.key ≠ t := fun e => hk.1 (by rw [h, ← e]; exact List.mem_map_of_mem hx)
        simpa using this
    · rw [List.filter_cons_of_pos (by simpa using h)]
      have := ih hk.2 (fun r hr' => hr r (by simp [hr']))
      simp only [dueCount, List.map_cons, List.foldr_cons] at this ⊢
      omega

theorem dueFind_filter {Q : List DueRow} {t t' : Int} (h : t' ≠ t) : dueFind (Q.filter fun r => r.key ≠ t) t' = dueFind Q t' := by
  induction Q with
  | nil => rfl
  | cons z q ih =>
    by_cases hz : z.key = t
    · rw [List.filter_cons_of_neg (by simp [hz]), ih]
      simp only [dueFind]
      rw [if_neg (by rw [hz]; exact Ne.symm h)]
    · rw [List.filter_cons_of_pos (by simpa using hz)]
      simp only [dueFind, ih]

theorem row_few {N : Net} {l : List Evt} {T : Nat} {Q : List DueRow} (h : QInv N l T Q) : ∀ r ∈ Q, r.l.length ≤ N.ps.length := by
  intro r hr
  have h1 := h.rows r hr
  have := nodup_le N.ps.length 0 (r.l.map (·.1)) h1 (fun x hx => by
    obtain ⟨y, hy, rfl⟩ := List.mem_map.1 hx
    have := (h.span r hr).2.2 y hy
    omega)
  simpa using this

theorem yields_ok {N : Net} (hN : NetOk N) (srcs : List Int) : ∀ s ∈ yields (wire N.syns) srcs, synOk N s := by
  intro s hs
  unfold yields at hs
  obtain ⟨k, _, hk⟩ := List.mem_flatMap.1 hs
  rw [wfind_wire] at hk
  exact hN.syns s (List.mem_filter.1 hk).1

theorem dueAt_old {N : Net} {l : List Evt} {T : Nat} {Q : List DueRow} (h : QInv N l T Q) {t i v : Int} (hv : dueAt Q t i = some v) : (T : Int) ≤ t ∧ t < T + 16 := by
  unfold dueAt at hv
  cases hf : dueFind Q t with
  | none => rw [hf] at hv; cases hv
  | some r =>
    obtain ⟨h1, h2⟩ := dueFind_mem hf
    have := h.span r h1
    omega

theorem PInv.base {N : Net} (hN : NetOk N) {l : List Evt} {T : Nat} {cs : List CellM} {Q : List DueRow} {A : List Evt} {sp : List Int} (h : PInv N l T cs Q A sp) (hA : ∀ a ∈ A, (T : Int) < a.tick) :
    JInv N T (1024 * (T + 2)) ((stAt N l T).D.modify (T % 16) fun l => List.replicate l.length 0) (Q.filter fun r => r.key ≠ (T : Int)) A := by
  have hq := h.due
  have hmem : ∀ r ∈ Q.filter (fun r => r.key ≠ (T : Int)), r ∈ Q ∧ r.key ≠ (T : Int) := fun r hr => by
    have := List.mem_filter.1 hr
    exact ⟨this.1, by simpa using this.2⟩
  have hat : ∀ (t i : Int), t ≠ (T : Int) → dueAt (Q.filter fun r => r.key ≠ (T : Int)) t i = dueAt Q t i := by
    intro t i ht
    unfold dueAt
    rw [dueFind_filter ht]
  have hno : ∀ i, dueAt (Q.filter fun r => r.key ≠ (T : Int)) (T : Int) i = none := by
    intro i
    unfold dueAt
    have : dueFind (Q.filter fun r => r.key ≠ (T : Int)) (T : Int) = none := by
      rw [dueFind_none]
      intro hm
      obtain ⟨r, hr, e⟩ := List.mem_map.1 hm
      exact (hmem r hr).2 e
    rw [this]; rfl
  have hsm := stAt_ok hN l T
  refine ⟨?_, fun r hr => hq.rows r (hmem r hr).1, fun r hr => hq.ne r (hmem r hr).1, fun r hr => ?_, fun t i ht1 ht2 hi => ?_, fun t i v hv => ?_, fun a ha => ?_, ?_⟩
  · exact hq.keys.sublist (List.Sublist.map _ (List.filter_sublist))
  · obtain ⟨h1, h2⟩ := hmem r hr
    have := hq.span r h1
    exact ⟨by omega, by omega, this.2.2⟩
  · rw [List.getElem?_modify]
    by_cases e : T % 16 = t % 16
    · have et : t = T + 16 := by omega
      obtain ⟨row, r1, r2⟩ := hsm.row T
      rw [← e, r1]
      refine ⟨_, rfl, ?_⟩
      simp only [if_true, List.getElem?_replicate]
      rw [r2, if_pos hi, hat t i (by omega)]
      have : dueAt Q t i = none := by
        cases hd : dueAt Q t i with
        | none => rfl
        | some v => have := dueAt_old hq hd; omega
      rw [this]
      rfl
    · obtain ⟨row, r1, r2⟩ := hq.ring t i (by omega) (by omega) hi
      rw [r1]
      refine ⟨row, by simp [e], ?_⟩
      rw [hat t i (by omega)]
      exact r2
  · by_cases ht : t = (T : Int)
    · rw [ht, hno] at hv; cases hv
    · rw [hat t i ht] at hv
      exact h.dueA t i v ht hv
  · have h1 := hA a ha
    have h2 := h.alarms a ha
    omega
  · have h1 := dueCount_filter hq.keys (row_few hq) (T : Int)
    have h2 := h.few
    have h3 := hN.few
    omega

theorem PInv.next {N : Net} (hN : NetOk N) {l : List Evt} {T : Nat} {cs : List CellM} {Q Q' : List DueRow} {A A' : List Evt} {sp : List Int} (h : PInv N l T cs Q A sp) (hA : ∀ a ∈ A, (T : Int) < a.tick)
    (ha : Adds T (Q.filter fun r => r.key ≠ (T : Int)) A (yields (wire N.syns) (sorted sp ++ (insAt l T).map fun k => -1 - k)) Q' A') : DInv N l (T + 1) cs Q' A' := by
  have hb := (h.base hN hA).steps (yields_ok hN _) ha
  have hD : (stAt N l (T + 1)).D = (yields (wire N.syns) (sorted sp ++ (insAt l T).map fun k => -1 - k)).foldl (due1 T) ((stAt N l T).D.modify (T % 16) fun l => List.replicate l.length 0) := by
    rw [h.spikes hN hA]
    rfl
  have hst : (stAt N l (T + 1)).sts = (fire N.ps (stAt N l T).sts (((stAt N l T).D[T % 16]?).getD [])).map (·.1) := rfl
  have hmono := ha.mono
  refine ⟨h.len, fun i c p hi hp => ?_, ⟨hb.keys, hb.rows, hb.ne, fun r hr => ?_, fun t i ht1 ht2 hi => ?_⟩, hb.dueA, fun a ha' => ?_, (ha.heap h.heap).1, ?_⟩
  · obtain ⟨g1, g2, g3, _⟩ := h.cell i c p hi hp
    obtain ⟨_, b, k1, _, k3, k4, k5⟩ := h.tickAt hN hA hi hp
    refine ⟨g1, g2, fun h0 => hmono _ (g3 h0), k3, by rw [g1]; exact k4, by rw [g1]; exact k5, ?_⟩
    rw [hst, List.getElem?_map, k1, g1]
    rfl
  · have := hb.span r hr
    exact ⟨by omega, by omega, this.2.2⟩
  · rw [hD]
    exact hb.ring t i ht1 (by omega) hi
  · have := hb.alarms a ha'
    omega
  · have := hb.few
    omega

theorem DInv.skip1 {N : Net} (hN : NetOk N) {l : List Evt} {T : Nat} {cs : List CellM} {Q : List DueRow} {A : List Evt} (h : DInv N l T cs Q A) (hA : ∀ a ∈ A, (T : Int) < a.tick) (hl : ∀ e ∈ l, e.tick ≠ (T : Int)) :
    DInv N l (T + 1) cs Q A ∧ outTo N l (T + 1) = outTo N l T := by
  have hp := h.begin
  have hs := hp.spikes hN hA
  have e0 : sorted [] = [] := by simp [sorted]
  rw [e0] at hs
  have hi : insAt l T = [] := by
    unfold insAt
    have : l.filter (fun e => decide (e.tick = (T : Int))) = [] := by
      rw [List.filter_eq_nil_iff]
      intro e he
      simpa using hl e he
    rw [this]
    rfl
  have hQ : (Q.filter fun r => r.key ≠ (T : Int)) = Q := by
    rw [List.filter_eq_self]
    intro r hr
    simp only [ne_eq, decide_not, Bool.not_eq_true', decide_eq_false_iff_not]
    intro e
    have hne := h.due.ne r hr
    cases hrl : r.l with
    | nil => exact hne hrl
    | cons x q =>
      have hf : dueFind Q (T : Int) ≠ none := by
        rw [ne_eq, dueFind_none]
        intro hn
        exact hn (by rw [← e]; exact List.mem_map_of_mem hr)
      cases hfr : dueFind Q (T : Int) with
      | none => exact hf hfr
      | some r' =>
        obtain ⟨m1, m2⟩ := dueFind_mem hfr
        have hrr : r' = r := by
          obtain ⟨a, ha⟩ := List.getElem?_of_mem m1
          obtain ⟨b, hb⟩ := List.getElem?_of_mem hr
          have g1 : (Q.map (·.key))[a]? = some (T : Int) := by rw [List.getElem?_map, ha]; simp [m2]
          have g2 : (Q.map (·.key))[b]? = some (T : Int) := by rw [List.getElem?_map, hb]; simp [e]
          have := (List.getElem?_inj (List.getElem?_eq_some_iff.1 g1).1 h.due.keys).1 (g1.trans g2.symm)
          subst this
          rw [ha] at hb
          cases hb
          rfl
        subst hrr
        have hd : dueAt Q (T : Int) x.1 = some x.2 := by
          unfold dueAt
          rw [hfr]
          simp only [Option.bind_some]
          rw [hrl]
          simp [aFind]
        have := hA _ (h.dueA _ _ _ hd)
        dsimp only at this
        omega
  refine ⟨hp.next hN hA ?_, by simp only [outTo, ← hs, List.map_nil, List.append_nil]⟩
  rw [e0, hi, hQ]
  exact .nil

theorem DInv.skip {N : Net} (hN : NetOk N) {l : List Evt} {T T' : Nat} {cs : List CellM} {Q : List DueRow} {A : List Evt} (h : DInv N l T cs Q A) (hT : T ≤ T') (hA : ∀ a ∈ A, (T' : Int) ≤ a.tick) (hl : ∀ e ∈ l, e.tick < T ∨ (T' : Int) ≤ e.tick) :
    DInv N l T' cs Q A ∧ outTo N l T' = outTo N l T := by
  obtain ⟨n, rfl⟩ : ∃ n, T' = T + n := ⟨T' - T, by omega⟩
  induction n with
  | zero => exact ⟨h, rfl⟩
  | succ n ih =>
    obtain ⟨h1, h2⟩ := ih (by omega) (fun a ha => by have := hA a ha; omega) (fun e he => by have := hl e he; omega)
    obtain ⟨h3, h4⟩ := h1.skip1 hN (fun a ha => by have := hA a ha; omega) (fun e he => by have := hl e he; omega)
    exact ⟨h3, h4.trans h2⟩

end Go.Proofs

end

section

set_option linter.unusedVariables false

namespace Go.Proofs

open Go Go.Gm

def refSrcs (N : Net) (x : Sm) (ins : List Int) : List Int := spk (fire N.ps x.sts ((x.D[0]?).getD [])) ++ ins.map fun k => -1 - k

def refStep (N : Net) (x : Sm) (ins : List Int) : Sm :=
  ⟨(fire N.ps x.sts ((x.D[0]?).getD [])).map (·.1), (N.syns.filter fun s => decide (s.frm ∈ refSrcs N x ins)).foldl refAdd (x.D.tail ++ [List.replicate N.ps.length 0])⟩

def smRot (t : Nat) (x : Sm) : Sm := ⟨x.sts, rot t x.D⟩

theorem due1_length (t : Nat) (D : List (List Int)) (s : Syn) : (due1 t D s).length = D.length := by simp [due1]

theorem rot_fold {t : Nat} : ∀ (l : List Syn) {D : List (List Int)}, D.length = 16 → (∀ s ∈ l, 1 ≤ s.dl ∧ s.dl ≤ 16) → rot (t + 1) (l.foldl (due1 t) D) = l.foldl refAdd (rot (t + 1) D)
  | [], _, _, _ => rfl
  | s :: l, D, h, hs => by
    simp only [List.foldl_cons]
    rw [rot_fold l (by rw [due1_length]; exact h) (fun s hs' => hs s (by simp [hs'])), rot_due1 h (hs s (by simp))]

theorem ref_step {N : Net} (hN : NetOk N) {x : Sm} (hx : SmOk N x) (t : Nat) {ins : List Int} (hn : (refSrcs N (smRot t x) ins).Nodup) : smRot (t + 1) (ringStep N t x ins) = refStep N (smRot t x) ins := by
  have e0 : (((smRot t x).D)[0]?).getD [] = (x.D[t % 16]?).getD [] := by
    show ((rot t x.D)[0]?).getD [] = _
    rw [rot_get]; rfl
  have eS : refSrcs N (smRot t x) ins = spk (fire N.ps x.sts ((x.D[t % 16]?).getD [])) ++ ins.map (fun k => -1 - k) := by
    unfold refSrcs; rw [e0]; rfl
  rw [eS] at hn
  have h2 : rot (t + 1) ((yields (wire N.syns) (spk (fire N.ps x.sts ((x.D[t % 16]?).getD [])) ++ ins.map fun k => -1 - k)).foldl (due1 t) (x.D.modify (t % 16) fun l => List.replicate l.length 0)) =
      (N.syns.filter fun s => decide (s.frm ∈ spk (fire N.ps x.sts ((x.D[t % 16]?).getD [])) ++ ins.map fun k => -1 - k)).foldl refAdd ((rot t x.D).tail ++ [List.replicate N.ps.length 0]) := by
    rw [due1_perm (yields_perm N.syns hn), rot_fold _ (by rw [List.length_modify]; exact hx.due) (fun s hs => (hN.syns s (List.mem_filter.1 hs).1).2.2.2), rot_next hx.due hx.rows]
  unfold refStep
  rw [eS, e0]
  show (⟨_, rot (t + 1) _⟩ : Sm) = ⟨_, _⟩
  rw [Sm.mk.injEq]
  exact ⟨rfl, h2⟩

theorem refSrcs_nodup (N : Net) (x : Sm) {ins : List Int} (h0 : ∀ k ∈ ins, 0 ≤ k) (hn : ins.Nodup) : (refSrcs N x ins).Nodup := by
  unfold refSrcs
  have hs := spkFrom_lt (fire N.ps x.sts ((x.D[0]?).getD [])) 0
  refine List.nodup_append.2 ⟨hs.1.imp (fun h => by omega), ?_, fun a ha b hb hab => ?_⟩
  · exact List.Pairwise.map _ (fun a b hab h => hab (by omega)) hn
  · have h1 := hs.2 a ha
    obtain ⟨k, hk, rfl⟩ := List.mem_map.1 hb
    have := h0 k hk
    omega

end Go.Proofs

end

section

set_option linter.unusedVariables false

set_option linter.unusedSimpArgs false

namespace Go.Proofs

open Go Go.Vx Go.Gm

theorem runFrom_eq {N : Net} {l : List Evt} {inputs limit : Int} (hl : EvOk inputs limit l) : ∀ (n t k : Nat), TkInv l t k → (outTo N l t).length ≤ 65536 →
    runFrom N n t (stAt N l t) (l.drop k) (outTo N l t) = if 65536 < (outTo N l (t + n)).length then none else some (outTo N l (t + n))
  | 0, t, k, _, ho => by
    simp only [runFrom, Nat.add_zero]
    rw [if_neg (by omega)]
  | n + 1, t, k, hk, ho => by
    obtain ⟨h1, h2⟩ := hk.next hl
    have e : outTo N l t ++ (ringSpk N t (stAt N l t)).map (fun i => (⟨t, i⟩ : Evt)) = outTo N l (t + 1) := rfl
    simp only [runFrom, e, h2]
    by_cases h : 65536 < (outTo N l (t + 1)).length
    · have hm := outTo_mono N l (a := t + 1) (b := t + (n + 1)) (by omega)
      rw [if_pos h, if_pos (Nat.lt_of_lt_of_le h hm)]
    · rw [if_neg h, List.drop_drop]
      have := runFrom_eq (N := N) hl n (t + 1) _ h1 (by omega)
      rw [show t + 1 + n = t + (n + 1) by omega] at this
      exact this

theorem runRes_eq {N : Net} {l : List Evt} {ticks : Int} (h : prepErr N l ticks 10000 = 0) : runRes N l ticks = if 65536 < (outTo N l ticks.toNat).length then ([], 8) else (outTo N l ticks.toNat, 0) := by
  obtain ⟨h1, h2, h3⟩ := prep_zero.1 h
  unfold runRes
  rw [if_neg (by omega)]
  have := runFrom_eq (N := N) h3 ticks.toNat 0 0 ⟨by simp, by simp, fun e he => by have := h3.range e (by simpa using he); omega⟩ (by simp [outTo])
  simp only [List.drop_zero, Nat.zero_add] at this
  have e : runFrom N ticks.toNat 0 (sm0 N) l [] = _ := this
  rw [e]
  by_cases h65 : 65536 < (outTo N l ticks.toNat).length
  · rw [if_pos h65, if_pos h65]
  · rw [if_neg h65, if_neg h65]

def stillB (N : Net) (x : Sm) : Bool := (x.D.all fun r => r.all fun a => a = 0) && ((N.ps.zip x.sts).all fun y => tick y.1 y.2 0 = (y.2, false))

theorem fire_still {ps : List Par} : ∀ {ss : List Sta} {xs : List Int}, ss.length = ps.length → xs.length = ps.length → (xs.all fun a => a = 0) = true → ((ps.zip ss).all fun y => tick y.1 y.2 0 = (y.2, false)) = true →
    fire ps ss xs = ss.map fun s => (s, false) := by
  induction ps with
  | nil => intro ss xs h1 _ _ _; have : ss = [] := List.eq_nil_of_length_eq_zero h1; subst this; simp [fire]
  | cons p ps ih =>
    intro ss xs h1 h2 h3 h4
    cases ss with
    | nil => simp at h1
    | cons s ss =>
      cases xs with
      | nil => simp at h2
      | cons x xs =>
        simp only [List.all_cons, Bool.and_eq_true, decide_eq_true_eq, List.zip_cons_cons] at h3 h4
        simp only [fire, List.map_cons]
        rw [h3.1, h4.1, ih (by simpa using h1) (by simpa using h2) h3.2 h4.2]

theorem zeros {l : List Int} (h : (l.all fun a => a = 0) = true) : List.replicate l.length 0 = l := by
  induction l with
  | nil => rfl
  | cons a l ih =>
    simp only [List.all_cons, Bool.and_eq_true, decide_eq_true_eq] at h
    rw [List.length_cons, List.replicate_succ, ih h.2, h.1]

theorem spkFrom_none (l : List Sta) : ∀ k, spkFrom k (l.map fun s => (s, false)) = [] := by
  induction l with
  | nil => intro k; rfl
  | cons a l ih => intro k; simp only [List.map_cons, spkFrom, Bool.false_eq_true, if_false, ih]

theorem still_step {N : Net} {x : Sm} (hx : SmOk N x) (h : stillB N x = true) (t : Nat) : ringSpk N t x = [] ∧ ringStep N t x [] = x := by
  unfold stillB at h
  simp only [Bool.and_eq_true] at h
  obtain ⟨r, h1, h2⟩ := hx.row t
  have hr : (r.all fun a => a = 0) = true := List.all_eq_true.1 h.1 r (List.mem_of_getElem? h1)
  have hf := fire_still hx.sts h2 hr h.2
  have hs : ringSpk N t x = [] := by
    unfold ringSpk spk
    rw [h1, Option.getD_some, hf]
    exact spkFrom_none _ 0
  refine ⟨hs, ?_⟩
  unfold ringSpk at hs
  unfold ringStep
  simp only [hs, List.map_nil, List.append_nil]
  rw [h1, Option.getD_some, hf]
  have e1 : (x.sts.map fun s => (s, false)).map (·.1) = x.sts := by
    rw [List.map_map]
    exact List.map_id'' (fun _ => rfl) x.sts
  have e2 : x.D.modify (t % 16) (fun l => List.replicate l.length 0) = x.D := by
    rw [modify_of_get _ h1, zeros hr]
    exact set_self h1
  rw [e1, e2]
  rfl

def parA : Par := ⟨1, 1, 0, 5, 0, 0, -4, 1⟩

def netE : Net := ⟨[parA, parA], 1, [⟨-1, 0, 6, 1⟩, ⟨0, 1, 6, 3⟩]⟩

end Go.Proofs

end
