/- Big: bounds of what is due, in plain Lean. -/

import Derived.Test.YtbnipfgbfnhibaaNetKnownGd

set_option linter.unusedVariables false

set_option linter.unusedSimpArgs false

namespace Go.Proofs

open Go Go.Vx Go.Gm

def DueB (b : Nat → Nat) (D : List (List Int)) : Prop := ∀ (d : Nat) (r : List Int) (j : Nat) (v : Int), D[d]? = some r → r[j]? = some v → -(32768 * (b d : Int)) ≤ v ∧ v ≤ 32768 * (b d : Int)

theorem DueB.mono {b b' : Nat → Nat} {D : List (List Int)} (h : DueB b D) (hb : ∀ d, b d ≤ b' d) : DueB b' D := by
  intro d r j v hr hv
  have := h d r j v hr hv
  have := hb d
  omega

theorem DueB.add {b : Nat → Nat} {D : List (List Int)} {s : Syn} (h : DueB b D) (hw : -32768 ≤ s.wt ∧ s.wt ≤ 32768) (hb : ∀ d, b d ≤ 1000000) : DueB (fun d => b d + if s.dl.toNat - 1 = d then 1 else 0) (refAdd D s) := by
  intro d r j v hr hv
  unfold refAdd at hr
  rw [List.getElem?_modify] at hr
  cases h0 : D[d]? with
  | none => rw [h0] at hr; simp at hr
  | some r0 =>
    rw [h0] at hr
    simp only [Option.map_eq_map, Option.map_some, Option.some.injEq] at hr
    by_cases hd : s.dl.toNat - 1 = d
    · rw [if_pos hd] at hr
      dsimp only
      rw [if_pos hd]
      subst hr
      rw [List.getElem?_modify] at hv
      cases h1 : r0[j]? with
      | none => rw [h1] at hv; simp at hv
      | some v0 =>
        rw [h1] at hv
        simp only [Option.map_eq_map, Option.map_some, Option.some.injEq] at hv
        have e1 := h d r0 j v0 h0 h1
        have e2 := hb d
        subst hv
        split
        · unfold wadd
          omega
        · omega
    · rw [if_neg hd] at hr
      dsimp only
      rw [if_neg hd]
      subst hr
      have := h d r0 j v h0 hv
      omega

theorem DueB.fold : ∀ (L : List Syn) {b : Nat → Nat} {D : List (List Int)}, DueB b D → (∀ s ∈ L, -32768 ≤ s.wt ∧ s.wt ≤ 32768) → (∀ d, b d + L.length ≤ 1000000) → DueB (fun d => b d + L.countP (fun s => decide (s.dl.toNat - 1 = d))) (L.foldl refAdd D)
  | [], b, D, h, _, _ => by simpa using h
  | s :: L, b, D, h, hw, hb => by
    have h1 := DueB.add h (hw s List.mem_cons_self) (fun d => by have := hb d; simp only [List.length_cons] at this; omega)
    have h2 := DueB.fold L h1 (fun x hx => hw x (List.mem_cons_of_mem _ hx)) (fun d => by have := hb d; simp only [List.length_cons] at this; split <;> omega)
    rw [List.foldl_cons]
    refine h2.mono fun d => ?_
    rw [List.countP_cons]
    by_cases hd : s.dl.toNat - 1 = d <;> simp [hd] <;> omega

theorem countP_two {α : Type} {p q r : α → Bool} : ∀ {l : List α}, (∀ a ∈ l, (p a = true → r a = true) ∧ (q a = true → r a = true) ∧ ¬ (p a = true ∧ q a = true)) → l.countP p + l.countP q ≤ l.countP r
  | [], _ => by simp
  | a :: l, h => by
    have ih := countP_two (p := p) (q := q) (r := r) fun x hx => h x (List.mem_cons_of_mem _ hx)
    obtain ⟨h1, h2, h3⟩ := h a List.mem_cons_self
    rw [List.countP_cons, List.countP_cons, List.countP_cons]
    cases hp : p a <;> cases hq : q a <;> cases hr : r a <;> simp_all <;> omega

/-- How many synapses may have added to a row. -/
def dueN (N : Net) (d : Nat) : Nat := N.syns.countP fun s => decide ((d : Int) < s.dl)

theorem dueN_le (N : Net) (d : Nat) : dueN N d ≤ N.syns.length := List.countP_le_length

theorem DueB.step {N : Net} (hN : NetOk N) {x : Sm} (hl : x.D.length = 16) (h : DueB (dueN N) x.D) (ins : List Int) : DueB (dueN N) (refStep N x ins).D := by
  have hfs := hN.fewS
  have hso : ∀ s ∈ N.syns, synOk N s := hN.syns
  have h0 : DueB (fun d => dueN N (d + 1)) (x.D.tail ++ [List.replicate N.ps.length 0]) := by
    intro d r j v hr hv
    rcases Nat.lt_or_ge d 15 with hd | hd
    · rw [List.getElem?_append_left (by rw [List.length_tail]; omega), List.getElem?_tail] at hr
      exact h (d + 1) r j v hr hv
    · have hlt := (List.getElem?_eq_some_iff.1 hr).1
      rw [List.getElem?_append_right (by rw [List.length_tail]; omega), List.length_tail, hl] at hr
      rw [List.length_append, List.length_tail, hl] at hlt
      simp only [List.length_cons, List.length_nil] at hlt
      have : d = 15 := by omega
      subst this
      simp only [Nat.reduceSub, Nat.sub_self, List.getElem?_cons_zero, Option.some.injEq] at hr
      subst hr
      rw [List.getElem?_replicate] at hv
      split at hv
      · cases hv; omega
      · cases hv
  have h1 := DueB.fold (N.syns.filter fun s => decide (s.frm ∈ refSrcs N x ins)) h0 (fun s hs => by have := hso s (List.mem_filter.1 hs).1; unfold synOk at this; omega) (fun d => by
    have := dueN_le N (d + 1)
    have := List.length_filter_le (fun s : Syn => decide (s.frm ∈ refSrcs N x ins)) N.syns
    omega)
  unfold refStep
  refine h1.mono fun d => ?_
  have e1 : (N.syns.filter fun s => decide (s.frm ∈ refSrcs N x ins)).countP (fun s => decide (s.dl.toNat - 1 = d)) ≤ N.syns.countP (fun s => decide (s.dl.toNat - 1 = d)) := List.Sublist.countP_le List.filter_sublist
  have e2 : dueN N (d + 1) + N.syns.countP (fun s => decide (s.dl.toNat - 1 = d)) ≤ dueN N d := by
    unfold dueN
    refine countP_two fun s hs => ?_
    have := hso s hs
    unfold synOk at this
    simp only [decide_eq_true_eq]
    omega
  omega

theorem DueB.zero (N : Net) (b : Nat → Nat) : DueB b (rot 0 (sm0 N).D) := by
  intro d r j v hr hv
  rw [rot_get] at hr
  split at hr
  · simp only [Option.some.injEq] at hr
    subst hr
    unfold sm0 at hv
    dsimp only at hv
    rw [List.getElem?_replicate] at hv
    split at hv
    · simp only [Option.getD_some] at hv
      rw [List.getElem?_replicate] at hv
      split at hv
      · cases hv; omega
      · cases hv
    · simp at hv
  · cases hr

theorem DueB.few {N : Net} (hN : NetOk N) {D : List (List Int)} (h : DueB (dueN N) D) : ∀ r ∈ D, ∀ k ∈ r, -268435456 ≤ k ∧ k ≤ 268435456 := by
  intro r hr k hk
  obtain ⟨d, hd⟩ := List.getElem?_of_mem hr
  obtain ⟨j, hj⟩ := List.getElem?_of_mem hk
  have h1 := h d r j k hd hj
  have h2 := dueN_le N d
  have h3 := hN.fewS
  omega

end Go.Proofs
