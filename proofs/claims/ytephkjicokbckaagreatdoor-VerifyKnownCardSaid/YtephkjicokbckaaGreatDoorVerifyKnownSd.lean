import Derived.Test.YtephkjicokbckaaGreatDoorVerifyKnownLw
import Derived.Test.YtephkjicokbckaaGreatDoorVerifyKnownCt
import Derived.Test.YtephkjicokbckaaGreatDoorVerifyKnownWa
section
set_option linter.unusedVariables false

set_option linter.unusedSimpArgs false

namespace Go.Proofs

open Go Go.Vx Go.Gm

end Go.Proofs
end

section
set_option linter.unusedVariables false

set_option linter.unusedSimpArgs false

namespace Go.Gm

def SpLe (a b : Sp) : Prop := b.lo ≤ a.lo ∧ a.hi ≤ b.hi

def VLe (a b : Int) : Prop := a = b ∨ b = 1

def OLe (a b : Option Sp) : Prop := ∀ s, a = some s → ∃ u, b = some u ∧ SpLe s u

theorem OLe.none {b : Option Sp} : OLe none b := fun _ h => by cases h

theorem SpLe.refl (a : Sp) : SpLe a a := ⟨Int.le_refl _, Int.le_refl _⟩

theorem OLe.refl (a : Option Sp) : OLe a a := fun s h => ⟨s, h, .refl s⟩

theorem OLe.jo {a b c d : Option Sp} (h1 : OLe a c) (h2 : OLe b d) : OLe (jo a b) (jo c d) := by
  intro s hs
  cases a with
  | none =>
    rw [none_jo] at hs
    obtain ⟨u, rfl, hu⟩ := h2 s hs
    cases c with
    | none => exact ⟨u, rfl, hu⟩
    | some c => exact ⟨c.jn u, rfl, by unfold SpLe Sp.jn at *; dsimp only; omega⟩
  | some a =>
    obtain ⟨v, rfl, hv⟩ := h1 a rfl
    cases b with
    | none =>
      rw [jo_none] at hs
      cases hs
      cases d with
      | none => exact ⟨v, rfl, hv⟩
      | some d => exact ⟨v.jn d, rfl, by unfold SpLe Sp.jn at *; dsimp only; omega⟩
    | some b =>
      obtain ⟨w, rfl, hw⟩ := h2 b rfl
      cases hs
      exact ⟨v.jn w, rfl, by unfold SpLe Sp.jn at *; dsimp only; omega⟩

theorem cget_tick {p : Par} {C : List (Option Sp)} {d : Sp} {k : Int} (h0 : 0 ≤ k) (h : k < C.length) : cget (tickC p C d) k = caseAt p C d k := by
  obtain ⟨n, rfl⟩ : ∃ n : Nat, k = n := ⟨k.toNat, by omega⟩
  rw [cget_nat, tickC_get (by omega)]; rfl

theorem jo_proper {a b : Option Sp} (ha : ∀ s, a = some s → s.lo ≤ s.hi) (hb : ∀ s, b = some s → s.lo ≤ s.hi) : ∀ s, jo a b = some s → s.lo ≤ s.hi := by
  intro s hs
  cases a with
  | none => exact hb s hs
  | some a =>
    cases b with
    | none => cases hs; exact ha _ rfl
    | some b =>
      cases hs
      have := ha a rfl
      have := hb b rfl
      unfold Sp.jn
      dsimp only
      omega

structure Proper (A : List (Option Sp)) : Prop where
  sp : ∀ k s, cget A k = some s → s.lo ≤ s.hi
  ex : ∃ k s, cget A k = some s

theorem Proper.tick {p : Par} (hp : ParOk p) (hm : ∀ u v, u ≤ v → leak p u ≤ leak p v) {A : List (Option Sp)} (hl : (A.length : Int) = p.rest + 1) {d : Sp} (hd : d.lo ≤ d.hi) (h : Proper A) : Proper (tickC p A d) := by
  have htl : ∀ s : Sp, s.lo ≤ s.hi → tlo p d s ≤ thi p d s := fun s hs => by
    have := hm _ _ hs
    unfold tlo thi
    omega
  have hrest := hp.rest
  refine ⟨fun k s hs => ?_, ?_⟩
  · obtain ⟨g1, g2, _⟩ := cget_some hs
    rw [tickC_len] at g2
    rw [cget_tick g1 g2] at hs
    unfold caseAt at hs
    refine jo_proper (fun s hs => h.sp _ s hs) ?_ s hs
    intro s hs
    cases h0 : cget A 0 with
    | none => rw [h0] at hs; cases hs
    | some u =>
      rw [h0] at hs
      have hu := htl u (h.sp 0 u h0)
      refine jo_proper ?_ ?_ s hs
      · intro s hs
        split at hs
        · unfold stayC at hs
          split at hs
          · cases hs; dsimp only; omega
          · cases hs
        · cases hs
      · intro s hs
        split at hs
        · unfold spikeC at hs
          split at hs
          · cases hs
          · cases hs
            unfold spikeS
            split
            · dsimp only; omega
            · exact Int.le_refl _
        · cases hs
  · obtain ⟨k, s, hs⟩ := h.ex
    obtain ⟨g1, g2, _⟩ := cget_some hs
    have key : ∀ r : Int, 0 ≤ r → r < A.length → (∃ x, caseAt p A d r = some x) → ∃ k s, cget (tickC p A d) k = some s := fun r h0 h1 ⟨x, hx⟩ => ⟨r, x, by rw [cget_tick h0 h1]; exact hx⟩
    have joS : ∀ a b : Option Sp, (∃ x, a = some x) → ∃ x, jo a b = some x := by
      rintro a b ⟨x, rfl⟩
      cases b with
      | none => exact ⟨x, rfl⟩
      | some b => exact ⟨x.jn b, rfl⟩
    by_cases hk : k = 0
    · subst hk
      by_cases hst : tlo p d s < p.th
      · refine key 0 (by omega) (by omega) ?_
        unfold caseAt
        rw [jo_comm]
        refine joS _ _ ?_
        rw [hs]
        refine joS _ _ ⟨⟨tlo p d s, min (thi p d s) (p.th - 1)⟩, ?_⟩
        rw [if_pos rfl]
        unfold stayC
        rw [if_pos hst]
      · refine key p.rest (by omega) (by omega) ?_
        unfold caseAt
        rw [jo_comm]
        refine joS _ _ ?_
        rw [hs, show contrO p d (some s) p.rest = contr0 p d s p.rest from rfl]
        unfold contr0
        rw [jo_comm]
        refine joS _ _ ⟨spikeS p d s, ?_⟩
        rw [if_pos rfl]
        unfold spikeC
        rw [if_neg (by have := htl s (h.sp 0 s hs); omega)]
    · refine key (k - 1) (by omega) (by omega) ?_
      unfold caseAt
      refine joS _ _ ⟨s, ?_⟩
      rw [show k - 1 + 1 = k by omega]
      exact hs

theorem addV_le {a b : Int} (h : VLe a b) (ha : 0 ≤ a ∧ a ≤ 2) (w : Int) {s u : Sp} (hs : SpLe s u) : SpLe (addV a w s) (addV b w u) := by
  unfold SpLe at *
  rcases h with rfl | rfl
  · unfold addV
    split
    · dsimp only; omega
    · split
      · dsimp only; omega
      · exact hs
  · have e1 : ∀ x : Sp, addV 1 w x = ⟨x.lo + min 0 w, x.hi + max 0 w⟩ := fun x => by unfold addV; rw [if_neg (by omega), if_pos rfl]
    rw [e1]
    unfold addV
    split
    · dsimp only; omega
    · split
      · dsimp only; omega
      · dsimp only; omega

theorem addV_proper (a w : Int) {s : Sp} (hs : s.lo ≤ s.hi) : (addV a w s).lo ≤ (addV a w s).hi := by
  unfold addV
  split
  · dsimp only; omega
  · split
    · dsimp only; omega
    · exact hs

def XLe (X Y : List Sp) : Prop := X.length = Y.length ∧ (∀ (i : Nat) s u, X[i]? = some s → Y[i]? = some u → SpLe s u) ∧ ∀ (i : Nat) s, X[i]? = some s → s.lo ≤ s.hi

theorem XLe.one {X Y : List Sp} (h : XLe X Y) {f g : Syn → Int} {y : Syn} (hv : VLe (f y) (g y)) (hf : 0 ≤ f y ∧ f y ≤ 2) : XLe (inOne f X y) (inOne g Y y) := by
  obtain ⟨h1, h2, h3⟩ := h
  unfold inOne
  have key : ∀ (Z : List Sp) (k : Nat) (q : Sp → Sp) (i : Nat) (x : Sp), (Z.modify k q)[i]? = some x → ∃ z, Z[i]? = some z ∧ x = if k = i then q z else z := by
    intro Z k q i x hx
    rw [List.getElem?_modify] at hx
    cases hz : Z[i]? with
    | none => rw [hz] at hx; simp at hx
    | some z =>
      rw [hz] at hx
      refine ⟨z, rfl, ?_⟩
      have hx' : some (if k = i then q z else z) = some x := by
        by_cases hk : k = i <;> simpa [hk] using hx
      exact (Option.some.inj hx').symm
  refine ⟨by simp [h1], fun i s u hs hu => ?_, fun i s hs => ?_⟩
  · obtain ⟨a, ha, rfl⟩ := key _ _ _ _ _ hs
    obtain ⟨b, hb, rfl⟩ := key _ _ _ _ _ hu
    have := h2 i a b ha hb
    split
    · exact addV_le hv hf _ this
    · exact this
  · obtain ⟨a, ha, rfl⟩ := key _ _ _ _ _ hs
    have := h3 i a ha
    split
    · exact addV_proper _ _ this
    · exact this

theorem XLe.fold {f g : Syn → Int} : ∀ (l : List Syn) {X Y : List Sp}, XLe X Y → (∀ y ∈ l, VLe (f y) (g y) ∧ 0 ≤ f y ∧ f y ≤ 2) → XLe (l.foldl (inOne f) X) (l.foldl (inOne g) Y)
  | [], _, _, h, _ => h
  | y :: l, _, _, h, hl => XLe.fold l (h.one (hl y List.mem_cons_self).1 (hl y List.mem_cons_self).2) fun z hz => hl z (List.mem_cons_of_mem _ hz)

end Go.Gm
end
