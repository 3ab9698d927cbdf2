import Derived.Test.YtephkjicokbckaaGreatDoorVerifyCertainWa
set_option linter.unusedVariables false

set_option linter.unusedSimpArgs false

namespace Go.Gm

def SpLe (a b : Sp) : Prop := b.lo ≤ a.lo ∧ a.hi ≤ b.hi

def VLe (a b : Int) : Prop := a = b ∨ b = 1

def CLe (A B : List (Option Sp)) : Prop := ∀ k s, cget A k = some s → ∃ u, cget B k = some u ∧ SpLe s u

def OLe (a b : Option Sp) : Prop := ∀ s, a = some s → ∃ u, b = some u ∧ SpLe s u

theorem OLe.none {b : Option Sp} : OLe none b := fun _ h => by cases h

theorem SpLe.refl (a : Sp) : SpLe a a := ⟨Int.le_refl _, Int.le_refl _⟩

theorem OLe.refl (a : Option Sp) : OLe a a := fun s h => ⟨s, h, .refl s⟩

theorem OLe.jo {a b c d : Option Sp} (h1 : OLe a c) (h2 : OLe b d) : OLe (jo a b) (jo c d) := by
  intro s hs
  cases a with
  | none =>
    rw [none_jo] at hs
    obtain ⟨u, rfl, hu⟩ := h2 s hs
    cases c with
    | none => exact ⟨u, rfl, hu⟩
    | some c => exact ⟨c.jn u, rfl, by unfold SpLe Sp.jn at *; dsimp only; omega⟩
  | some a =>
    obtain ⟨v, rfl, hv⟩ := h1 a rfl
    cases b with
    | none =>
      rw [jo_none] at hs
      cases hs
      cases d with
      | none => exact ⟨v, rfl, hv⟩
      | some d => exact ⟨v.jn d, rfl, by unfold SpLe Sp.jn at *; dsimp only; omega⟩
    | some b =>
      obtain ⟨w, rfl, hw⟩ := h2 b rfl
      cases hs
      exact ⟨v.jn w, rfl, by unfold SpLe Sp.jn at *; dsimp only; omega⟩

theorem tlo_le {p : Par} (hm : ∀ u v, u ≤ v → leak p u ≤ leak p v) {d e s u : Sp} (h1 : SpLe d e) (h2 : SpLe s u) : tlo p e u ≤ tlo p d s := by
  have := hm u.lo s.lo h2.1
  have := h1.1
  unfold tlo
  omega

theorem thi_le {p : Par} (hm : ∀ u v, u ≤ v → leak p u ≤ leak p v) {d e s u : Sp} (h1 : SpLe d e) (h2 : SpLe s u) : thi p d s ≤ thi p e u := by
  have := hm s.hi u.hi h2.2
  have := h1.2
  unfold thi
  omega

theorem stayC_le {p : Par} (hm : ∀ u v, u ≤ v → leak p u ≤ leak p v) {d e s u : Sp} (h1 : SpLe d e) (h2 : SpLe s u) : OLe (stayC p d s) (stayC p e u) := by
  intro x hx
  have a1 := tlo_le hm h1 h2
  have a2 := thi_le hm h1 h2
  unfold stayC at hx
  split at hx
  · cases hx
    exact ⟨_, by unfold stayC; rw [if_pos (by omega)], by unfold SpLe; dsimp only; omega⟩
  · cases hx

theorem spikeC_le {p : Par} (hm : ∀ u v, u ≤ v → leak p u ≤ leak p v) {d e s u : Sp} (h1 : SpLe d e) (h2 : SpLe s u) : OLe (spikeC p d s) (spikeC p e u) := by
  intro x hx
  have a1 := tlo_le hm h1 h2
  have a2 := thi_le hm h1 h2
  unfold spikeC at hx
  split at hx
  · cases hx
  · cases hx
    refine ⟨_, by unfold spikeC; rw [if_neg (by omega)], ?_⟩
    unfold spikeS
    split
    · unfold SpLe; dsimp only; omega
    · exact .refl _

theorem contr0_le {p : Par} (hm : ∀ u v, u ≤ v → leak p u ≤ leak p v) {d e s u : Sp} (h1 : SpLe d e) (h2 : SpLe s u) (r : Int) : OLe (contr0 p d s r) (contr0 p e u r) := by
  unfold contr0
  refine OLe.jo ?_ ?_
  · split
    · exact stayC_le hm h1 h2
    · exact .refl _
  · split
    · exact spikeC_le hm h1 h2
    · exact .refl _

theorem caseAt_le {p : Par} (hm : ∀ u v, u ≤ v → leak p u ≤ leak p v) {A B : List (Option Sp)} {d e : Sp} (h1 : SpLe d e) (h : CLe A B) (r : Int) : OLe (caseAt p A d r) (caseAt p B e r) := by
  unfold caseAt
  refine OLe.jo (fun s hs => h _ s hs) ?_
  cases h0 : cget A 0 with
  | none => exact .none
  | some s =>
    obtain ⟨u, hu, hsu⟩ := h 0 s h0
    rw [hu]
    exact contr0_le hm h1 hsu r

theorem cget_tick {p : Par} {C : List (Option Sp)} {d : Sp} {k : Int} (h0 : 0 ≤ k) (h : k < C.length) : cget (tickC p C d) k = caseAt p C d k := by
  obtain ⟨n, rfl⟩ : ∃ n : Nat, k = n := ⟨k.toNat, by omega⟩
  rw [cget_nat, tickC_get (by omega)]; rfl

theorem tickC_le {p : Par} (hm : ∀ u v, u ≤ v → leak p u ≤ leak p v) {A B : List (Option Sp)} (hl : A.length = B.length) {d e : Sp} (h1 : SpLe d e) (h : CLe A B) : CLe (tickC p A d) (tickC p B e) := by
  intro k s hs
  obtain ⟨g1, g2, _⟩ := cget_some hs
  rw [tickC_len] at g2
  rw [cget_tick g1 g2] at hs
  rw [cget_tick g1 (by omega)]
  exact caseAt_le hm h1 h k s hs

theorem tickV_le {p : Par} (hm : ∀ u v, u ≤ v → leak p u ≤ leak p v) {A B : List (Option Sp)} {d e : Sp} (h1 : SpLe d e) (hd : d.lo ≤ d.hi) (h : CLe A B) (hsome : ∃ k s, cget A k = some s) (hin : ∀ k s, cget A k = some s → s.lo ≤ s.hi) : VLe (tickV p A d) (tickV p B e) := by
  have hr : restsB A = true → restsB B = true := by
    rw [restsB_iff, restsB_iff]
    rintro ⟨k, hk, hs⟩
    cases hc : cget A k with
    | none => exact absurd hc hs
    | some s =>
      obtain ⟨u, hu, _⟩ := h k s hc
      exact ⟨k, hk, by rw [hu]; simp⟩
  unfold VLe
  cases h0 : cget A 0 with
  | none =>
    have hrb : restsB B = true := by
      refine hr (restsB_iff.2 ?_)
      obtain ⟨k, s, hs⟩ := hsome
      obtain ⟨g1, _, _⟩ := cget_some hs
      refine ⟨k, ?_, by rw [hs]; simp⟩
      by_cases hk : k = 0
      · subst hk; rw [h0] at hs; cases hs
      · omega
    unfold tickV
    rw [h0]
    dsimp only
    cases cget B 0 with
    | none => exact .inl rfl
    | some u =>
      dsimp only
      split
      · exact .inl rfl
      · rw [if_pos (.inl hrb)]; exact .inr rfl
  | some s =>
    obtain ⟨u, hu, hsu⟩ := h 0 s h0
    have a1 := tlo_le hm h1 hsu
    have a2 := thi_le hm h1 hsu
    have a3 : tlo p d s ≤ thi p d s := by
      have := hm _ _ (hin 0 s h0)
      unfold tlo thi
      omega
    unfold tickV
    rw [h0, hu]
    dsimp only
    by_cases c1 : thi p e u < p.th
    · rw [if_pos c1, if_pos (by omega)]; exact .inl rfl
    · rw [if_neg c1]
      by_cases c2 : restsB B = true ∨ tlo p e u < p.th
      · rw [if_pos c2]; exact .inr rfl
      · rw [if_neg c2, if_neg (by omega), if_neg]
        · exact .inl rfl
        · rintro (h | h)
          · exact c2 (.inl (hr h))
          · exact c2 (.inr (by omega))

theorem jo_proper {a b : Option Sp} (ha : ∀ s, a = some s → s.lo ≤ s.hi) (hb : ∀ s, b = some s → s.lo ≤ s.hi) : ∀ s, jo a b = some s → s.lo ≤ s.hi := by
  intro s hs
  cases a with
  | none => exact hb s hs
  | some a =>
    cases b with
    | none => cases hs; exact ha _ rfl
    | some b =>
      cases hs
      have := ha a rfl
      have := hb b rfl
      unfold Sp.jn
      dsimp only
      omega

structure Proper (A : List (Option Sp)) : Prop where
  sp : ∀ k s, cget A k = some s → s.lo ≤ s.hi
  ex : ∃ k s, cget A k = some s

theorem Proper.tick {p : Par} (hp : ParOk p) (hm : ∀ u v, u ≤ v → leak p u ≤ leak p v) {A : List (Option Sp)} (hl : (A.length : Int) = p.rest + 1) {d : Sp} (hd : d.lo ≤ d.hi) (h : Proper A) : Proper (tickC p A d) := by
  have htl : ∀ s : Sp, s.lo ≤ s.hi → tlo p d s ≤ thi p d s := fun s hs => by
    have := hm _ _ hs
    unfold tlo thi
    omega
  have hrest := hp.rest
  refine ⟨fun k s hs => ?_, ?_⟩
  · obtain ⟨g1, g2, _⟩ := cget_some hs
    rw [tickC_len] at g2
    rw [cget_tick g1 g2] at hs
    unfold caseAt at hs
    refine jo_proper (fun s hs => h.sp _ s hs) ?_ s hs
    intro s hs
    cases h0 : cget A 0 with
    | none => rw [h0] at hs; cases hs
    | some u =>
      rw [h0] at hs
      have hu := htl u (h.sp 0 u h0)
      refine jo_proper ?_ ?_ s hs
      · intro s hs
        split at hs
        · unfold stayC at hs
          split at hs
          · cases hs; dsimp only; omega
          · cases hs
        · cases hs
      · intro s hs
        split at hs
        · unfold spikeC at hs
          split at hs
          · cases hs
          · cases hs
            unfold spikeS
            split
            · dsimp only; omega
            · exact Int.le_refl _
        · cases hs
  · obtain ⟨k, s, hs⟩ := h.ex
    obtain ⟨g1, g2, _⟩ := cget_some hs
    have key : ∀ r : Int, 0 ≤ r → r < A.length → (∃ x, caseAt p A d r = some x) → ∃ k s, cget (tickC p A d) k = some s := fun r h0 h1 ⟨x, hx⟩ => ⟨r, x, by rw [cget_tick h0 h1]; exact hx⟩
    have joS : ∀ a b : Option Sp, (∃ x, a = some x) → ∃ x, jo a b = some x := by
      rintro a b ⟨x, rfl⟩
      cases b with
      | none => exact ⟨x, rfl⟩
      | some b => exact ⟨x.jn b, rfl⟩
    by_cases hk : k = 0
    · subst hk
      by_cases hst : tlo p d s < p.th
      · refine key 0 (by omega) (by omega) ?_
        unfold caseAt
        rw [jo_comm]
        refine joS _ _ ?_
        rw [hs]
        refine joS _ _ ⟨⟨tlo p d s, min (thi p d s) (p.th - 1)⟩, ?_⟩
        rw [if_pos rfl]
        unfold stayC
        rw [if_pos hst]
      · refine key p.rest (by omega) (by omega) ?_
        unfold caseAt
        rw [jo_comm]
        refine joS _ _ ?_
        rw [hs, show contrO p d (some s) p.rest = contr0 p d s p.rest from rfl]
        unfold contr0
        rw [jo_comm]
        refine joS _ _ ⟨spikeS p d s, ?_⟩
        rw [if_pos rfl]
        unfold spikeC
        rw [if_neg (by have := htl s (h.sp 0 s hs); omega)]
    · refine key (k - 1) (by omega) (by omega) ?_
      unfold caseAt
      refine joS _ _ ⟨s, ?_⟩
      rw [show k - 1 + 1 = k by omega]
      exact hs

theorem addV_le {a b : Int} (h : VLe a b) (ha : 0 ≤ a ∧ a ≤ 2) (w : Int) {s u : Sp} (hs : SpLe s u) : SpLe (addV a w s) (addV b w u) := by
  unfold SpLe at *
  rcases h with rfl | rfl
  · unfold addV
    split
    · dsimp only; omega
    · split
      · dsimp only; omega
      · exact hs
  · have e1 : ∀ x : Sp, addV 1 w x = ⟨x.lo + min 0 w, x.hi + max 0 w⟩ := fun x => by unfold addV; rw [if_neg (by omega), if_pos rfl]
    rw [e1]
    unfold addV
    split
    · dsimp only; omega
    · split
      · dsimp only; omega
      · dsimp only; omega

theorem addV_proper (a w : Int) {s : Sp} (hs : s.lo ≤ s.hi) : (addV a w s).lo ≤ (addV a w s).hi := by
  unfold addV
  split
  · dsimp only; omega
  · split
    · dsimp only; omega
    · exact hs

def XLe (X Y : List Sp) : Prop := X.length = Y.length ∧ (∀ (i : Nat) s u, X[i]? = some s → Y[i]? = some u → SpLe s u) ∧ ∀ (i : Nat) s, X[i]? = some s → s.lo ≤ s.hi

theorem XLe.one {X Y : List Sp} (h : XLe X Y) {f g : Syn → Int} {y : Syn} (hv : VLe (f y) (g y)) (hf : 0 ≤ f y ∧ f y ≤ 2) : XLe (inOne f X y) (inOne g Y y) := by
  obtain ⟨h1, h2, h3⟩ := h
  unfold inOne
  have key : ∀ (Z : List Sp) (k : Nat) (q : Sp → Sp) (i : Nat) (x : Sp), (Z.modify k q)[i]? = some x → ∃ z, Z[i]? = some z ∧ x = if k = i then q z else z := by
    intro Z k q i x hx
    rw [List.getElem?_modify] at hx
    cases hz : Z[i]? with
    | none => rw [hz] at hx; simp at hx
    | some z =>
      rw [hz] at hx
      refine ⟨z, rfl, ?_⟩
      have hx' : some (if k = i then q z else z) = some x := by
        by_cases hk : k = i <;> simpa [hk] using hx
      exact (Option.some.inj hx').symm
  refine ⟨by simp [h1], fun i s u hs hu => ?_, fun i s hs => ?_⟩
  · obtain ⟨a, ha, rfl⟩ := key _ _ _ _ _ hs
    obtain ⟨b, hb, rfl⟩ := key _ _ _ _ _ hu
    have := h2 i a b ha hb
    split
    · exact addV_le hv hf _ this
    · exact this
  · obtain ⟨a, ha, rfl⟩ := key _ _ _ _ _ hs
    have := h3 i a ha
    split
    · exact addV_proper _ _ this
    · exact this

theorem XLe.fold {f g : Syn → Int} : ∀ (l : List Syn) {X Y : List Sp}, XLe X Y → (∀ y ∈ l, VLe (f y) (g y) ∧ 0 ≤ f y ∧ f y ≤ 2) → XLe (l.foldl (inOne f) X) (l.foldl (inOne g) Y)
  | [], _, _, h, _ => h
  | y :: l, _, _, h, hl => XLe.fold l (h.one (hl y List.mem_cons_self).1 (hl y List.mem_cons_self).2) fun z hz => hl z (List.mem_cons_of_mem _ hz)

def RLe (A B : List Int) : Prop := A.length = B.length ∧ ∀ (i : Nat) a b, A[i]? = some a → B[i]? = some b → VLe a b

def OutLe (A B : List (List Int)) : Prop := A.length = B.length ∧ ∀ (t : Nat) a b, A[t]? = some a → B[t]? = some b → RLe a b

structure BLe (N : Net) (b c : BSt) : Prop where
  cells : ∀ (i : Nat) A B, b.cells[i]? = some A → c.cells[i]? = some B → CLe A B
  proper : ∀ (i : Nat) A, b.cells[i]? = some A → Proper A
  out : OutLe b.out c.out

theorem sentV_in (sure may : List Evt) {out : List (List Int)} (h : ∀ r ∈ out, ∀ v ∈ r, 0 ≤ v ∧ v ≤ 2) (frm t : Int) : 0 ≤ sentV sure may out frm t ∧ sentV sure may out frm t ≤ 2 := by
  unfold sentV
  split
  · omega
  · split
    · cases hr : out[t.toNat]? with
      | none => simp
      | some r =>
        cases hv : r[frm.toNat]? with
        | none => simp [hv]
        | some v => simp only [Option.getD_some, hv]; exact h r (List.mem_of_getElem? hr) v (List.mem_of_getElem? hv)
    · split
      · omega
      · split <;> omega

theorem sentV_le {s1 m1 s2 m2 : List Evt} (hs : ∀ e ∈ s2, e ∈ s1) (hm : ∀ e, e ∈ s1 ∨ e ∈ m1 → e ∈ s2 ∨ e ∈ m2) {A B : List (List Int)} (h : OutLe A B) (frm t : Int) : VLe (sentV s1 m1 A frm t) (sentV s2 m2 B frm t) := by
  unfold sentV
  split
  · exact .inl rfl
  · split
    · cases ha : A[t.toNat]? with
      | none =>
        have : B[t.toNat]? = none := by rw [List.getElem?_eq_none_iff] at ha ⊢; rw [← h.1]; exact ha
        rw [this]; exact .inl rfl
      | some a =>
        obtain ⟨b, hb⟩ : ∃ b, B[t.toNat]? = some b := ⟨B[t.toNat]'(by rw [← h.1]; exact (List.getElem?_eq_some_iff.1 ha).1), List.getElem?_eq_getElem _⟩
        have hr := h.2 _ a b ha hb
        rw [hb]
        simp only [Option.getD_some]
        cases hx : a[frm.toNat]? with
        | none =>
          have : b[frm.toNat]? = none := by rw [List.getElem?_eq_none_iff] at hx ⊢; rw [← hr.1]; exact hx
          rw [this]; exact .inl rfl
        | some x =>
          obtain ⟨y, hy⟩ : ∃ y, b[frm.toNat]? = some y := ⟨b[frm.toNat]'(by rw [← hr.1]; exact (List.getElem?_eq_some_iff.1 hx).1), List.getElem?_eq_getElem _⟩
          rw [hy]
          exact hr.2 _ x y hx hy
    · by_cases c2 : (⟨t, -1 - frm⟩ : Evt) ∈ s2
      · rw [if_pos c2, if_pos (hs _ c2)]; exact .inl rfl
      · rw [if_neg c2]
        by_cases d2 : (⟨t, -1 - frm⟩ : Evt) ∈ m2
        · rw [if_pos d2]; exact .inr rfl
        · rw [if_neg d2]
          have hno : ¬ ((⟨t, -1 - frm⟩ : Evt) ∈ s1 ∨ (⟨t, -1 - frm⟩ : Evt) ∈ m1) := fun h => by rcases hm _ h with h | h <;> contradiction
          rw [if_neg (fun h => hno (.inl h)), if_neg (fun h => hno (.inr h))]; exact .inl rfl

theorem bst_le {N : Net} (hp : ∀ p ∈ N.ps, ParOk p) (hm : ∀ p ∈ N.ps, ∀ u v, u ≤ v → leak p u ≤ leak p v) {s1 m1 s2 m2 : List Evt} (hs : ∀ e ∈ s2, e ∈ s1) (hmm : ∀ e, e ∈ s1 ∨ e ∈ m1 → e ∈ s2 ∨ e ∈ m2) : ∀ t, BLe N (bst N s1 m1 t) (bst N s2 m2 t)
  | 0 => by
    refine ⟨fun i A B hA hB => ?_, fun i A hA => ?_, rfl, fun t a b ha => by simp [bst] at ha⟩
    · simp only [bst] at hA hB
      rw [hA] at hB
      cases hB
      exact fun k s hs => ⟨s, hs, .refl s⟩
    · simp only [bst, List.getElem?_map] at hA
      cases hq : N.ps[i]? with
      | none => rw [hq] at hA; cases hA
      | some p =>
        rw [hq] at hA
        cases hA
        refine ⟨fun k s hs => ?_, 0, ⟨0, 0⟩, by rw [cell0_get, if_pos rfl]⟩
        rw [cell0_get] at hs
        split at hs
        · cases hs; exact Int.le_refl _
        · cases hs
  | t + 1 => by
    have ih := bst_le hp hm hs hmm t
    have o1 := bst_ok hp s1 m1 t
    have o2 := bst_ok hp s2 m2 t
    have hX : XLe (inB N s1 m1 (bst N s1 m1 t).out) (inB N s2 m2 (bst N s2 m2 t).out) := by
      unfold inB insV
      refine XLe.fold _ ⟨rfl, fun i s u h1 h2 => ?_, fun i s h1 => ?_⟩ fun y hy => ⟨?_, ?_⟩
      · rw [h1] at h2; cases h2; exact .refl _
      · have := List.mem_replicate.1 (List.mem_of_getElem? h1); rw [this.2]; exact Int.le_refl _
      · rw [ih.out.1]
        exact sentV_le hs hmm ih.out _ _
      · exact sentV_in _ _ (fun r hr => (o1.row r hr).2) _ _
    obtain ⟨X, hXe⟩ : ∃ X, inB N s1 m1 (bst N s1 m1 t).out = X := ⟨_, rfl⟩
    obtain ⟨Y, hYe⟩ : ∃ Y, inB N s2 m2 (bst N s2 m2 t).out = Y := ⟨_, rfl⟩
    rw [hXe, hYe] at hX
    have hXl : X.length = N.ps.length := by rw [← hXe]; exact insV_len _ _ _
    have key : ∀ i, i < N.ps.length → ∃ p A B d e, N.ps[i]? = some p ∧ (bst N s1 m1 t).cells[i]? = some A ∧ (bst N s2 m2 t).cells[i]? = some B ∧ X[i]? = some d ∧ Y[i]? = some e := fun i hi =>
      ⟨_, _, _, _, _, List.getElem?_eq_getElem hi, List.getElem?_eq_getElem (by rw [o1.cells]; exact hi), List.getElem?_eq_getElem (by rw [o2.cells]; exact hi), List.getElem?_eq_getElem (by omega), List.getElem?_eq_getElem (by have := hX.1; omega)⟩
    refine ⟨fun i A B hA hB => ?_, fun i A hA => ?_, ?_, fun τ a b ha hb => ?_⟩
    · simp only [bst, bstep, List.getElem?_map] at hA hB
      have hi : i < N.ps.length := by
        by_cases h : i < N.ps.length
        · exact h
        · rw [List.getElem?_eq_none (by simp; omega)] at hA; cases hA
      obtain ⟨p, A0, B0, d, e, h1, h2, h3, h4, h5⟩ := key i hi
      rw [List.getElem?_range hi] at hA hB
      simp only [Option.map_some, Option.some.injEq] at hA hB
      rw [← hA, ← hB]
      unfold tkC
      rw [hXe, hYe, h1, h2, h3, h4, h5]
      have k1 := (o1.ok i p A0 h1 h2).len
      have k2 := (o2.ok i p B0 h1 h3).len
      simp only [Option.getD_some]
      exact tickC_le (hm p (List.mem_of_getElem? h1)) (by omega) (hX.2.1 i d e h4 h5) (ih.cells i A0 B0 h2 h3)
    · simp only [bst, bstep, List.getElem?_map] at hA
      have hi : i < N.ps.length := by
        by_cases h : i < N.ps.length
        · exact h
        · rw [List.getElem?_eq_none (by simp; omega)] at hA; cases hA
      obtain ⟨p, A0, B0, d, e, h1, h2, h3, h4, h5⟩ := key i hi
      rw [List.getElem?_range hi] at hA
      simp only [Option.map_some, Option.some.injEq] at hA
      rw [← hA]
      unfold tkC
      rw [hXe, h1, h2, h4]
      exact (ih.proper i A0 h2).tick (hp p (List.mem_of_getElem? h1)) (hm p (List.mem_of_getElem? h1)) (o1.ok i p A0 h1 h2).len (hX.2.2 i d h4)
    · simp only [bst, bstep, List.length_append, ih.out.1, List.length_singleton]
    · simp only [bst, bstep] at ha hb
      rcases Nat.lt_or_ge τ t with h | h
      · rw [List.getElem?_append_left (by rw [o1.out]; exact h)] at ha
        rw [List.getElem?_append_left (by rw [o2.out]; exact h)] at hb
        exact ih.out.2 τ a b ha hb
      · rw [List.getElem?_append_right (by rw [o1.out]; exact h), o1.out] at ha
        rw [List.getElem?_append_right (by rw [o2.out]; exact h), o2.out] at hb
        have hz : τ - t = 0 := by
          by_cases hz : τ - t = 0
          · exact hz
          · rw [List.getElem?_eq_none (by simp; omega)] at ha; cases ha
        rw [hz] at ha hb
        cases ha
        cases hb
        refine ⟨by simp, fun i a b ha hb => ?_⟩
        have hi : i < N.ps.length := by
          by_cases h : i < N.ps.length
          · exact h
          · rw [List.getElem?_eq_none (by simp; omega)] at ha; cases ha
        obtain ⟨p, A0, B0, d, e, h1, h2, h3, h4, h5⟩ := key i hi
        rw [List.getElem?_map, List.getElem?_range hi] at ha hb
        cases ha
        cases hb
        unfold tkV
        rw [hXe, hYe, h1, h2, h3, h4, h5]
        exact tickV_le (hm p (List.mem_of_getElem? h1)) (hX.2.1 i d e h4 h5) (hX.2.2 i d h4) (ih.cells i A0 B0 h2 h3) (ih.proper i A0 h2).ex (ih.proper i A0 h2).sp

end Go.Gm
