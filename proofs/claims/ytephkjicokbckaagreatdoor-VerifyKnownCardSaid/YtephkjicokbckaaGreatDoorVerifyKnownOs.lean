import Derived.Test.YtephkjicokbckaaGreatDoorVerifyKnownOa
set_option linter.unusedVariables false

set_option linter.unusedSimpArgs false

namespace Go.Proofs

open Go Go.Vx Go.Gm

open Go.Sort (flatK HoldsK putRowK)

def cmpE (x y : Evt) : Int := if cmpI x.tick y.tick = 0 then cmpI x.id y.id else cmpI x.tick y.tick

def sortE (xs : List Evt) : List Evt := xs.mergeSort fun x y => !(ltOf cmpE) y x

theorem cmpI_lt (a b : Int) : cmpI a b < 0 ↔ a < b := by
  unfold cmpI
  by_cases h1 : a < b
  · simp [h1]
  · by_cases h2 : b < a <;> simp [h1, h2]

theorem cmpI_eq (a b : Int) : cmpI a b = 0 ↔ a = b := by
  unfold cmpI
  by_cases h1 : a < b
  · simp [h1]; omega
  · by_cases h2 : b < a
    · simp [h1, h2]; omega
    · simp [h1, h2]; omega

theorem ltE (x y : Evt) : ltOf cmpE x y = decide (evLt x y) := by
  unfold ltOf
  refine decide_eq_decide.2 ?_
  unfold cmpE evLt
  have h1 := cmpI_eq x.tick y.tick
  have h2 := cmpI_lt x.tick y.tick
  have h3 := cmpI_lt x.id y.id
  by_cases h : cmpI x.tick y.tick = 0
  · rw [if_pos h]; omega
  · rw [if_neg h]; omega

theorem swoE : Go.Sort.SWO (ltOf cmpE) where
  irrefl x := by rw [ltE]; simp [evLt_irrefl]
  trans x y z h1 h2 := by rw [ltE] at *; simp at *; exact evLt_trans h1 h2
  ntrans x y z h1 h2 := by
    rw [ltE] at *
    have h1' := of_decide_eq_false h1
    have h2' := of_decide_eq_false h2
    refine decide_eq_false ?_
    unfold evLt at *
    omega

theorem totE (x y : Evt) (h1 : ltOf cmpE x y = false) (h2 : ltOf cmpE y x = false) : x = y := by
  rw [ltE] at *
  exact evLt_tri (by simpa using h1) (by simpa using h2)

instance : Inhabited Evt := ⟨⟨0, 0⟩⟩

theorem flat_at {α : Type} [Inhabited α] {f : α → List Value} {k : Nat} (hk : ∀ x, (f x).length = k) (hk0 : 0 < k) : ∀ (l : List α) (t : Nat), t < l.length * k → (flat f l)[t]? = some ((f l[t / k]!)[t % k]!)
  | [], t, h => by simp at h
  | x :: r, t, h => by
    have e : flat f (x :: r) = f x ++ flat f r := rfl
    rw [e]
    by_cases ht : t < k
    · rw [List.getElem?_append_left (by rw [hk]; exact ht), Nat.div_eq_of_lt ht, Nat.mod_eq_of_lt ht]
      show _ = some ((f x)[t]!)
      rw [getElem!_pos _ _ (by rw [hk]; exact ht)]
      exact List.getElem?_eq_getElem _
    · obtain ⟨s, rfl⟩ : ∃ s, t = s + k := ⟨t - k, by omega⟩
      rw [List.getElem?_append_right (by rw [hk]; omega), hk, Nat.add_sub_cancel, Nat.add_div_right _ hk0, Nat.add_mod_right]
      rw [flat_at hk hk0 r s (by rw [List.length_cons, Nat.add_mul] at h; omega)]
      simp

theorem flatK_flat {α : Type} [Inhabited α] {f : α → List Value} {k : Nat} (hk : ∀ x, (f x).length = k) (hk0 : 0 < k) (l : List α) : (flatK f k l.toArray).toList = flat f l := by
  apply List.ext_getElem?
  intro t
  by_cases ht : t < l.length * k
  · rw [flat_at hk hk0 l t ht]
    simp [flatK, ht]
  · rw [List.getElem?_eq_none (by simp; omega), List.getElem?_eq_none (by rw [flat_length hk]; omega)]

theorem sortE_some (g off cap : Nat) (xs : List Evt) (w : World) (hH : HoldsK evtV 2 w g off xs.toArray) (hg : g < w.heap.size) (hsz : xs.length < 4611686018427387904) :
    Calls Tryz.prog 159 #[.slice (some ⟨g, off, none⟩) xs.length cap, .func (.func 160) #[] #[]] w fun e w' => e = .returned (.tuple #[]) ∧ ∃ n os, w' = sortWorldK evtV 2 w g off n (sortE xs).toArray os := by
  have eg : ∀ args w, (callFunc 160 args).run Tryz.prog w = .ok (.enter 160 args) w := enters_of Tryz.func160 (by kernel_rfl) rfl
  have hS := AnyQ.slices_SortFunc_total Tryz.sortL 2 Tryz.isAgg64 Tryz.sizeOf64 evtV (fun _ => rfl) (fun x v hv => by simp [evtV] at hv; rcases hv with rfl | rfl <;> rfl) cmpE swoE 160 #[] g off cap xs.toArray w eg (fun _ _ _ _ x y => cmpEvt_k x y _) hH hg (by simpa using hsz) totE
  exact hS

theorem sortE_none (p : Option Addr) (cap : Nat) (w : World) :
    Calls Tryz.prog 159 #[.slice p 0 cap, .func (.func 160) #[] #[]] w fun e w' => e = .returned (.tuple #[]) ∧ w' = w :=
  AnyF.slices_SortFunc_none (P := Tryz.prog) (ρ := Tryz.sortL_ren) Tryz.sortL p cap (.func (.func 160) #[] #[]) w

theorem sortE_call {w0 : World} {M : List Nat} {H r : HP} {u : Ent → HP} {K : Value → HP → Prop} (p : Option Addr) (n cap : Nat) (xs : List Evt) (hn : xs.length = n) (hat : At H (.vec p n cap 64 2 (flat evtV xs)) u r) (hsz : n < 4611686018427387904)
    (hk : K (.tuple #[]) (u (.vec p n cap 64 2 (flat evtV (sortE xs))))) : VCall Tryz.cx.P w0 M H 159 [.slice p n cap, .func (.func 160) #[] #[]] K := by
  refine .mk fun w hw => ?_
  have hsat := hw.own _ hat.mem
  have hsl : (sortE xs).length = n := by unfold sortE; rw [List.length_mergeSort, hn]
  cases p with
  | none =>
    obtain ⟨h1, h2⟩ := hsat
    rcases h2 with ⟨h3, h4⟩ | ⟨g, c, cur, hv, _⟩
    · simp only [Value.slice.injEq] at h3
      have hn0 : n = 0 := h3.2.1
      subst hn0
      have hx : xs = [] := List.eq_nil_of_length_eq_zero hn
      subst hx
      refine (sortE_none none cap w).mono fun e w' ⟨he, hw'⟩ => ?_
      subst hw'
      refine ⟨.tuple #[], _, he, ?_, hk⟩
      have : sortE [] = [] := by simp [sortE]
      rw [this]
      exact hw.turn hat (fun h => h)
    · cases hv
  | some a =>
    obtain ⟨g, cur, hg, hh, hnc, hcm, hcs, ht, hlen⟩ := vec_some hsat
    subst hg
    have hH : HoldsK evtV 2 w g 0 xs.toArray := by
      intro j hj
      have hj' : j < n * 2 := by simpa [hn] using hj
      have h1 : (cur.toList.take (n * 2))[j]? = ((flatK evtV 2 xs.toArray).toList)[j]? := by rw [ht, flatK_flat (f := evtV) (k := 2) (fun _ => rfl) (by omega)]
      rw [List.getElem?_take, if_pos hj'] at h1
      refine ⟨?_, ?_⟩
      · simp only [Nat.zero_add, World.cell?, hh]
        rw [getElem!_pos _ j hj]
        simpa [hj, hj', hn] using h1
      · simp [World.frozen?, hh]
    have hglt : g < w.heap.size := (Array.getElem?_eq_some_iff.1 hh).1
    have hc := sortE_some g 0 cap xs w hH hglt (by omega)
    rw [hn] at hc
    refine hc.mono fun e w' ⟨he, q, os, hw'⟩ => ⟨.tuple #[], _, he, ?_, hk⟩
    subst hw'
    obtain ⟨F, hF⟩ : ∃ F, flatK evtV 2 (sortE xs).toArray = F := ⟨_, rfl⟩
    have hFl : F.toList = flat evtV (sortE xs) := by rw [← hF, flatK_flat (f := evtV) (k := 2) (fun _ => rfl) (by omega)]
    have hFs : F.size = n * 2 := by rw [← Array.length_toList, hFl, flat_length (k := 2) (fun _ => rfl), hsl]
    refine hw.turn hat fun hx => ?_
    have hheap : ∀ b, b < w.heap.size → (Go.Sort.grow (Go.Sort.putRow id (Go.Sort.ahead w q) g 0 F) os).heap[b]? =
        if g = b then (w.heap[b]?).map (Go.Sort.onCells (Go.Sort.putCells id 0 F)) else w.heap[b]? := by
      intro b hb
      simp only [Go.Sort.grow, Go.Sort.putRow, Go.Sort.mapBlock, Go.Sort.ahead]
      rw [Array.getElem?_append_left (by simpa using hb), Array.getElem?_modify]
    unfold sortWorldK putRowK
    rw [hF]
    refine hx.step rfl rfl rfl (by simp [Go.Sort.grow, Go.Sort.putRow, Go.Sort.mapBlock, Go.Sort.ahead]) (fun b hb hne => ?_) ?_ (fun b hb => .inl hb)
    · rw [hheap b hb, if_neg (fun e => hne (by rw [← e]; rfl))]
    · have h2 := hheap g hglt
      rw [if_pos rfl, hh] at h2
      simp only [Option.map_some, Go.Sort.onCells] at h2
      refine ownsRow_mk h2 hnc hcm (by simp [Go.Sort.putCells, hcs]) ?_
      rw [← hFl]
      apply List.ext_getElem?
      intro j
      rw [List.getElem?_take]
      by_cases hj : j < n * 2
      · rw [if_pos (by omega)]
        have hjc : j < cur.size := by have := Nat.mul_le_mul_right 2 hnc; omega
        simp only [Array.getElem?_toList, Go.Sort.putCells, Array.getElem?_mapIdx, hFs, Nat.zero_add, Nat.zero_le, true_and, hj, if_true, Nat.sub_zero, Array.getElem?_eq_getElem hjc, Option.map_some]
        rw [getElem!_pos F j (by omega), Array.getElem?_eq_getElem (by omega)]
        rfl
      · rw [if_neg (by omega), List.getElem?_eq_none (by rw [Array.length_toList]; omega)]

end Go.Proofs
