import Derived.Test.YtephkjicokbckaaGreatDoorVerifyKnownFx
import Derived.Test.YtephkjicokbckaaGreatDoorVerifyKnownNa
import Derived.Test.YtephkjicokbckaaGreatDoorVerifyKnownHh
set_option linter.unusedVariables false

set_option linter.unusedSimpArgs false

namespace Go.Proofs

open Go Go.Vx Go.Gm

def natV (n : Nat) : List Value := [.int .i64 (n : Int)]

def partK (tick : Int) (k : Nat) (i : Nat) : List Int :=
  (if 1 ≤ i ∧ 0 ≤ tick - k then [tick - (k : Int)] else []) ++ (if 2 ≤ i ∧ tick + k < 10000 then [tick + (k : Int)] else [])

theorem partK_two (tick : Int) (k : Nat) : partK tick k 2 = optK tick k := by unfold partK optK; simp

theorem partK_zero (tick : Int) (k : Nat) : partK tick k 0 = [] := by unfold partK; simp

theorem partK_one (tick : Int) (k : Nat) : partK tick k 1 = if 0 ≤ tick - k then [tick - (k : Int)] else [] := by unfold partK; simp

theorem partK_one2 (tick : Int) (k : Nat) : partK tick k 2 = partK tick k 1 ++ if tick + k < 10000 then [tick + (k : Int)] else [] := by unfold partK; simp

theorem options_any (tick : Int) (ht : 0 ≤ tick ∧ tick < 10000) (j : Nat) (hj : j ≤ 64) (w : World) :
    Calls Tryz.prog 93 #[.int .i64 tick, .int .i64 (j : Int)] w fun e w' => ∃ y : Option Addr × Nat, e = .returned (.slice y.1 ((opts tick j).length + 1) y.2) ∧ (∃ g, y.1 = some ⟨g, 0, none⟩) ∧
      St w [] [.vec y.1 ((opts tick j).length + 1) y.2 3 1 (flat intV (opts tick j ++ [-1]))] w' := by
  refine enter (C := Tryz.cx) (F := Tryz.fx93) (args := [_, _]) Tryz.func93 rfl rfl rfl Tryz.ok93 (St.start w []) ?_
  repeat' (conv => whnf); first | (refine VSeq.go ?_) | (refine VB.is ?_; refine VB.no (by omega) fun _ => ?_) | (refine VNew.mk fun _ => ?_) | (refine VAr.is ?_; refine oA ?_)
  all_goals (conv => whnf)
  refine VLoop.mk (α := Nat × Option Addr × Nat) (fun y => y.1 ≤ j) (fun y => [(1000000, .tuple #[]), (0, .int .i64 tick), (1, .int .i64 (j : Int)), (4, .slice none 0 0), (5, .slice y.2.1 (opts tick y.1).length y.2.2), (6, .int .i64 ((y.1 + 1 : Nat) : Int))])
    (fun y => [.vec y.2.1 (opts tick y.1).length y.2.2 3 1 (flat intV (opts tick y.1))]) (fun y => j - y.1) (0, _, _) (by dsimp only; omega) aE aH ?_
  rintro ⟨k, p, c⟩ hk
  dsimp only at hk ⊢
  obtain ⟨-, hl1, hl2⟩ := opts_ok ht k
  rcases Nat.lt_or_ge k j with hlt | hge
  · repeat' (conv => whnf); first | (refine VSeq.go ?_) | (refine VB.is ?_; refine VB.yes (by omega) fun _ => ?_) | (refine VNew.mk fun _ => ?_) | (refine VAr.is ?_; refine oA ?_)
    all_goals (conv => whnf)
    rename_i g
    refine VLoop.mk (α := Nat × Option Addr × Nat) (fun y => y.1 ≤ 2) (fun y => [(1000000, .tuple #[]), (0, .int .i64 tick), (1, .int .i64 (j : Int)), (4, .slice none 0 0), (5, .slice y.2.1 (opts tick k ++ partK tick (k + 1) y.1).length y.2.2), (6, .int .i64 ((k + 1 : Nat) : Int)), (22, .slice (some ⟨g, 0, none⟩) 2 2), (23, .int .i64 2), (24, .int .i64 (y.1 : Int))])
      (fun y => [.vec (some ⟨g, 0, none⟩) 2 2 3 1 (flat intV [tick - ((k + 1 : Nat) : Int), tick + ((k + 1 : Nat) : Int)]), .vec y.2.1 (opts tick k ++ partK tick (k + 1) y.1).length y.2.2 3 1 (flat intV (opts tick k ++ partK tick (k + 1) y.1))]) (fun y => 2 - y.1) (0, p, c) (by dsimp only; omega) ?_ ?_ ?_
    · dsimp only
      rw [partK_zero, List.append_nil]
      exact aE
    · dsimp only
      rw [partK_zero, List.append_nil]
      exact aH
    rintro ⟨i, q, d⟩ hi
    dsimp only at hi ⊢
    have hpl : (partK tick (k + 1) i).length ≤ 2 := by unfold partK; split <;> split <;> simp
    obtain ⟨X, hX⟩ : ∃ X, opts tick k ++ partK tick (k + 1) i = X := ⟨_, rfl⟩
    have hXl : X.length ≤ 131 := by rw [← hX, List.length_append]; omega
    rw [hX]
    match i, hi, hX with
    | 0, _, hX =>
      repeat' (conv => whnf); first | (refine VIx.is ?_; refine VIx.mk rfl (by omega) (by omega) ?_) | (refine VLd.is ?_; refine VLd.mk (Rd.cast (.vec aT (sub_flat0 (f := intV) (k := 1) (i := 0) (fun _ => rfl) rfl rfl)) (by first | omega | (dsimp only; omega) | rfl)) ?_) | (refine VCall.isF 90 ?_; refine VCall.inl (F := Tryz.fx90) Tryz.func90 rfl rfl rfl Tryz.ok90 ?_) | (refine VAp.is ?_; refine VAp.own (p := q) aT (.at_ (.vec aT rfl)) (by simp [Value.oneCell']) (by (try dsimp only); omega) (by simp only [maxLen]; omega) fun p' cap' hp' => ?_) | (refine VSeq.go ?_) | (refine VB.is ?_; refine VB.yes (by omega) fun _ => ?_) | (refine VB.split (fun _ => ?_) (fun _ => ?_)) | (refine VNew.mk fun _ => ?_) | (refine VAr.is ?_; refine oA ?_)
      all_goals (conv => whnf)
      · have e : opts tick k ++ partK tick (k + 1) 1 = X ++ [tick - ((k + 1 : Nat) : Int)] := by rw [← hX, partK_one, partK_zero, if_pos (by omega), List.append_nil]
        refine VNext.mk (1, p', cap') (by dsimp only; omega) (by dsimp only; omega) ?_ ?_
        · dsimp only; rw [e, List.length_append, List.length_cons, List.length_nil]; exact aE
        · dsimp only; rw [e, flat_append, List.length_append, List.length_cons, List.length_nil]; exact aH
      · have e : opts tick k ++ partK tick (k + 1) 1 = X := by rw [← hX, partK_one, partK_zero, if_neg (by omega)]
        refine VNext.mk (1, q, d) (by dsimp only; omega) (by dsimp only; omega) ?_ ?_
        · dsimp only; rw [e]; exact aE
        · dsimp only; rw [e]; exact aH
    | 1, _, hX =>
      repeat' (conv => whnf); first | (refine VIx.is ?_; refine VIx.mk rfl (by omega) (by omega) ?_) | (refine VLd.is ?_; refine VLd.mk (Rd.cast (.vec aT (sub_flat0 (f := intV) (k := 1) (i := 1) (fun _ => rfl) rfl rfl)) (by first | omega | (dsimp only; omega) | rfl)) ?_) | (refine VCall.isF 90 ?_; refine VCall.inl (F := Tryz.fx90) Tryz.func90 rfl rfl rfl Tryz.ok90 ?_) | (refine VAp.is ?_; refine VAp.own (p := q) aT (.at_ (.vec aT rfl)) (by simp [Value.oneCell']) (by (try dsimp only); omega) (by simp only [maxLen]; omega) fun p' cap' hp' => ?_) | (refine VSeq.go ?_) | (refine VB.is ?_; refine VB.yes (by omega) fun _ => ?_) | (refine VB.split (fun _ => ?_) (fun _ => ?_)) | (refine VNew.mk fun _ => ?_) | (refine VAr.is ?_; refine oA ?_)
      all_goals (conv => whnf)
      · have e : opts tick k ++ partK tick (k + 1) 2 = X ++ [tick + ((k + 1 : Nat) : Int)] := by rw [← hX, partK_one2, if_pos (by omega), List.append_assoc]
        refine VNext.mk (2, p', cap') (by dsimp only; omega) (by dsimp only; omega) ?_ ?_
        · dsimp only; rw [e, List.length_append, List.length_cons, List.length_nil]; exact aE
        · dsimp only; rw [e, flat_append, List.length_append, List.length_cons, List.length_nil]; exact aH
      · have e : opts tick k ++ partK tick (k + 1) 2 = X := by rw [← hX, partK_one2, if_neg (by omega), List.append_nil]
        refine VNext.mk (2, q, d) (by dsimp only; omega) (by dsimp only; omega) ?_ ?_
        · dsimp only; rw [e]; exact aE
        · dsimp only; rw [e]; exact aH
    | 2, _, hX =>
      repeat' (conv => whnf); first | (refine VSeq.go ?_) | (refine VB.is ?_; refine VB.no (by omega) fun _ => ?_) | (refine VNew.mk fun _ => ?_) | (refine VAr.is ?_; refine oA ?_)
      all_goals (conv => whnf)
      have e : opts tick (k + 1) = X := by rw [← hX, partK_two]; rfl
      refine VNext.mk (k + 1, q, d) (by dsimp only; omega) (by dsimp only; omega) ?_ ?_
      · dsimp only; rw [e]; exact aE
      · dsimp only; rw [e]; exact aH
  · repeat' (conv => whnf); first | (refine VAp.is ?_; refine VAp.own (p := p) aT (.at_ (.vec aT rfl)) (by simp [Value.oneCell']) (by (try dsimp only); omega) (by simp only [maxLen]; omega) fun p' cap' hp' => ?_) | (refine VSeq.go ?_) | (refine VB.is ?_; refine VB.no (by omega) fun _ => ?_) | (refine VNew.mk fun _ => ?_)
    all_goals (conv => whnf)
    have hkj : k = j := by omega
    subst hkj
    refine ⟨fun w' hw' => ⟨(p', cap'), rfl, hp' (by omega), ?_⟩⟩
    rw [flat_append]
    exact hw'.le aH

theorem sum_bound {B : Nat} : ∀ {l : List Nat}, (∀ v ∈ l, v ≤ B) → l.sum ≤ l.length * B
  | [], _ => by simp
  | v :: l, h => by
    have h1 := h v List.mem_cons_self
    have h2 := sum_bound fun u hu => h u (List.mem_cons_of_mem _ hu)
    simp only [List.sum_cons, List.length_cons, Nat.add_mul]
    omega

theorem sum_take_le (c : List Nat) (i : Nat) : (c.take i).sum ≤ c.sum := by
  conv => rhs; rw [← List.take_append_drop i c, List.sum_append]
  omega

theorem le_sum : ∀ {c : List Nat} {v : Nat}, v ∈ c → v ≤ c.sum
  | u :: c, v, h => by
    rcases List.mem_cons.1 h with rfl | h
    · simp only [List.sum_cons]; omega
    · have := le_sum h; simp only [List.sum_cons]; omega

theorem sum_any (c : List Nat) (hc : c.sum ≤ 1152921504606846976) (hcl : c.length ≤ 1000000) (p : Option Addr) (cap b o : Nat) (w : World) (h1 : Sl w natV 1 c p c.length b o) :
    Calls Tryz.prog 94 #[.slice p c.length cap] w fun e w' => e = .returned (.int .i64 (c.sum : Int)) ∧ St w [] [] w' := by
  refine enter (C := Tryz.cx) (F := Tryz.fx94) (args := [_]) Tryz.func94 rfl rfl rfl Tryz.ok94 (St.start w []) ?_
  repeat' (conv => whnf); first | (refine VSeq.go ?_) | (refine VB.is ?_; refine VB.no (by omega) fun _ => ?_) | (refine VNew.mk fun _ => ?_) | (refine VAr.is ?_; refine oA ?_)
  all_goals (conv => whnf)
  refine VLoop.mk (α := Nat) (fun i => i ≤ c.length) (fun i => [(1000000, .tuple #[]), (2, .int .i64 0), (3, .int .i64 ((c.take i).sum : Int)), (6, .slice p c.length cap), (7, .int .i64 (c.length : Int)), (8, .int .i64 (i : Int))])
    (fun _ => []) (fun i => c.length - i) 0 (by omega) aE aH ?_
  intro i hi
  have hs := sum_take_le c i
  rcases Nat.lt_or_ge i c.length with hlt | hge
  · obtain ⟨v, hv⟩ := h1.get hlt
    have hs1 := sum_take_le c (i + 1)
    have e : (c.take (i + 1)).sum = (c.take i).sum + v := by rw [List.take_add_one, hv, Option.toList_some, List.sum_append]; simp
    repeat' (conv => whnf); first | (refine VIx.is ?_; refine VIx.mk (h1.ptr (by omega)) (by omega) (by omega) ?_) | (refine VLd.is ?_; refine VLd.mk (Rd.cast (h1.rd0 (by simp) (fun _ => rfl) hv rfl) (by first | omega | (dsimp only; omega) | rfl)) ?_) | (refine VSeq.go ?_) | (refine VB.is ?_; refine VB.yes (by omega) fun _ => ?_) | (refine VAr.is ?_; refine oA ?_)
    all_goals (conv => whnf)
    refine VNext.mk (i + 1) (by omega) (by omega) ?_ aH
    rw [e, Int.natCast_add]
    exact aE
  · rw [List.take_of_length_le hge]
    repeat' (conv => whnf); first | (refine VSeq.go ?_) | (refine VB.is ?_; refine VB.no (by omega) fun _ => ?_) | (refine VNew.mk fun _ => ?_) | (refine VAr.is ?_; refine oA ?_)
    all_goals (conv => whnf)
    exact ⟨fun w' hw' => ⟨rfl, hw'.le .nil⟩⟩

def runsRes (l : List Evt) (jit losses : Int) : Int × Int :=
  if 64 < l.length then (0, 9) else if ¬ ((0 ≤ jit ∧ jit ≤ 64) ∧ 0 ≤ losses ∧ losses ≤ 64) then (0, 3) else if ∃ x ∈ l, ¬ (0 ≤ x.tick ∧ x.tick < 10000) then (0, 3)
  else match runsC losses.toNat jit.toNat (l.map (·.tick)) [1] with
    | none => (0, 9)
    | some n => (n, 0)

def nextP (losses stays : Nat) (c : List Nat) (m : Nat) : List Nat :=
  (List.range (min c.length losses + 1)).map fun i => (if i < m then (c[i]?.getD 0) * stays else 0) + (if 1 ≤ i ∧ i ≤ losses ∧ i - 1 < m then c[i - 1]?.getD 0 else 0)

theorem nextP_zero (losses stays : Nat) (c : List Nat) : nextP losses stays c 0 = List.replicate (min c.length losses + 1) 0 := by
  unfold nextP
  apply List.ext_getElem?
  intro i
  rw [List.getElem?_map, List.getElem?_replicate]
  by_cases hi : i < min c.length losses + 1
  · rw [List.getElem?_range hi, if_pos hi]
    simp
  · rw [List.getElem?_eq_none (by simp; omega), if_neg hi]; rfl

theorem nextP_all (losses stays : Nat) (c : List Nat) : nextP losses stays c c.length = nextC losses stays c := by
  unfold nextP nextC
  apply List.map_congr_left
  intro i hi
  have hi := List.mem_range.1 hi
  congr 1
  · split
    · rfl
    · rw [List.getElem?_eq_none (by omega)]; simp
  · by_cases h : 1 ≤ i ∧ i ≤ losses
    · rw [if_pos h]
      split
      · rfl
      · rw [List.getElem?_eq_none (by omega)]; rfl
    · rw [if_neg h, if_neg (by omega)]

theorem nextP_len (losses stays : Nat) (c : List Nat) (m : Nat) : (nextP losses stays c m).length = min c.length losses + 1 := by simp [nextP]

theorem nextP_get {losses stays : Nat} {c : List Nat} {m i : Nat} (h : i < min c.length losses + 1) : (nextP losses stays c m)[i]? = some ((if i < m then (c[i]?.getD 0) * stays else 0) + (if 1 ≤ i ∧ i ≤ losses ∧ i - 1 < m then c[i - 1]?.getD 0 else 0)) := by
  unfold nextP
  rw [List.getElem?_map, List.getElem?_range h]
  rfl

theorem nextP_step {losses stays : Nat} {c : List Nat} {m v x : Nat} (hv : c[m]? = some v) (hx : (nextP losses stays c m)[m]? = some x) (hml : m ≤ losses) :
    nextP losses stays c (m + 1) = (if m < losses then ((nextP losses stays c m).set m (x + v * stays)).modify (m + 1) (· + v) else (nextP losses stays c m).set m (x + v * stays)) := by
  have hlt := (List.getElem?_eq_some_iff.1 hv).1
  have hm : m < min c.length losses + 1 := by omega
  rw [nextP_get hm, if_neg (Nat.lt_irrefl m), Nat.zero_add] at hx
  simp only [Option.some.injEq] at hx
  have key : ∀ i, i < min c.length losses + 1 → (nextP losses stays c (m + 1))[i]? = some ((if i = m then x + v * stays else (if i < m then (c[i]?.getD 0) * stays else 0) + (if 1 ≤ i ∧ i ≤ losses ∧ i - 1 < m then c[i - 1]?.getD 0 else 0)) + if i = m + 1 ∧ m < losses then v else 0) := by
    intro i hi
    rw [nextP_get hi]
    congr 1
    rcases Nat.lt_trichotomy i m with h | h | h
    · have a1 : i < m + 1 := by omega
      have a2 : ¬ i = m := by omega
      have a3 : ¬ (i = m + 1 ∧ m < losses) := by omega
      have a4 : (1 ≤ i ∧ i ≤ losses ∧ i - 1 < m + 1) ↔ (1 ≤ i ∧ i ≤ losses ∧ i - 1 < m) := by omega
      simp only [a1, a2, a3, a4, h, if_true, if_false, Nat.add_zero]
    · subst h
      have a1 : i < i + 1 := by omega
      have a3 : ¬ (i = i + 1 ∧ i < losses) := by omega
      have a4 : (1 ≤ i ∧ i ≤ losses ∧ i - 1 < i + 1) ↔ (1 ≤ i ∧ i ≤ losses ∧ i - 1 < i) := by omega
      simp only [a1, a3, a4, if_true, if_false, hv, Option.getD_some, Nat.add_zero]
      rw [hx]
      exact Nat.add_comm _ _
    · by_cases h2 : i = m + 1
      · subst h2
        have a1 : ¬ m + 1 < m + 1 := by omega
        have a2 : ¬ m + 1 = m := by omega
        have a5 : ¬ m + 1 < m := by omega
        have a4 : ¬ (1 ≤ m + 1 ∧ m + 1 ≤ losses ∧ m + 1 - 1 < m) := by omega
        have a6 : (1 ≤ m + 1 ∧ m + 1 ≤ losses ∧ m < m + 1) ↔ m < losses := by omega
        rw [if_neg a1, if_neg a2, if_neg a5, if_neg a4]
        simp only [Nat.add_sub_cancel, a6, hv, Option.getD_some, true_and, Nat.zero_add, Nat.add_zero]
      · have a1 : ¬ i < m + 1 := by omega
        have a2 : ¬ i = m := by omega
        have a5 : ¬ i < m := by omega
        have a4 : ¬ (1 ≤ i ∧ i ≤ losses ∧ i - 1 < m) := by omega
        have a6 : ¬ (1 ≤ i ∧ i ≤ losses ∧ i - 1 < m + 1) := by omega
        have a7 : ¬ (i = m + 1 ∧ m < losses) := by omega
        rw [if_neg a1, if_neg a2, if_neg a5, if_neg a4, if_neg a6, if_neg a7]
  apply List.ext_getElem?
  intro i
  by_cases hi : i < min c.length losses + 1
  · rw [key i hi]
    have hold := nextP_get (stays := stays) (m := m) hi
    by_cases h1 : m < losses
    · rw [if_pos h1, List.getElem?_modify, List.getElem?_set, nextP_len]
      by_cases h2 : m = i
      · subst h2
        have a3 : ¬ (m = m + 1 ∧ m < losses) := by omega
        have a4 : ¬ m + 1 = m := by omega
        rw [if_pos rfl, if_neg a3, if_pos rfl, if_pos hm]
        simp [a4]
      · have h2' : ¬ i = m := fun h => h2 h.symm
        rw [if_neg h2', if_neg h2, hold]
        by_cases h3 : m + 1 = i
        · subst h3
          have a8 : m + 1 = m + 1 ∧ m < losses := ⟨rfl, h1⟩
          rw [if_pos a8]
          simp
        · have a8 : ¬ (i = m + 1 ∧ m < losses) := fun h => h3 h.1.symm
          rw [if_neg a8]
          simp [h3]
    · have a9 : ¬ (i = m + 1 ∧ m < losses) := fun h => h1 h.2
      rw [if_neg h1, List.getElem?_set, nextP_len, if_neg a9, Nat.add_zero]
      by_cases h2 : m = i
      · subst h2
        rw [if_pos (rfl : m = m), if_pos (rfl : m = m), if_pos hm]
      · have h2' : ¬ i = m := fun h => h2 h.symm
        rw [if_neg h2', if_neg h2, hold]
  · rw [List.getElem?_eq_none (by rw [nextP_len]; omega)]
    split
    · rw [List.getElem?_eq_none (by rw [List.length_modify, List.length_set, nextP_len]; omega)]
    · rw [List.getElem?_eq_none (by rw [List.length_set, nextP_len]; omega)]

theorem nextP_le {losses stays B : Nat} {c : List Nat} (hc : c.sum ≤ B) (m : Nat) : ∀ v ∈ nextP losses stays c m, v ≤ B * stays + B := by
  intro v hv
  unfold nextP at hv
  obtain ⟨i, _, rfl⟩ := List.mem_map.1 hv
  have hle : ∀ k : Nat, c[k]?.getD 0 ≤ B := by
    intro k
    cases h : c[k]? with
    | none => simp
    | some u => have := le_sum (List.mem_of_getElem? h); simp only [Option.getD_some]; omega
  have h1 := hle i
  have h2 := hle (i - 1)
  have h3 : (c[i]?.getD 0) * stays ≤ B * stays := Nat.mul_le_mul_right _ h1
  split <;> split <;> omega

theorem flat_nats (c : List Nat) : ∀ n, repL [.int .i64 0] n = flat natV (List.replicate n 0) := fun n => flat_rep (f := natV) (x := 0) n

theorem modify_get {α : Type} {l : List α} {k : Nat} {a : α} (f : α → α) (h : l[k]? = some a) : l.modify k f = l.set k (f a) := by
  obtain ⟨hlt, rfl⟩ := List.getElem?_eq_some_iff.1 h
  apply List.ext_getElem?
  intro i
  rw [List.getElem?_modify, List.getElem?_set]
  by_cases hi : k = i
  · subst hi; simp [hlt]
  · simp [hi]

theorem Runs_any (l : List Evt) (hl : ∀ x ∈ l, x.wf) (jit losses : Int) (hj : I64 jit) (hlo : I64 losses) (p : Option Addr) (cap b o : Nat) (w : World) (h1 : Sl w evtV 2 l p l.length b o) :
    Calls Tryz.prog 28 #[.slice p l.length cap, .int .i64 jit, .int .i64 losses] w fun e w' => e = .returned (.tuple #[.int .i64 (runsRes l jit losses).1, .int .i64 (runsRes l jit losses).2]) ∧ St w [] [] w' := by
  have hfin : ∀ (a c : Int) w' H, St w [] H w' → runsRes l jit losses = (a, c) → Ending.returned (.tuple #[.int .i64 a, .int .i64 c]) = .returned (.tuple #[.int .i64 (runsRes l jit losses).1, .int .i64 (runsRes l jit losses).2]) ∧ St w [] [] w' := by
    intro a c w' H hw' he
    rw [he]
    exact ⟨rfl, hw'.le .nil⟩
  unfold I64 at hj hlo
  refine enter (C := Tryz.cx) (F := Tryz.fx28) (args := [_, _, _]) Tryz.func28 rfl rfl rfl Tryz.ok28 (St.start w []) ?_
  repeat' (conv => whnf); first | (refine VCall.isF 90 ?_; refine VCall.inl (F := Tryz.fx90) Tryz.func90 rfl rfl rfl Tryz.ok90 ?_) | (refine VCall.isF 91 ?_; refine VCall.inl (F := Tryz.fx91) Tryz.func91 rfl rfl rfl Tryz.ok91 ?_) | (refine VCall.isF 150 ?_; refine VCall.inl (F := Tryz.fx150) Tryz.func150 rfl rfl rfl Tryz.ok150 ?_) | (refine VSeq.go ?_) | (refine VB.split (fun _ => ?_) (fun _ => ?_))
  all_goals (conv => whnf)
  · exact ⟨fun w' hw' => hfin 0 9 w' _ hw' (by unfold runsRes; rw [if_pos (by omega)])⟩
  rotate_left
  · exact ⟨fun w' hw' => hfin 0 3 w' _ hw' (by unfold runsRes; rw [if_neg (by omega), if_pos (by omega)])⟩
  · exact ⟨fun w' hw' => hfin 0 3 w' _ hw' (by unfold runsRes; rw [if_neg (by omega), if_pos (by omega)])⟩
  · exact ⟨fun w' hw' => hfin 0 3 w' _ hw' (by unfold runsRes; rw [if_neg (by omega), if_pos (by omega)])⟩
  · exact ⟨fun w' hw' => hfin 0 3 w' _ hw' (by unfold runsRes; rw [if_neg (by omega), if_pos (by omega)])⟩
  obtain ⟨J, rfl⟩ : ∃ J : Nat, jit = J := ⟨jit.toNat, by omega⟩
  obtain ⟨L, rfl⟩ : ∃ L : Nat, losses = L := ⟨losses.toNat, by omega⟩
  have hJ : J ≤ 64 := by omega
  have hL : L ≤ 64 := by omega
  refine VLoop.kr (α := Nat) [1000000, 0, 1, 4, 7] rfl (fun i => i ≤ l.length ∧ ∀ x ∈ l.take i, 0 ≤ x.tick ∧ x.tick < 10000) (fun i K => (8, .int .i64 (i : Int)) :: K) (fun _ => []) (fun i => l.length - i) 0 ⟨by omega, by simp⟩ aE aH ?_
  rintro i ⟨hi, hall⟩
  rcases Nat.lt_or_ge i l.length with hlt | hge
  · obtain ⟨x, hx⟩ := h1.get hlt
    have hxw := hl x (List.mem_of_getElem? hx)
    unfold Evt.wf I64 at hxw
    repeat' (conv => whnf); first | (refine VIx.is ?_; refine VIx.mk (h1.ptr (by omega)) (by omega) (by omega) ?_) | (refine VLd.is ?_; refine VLd.mk (Rd.cast (h1.rd0 (by simp) (fun _ => rfl) hx rfl) (by first | omega | (dsimp only; omega) | rfl)) ?_) | (refine VCall.isF 92 ?_; refine VCall.inl (F := Tryz.fx92) Tryz.func92 rfl rfl rfl Tryz.ok92 ?_) | (refine VCall.isF 90 ?_; refine VCall.inl (F := Tryz.fx90) Tryz.func90 rfl rfl rfl Tryz.ok90 ?_) | (refine VSeq.go ?_) | (refine VB.is ?_; refine VB.yes (by omega) fun _ => ?_) | (refine VB.split (fun _ => ?_) (fun _ => ?_)) | (refine VLd.is ?_; refine VLd.mk (.row aT (by rfl)) ?_) | (refine VNew.mk fun _ => ?_) | (refine VAr.is ?_; refine oA ?_)
    all_goals (conv => whnf)
    all_goals first
      | exact ⟨fun w' hw' => hfin 0 3 w' _ hw' (by unfold runsRes; rw [if_neg (by omega), if_neg (by omega), if_pos ⟨x, List.mem_of_getElem? hx, by omega⟩])⟩
      | (refine VNext.mk (i + 1) ⟨by omega, ?_⟩ (by omega) aE aH
         rw [List.take_add_one, hx, Option.toList_some]
         intro f hf
         rcases List.mem_append.1 hf with h | h
         · exact hall f h
         · simp only [List.mem_singleton] at h; subst h; omega)
  rw [List.take_of_length_le hge] at hall
  have hres : runsRes l (J : Int) (L : Int) = match runsC L J (l.map (·.tick)) [1] with
      | none => (0, 9)
      | some n => ((n : Int), 0) := by
    unfold runsRes
    rw [if_neg (by omega), if_neg (by omega), if_neg (by rintro ⟨x, hx, h⟩; exact h (hall x hx)), Int.toNat_natCast, Int.toNat_natCast]
  repeat' (conv => whnf); first | (refine VSeq.go ?_) | (refine VB.is ?_; refine VB.no (by omega) fun _ => ?_) | (refine VNew.mk fun _ => ?_) | (refine VAr.is ?_; refine oA ?_)
  all_goals (conv => whnf)
  rename_i g0
  obtain ⟨T, hT⟩ : ∃ T, l.map (·.tick) = T := ⟨_, rfl⟩
  have hTl : T.length = l.length := by rw [← hT, List.length_map]
  rw [hT] at hres
  refine VLoop.mk (α := Nat × List Nat × Nat × Nat) (fun y => y.1 ≤ l.length ∧ runsC L J T [1] = runsC L J (T.drop y.1) y.2.1 ∧ y.2.1.sum ≤ 20000 ∧ 1 ≤ y.2.1.length ∧ y.2.1.length ≤ L + 1)
    (fun y => [(1000000, .tuple #[]), (1, .int .i64 (J : Int)), (2, .int .i64 (L : Int)), (6, .int .i64 0), (7, .int .i64 0), (8, .slice (some ⟨y.2.2.1, 0, none⟩) y.2.1.length y.2.2.2), (32, .slice p l.length cap), (33, .int .i64 (l.length : Int)), (34, .int .i64 (y.1 : Int))])
    (fun y => [.vec (some ⟨y.2.2.1, 0, none⟩) y.2.1.length y.2.2.2 3 1 (flat natV y.2.1)]) (fun y => l.length - y.1) (0, [1], g0, 1) ⟨by dsimp only; omega, rfl, by simp, by simp, by simp⟩ aE aH ?_
  rintro ⟨i, c, g, cp⟩ ⟨hi, hrun, hsum, hc1, hc2⟩
  dsimp only at hi hrun hsum hc1 hc2 ⊢
  rcases Nat.lt_or_ge i l.length with hlt | hge
  · obtain ⟨x, hx⟩ := h1.get hlt
    have hxt := hall x (List.mem_of_getElem? hx)
    obtain ⟨o1, o2, o3⟩ := opts_ok hxt J
    obtain ⟨S, hS⟩ : ∃ S, (opts x.tick J).length = S := ⟨_, rfl⟩
    rw [hS] at o2 o3
    repeat' (conv => whnf); first | (refine VIx.is ?_; refine VIx.mk (h1.ptr (by omega)) (by omega) (by omega) ?_) | (refine VLd.is ?_; refine VLd.mk (Rd.cast (h1.rd0 (by simp) (fun _ => rfl) hx rfl) (by first | omega | (dsimp only; omega) | rfl)) ?_) | (refine VCall.isF 93 ?_; (refine VCall.genR (fun w' hw' => options_any x.tick hxt J hJ w') ?_; rintro ⟨p2, c2⟩ ⟨g2, hg2⟩; dsimp only at hg2; subst hg2; rw [hS])) | (refine VMk.is ?_; refine VMk.mk (by omega) (by omega) (by (try dsimp only); omega) (by omega) fun b2 => ?_) | (refine VSeq.go ?_) | (refine VB.is ?_; refine VB.yes (by omega) fun _ => ?_) | (refine VLd.is ?_; refine VLd.mk (.row aT (by rfl)) ?_) | (refine VSt.is ?_; refine VSt.row aT (by rfl) (by first | rfl | assumption) ?_) | (refine VNew.mk fun _ => ?_) | (refine VAr.is ?_; refine oA ?_)
    all_goals (conv => whnf)
    have hW : (min (c.length : Int) (L : Int) + 1).toNat = min c.length L + 1 := by omega
    obtain ⟨W, hWd⟩ : ∃ W, min c.length L + 1 = W := ⟨_, rfl⟩
    have hS1 : (((S + 1 : Nat) : Int) - 1) = (S : Int) := by omega
    rw [hW, hWd, hS1]
    have hWl : W ≤ 65 ∧ 1 ≤ W ∧ W ≤ L + 1 := by omega
    have hpl : ∀ m, (nextP L S c m).length = W := fun m => by rw [nextP_len, hWd]
    have hpb : ∀ m, ∀ v ∈ nextP L S c m, v ≤ 20000 * S + 20000 := fun m => nextP_le hsum m
    refine VLoop.mk (α := Nat) (fun m => m ≤ c.length)
      (fun m => [(1000000, .tuple #[]), (1, .int .i64 (J : Int)), (2, .int .i64 (L : Int)), (6, .int .i64 0), (7, .int .i64 0), (8, .slice (some ⟨g, 0, none⟩) c.length cp), (11, .int .i64 (S : Int)), (12, .slice (some ⟨b2, 0, none⟩) W W), (32, .slice p l.length cap), (33, .int .i64 (l.length : Int)), (34, .int .i64 (i : Int)), (50, .slice (some ⟨g, 0, none⟩) c.length cp), (51, .int .i64 (c.length : Int)), (52, .int .i64 (m : Int))])
      (fun m => [.vec (some ⟨b2, 0, none⟩) W W 3 1 (flat natV (nextP L S c m)), .vec (some ⟨g, 0, none⟩) c.length cp 3 1 (flat natV c)]) (fun m => c.length - m) 0 (by omega) aE ?_ ?_
    · rw [nextP_zero, hWd, ← flat_nats c]
      exact aH
    intro m hm
    rcases Nat.lt_or_ge m c.length with hltm | hgem
    · obtain ⟨v, hv⟩ : ∃ v, c[m]? = some v := ⟨c[m], List.getElem?_eq_getElem hltm⟩
      obtain ⟨u, hu⟩ : ∃ u, (nextP L S c m)[m]? = some u := ⟨(nextP L S c m)[m]'(by rw [hpl]; omega), List.getElem?_eq_getElem _⟩
      have hv2 := le_sum (List.mem_of_getElem? hv)
      have hu2 := hpb m u (List.mem_of_getElem? hu)
      have hvS : v * S ≤ 2600000 := by
        have h1 : v * S ≤ 20000 * S := Nat.mul_le_mul_right _ (by omega)
        omega
      have hvI : ((v : Int) * (S : Int)) = ((v * S : Nat) : Int) := by rw [Int.natCast_mul]
      have hup1 : upd (natV u) 0 [.int .i64 ((u : Int) + (v : Int) * (S : Int))] = some (natV (u + v * S)) := by
        rw [hvI]
        show some [Value.int .i64 ((u : Int) + ((v * S : Nat) : Int))] = some [Value.int .i64 ((u + v * S : Nat) : Int)]
        rw [Int.natCast_add]
      have hst := nextP_step (stays := S) hv hu (by omega : m ≤ L)
      obtain ⟨X1, hX1⟩ : ∃ X1, (nextP L S c m).set m (u + v * S) = X1 := ⟨_, rfl⟩
      have hX1l : X1.length = W := by rw [← hX1, List.length_set, hpl]
      rw [hX1] at hst
      have hy : m < L → ∃ y, X1[m + 1]? = some y ∧ y ≤ 20000 * S + 20000 := by
        intro h
        refine ⟨X1[m + 1]'(by omega), List.getElem?_eq_getElem _, ?_⟩
        have e1 : X1[m + 1]? = (nextP L S c m)[m + 1]? := by rw [← hX1, List.getElem?_set, if_neg (by omega)]
        have e2 : X1[m + 1]? = some (X1[m + 1]'(by omega)) := List.getElem?_eq_getElem _
        rw [e1] at e2
        exact hpb m _ (List.mem_of_getElem? e2)
      by_cases hmL : m < L
      · obtain ⟨y, hy1, hy2⟩ := hy hmL
        rw [if_pos hmL, modify_get _ hy1] at hst
        have hup2 : upd (natV y) 0 [.int .i64 ((y : Int) + (v : Int))] = some (natV (y + v)) := by
          show some [Value.int .i64 ((y : Int) + (v : Int))] = some [Value.int .i64 ((y + v : Nat) : Int)]
          rw [Int.natCast_add]
        repeat' (conv => whnf); first | (refine VIx.is ?_; refine VIx.mk rfl (by omega) (by omega) ?_) | (refine VLd.is ?_; refine VLd.mk (Rd.cast (.vec aT (sub_flat0 (f := natV) (k := 1) (fun _ => rfl) hv rfl)) (by first | omega | (dsimp only; omega) | rfl)) ?_) | (refine VLd.is ?_; refine VLd.mk (Rd.cast (.vec aT (sub_flat0 (f := natV) (k := 1) (fun _ => rfl) hu rfl)) (by first | omega | (dsimp only; omega) | rfl)) ?_) | (refine VLd.is ?_; refine VLd.mk (Rd.cast (.vec aT (sub_flat0 (f := natV) (k := 1) (fun _ => rfl) hy1 rfl)) (by first | omega | (dsimp only; omega) | rfl)) ?_) | (refine VAr.is ?_; refine VAr.is ?_; rw [hvI]; refine oA ?_; rw [← hvI]) | (refine VSt.is ?_; refine VSt.cast (off' := m * 1) (by first | omega | (dsimp only; omega)) (VSt.vec aT (upd_flat0 (f := natV) (k := 1) (fun _ => rfl) hu hup1) rfl ?_); rw [hX1]) | (refine VSt.is ?_; refine VSt.cast (off' := (m + 1) * 1) (by first | omega | (dsimp only; omega)) (VSt.vec aT (upd_flat0 (f := natV) (k := 1) (fun _ => rfl) hy1 hup2) rfl ?_)) | (refine VSeq.go ?_) | (refine VB.is ?_; refine VB.yes (by omega) fun _ => ?_)
        all_goals (conv => whnf)
        refine VNext.mk (m + 1) (by omega) (by omega) aE ?_
        rw [hst]
        exact aH
      · rw [if_neg hmL] at hst
        repeat' (conv => whnf); first | (refine VIx.is ?_; refine VIx.mk rfl (by omega) (by omega) ?_) | (refine VLd.is ?_; refine VLd.mk (Rd.cast (.vec aT (sub_flat0 (f := natV) (k := 1) (fun _ => rfl) hv rfl)) (by first | omega | (dsimp only; omega) | rfl)) ?_) | (refine VLd.is ?_; refine VLd.mk (Rd.cast (.vec aT (sub_flat0 (f := natV) (k := 1) (fun _ => rfl) hu rfl)) (by first | omega | (dsimp only; omega) | rfl)) ?_) | (refine VAr.is ?_; refine VAr.is ?_; rw [hvI]; refine oA ?_; rw [← hvI]) | (refine VSt.is ?_; refine VSt.cast (off' := m * 1) (by first | omega | (dsimp only; omega)) (VSt.vec aT (upd_flat0 (f := natV) (k := 1) (fun _ => rfl) hu hup1) rfl ?_); rw [hX1]) | (refine VSeq.go ?_) | (refine VB.is ?_; refine VB.yes (by omega) fun _ => ?_) | (refine VB.is ?_; refine VB.no (by omega) fun _ => ?_)
        all_goals (conv => whnf)
        refine VNext.mk (m + 1) (by omega) (by omega) aE ?_
        rw [hst]
        exact aH
    have hmc : m = c.length := by omega
    subst hmc
    rw [nextP_all]
    have hnl : (nextC L S c).length = W := by rw [← nextP_all, hpl]
    have hns : (nextC L S c).sum ≤ 169000000 := by
      have h1 := sum_bound (l := nextC L S c) (B := 20000 * S + 20000) (by rw [← nextP_all]; exact hpb _)
      rw [hnl] at h1
      have hK : 20000 * S + 20000 ≤ 2600000 := by omega
      exact Nat.le_trans h1 (Nat.mul_le_mul hWl.1 hK)
    have hstep : runsC L J (T.drop i) c = if 20000 < (nextC L S c).sum then none else runsC L J (T.drop (i + 1)) (nextC L S c) := by
      have hTi : T[i]? = some x.tick := by rw [← hT, List.getElem?_map, hx]; rfl
      obtain ⟨hlt', hTe⟩ := List.getElem?_eq_some_iff.1 hTi
      rw [List.drop_eq_getElem_cons hlt', hTe, runsC, hS]
    repeat' (conv => whnf); first | (refine VCall.isF 94 ?_; (refine VCall.valR (fun w' hw' => by have h := sum_any (nextC L S c) (by omega) (by omega) (some ⟨b2, 0, none⟩) W b2 0 w' (Sl.own' hw' (f := natV) (k := 1) (by rw [hnl]; exact List.mem_cons_self) (fun _ => rfl) rfl); rw [hnl] at h; exact h) ?_)) | (refine VSeq.go ?_) | (refine VB.is ?_; refine VB.no (by omega) fun _ => ?_) | (refine VB.split (fun _ => ?_) (fun _ => ?_)) | (refine VAr.is ?_; refine oA ?_)
    all_goals (conv => whnf)
    · exact ⟨fun w' hw' => hfin 0 9 w' _ hw' (by rw [hres, hrun, hstep, if_pos (by omega)])⟩
    · rw [if_neg (by omega)] at hstep
      refine VNext.mk (i + 1, nextC L S c, b2, W) ⟨by dsimp only; omega, by rw [hrun, hstep], by dsimp only; omega, by dsimp only; omega, by dsimp only; omega⟩ (by dsimp only; omega) ?_ ?_
      · dsimp only; rw [hnl]; exact aE
      · dsimp only; rw [hnl]; exact aH
  · repeat' (conv => whnf); first | (refine VCall.isF 94 ?_; (refine VCall.valR (fun w' hw' => sum_any c (by omega) (by omega) _ _ _ _ w' (Sl.own' hw' (f := natV) (k := 1) (by first | exact List.mem_cons_self) (fun _ => rfl) rfl)) ?_)) | (refine VSeq.go ?_) | (refine VB.is ?_; refine VB.no (by omega) fun _ => ?_)
    all_goals (conv => whnf)
    have e : runsC L J T [1] = some c.sum := by rw [hrun, List.drop_eq_nil_of_le (by omega)]; rfl
    exact ⟨fun w' hw' => hfin (c.sum : Int) 0 w' _ hw' (by rw [hres, e])⟩

end Go.Proofs
