import Derived.Test.YtephkjicokbckaaGreatDoorVerifyReachesSx
import Derived.Test.YtephkjicokbckaaGreatDoorVerifyReachesCl
set_option linter.unusedVariables false

set_option linter.unusedSimpArgs false

namespace Go.Proofs

open Go Go.Vx Go.Gm

theorem rfixed_any (v : Sur) (t : Int) (hfw : v.fixed.length ≤ 65536) (pf : Option Addr) (cf : Nat) (px : Option Addr) (cx bx ox : Nat) (w : World) (hx : Sl w evtV 2 v.fixed px v.fixed.length bx ox) :
    Calls Tryz.prog 68 #[.agg (envC pf cf px cx v).toArray, .int .i64 t] w fun e w' => ∃ y : Option Addr × Nat, e = .returned (.slice y.1 (fixedL v.fixed t).length y.2) ∧ (0 < (fixedL v.fixed t).length → ∃ g, y.1 = some ⟨g, 0, none⟩) ∧ St w [] [.vec y.1 (fixedL v.fixed t).length y.2 3 1 (flat intV (fixedL v.fixed t))] w' := by
  unfold envC
  refine enter (C := Tryz.cx) (F := Tryz.fx68) (args := [_, _]) Tryz.func68 rfl rfl rfl Tryz.ok68 (St.start w []) ?_
  repeat' (conv => whnf); first | (refine VNew.mk fun b2 => ?_) | (refine VSeq.go ?_)
  all_goals (conv => whnf)
  refine VLoop.mk (α := Nat × Option Addr × Nat) (fun z => z.1 ≤ v.fixed.length ∧ (0 < (fixedL (v.fixed.take z.1) t).length → ∃ g, z.2.1 = some ⟨g, 0, none⟩)) (fun z => [(1000000, .tuple #[]), (1, .int .i64 t), (2, .pointer (some ⟨b2, 0, none⟩)), (4, .slice none 0 0), (5, .slice z.2.1 (fixedL (v.fixed.take z.1) t).length z.2.2), (6, .int .i64 (z.1 : Int))])
    (fun z => [.vec z.2.1 (fixedL (v.fixed.take z.1) t).length z.2.2 3 1 (flat intV (fixedL (v.fixed.take z.1) t)), .row b2 38 [.slice pf v.free.length cf, .slice px v.fixed.length cx, .int .i64 v.most]]) (fun z => v.fixed.length - z.1) (0, none, 0) ⟨by dsimp only; omega, by simp [fixedL]⟩ aE (HLe.nilv aH) ?_
  rintro ⟨k, p, cap⟩ ⟨hk, hp⟩
  dsimp only at hk hp ⊢
  have hlk : (fixedL (v.fixed.take k) t).length ≤ 65536 := by
    have := fixedL_len (v.fixed.take k) t
    rw [List.length_take] at this
    omega
  rcases Nat.lt_or_ge k v.fixed.length with hlt | hge
  · obtain ⟨x, hxk⟩ := hx.get hlt
    have htk := fixedL_take (t := t) hxk
    have s0 : sub (evtV x) 0 1 = some [.int .i64 x.tick] := rfl
    have s1 : sub (evtV x) 1 1 = some [.int .i64 x.id] := rfl
    obtain ⟨L, hL⟩ : ∃ L, fixedL (v.fixed.take k) t = L := ⟨_, rfl⟩
    rw [hL] at htk hlk hp ⊢
    repeat' (conv => whnf); first | (refine VIx.is ?_; refine VIx.mk (hx.ptr (by omega)) (by omega) (by omega) ?_) | (refine VLd.is ?_; refine VLd.mk (Rd.cast (hx.rd (o := 0) (by simp) (fun _ => rfl) hxk s0) (by first | omega | (dsimp only; omega) | rfl)) ?_) | (refine VLd.is ?_; refine VLd.mk (Rd.cast (hx.rd (o := 1) (by simp) (fun _ => rfl) hxk s1) (by first | omega | (dsimp only; omega) | rfl)) ?_) | (refine VAp.is ?_; refine VAp.own aT (.at_ (.vec aT rfl)) (by simp [Value.oneCell']) (by (try dsimp only); omega) (by simp only [maxLen]; omega) fun p' cap' hp' => ?_) | (refine VSeq.go ?_) | (refine VB.is ?_; refine VB.yes (by omega) fun _ => ?_) | (refine VB.split (fun _ => ?_) (fun _ => ?_)) | (refine VLd.is ?_; refine VLd.mk (.row aT (by rfl)) ?_) | (refine VNew.mk fun _ => ?_) | (refine VAr.is ?_; refine oA ?_)
    all_goals (conv => whnf)
    · rw [if_pos (by omega)] at htk
      refine VNext.mk (k + 1, p', cap') ⟨by dsimp only; omega, fun _ => hp' (by omega)⟩ (by dsimp only; omega) ?_ ?_
      · dsimp only
        rw [htk, List.length_append]
        exact aE
      · dsimp only
        rw [htk, List.length_append, flat_append]
        exact aH
    · rw [if_neg (by omega), List.append_nil] at htk
      refine VNext.mk (k + 1, p, cap) ⟨by dsimp only; omega, by dsimp only; rw [htk]; exact hp⟩ (by dsimp only; omega) ?_ ?_
      · dsimp only
        rw [htk]
        exact aE
      · dsimp only
        rw [htk]
        exact aH
  have hkl : k = v.fixed.length := by omega
  subst hkl
  rw [List.take_length] at hlk hp ⊢
  repeat' (conv => whnf); first | (refine VSeq.go ?_) | (refine VB.is ?_; refine VB.yes (by omega) fun _ => ?_) | (refine VB.is ?_; refine VB.no (by omega) fun _ => ?_) | (refine VLd.is ?_; refine VLd.mk (.row aT (by rfl)) ?_)
  all_goals (conv => whnf)
  exact ⟨fun w' hw' => ⟨(p, cap), rfl, hp, hw'.le aH⟩⟩

theorem merged_chosen {N : Net} {v : Sur} (hv : SurOk N v) (hi : 0 ≤ N.inputs) (c : Nat) : mergedT [] v.free c N.inputs.toNat = chosen v.free c := by
  refine asc_ext (mergedT_asc _ _ _ _) (chosen_asc hv.free c) fun i => ?_
  rw [mem_mergedT]
  constructor
  · rintro ⟨_, h | h⟩
    · exact h
    · cases h
  · intro h
    have := hv.freeI i (mem_free_of_chosen h)
    exact ⟨by omega, .inl h⟩

theorem mergedT_len (fixed free : List Int) (c n : Nat) : (mergedT fixed free c n).length ≤ n := by
  unfold mergedT
  have := List.length_filter_le (fun k => decide (k ∈ chosen free c) || decide (k ∈ fixed)) ((List.range n).map fun k : Nat => (k : Int))
  rwa [List.length_map, List.length_range] at this

theorem mem_chosenT_succ {free : List Int} {c m : Nat} {i k : Int} (h : free[m]? = some i) : k ∈ chosenT free c (m + 1) ↔ k ∈ chosenT free c m ∨ (i = k ∧ c.testBit m = true) := by
  rw [chosenT_succ, h, Option.toList_some, List.mem_append]
  by_cases hb : c.testBit m = true
  · rw [if_pos hb, List.mem_singleton]
    constructor
    · rintro (h | h)
      · exact .inl h
      · exact .inr ⟨h.symm, hb⟩
    · rintro (h | ⟨h, _⟩)
      · exact .inl h
      · exact .inr h.symm
  · rw [if_neg hb]
    simp [hb]

set_option maxHeartbeats 1600000 in
theorem merged_any (N : Net) (hi : 0 ≤ N.inputs ∧ N.inputs ≤ 256) (X free : List Int) (hX : X.length ≤ 65536) (hfr : free.length ≤ 6) (c : Nat) (hc : c ≤ 64) (pn qs : Value) (hone : oneAll [pn, .int .i64 N.inputs, qs] = true) (pX : Option Addr) (cX bX oX : Nat) (pf : Option Addr) (cf bf of : Nat) (w : World)
    (h1 : Sl w intV 1 X pX X.length bX oX) (h2 : Sl w intV 1 free pf free.length bf of) :
    Calls Tryz.prog 72 #[.agg #[pn, .int .i64 N.inputs, qs], .slice pX X.length cX, .slice pf free.length cf, .int .i64 (c : Int)] w fun e w' => ∃ y : Option Addr × Nat, e = .returned (.tuple #[.slice y.1 (mergedT X free c N.inputs.toNat).length y.2, .int .i64 ((mergedT [] free c N.inputs.toNat).length : Int)]) ∧
      (0 < (mergedT X free c N.inputs.toNat).length → ∃ g, y.1 = some ⟨g, 0, none⟩) ∧ St w [] [.vec y.1 (mergedT X free c N.inputs.toNat).length y.2 3 1 (flat intV (mergedT X free c N.inputs.toNat))] w' := by
  obtain ⟨n, hn⟩ : ∃ n, N.inputs.toNat = n := ⟨_, rfl⟩
  have hNn : N.inputs = (n : Int) := by omega
  rw [hn, hNn]
  rw [hNn] at hone
  have hn2 : n ≤ 256 := by omega
  refine enter (C := Tryz.cx) (F := Tryz.fx72) (args := [_, _, _, _]) Tryz.func72 rfl rfl rfl Tryz.ok72 (St.start w []) ?_
  repeat' (conv => whnf); first | (refine VNew.mk fun b2 => ?_) | (refine VSeq.go ?_)
  all_goals (conv => whnf)
  refine VLoop.mk (α := Nat × Option Addr × Nat) (fun z => z.1 ≤ n ∧ (0 < (mergedT X free c z.1).length → ∃ g, z.2.1 = some ⟨g, 0, none⟩)) (fun z => [(1000000, .tuple #[]), (1, .slice pX X.length cX), (2, .slice pf free.length cf), (3, .int .i64 (c : Int)), (4, .pointer (some ⟨b2, 0, none⟩)), (8, .slice none 0 0), (9, .int .i64 0), (10, .slice z.2.1 (mergedT X free c z.1).length z.2.2), (11, .int .i64 ((mergedT [] free c z.1).length : Int)), (12, .int .i64 (z.1 : Int))])
    (fun z => [.vec z.2.1 (mergedT X free c z.1).length z.2.2 3 1 (flat intV (mergedT X free c z.1)), .row b2 25 [pn, .int .i64 (n : Int), qs]]) (fun z => n - z.1) (0, none, 0) ⟨by dsimp only; omega, by simp [mergedT]⟩ aE (HLe.nilv aH) ?_
  rintro ⟨k, p, cap⟩ ⟨hk, hp⟩
  dsimp only at hk hp ⊢
  have hl1 := mergedT_len X free c k
  have hl2 := mergedT_len [] free c k
  rcases Nat.lt_or_ge k n with hlt | hge
  · have hs1 := mergedT_succ X free c k
    have hs2 := mergedT_succ [] free c k
    obtain ⟨A, hA⟩ : ∃ A, mergedT X free c k = A := ⟨_, rfl⟩
    obtain ⟨B, hB⟩ : ∃ B, (mergedT [] free c k).length = B := ⟨_, rfl⟩
    rw [hA] at hs1 hl1 hp ⊢
    rw [hB] at hl2 ⊢
    repeat' (conv => whnf); first | (refine VSeq.go ?_) | (refine VB.is ?_; refine VB.yes (by omega) fun _ => ?_) | (refine VB.is ?_; refine VB.no (by omega) fun _ => ?_) | (refine VLd.is ?_; refine VLd.mk (.row aT (by rfl)) ?_)
    all_goals (conv => whnf)
    refine VLoop.mk (α := Nat × Bool) (fun z => z.1 ≤ free.length ∧ (z.2 = true ↔ (k : Int) ∈ chosenT free c z.1)) (fun z => [(1000000, .tuple #[]), (1, .slice pX X.length cX), (2, .slice pf free.length cf), (3, .int .i64 (c : Int)), (4, .pointer (some ⟨b2, 0, none⟩)), (8, .slice none 0 0), (9, .int .i64 0), (10, .slice p A.length cap), (11, .int .i64 (B : Int)), (12, .int .i64 (k : Int)), (13, .bool z.2), (14, .int .i64 (z.1 : Int))])
      (fun z => [.vec p A.length cap 3 1 (flat intV A), .row b2 25 [pn, .int .i64 (n : Int), qs]]) (fun z => free.length - z.1) (0, false) ⟨by dsimp only; omega, by simp [chosenT]⟩ aE aH ?_
    rintro ⟨j, cb⟩ ⟨hj, hcb⟩
    dsimp only at hj hcb ⊢
    rcases Nat.lt_or_ge j free.length with hjl | hjg
    · obtain ⟨i, hi2⟩ := h2.get hjl
      have hms := mem_chosenT_succ (c := c) (k := (k : Int)) hi2
      have hbit := bit_iff (c := c) (j := j)
      obtain ⟨q2, hq2⟩ : ∃ q2, c / 2 ^ j = q2 := ⟨_, rfl⟩
      have hqc : q2 ≤ c := by rw [← hq2]; exact Nat.div_le_self _ _
      rw [hq2] at hbit
      repeat' (conv => whnf); first | (refine VIx.is ?_; refine VIx.mk (h2.ptr (by omega)) (by omega) (by omega) ?_) | (refine VLd.is ?_; refine VLd.mk (Rd.cast (h2.rd0 (by simp) (fun _ => rfl) hi2 rfl) (by first | omega | (dsimp only; omega) | rfl)) ?_) | (refine VShR.is ?_; refine VShR.nat (by omega) ?_; rw [hq2]) | (refine VSeq.go ?_) | (refine VB.is ?_; refine VB.yes (by omega) fun _ => ?_) | (refine VB.split (fun _ => ?_) (fun _ => ?_)) | (refine boolE_split (fun h => ?_) (fun h => ?_) <;> subst h) | (refine VAr.is ?_; refine oA ?_) | (refine VM.is ?_; refine oM ?_)
      all_goals (conv => whnf)
      all_goals first
        | exact VNext.mk (j + 1, true) ⟨by dsimp only; omega, fun _ => hms.2 (.inl (hcb.1 rfl)), fun _ => rfl⟩ (by dsimp only; omega) aE aH
        | exact VNext.mk (j + 1, true) ⟨by dsimp only; omega, fun _ => hms.2 (.inr ⟨by omega, hbit.2 (by omega)⟩), fun _ => rfl⟩ (by dsimp only; omega) aE aH
        | (refine VNext.mk (j + 1, false) ⟨by dsimp only; omega, fun h => (by cases h), fun h => ?_⟩ (by dsimp only; omega) aE aH
           rcases hms.1 h with h | ⟨h1, h2⟩
           · exact hcb.2 h
           · have := hbit.1 h2
             omega)
    have hjl : j = free.length := by omega
    subst hjl
    have hcb2 : cb = true ↔ (k : Int) ∈ chosen free c := hcb
    repeat' (conv => whnf); first | (refine VCall.isF 136 ?_; (refine VCall.genR (fun w' hw' => has_any X (by omega) _ _ _ _ _ w' (h1.keep hw' (by simp))) ?_; intro cc hc2; cases cc <;> simp only [Bool.false_eq_true, false_iff, true_iff] at hc2)) | (refine VAp.is ?_; refine VAp.own aT (.at_ (.vec aT rfl)) (by simp [Value.oneCell']) (by (try dsimp only); omega) (by simp only [maxLen]; omega) fun p' cap' hp' => ?_) | (refine VSeq.go ?_) | (refine VB.is ?_; refine VB.no (by omega) fun _ => ?_) | (refine boolE_split (fun h => ?_) (fun h => ?_) <;> subst h) | (refine VNew.mk fun _ => ?_) | (refine VAr.is ?_; refine oA ?_)
    all_goals (conv => whnf)
    · have hin : (k : Int) ∈ chosen free c := hcb2.1 rfl
      rw [if_pos (.inl hin)] at hs1 hs2
      have e2 : (mergedT [] free c (k + 1)).length = B + 1 := by rw [hs2, List.length_append, hB]; rfl
      refine VNext.mk (k + 1, p', cap') ⟨by dsimp only; omega, fun _ => hp' (by omega)⟩ (by dsimp only; omega) ?_ ?_
      · dsimp only
        rw [hs1, List.length_append, e2]
        exact aE
      · dsimp only
        rw [hs1, List.length_append, flat_append]
        exact aH
    · have hno : ¬ (k : Int) ∈ chosen free c := fun h => by have := hcb2.2 h; cases this
      rw [if_neg (by rintro (h | h); exact hno h; exact hc2 h), List.append_nil] at hs1
      rw [if_neg (by rintro (h | h); exact hno h; cases h), List.append_nil] at hs2
      refine VNext.mk (k + 1, p, cap) ⟨by dsimp only; omega, by dsimp only; rw [hs1]; exact hp⟩ (by dsimp only; omega) ?_ ?_
      · dsimp only
        rw [hs1, hs2, hB]
        exact aE
      · dsimp only
        rw [hs1]
        exact aH
    · have hno : ¬ (k : Int) ∈ chosen free c := fun h => by have := hcb2.2 h; cases this
      rw [if_pos (.inr hc2)] at hs1
      rw [if_neg (by rintro (h | h); exact hno h; cases h), List.append_nil] at hs2
      refine VNext.mk (k + 1, p', cap') ⟨by dsimp only; omega, fun _ => hp' (by omega)⟩ (by dsimp only; omega) ?_ ?_
      · dsimp only
        rw [hs1, List.length_append, hs2, hB]
        exact aE
      · dsimp only
        rw [hs1, List.length_append, flat_append]
        exact aH
  have hkn : k = n := by omega
  subst hkn
  repeat' (conv => whnf); first | (refine VSeq.go ?_) | (refine VB.is ?_; refine VB.yes (by omega) fun _ => ?_) | (refine VB.is ?_; refine VB.no (by omega) fun _ => ?_) | (refine VLd.is ?_; refine VLd.mk (.row aT (by rfl)) ?_)
  all_goals (conv => whnf)
  exact ⟨fun w' hw' => ⟨(p, cap), rfl, hp, hw'.le aH⟩⟩

end Go.Proofs
