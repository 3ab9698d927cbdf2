import Derived.Test.YtephkjicokbckaaGreatDoorVerifyDisturbedHd
import Derived.Test.YtephkjicokbckaaGreatDoorVerifyDisturbedSx
import Derived.Test.YtephkjicokbckaaGreatDoorVerifyDisturbedHh
import Derived.Test.YtephkjicokbckaaGreatDoorVerifyDisturbedHc
import Derived.Test.YtephkjicokbckaaGreatDoorVerifyDisturbedWf
section
set_option linter.unusedVariables false

set_option linter.unusedSimpArgs false

namespace Go.Proofs

open Go Go.Vx Go.Gm

theorem _root_.Go.Vx.VSl.fromU {p : Option Addr} {size l n c : Nat} {k : Option Addr → Nat → Nat → Prop} (hl : l ≤ n) (hc : n ≤ c) (hk : ∀ q, (l < n → q = p.map (·.add (l * size))) → (q = p.map (·.add (l * size)) ∨ q = p) → k q (n - l) (c - l)) : VSl p size (l : Int) (n : Int) (c : Int) k := by
  refine .mk (by omega) (by omega) (by omega) fun q h1 h2 => ?_
  have e1 : (n : Int).toNat - (l : Int).toNat = n - l := by omega
  have e2 : (c : Int).toNat - (l : Int).toNat = c - l := by omega
  rw [e1, e2]
  refine hk q (fun h => ?_) ?_
  · exact h1 (by omega)
  · by_cases h : l < c
    · exact .inl (h1 (by omega))
    · exact .inr (h2 (by omega))

theorem _root_.Go.Vx.Rd.vecP {w0 : World} {M : List Nat} {H r : HP} {u : Ent → HP} {p : Option Addr} {b off s n cap e size : Nat} {xs vs : List Value} (hat : At H (.vec p n cap e size xs) u r) (hp : p = some ⟨b, 0, none⟩) (h : sub xs off s = some vs) : Rd w0 M H b off s vs := by
  subst hp
  exact .vec hat h

theorem addU_at (g k : Nat) : (some (⟨g, 0, none⟩ : Addr)).map (·.add k) = some ⟨g, 0 + k, none⟩ := by simp [Addr.add]; omega

theorem srcU_from {w0 : World} {M : List Nat} {H r : HP} {u : Ent → HP} {p q : Option Addr} {i K cap e : Nat} {l : List Evt} (hat : At H (.vec p i cap e 2 (flat evtV l)) u r) (hK : K ≤ i) (hl : l.length = i) (hf : i ≤ cap ∧ (0 < i → ∃ g, p = some ⟨g, 0, none⟩) ∧ ((∃ g, p = some ⟨g, 0, none⟩) ∨ (p = none ∧ i = 0 ∧ cap = 0)))
    (h1 : K < i → q = p.map (·.add (K * 2))) (h2 : q = p.map (·.add (K * 2)) ∨ q = p) (hs : sub (flat evtV l) (K * 2) ((i - K) * 2) = some (flat evtV (l.drop K))) : Src w0 M H q (i - K) 2 (flat evtV (l.drop K)) := by
  rcases Nat.lt_or_ge K i with h | h
  · obtain ⟨g, hg⟩ := hf.2.1 (by omega)
    subst hg
    rw [h1 h, addU_at]
    exact .at_ (Rd.cast (.vec hat hs) (by omega))
  · have hd : l.drop K = [] := List.drop_eq_nil_of_le (by omega)
    rw [hd, show i - K = 0 by omega]
    rcases hf.2.2 with ⟨g, hg⟩ | ⟨hg, _, _⟩
    · subst hg
      rcases h2 with h2 | h2
      · rw [h2, addU_at]; exact .none0
      · rw [h2]; exact .none0
    · subst hg
      rcases h2 with h2 | h2
      · rw [h2]; exact .empty
      · rw [h2]; exact .empty

theorem srcU_own {w0 : World} {M : List Nat} {H r : HP} {u : Ent → HP} {p : Option Addr} {n cap e : Nat} {l : List Evt} (hat : At H (.vec p n cap e 2 (flat evtV l)) u r) (hl : l.length = n) (hf : n ≤ cap ∧ (0 < n → ∃ g, p = some ⟨g, 0, none⟩) ∧ ((∃ g, p = some ⟨g, 0, none⟩) ∨ (p = none ∧ n = 0 ∧ cap = 0))) : Src w0 M H p n 2 (flat evtV l) := by
  rcases hf.2.2 with ⟨g, hg⟩ | ⟨hg, h0, _⟩
  · subst hg
    have hll : (flat evtV l).length = n * 2 := by rw [flat_length (k := 2) (f := evtV) (fun _ => rfl), hl]
    refine .at_ (.vec hat ?_)
    rw [sub_mk _ _ _ (by omega), List.drop_zero, List.take_of_length_le (by omega)]
  · subst hg
    have : l = [] := List.eq_nil_of_length_eq_zero (by omega)
    subst this
    rw [h0]
    exact .empty

set_option maxHeartbeats 1600000 in
theorem vsorted_any (l : List Evt) (hl : ∀ x ∈ l, x.wf) (hlen : l.length ≤ 1000000) (pe : Option Addr) (ce be oe : Nat) (w : World) (h3 : Sl w evtV 2 l pe l.length be oe) :
    Calls Tryz.prog 33 #[.slice pe l.length ce] w fun e w' => ∃ y : Option Addr × Nat, e = .returned (.slice y.1 (sortU l).length y.2) ∧ True ∧ St w [] [.vec y.1 (sortU l).length y.2 64 2 (flat evtV (sortU l))] w' := by
  refine enter (C := Tryz.cx) (F := Tryz.fx33) (args := [_]) Tryz.func33 rfl rfl rfl Tryz.ok33 (St.start w []) ?_
  repeat' (conv => whnf); first | (refine VSeq.go ?_) | (refine VB.is ?_; refine VB.no (by omega) fun _ => ?_) | (refine VHs.mk _ (.refl _) ?_)
  all_goals (conv => whnf)
  refine VLoop.kr (α := Nat × Option Addr × Nat) [1000000, 0, 2] rfl (fun y => y.1 ≤ l.length) (fun y K => (4, .int .i64 (y.1 : Int)) :: (3, .slice y.2.1 (sortU (l.take y.1)).length y.2.2) :: K)
    (fun y => [.vec y.2.1 (sortU (l.take y.1)).length y.2.2 64 2 (flat evtV (sortU (l.take y.1)))]) (fun y => l.length - y.1) (0, none, 0) (by simp) aE aH ?_
  rintro ⟨i, p, cap⟩ hi
  dsimp only at hi ⊢
  rcases Nat.lt_or_ge i l.length with hlt | hge
  · obtain ⟨x, hx⟩ := h3.get hlt
    have hxw := hl x (List.mem_of_getElem? hx)
    unfold Evt.wf I64 at hxw
    have hol0 := sortU_len (l.take i)
    rw [List.length_take] at hol0
    obtain ⟨out, ho⟩ : ∃ out, sortU (l.take i) = out := ⟨_, rfl⟩
    obtain ⟨n, hn⟩ : ∃ n, out.length = n := ⟨_, rfl⟩
    have how : ∀ y ∈ out, y.wf := by
      intro y hy
      rw [← ho] at hy
      exact hl y (List.mem_of_mem_take (mem_sortU.1 hy))
    have hnx := sortU_next hx
    rw [ho] at hnx hol0 ⊢
    rw [hn] at hol0 ⊢
    obtain ⟨K, hK⟩ : ∃ K, kU out x n = K := ⟨_, rfl⟩
    have hKl : K ≤ n := by rw [← hK]; exact kU_le _ _ _
    repeat' (conv => whnf); first | (refine VSeq.is ?_; refine VSeq.learn (at_ := 6) (fun w hw => vec_facts (hw (.vec p n cap 64 2 (flat evtV out)) (by simp))) (fun hfc => ?_)) | (refine VSeq.is ?_; refine VSeq.cut (at_ := 8) (α := Unit) (fun _ => True) (fun _ => [(1000000, .tuple #[]), (0, .slice pe l.length ce), (2, .slice none 0 0), (3, .slice p n cap), (4, .int .i64 (i : Int)), (5, .int .i64 (K : Int))]) (fun _ => [.vec p n cap 64 2 (flat evtV out)]) ?_ ?_) | (refine VSeq.go ?_) | (refine VB.is ?_; refine VB.yes (by omega) fun _ => ?_)
    all_goals (conv => whnf)
    · obtain ⟨hf1, hf2, hf3⟩ := hfc
      refine VLoop.kr (α := Nat) [1000000, 0, 2, 3, 4] rfl (fun k => k ≤ n ∧ kU out x k = K) (fun k R => (5, .int .i64 (k : Int)) :: R) (fun _ => [.vec p n cap 64 2 (flat evtV out)]) (fun k => k) n ⟨by omega, hK⟩ aE aH ?_
      rintro k ⟨hk, hkK⟩
      cases k with
      | zero =>
        repeat' (conv => whnf); first | (refine VSeq.go ?_) | (refine VB.is ?_; refine VB.no (by omega) fun _ => ?_) | (refine VHs.mk _ (.refl _) ?_)
        all_goals (conv => whnf)
        have : K = 0 := by rw [← hkK]; rfl
        subst this
        exact VMid.mk () trivial aE aH
      | succ j =>
        obtain ⟨y, hy⟩ : ∃ y, out[j]? = some y := ⟨_, List.getElem?_eq_getElem (by omega)⟩
        obtain ⟨g, hg⟩ := hf2 (by omega)
        subst hg
        have hkj : (if evLt x y then kU out x j else j + 1) = K := by rw [← hkK]; simp only [kU, hy]
        repeat' (conv => whnf); first | (refine VIx.is ?_; refine VIx.mk (h3.ptr (by omega)) (by omega) (by omega) ?_) | (refine VIx.is ?_; refine VIx.mk rfl (by omega) (by omega) ?_) | (refine VLd.is ?_; refine VLd.mk (Rd.cast (h3.rd (o := 0) (s := 1) (by simp) (fun _ => rfl) hx rfl) (by first | omega | (dsimp only; omega) | rfl)) ?_) | (refine VLd.is ?_; refine VLd.mk (Rd.cast (h3.rd (o := 1) (s := 1) (by simp) (fun _ => rfl) hx rfl) (by first | omega | (dsimp only; omega) | rfl)) ?_) | (refine VLd.is ?_; refine VLd.mk (Rd.cast (.vec aT (sub_flat (f := evtV) (k := 2) (o := 0) (s := 1) (fun _ => rfl) hy rfl)) (by first | omega | (dsimp only; omega) | rfl)) ?_) | (refine VLd.is ?_; refine VLd.mk (Rd.cast (.vec aT (sub_flat (f := evtV) (k := 2) (o := 1) (s := 1) (fun _ => rfl) hy rfl)) (by first | omega | (dsimp only; omega) | rfl)) ?_) | (refine VSeq.go ?_) | (refine VB.is ?_; refine VB.yes (by omega) fun _ => ?_) | (refine VB.split (fun _ => ?_) (fun _ => ?_)) | (refine VAr.is ?_; refine oA ?_) | (refine VHs.mk _ (.refl _) ?_)
        all_goals (conv => whnf)
        all_goals first
          | (rw [if_pos (by unfold evLt; omega)] at hkj
             rw [show ((j + 1 : Nat) : Int) - 1 = (j : Int) by omega]
             exact VNext.mk j ⟨by omega, hkj⟩ (by omega) aE aH)
          | (rw [if_neg (by unfold evLt; omega)] at hkj
             refine VMid.mk () trivial (by rw [← hkj]; exact aE) aH)
    · intro _ _
      have hlenN : (oneU out x).length = if hasU out x then n else n + 1 := by
        unfold oneU
        split
        · exact hn
        · rw [List.length_append, List.length_cons, List.length_take, List.length_drop, hn, hK]; omega
      have hgo : hasU out x → sortU (l.take (i + 1)) = out := fun h => by rw [hnx]; unfold oneU; rw [if_pos h]
      have hne : ¬ hasU out x → sortU (l.take (i + 1)) = out.take K ++ x :: out.drop K := fun h => by rw [hnx]; unfold oneU; rw [if_neg h, hn, hK]
      have hhas : hasU out x ↔ 0 < K ∧ out[K - 1]? = some x := by unfold hasU; rw [hn, hK]
      have hsub : sub (flat evtV out) (K * 2) ((n - K) * 2) = some (flat evtV (out.drop K)) := by
        have e1 : flat evtV out = flat evtV (out.take K) ++ flat evtV (out.drop K) := by rw [← flat_append, List.take_append_drop]
        have e2 : (flat evtV (out.take K)).length = K * 2 := by rw [flat_length (k := 2) (f := evtV) (fun _ => rfl), List.length_take, Nat.min_eq_left (by omega)]
        have e3 : (flat evtV (out.drop K)).length = (n - K) * 2 := by rw [flat_length (k := 2) (f := evtV) (fun _ => rfl), List.length_drop, hn]
        rw [sub_mk _ _ _ (by rw [e1, List.length_append, e2, e3]; omega), e1, List.drop_left' e2, List.take_of_length_le (by rw [e3]; omega)]
      obtain ⟨y, hy⟩ : ∃ y, 0 < K → out[K - 1]? = some y := by
        by_cases h : 0 < K
        · exact ⟨out[K - 1]'(by omega), fun _ => List.getElem?_eq_getElem _⟩
        · exact ⟨x, fun h' => absurd h' h⟩
      obtain ⟨g, hg⟩ : ∃ g, 0 < n → p = some ⟨g, 0, none⟩ := by
        by_cases h : 0 < n
        · obtain ⟨g, hg⟩ := hfc.2.1 h
          exact ⟨g, fun _ => hg⟩
        · exact ⟨0, fun h' => absurd h' h⟩
      repeat' (conv => whnf); first | (refine VIx.is ?_; refine VIx.mk (h3.ptr (by omega)) (by omega) (by omega) ?_) | (refine VIx.is ?_; refine VIx.is ?_; refine VIx.mk (hg (by omega)) (by omega) (by omega) ?_) | (refine VLd.is ?_; refine VLd.mk (Rd.cast (h3.rd0 (by simp) (fun _ => rfl) hx rfl) (by first | omega | (dsimp only; omega) | rfl)) ?_) | (refine VLd.is ?_; refine VLd.mk (Rd.cast (Rd.vecP aT (hg (by omega)) (sub_flat0 (f := evtV) (k := 2) (fun _ => rfl) (hy (by omega)) rfl)) (by first | omega | (dsimp only; omega) | rfl)) ?_) | (refine VSl.is ?_; refine VSl.is ?_; refine VSl.fromU (n := n) (l := K) (c := cap) (by omega) hfc.1 fun q hq1 hq2 => ?_) | (refine VAp.is ?_; refine VAp.own aT (srcU_from (l := out) aT hKl hn hfc hq1 hq2 hsub) (flat_one_cell (by simp [evtV, Value.oneCell'])) (by (try dsimp only); omega) (by simp only [maxLen]; omega) fun p' cap' hp' => ?_) | (refine VSeq.is ?_; refine VSeq.is ?_; refine VSeq.cutL (at_ := 10) (α := Option Addr × Nat) (fun _ => True) (fun y => [(1000000, .tuple #[]), (0, .slice pe l.length ce), (2, .slice none 0 0), (3, .slice p n cap), (4, .int .i64 (i : Int)), (5, .int .i64 (K : Int)), (6, .slice y.1 (n - K) y.2)]) (fun y => [.vec p K cap 64 2 (flat evtV (out.take K)), .vec y.1 (n - K) y.2 64 2 (flat evtV (out.drop K))]) (fun y => n - K ≤ y.2 ∧ (0 < n - K → ∃ g, y.1 = some ⟨g, 0, none⟩) ∧ ((∃ g, y.1 = some ⟨g, 0, none⟩) ∨ (y.1 = none ∧ n - K = 0 ∧ y.2 = 0))) (fun y _ w hw => vec_facts (hw (.vec y.1 (n - K) y.2 64 2 (flat evtV (out.drop K))) (by simp))) ?_ ?_) | (refine VSeq.go ?_) | (refine VB.split (fun _ => ?_) (fun _ => ?_)) | (refine VNew.mk fun _ => ?_) | (refine VAr.is ?_; refine oA ?_) | (refine VHs.mk _ (.refl _) ?_)
      all_goals (conv => whnf)
      all_goals first
        | (have hh : hasU out x := hhas.2 ⟨by omega, by
             rw [hy (by omega)]
             congr 1
             have e1 : y.tick = x.tick ∧ y.id = x.id := by simp only [and_true] at *; omega
             obtain ⟨a, b⟩ := y
             obtain ⟨c, d⟩ := x
             simp only [Evt.mk.injEq]
             exact e1⟩
           refine VNext.mk (i + 1, p, cap) (by dsimp only; omega) (by dsimp only; omega) (by dsimp only; rw [hgo hh, hn]; exact aE) (by dsimp only; rw [hgo hh, hn]; exact aH))
        | (rw [Nat.zero_add]
           refine VMid.mk (p', cap') trivial aE ?_
           refine HLe.shr (l := out) aT (fun _ => rfl) hn hKl ?_
           exact aH)
        | skip
      · have hno : ¬ hasU out x := fun h => by
          obtain ⟨g1, g2⟩ := hhas.1 h
          have e : y = x := Option.some.inj ((hy g1).symm.trans g2)
          subst e
          first | omega | (simp only [and_true, true_and, not_true_eq_false, and_self] at *; done)
        rintro ⟨p2, c2⟩ _ hfc2
        dsimp only at hfc2 ⊢
        have hdl : (out.drop K).length = n - K := by rw [List.length_drop, hn]
        repeat' (conv => whnf); first | (refine VIx.is ?_; refine VIx.mk (h3.ptr (by omega)) (by omega) (by omega) ?_) | (refine VLd.is ?_; refine VLd.mk (Rd.cast (h3.rd0 (by simp) (fun _ => rfl) hx rfl) (by first | omega | (dsimp only; omega) | rfl)) ?_) | (refine VSl.is ?_; refine VSl.is ?_; refine VSl.cut0 (m := K) (cap := cap) (by omega) ?_) | (refine VHs.is ?_; refine VHs.mk [.vec p2 (n - K) c2 64 2 (flat evtV (out.drop K))] aH ?_) | (refine VAp.is ?_; refine VAp.own (p := p) aT (.at_ (.vec aT rfl)) (by simp [Value.oneCell']) (by (try dsimp only); omega) (by simp only [maxLen]; omega) fun p3 c3 hp3 => ?_) | (refine VAp.is ?_; refine VAp.own (p := p3) aT (srcU_own (l := out.drop K) aT hdl hfc2) (flat_one_cell (by simp [evtV, Value.oneCell'])) (by (try dsimp only); omega) (by simp only [maxLen]; omega) fun p4 c4 hp4 => ?_) | (refine VNew.mk fun _ => ?_) | (refine VAr.is ?_; refine oA ?_)
        all_goals (conv => whnf)
        have hflat : flat evtV (sortU (l.take (i + 1))) = flat evtV (out.take K) ++ [.int .i64 x.tick, .int .i64 x.id] ++ flat evtV (out.drop K) := by
          rw [hne hno, flat_append, List.append_assoc]
          rfl
        have hlen2 : (sortU (l.take (i + 1))).length = n + 1 := by rw [hnx, hlenN, if_neg hno]
        rw [show K + 1 + (n - K) = n + 1 by omega]
        refine VNext.mk (i + 1, p4, c4) (by dsimp only; omega) (by dsimp only; omega) (by dsimp only; rw [hlen2]; exact aE) ?_
        dsimp only
        rw [hflat, hlen2]
        exact aH
      · have hno : ¬ hasU out x := fun h => by
          obtain ⟨g1, g2⟩ := hhas.1 h
          have e : y = x := Option.some.inj ((hy g1).symm.trans g2)
          subst e
          first | omega | (simp only [and_true, true_and, not_true_eq_false, and_self] at *; done)
        rintro ⟨p2, c2⟩ _ hfc2
        dsimp only at hfc2 ⊢
        have hdl : (out.drop K).length = n - K := by rw [List.length_drop, hn]
        repeat' (conv => whnf); first | (refine VIx.is ?_; refine VIx.mk (h3.ptr (by omega)) (by omega) (by omega) ?_) | (refine VLd.is ?_; refine VLd.mk (Rd.cast (h3.rd0 (by simp) (fun _ => rfl) hx rfl) (by first | omega | (dsimp only; omega) | rfl)) ?_) | (refine VSl.is ?_; refine VSl.is ?_; refine VSl.cut0 (m := K) (cap := cap) (by omega) ?_) | (refine VHs.is ?_; refine VHs.mk [.vec p2 (n - K) c2 64 2 (flat evtV (out.drop K))] aH ?_) | (refine VAp.is ?_; refine VAp.own (p := p) aT (.at_ (.vec aT rfl)) (by simp [Value.oneCell']) (by (try dsimp only); omega) (by simp only [maxLen]; omega) fun p3 c3 hp3 => ?_) | (refine VAp.is ?_; refine VAp.own (p := p3) aT (srcU_own (l := out.drop K) aT hdl hfc2) (flat_one_cell (by simp [evtV, Value.oneCell'])) (by (try dsimp only); omega) (by simp only [maxLen]; omega) fun p4 c4 hp4 => ?_) | (refine VNew.mk fun _ => ?_) | (refine VAr.is ?_; refine oA ?_)
        all_goals (conv => whnf)
        have hflat : flat evtV (sortU (l.take (i + 1))) = flat evtV (out.take K) ++ [.int .i64 x.tick, .int .i64 x.id] ++ flat evtV (out.drop K) := by
          rw [hne hno, flat_append, List.append_assoc]
          rfl
        have hlen2 : (sortU (l.take (i + 1))).length = n + 1 := by rw [hnx, hlenN, if_neg hno]
        rw [show K + 1 + (n - K) = n + 1 by omega]
        refine VNext.mk (i + 1, p4, c4) (by dsimp only; omega) (by dsimp only; omega) (by dsimp only; rw [hlen2]; exact aE) ?_
        dsimp only
        rw [hflat, hlen2]
        exact aH
  · rw [List.take_of_length_le hge]
    repeat' (conv => whnf); first | (refine VSeq.go ?_) | (refine VB.is ?_; refine VB.no (by omega) fun _ => ?_) | (refine VHs.mk _ (.refl _) ?_)
    all_goals (conv => whnf)
    exact ⟨fun w' hw' => ⟨(p, cap), rfl, trivial, hw'.le aH⟩⟩

theorem _root_.Go.Vx.VShR.some_ {kd : IntKind} {a b : Int} {k : Int → Prop} (ha : 0 ≤ a) (hb : 0 ≤ b) (hk : ∀ q : Int, 0 ≤ q → k q) : VShR kd a b k := by
  refine .mk hb (hk _ ?_)
  have h2 : (0 : Int) < 2 ^ (min b.toNat kd.bits) := Int.pow_pos (by omega)
  rw [Int.fdiv_eq_ediv_of_nonneg _ (by omega)]
  exact Int.ediv_nonneg ha (by omega)

theorem _root_.Go.Vx.VShR.isU {kd : IntKind} {a b : Int} {k : Int → Prop} (hh : VShR kd a b k) : VShR kd a b k := hh

end Go.Proofs
end

section
set_option linter.unusedVariables false

set_option linter.unusedSimpArgs false

namespace Go.Proofs

open Go Go.Vx Go.Gm

end Go.Proofs
end
