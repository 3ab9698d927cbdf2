import Derived.Test.YtephkjicokbckaaGreatDoorVerifyKnownHd
import Derived.Test.YtephkjicokbckaaGreatDoorVerifyKnownNa
set_option linter.unusedVariables false

set_option linter.unusedSimpArgs false

namespace Go.Proofs

open Go Go.Vx Go.Gm

theorem cloneEvt_any (l : List Evt) (p : Option Addr) (c b o : Nat) (w : World) (h1 : Sl w evtV 2 l p l.length b o) (hb : l.length ≤ 65536) :
    Calls Tryz.prog 158 #[.slice p l.length c] w fun e w' => ∃ x : Option Addr × Nat, e = .returned (.slice x.1 l.length x.2) ∧ (0 < l.length → ∃ g, x.1 = some ⟨g, 0, none⟩) ∧ St w [] [.vec x.1 l.length x.2 64 2 (flat evtV l)] w' := by
  rcases h1.cases with ⟨a, h2⟩ | ⟨h2, h3⟩
  · subst h2
    refine enter (C := Tryz.cx) (F := Tryz.fx158) (args := [_]) Tryz.func158 rfl rfl rfl Tryz.ok158 (St.start w []) ?_
    repeat' (conv => whnf); first | (refine VAp.is ?_; refine VAp.own aT (h1.src (by simp) (fun _ => rfl)) (flat_one_cell (by simp [evtV, Value.oneCell'])) ((by (try dsimp only); omega)) (by simp only [maxLen]; omega) fun p' cap' hp' => ?_) | (refine VSeq.go ?_) | (refine VNew.mk fun _ => ?_)
    all_goals (conv => whnf)
    refine ⟨fun w' hw' => ⟨(p', cap'), by simp [packE], fun h => hp' (by omega), ?_⟩⟩
    rw [Nat.zero_add] at hw'
    exact hw'.le aH
  · subst h2
    have hl : l = [] := List.eq_nil_of_length_eq_zero h3
    subst hl
    refine enter (C := Tryz.cx) (F := Tryz.fx158) (args := [_]) Tryz.func158 rfl rfl rfl Tryz.ok158 (St.start w []) ?_
    repeat' (conv => whnf); first | (refine VSeq.go ?_) | (refine VB.is ?_; refine VB.no (by omega) fun _ => ?_)
    all_goals (conv => whnf)
    exact ⟨fun w' hw' => ⟨(none, 0), rfl, fun h => absurd h (by simp), hw'.le (.nilv .nil)⟩⟩

theorem upd_tail {α : Type} {f : α → List Value} {k : Nat} (hk : ∀ x, (f x).length = k) {l : List α} {i n : Nat} (y : α) (hn : l.length = i + n) : upd (flat f l) (i * k) (repL (f y) n) = some (flat f (l.take i ++ List.replicate n y)) := by
  have e1 : (flat f l).length = (i + n) * k := by rw [flat_length hk, hn]
  have e2 : (repL (f y) n).length = n * k := by rw [flat_rep, flat_length hk, List.length_replicate]
  have e3 : (i + n) * k = i * k + n * k := Nat.add_mul ..
  rw [upd_mk _ _ _ (by omega), flat_append, ← flat_rep]
  congr 1
  rw [List.drop_of_length_le (by omega), List.append_nil]
  congr 1
  have e4 : flat f l = flat f (l.take i) ++ flat f (l.drop i) := by rw [← flat_append, List.take_append_drop]
  have e5 : (flat f (l.take i)).length = i * k := by rw [flat_length hk, List.length_take]; congr 1; omega
  rw [e4, ← e5, List.take_left]

theorem oneAll_zero : ∀ n : Nat, oneAll (repL (evtV ⟨0, 0⟩) n) = true
  | 0 => rfl
  | n + 1 => by
    rw [repL]
    show oneAll (.int .i64 0 :: .int .i64 0 :: repL (evtV ⟨0, 0⟩) n) = true
    simp only [oneAll, Value.oneCell']
    exact oneAll_zero n

theorem aboutL_take {c : Clm} {l : List Evt} {k : Nat} {x : Evt} (h : l[k]? = some x) : aboutL c (l.take (k + 1)) = aboutL c (l.take k) ++ if inC c x then [x] else [] := by
  unfold aboutL
  rw [List.take_add_one, h, Option.toList_some, List.filter_append]
  congr 1
  by_cases hx : inC c x <;> simp [hx]

theorem aboutL_all {c : Clm} {l : List Evt} (h : ∀ x ∈ l, inC c x) : aboutL c l = l := List.filter_eq_self.2 fun x hx => decide_eq_true (h x hx)

theorem _root_.Go.Vx.Cells.own {w0 w : World} {M : List Nat} {H : HP} {b e : Nat} {cs : List Value} (hs : St w0 M H w) (h : Ent.row b e cs ∈ H) : Cells w b 0 cs := by
  have hb := hs.own (.row b e cs) h
  have hb' : w.heap[b]? = some (.cells cs.toArray e (0, 0)) := hb
  intro j v hj
  simpa [World.cell?, hb'] using hj

theorem vdel_any (c : Clm) (hc : c.wf) (hns : c.ns.length ≤ 1000000000) (x : Evt) (b2 : Nat) (pc : Option Addr) (cc bc oc : Nat) (w : World) (hrow : Cells w b2 0 (clmV c pc cc)) (h1 : Sl w intV 1 c.ns pc c.ns.length bc oc) :
    Calls Tryz.prog 202 #[.agg #[.int .i64 x.tick, .int .i64 x.id], .pointer (some ⟨b2, 0, none⟩)] w fun e w' => ∃ r : Bool, e = .returned (.bool r) ∧ (r = true ↔ ¬ inC c x) ∧ St w [] [] w' := by
  have k1 : sub (clmV c pc cc) 1 1 = some [.slice pc c.ns.length cc] := rfl
  have k2 : sub (clmV c pc cc) 2 1 = some [.int .i64 c.frm] := rfl
  have k3 : sub (clmV c pc cc) 3 1 = some [.int .i64 c.to] := rfl
  refine enter (C := Tryz.cx) (F := Tryz.fx202) (args := [_, _]) Tryz.func202 rfl rfl rfl Tryz.ok202 (St.start w []) ?_
  repeat' (conv => whnf); first | (refine VNew.mk fun b3 => ?_) | (refine VLd.is ?_; refine VLd.mk (Rd.cast (.old (hrow.part k1) rfl (by simp)) (by first | omega | (dsimp only; omega) | rfl)) ?_) | (refine VLd.is ?_; refine VLd.mk (Rd.cast (.old (hrow.part k2) rfl (by simp)) (by first | omega | (dsimp only; omega) | rfl)) ?_) | (refine VLd.is ?_; refine VLd.mk (Rd.cast (.old (hrow.part k3) rfl (by simp)) (by first | omega | (dsimp only; omega) | rfl)) ?_) | (refine VCall.isF 117 ?_; (refine VCall.genR (fun w' hw' => contains_any c.ns (by omega) _ _ _ _ _ w' (h1.keep hw' (by simp))) ?_; intro r hr; cases r <;> simp only [Bool.false_eq_true, false_iff, true_iff] at hr)) | (refine VSeq.go ?_) | (refine VB.split (fun _ => ?_) (fun _ => ?_)) | (refine VLd.is ?_; refine VLd.mk (.row aT (by rfl)) ?_)
  all_goals (conv => whnf)
  all_goals
    refine ⟨fun w' hw' => ⟨_, rfl, ?_, hw'.le .nil⟩⟩
    unfold inC
    first
      | (simp only [true_iff]; rintro ⟨g1, g2, g3⟩; first | omega | exact hr g3)
      | (simp only [Bool.false_eq_true, false_iff]; exact fun h => h ⟨by omega, by omega, hr⟩)

theorem vindex_any (c : Clm) (hc : c.wf) (hns : c.ns.length ≤ 1000000000) (l : List Evt) (hl : l.length ≤ 1000000) (b2 : Nat) (pc : Option Addr) (cc bc oc : Nat) (p : Option Addr) (cp b o : Nat) (w : World) (hrow : Cells w b2 0 (clmV c pc cc)) (h1 : Sl w intV 1 c.ns pc c.ns.length bc oc) (h3 : Sl w evtV 2 l p l.length b o) :
    Calls Tryz.prog 150 #[.slice p l.length cp, .func (.func 202) #[] #[.pointer (some ⟨b2, 0, none⟩)]] w fun e w' => ∃ r : Int, e = .returned (.int .i64 r) ∧ ((r = -1 ∧ ∀ x ∈ l, inC c x) ∨ ∃ i : Nat, r = (i : Int) ∧ i < l.length ∧ (∀ x ∈ l.take i, inC c x) ∧ ∀ x, l[i]? = some x → ¬ inC c x) ∧ St w [] [] w' := by
  refine enter (C := Tryz.cx) (F := Tryz.fx150) (args := [_, _]) Tryz.func150 rfl rfl rfl Tryz.ok150 (St.start w []) ?_
  repeat' (conv => whnf); first | (refine VSeq.go ?_) | (refine VB.is ?_; refine VB.no (by omega) fun _ => ?_)
  all_goals (conv => whnf)
  refine VLoop.mk (α := Nat) (fun k => k ≤ l.length ∧ ∀ x ∈ l.take k, inC c x) (fun k => [(1000000, .tuple #[]), (0, .slice p l.length cp), (1, .func (.func 202) #[] #[.pointer (some ⟨b2, 0, none⟩)]), (4, .int .i64 0), (7, .int .i64 (l.length : Int)), (8, .int .i64 (k : Int))]) (fun _ => []) (fun k => l.length - k) 0 ⟨by omega, by simp⟩ aE aH ?_
  rintro k ⟨hk, hall⟩
  rcases Nat.lt_or_ge k l.length with hlt | hge
  · obtain ⟨x, hx⟩ := h3.get hlt
    have hxv : sub (evtV x) 0 2 = some [.int .i64 x.tick, .int .i64 x.id] := rfl
    repeat' (conv => whnf); first | (refine VIx.is ?_; refine VIx.mk (h3.ptr (by omega)) (by omega) (by omega) ?_) | (refine VLd.is ?_; refine VLd.mk (Rd.cast (h3.rd0 (by simp) (fun _ => rfl) hx hxv) (by first | omega | (dsimp only; omega) | rfl)) ?_) | (refine VCall.isF 202 ?_; (refine VCall.genR (fun w' hw' => vdel_any c hc hns x b2 pc cc bc oc w' (Cells.keep hrow hw' (by simp)) (h1.keep hw' (by simp))) ?_; intro r hr; cases r <;> simp only [Bool.false_eq_true, false_iff, true_iff, Decidable.not_not] at hr)) | (refine VSeq.go ?_) | (refine VB.is ?_; refine VB.yes (by omega) fun _ => ?_) | (refine VAr.is ?_; refine oA ?_)
    all_goals (conv => whnf)
    all_goals first
      | (refine VNext.mk (k + 1) ⟨by omega, ?_⟩ (by omega) aE aH
         rw [List.take_add_one, hx, Option.toList_some]
         intro y hy
         rcases List.mem_append.1 hy with hy | hy
         · exact hall y hy
         · simp only [List.mem_singleton] at hy; subst hy; exact hr)
      | exact ⟨fun w' hw' => ⟨_, rfl, .inr ⟨k, rfl, hlt, hall, fun y hy => by rw [hx, Option.some.injEq] at hy; subst hy; exact hr⟩, hw'.le .nil⟩⟩
  rw [List.take_of_length_le hge] at hall
  repeat' (conv => whnf); first | (refine VSeq.go ?_) | (refine VB.is ?_; refine VB.no (by omega) fun _ => ?_)
  all_goals (conv => whnf)
  exact ⟨fun w' hw' => ⟨-1, rfl, .inl ⟨rfl, hall⟩, hw'.le .nil⟩⟩

set_option maxHeartbeats 4000000 in
theorem vabout_any (c : Clm) (hc : c.wf) (hns : c.ns.length ≤ 1000000000) (l : List Evt) (hl : l.length ≤ 65536) (pc : Option Addr) (cc bc oc : Nat) (pe : Option Addr) (ce be oe : Nat) (w : World) (h1 : Sl w intV 1 c.ns pc c.ns.length bc oc) (h3 : Sl w evtV 2 l pe l.length be oe) :
    Calls Tryz.prog 176 #[clmA c pc cc, .slice pe l.length ce] w fun e w' => ∃ y : Option Addr × Nat, e = .returned (.slice y.1 (aboutL c l).length y.2) ∧ (0 < (aboutL c l).length → ∃ g, y.1 = some ⟨g, 0, none⟩) ∧ St w [] [.vec y.1 (aboutL c l).length y.2 64 2 (flat evtV (aboutL c l))] w' := by
  obtain ⟨w1, w2, w3, w4, w5, w6⟩ := hc
  unfold I64 at w1 w3 w4 w5 w6
  refine enter (C := Tryz.cx) (F := Tryz.fx176) (args := [_, _]) Tryz.func176 rfl rfl rfl Tryz.ok176 (St.start w []) ?_
  repeat' (conv => whnf); first | (refine VNew.mk fun b2 => ?_) | (refine VCall.isF 158 ?_; (refine VCall.genR (fun w' hw' => cloneEvt_any l pe ce be oe w' (h3.keep hw' (by simp)) hl) ?_; rintro ⟨q, cq⟩ hq; dsimp only at hq ⊢)) | (refine VCall.isF 201 ?_; refine VCall.inl (F := Tryz.fx201) Tryz.func201 rfl rfl rfl Tryz.ok201 ?_) | (refine VCall.isF 150 ?_; (refine VCall.genR (fun w' hw' => Exists.elim (Sl.own (f := evtV) (l := l) (cap := cq) (e := 64) (p := q) (k := 2) hw' aT (fun _ => rfl) rfl) fun bq hbq => vindex_any c ⟨w1, w2, w3, w4, w5, w6⟩ hns l (by omega) b2 pc cc bc oc q cq bq 0 w' (Cells.own hw' (e := 50) (by simp [clmV, clmA, cellsL, Value.cells])) (h1.keep hw' (by simp)) hbq) ?_; intro r hr; rcases hr with ⟨h, hall⟩ | ⟨i, h, hi, hpre, hxi⟩ <;> subst h)) | (refine VSeq.go ?_) | (refine VB.is ?_; refine VB.yes (by omega) fun _ => ?_) | (refine VB.is ?_; refine VB.no (by omega) fun _ => ?_) | (refine VAr.is ?_; refine oA ?_)
  all_goals (conv => whnf)
  · refine ⟨fun w' hw' => ⟨(q, cq), ?_, ?_, hw'.le ?_⟩⟩
    · rw [aboutL_all hall]; rfl
    · rw [aboutL_all hall]; exact hq
    · rw [aboutL_all hall]; exact aH
  obtain ⟨gq, rfl⟩ := hq (by omega)
  have hab := fun (X : List Evt) => aboutL_all (c := c) (l := X)
  refine VLoop.mk (α := Nat × Nat × List Evt) (fun z => (z.1 < z.2.1 ∧ z.2.1 ≤ l.length ∧ z.1 = (aboutL c (l.take z.2.1)).length) ∧ z.2.2.length = l.length ∧ z.2.2.take z.1 = aboutL c (l.take z.2.1) ∧ z.2.2.drop z.2.1 = l.drop z.2.1)
    (fun z => [(1000000, .tuple #[]), (0, .slice (some ⟨gq, 0, none⟩) l.length cq), (1, .func (.func 202) #[] #[.pointer (some ⟨b2, 0, none⟩)]), (4, .slice none 0 0), (5, .int .i64 (z.1 : Int)), (6, .int .i64 (z.2.1 : Int))])
    (fun z => [.vec (some ⟨gq, 0, none⟩) l.length cq 64 2 (flat evtV z.2.2), .row b2 50 (clmV c pc cc)]) (fun z => l.length - z.2.1) (i, i + 1, l) ⟨⟨by dsimp only; omega, by dsimp only; omega, ?_⟩, rfl, ?_, rfl⟩ aE aH ?_
  · dsimp only
    obtain ⟨x, hx⟩ : ∃ x, l[i]? = some x := ⟨l[i], List.getElem?_eq_getElem _⟩
    rw [aboutL_take hx, if_neg (hxi x hx), List.append_nil, hab _ hpre, List.length_take]
    omega
  · dsimp only
    obtain ⟨x, hx⟩ : ∃ x, l[i]? = some x := ⟨l[i], List.getElem?_eq_getElem _⟩
    rw [aboutL_take hx, if_neg (hxi x hx), List.append_nil, hab _ hpre]
  rintro ⟨k, j, X⟩ ⟨⟨hkj, hj, hkl⟩, hXl, hXt, hXd⟩
  dsimp only at hkj hj hkl hXl hXt hXd ⊢
  rcases Nat.lt_or_ge j l.length with hjl | hjg
  · obtain ⟨x, hx⟩ : ∃ x, l[j]? = some x := ⟨l[j], List.getElem?_eq_getElem _⟩
    have hXx : X[j]? = some x := by
      have h1 := congrArg (fun L => L[0]?) hXd
      simp only [List.getElem?_drop, Nat.add_zero] at h1
      rw [h1, hx]
    obtain ⟨y, hy⟩ : ∃ y, X[k]? = some y := ⟨X[k]'(by omega), List.getElem?_eq_getElem _⟩
    have hat := aboutL_take (c := c) hx
    have hxv : sub (evtV x) 0 2 = some [.int .i64 x.tick, .int .i64 x.id] := rfl
    have hups : upd (flat evtV X) (k * 2) [.int .i64 x.tick, .int .i64 x.id] = some (flat evtV (X.set k x)) := upd_flat0 (f := evtV) (k := 2) (y := x) (fun _ => rfl) hy rfl
    repeat' (conv => whnf); first | (refine VIx.is ?_; refine VIx.mk rfl (by omega) (by omega) ?_) | (refine VNew.mk fun b7 => ?_) | (refine VLd.is ?_; refine VLd.mk (Rd.cast (.vec aT (sub_flat0 (f := evtV) (k := 2) (fun _ => rfl) hXx hxv)) (by first | omega | (dsimp only; omega) | rfl)) ?_) | (refine VCall.isF 202 ?_; (refine VCall.genR (fun w' hw' => vdel_any c ⟨w1, w2, w3, w4, w5, w6⟩ hns x b2 pc cc bc oc w' (Cells.own hw' (e := 50) (by simp)) (h1.keep hw' (by simp))) ?_; intro r hr; cases r <;> simp only [Bool.false_eq_true, false_iff, true_iff, Decidable.not_not] at hr)) | (refine VSt.is ?_; refine VSt.cast (off' := k * 2) (by first | omega | (dsimp only; omega) | rfl) (VSt.vec aT hups rfl ?_)) | (refine VSeq.go ?_) | (refine VB.is ?_; refine VB.yes (by omega) fun _ => ?_) | (refine VLd.is ?_; refine VLd.mk (.row aT (by rfl)) ?_) | (refine VSt.is ?_; refine VSt.row aT (by rfl) (by first | rfl | assumption) ?_) | (refine VAr.is ?_; refine oA ?_)
    all_goals (conv => whnf)
    · rw [if_pos hr] at hat
      refine VNext.mk (k + 1, j + 1, X.set k x) ⟨⟨by dsimp only; omega, by dsimp only; omega, by dsimp only; rw [hat, List.length_append, List.length_singleton]; omega⟩, by dsimp only; rw [List.length_set]; exact hXl, ?_, ?_⟩ (by dsimp only; omega) aE aH
      · dsimp only
        rw [hat, ← hXt]
        apply List.ext_getElem?
        intro t
        rw [List.getElem?_take, List.getElem?_set, List.getElem?_append, List.length_take, List.getElem?_take]
        have m1 : min k X.length = k := by omega
        rw [m1]
        rcases Nat.lt_trichotomy t k with h | h | h
        · rw [if_pos (by omega), if_neg (by omega), if_pos h, if_pos h]
        · subst h
          rw [if_pos (by omega), if_pos rfl, if_pos (by omega), if_neg (by omega), Nat.sub_self]; rfl
        · rw [if_neg (by omega), if_neg (by omega), List.getElem?_eq_none (by simp; omega)]
      · dsimp only
        apply List.ext_getElem?
        intro t
        have h2 := congrArg (fun L => L[t + 1]?) hXd
        simp only [List.getElem?_drop] at h2
        rw [List.getElem?_drop, List.getElem?_drop, List.getElem?_set, if_neg (by omega), show j + 1 + t = j + (t + 1) by omega]
        exact h2
    · rw [if_neg hr, List.append_nil] at hat
      refine VNext.mk (k, j + 1, X) ⟨⟨by dsimp only; omega, by dsimp only; omega, by dsimp only; rw [hat]; exact hkl⟩, hXl, by dsimp only; rw [hat]; exact hXt, ?_⟩ (by dsimp only; omega) aE aH
      dsimp only
      apply List.ext_getElem?
      intro t
      have h2 := congrArg (fun L => L[t + 1]?) hXd
      simp only [List.getElem?_drop] at h2
      rw [List.getElem?_drop, List.getElem?_drop, show j + 1 + t = j + (t + 1) by omega]
      exact h2
  have hjl : j = l.length := by omega
  subst hjl
  rw [List.take_length] at hkl hXt
  have hut := upd_tail (f := evtV) (k := 2) (fun _ => rfl) (l := X) (i := k) (n := l.length - k) ⟨0, 0⟩ (by omega)
  repeat' (conv => whnf); first | (refine VSeq.is ?_; refine VSeq.isA 12 rfl ?_; refine VSeq.learn (at_ := 12) (fun w hw => vec_facts (hw (.vec (some ⟨gq, 0, none⟩) l.length cq 64 2 (flat evtV X)) (by simp))) (fun hfc => ?_)) | (refine VSl.is ?_; refine VSl.is ?_; refine VSl.cut0 (m := k) (cap := cq) (by have := hfc.1; omega) ?_) | (refine VSl.is ?_; refine VSl.is ?_; refine VSl.mk (by omega) (by omega) (by have := hfc.1; omega) fun q2 hq2 hq3 => ?_; have hqe := hq2 (by have := hfc.1; omega); clear hq2 hq3; subst hqe) | (refine VCl.is ?_; refine VCl.part (b := gq) (off := k * 2) (by simp [Addr.add]; omega) (by omega) ?_) | (refine VSt.is ?_; refine VSt.is ?_; refine VSt.vec aT hut (oneAll_zero _) ?_) | (refine VSeq.go ?_) | (refine VB.is ?_; refine VB.no (by omega) fun _ => ?_)
  all_goals (conv => whnf)
  have hlX : (X.take k ++ List.replicate (l.length - k) (⟨0, 0⟩ : Evt)).length = l.length := by rw [List.length_append, List.length_take, List.length_replicate]; omega
  have htX : (X.take k ++ List.replicate (l.length - k) (⟨0, 0⟩ : Evt)).take k = aboutL c l := by
    rw [← hXt, List.take_append_of_le_length (by rw [List.length_take]; omega), List.take_of_length_le (by rw [List.length_take]; omega)]
  refine ⟨fun w' hw' => ⟨(some ⟨gq, 0, none⟩, cq), ?_, fun _ => ⟨_, rfl⟩, hw'.le ?_⟩⟩
  · rw [← hkl]; rfl
  · dsimp only
    rw [← hkl, ← htX]
    exact HLe.shr (l := X.take k ++ List.replicate (l.length - k) (⟨0, 0⟩ : Evt)) aT (fun _ => rfl) hlX (by omega) .nil

theorem vcounts_any (c : Clm) (hc : c.wf) (hns : c.ns.length ≤ 1000000000) (l : List Evt) (hl : l.length ≤ 65536) (pc : Option Addr) (cc bc oc : Nat) (pe : Option Addr) (ce be oe : Nat) (w : World) (h1 : Sl w intV 1 c.ns pc c.ns.length bc oc) (h3 : Sl w evtV 2 l pe l.length be oe) :
    Calls Tryz.prog 148 #[clmA c pc cc, .slice pe l.length ce] w fun e w' => ∃ b : Bool, e = .returned (.bool b) ∧ (b = true ↔ CountsP c l) ∧ St w [] [] w' := by
  refine enter (C := Tryz.cx) (F := Tryz.fx148) (args := [_, _]) Tryz.func148 rfl rfl rfl Tryz.ok148 (St.start w []) ?_
  repeat' (conv => whnf); first | (refine VNew.mk fun b2 => ?_) | (refine VCall.isF 176 ?_; (refine VCall.genR (fun w' hw' => vabout_any c hc hns l hl pc cc bc oc pe ce be oe w' (h1.keep hw' (by simp)) (h3.keep hw' (by simp))) ?_; rintro ⟨q, cq⟩ _; dsimp only)) | (refine VCall.isF 90 ?_; refine VCall.inl (F := Tryz.fx90) Tryz.func90 rfl rfl rfl Tryz.ok90 ?_) | (refine VSeq.go ?_) | (refine VB.split (fun _ => ?_) (fun _ => ?_)) | (refine VLd.is ?_; refine VLd.mk (.row aT (by rfl)) ?_) | (refine VKeep.is ?_; refine VKeep.mk aH ?_) | (refine VHs.mk _ (.refl _) ?_)
  all_goals (conv => whnf)
  all_goals
    refine ⟨fun w' hw' => ⟨_, rfl, ?_, hw'.le .nil⟩⟩
    unfold CountsP
    constructor <;> intro h <;> first | rfl | exact ⟨by omega, by omega⟩ | (exfalso; omega) | (cases h)

set_option maxHeartbeats 4000000 in
theorem vleads_any (c : Clm) (hc : c.wf) (hns : c.ns.length ≤ 1000000000) {one : Int} (hone : c.ns[0]? = some one) (l : List Evt) (hl : l.length ≤ 65536) (pc : Option Addr) (cc bc oc : Nat) (pe : Option Addr) (ce be oe : Nat) (w : World) (h1 : Sl w intV 1 c.ns pc c.ns.length bc oc) (h3 : Sl w evtV 2 l pe l.length be oe) :
    Calls Tryz.prog 146 #[clmA c pc cc, .slice pe l.length ce] w fun e w' => ∃ b : Bool, e = .returned (.bool b) ∧ (b = true ↔ LeadsP c l) ∧ St w [] [] w' := by
  have hab := vabout_any c hc hns l hl pc cc bc oc pe ce be oe
  have hAl : (aboutL c l).length ≤ l.length := List.length_filter_le _ _
  have hLP : LeadsP c l ↔ ∃ x ∈ aboutL c l, ∀ y ∈ aboutL c l, x.tick ≤ y.tick ∧ (y.tick = x.tick → some one = some y.id) := by
    unfold LeadsP; rw [hone]
  obtain ⟨A, hA⟩ : ∃ A, aboutL c l = A := ⟨_, rfl⟩
  rw [hA] at hab hAl hLP
  have hn1 := (List.getElem?_eq_some_iff.1 hone).1
  refine enter (C := Tryz.cx) (F := Tryz.fx146) (args := [_, _]) Tryz.func146 rfl rfl rfl Tryz.ok146 (St.start w []) ?_
  refine VSeq.go ?_
  repeat' (conv => whnf); first | (refine VNew.mk fun b2 => ?_)
  all_goals (conv => whnf)
  by_cases hA0 : A.length = 0
  · repeat' (conv => whnf); first | (refine VCall.isF 176 ?_; (refine VCall.genR (fun w' hw' => hab w' (h1.keep hw' (by simp)) (h3.keep hw' (by simp))) ?_; rintro ⟨q, cq⟩ hq; dsimp only at hq ⊢)) | (refine VSeq.go ?_) | (refine VB.is ?_; refine VB.yes (by omega) fun _ => ?_) | (refine VLd.is ?_; refine VLd.mk (.row aT (by rfl)) ?_)
    all_goals (conv => whnf)
    have hAn : A = [] := List.eq_nil_of_length_eq_zero hA0
    refine ⟨fun w' hw' => ⟨false, rfl, ⟨fun h => (by cases h), fun h => ?_⟩, hw'.le .nil⟩⟩
    obtain ⟨x, hx, _⟩ := hLP.1 h
    rw [hAn] at hx
    cases hx
  obtain ⟨x0, hx0⟩ : ∃ x, A[0]? = some x := ⟨A[0]'(by omega), List.getElem?_eq_getElem _⟩
  have hxv : ∀ x : Evt, sub (evtV x) 0 2 = some [.int .i64 x.tick, .int .i64 x.id] := fun _ => rfl
  repeat' (conv => whnf); first | (refine VCall.isF 176 ?_; (refine VCall.genR (fun w' hw' => hab w' (h1.keep hw' (by simp)) (h3.keep hw' (by simp))) ?_; rintro ⟨q, cq⟩ hq; dsimp only at hq ⊢; obtain ⟨gq, hgq⟩ := hq (by omega); subst hgq)) | (refine VCall.isF 177 ?_; refine VCall.inl (F := Tryz.fx177) Tryz.func177 rfl rfl rfl Tryz.ok177 ?_) | (refine VNew.mk fun b5 => ?_) | (refine VIx.is ?_; refine VIx.mk rfl (by omega) (by omega) ?_) | (refine VLd.is ?_; refine VLd.mk (Rd.cast (.vec aT (sub_flat0 (f := evtV) (k := 2) (fun _ => rfl) hx0 (hxv x0))) (by first | omega | (dsimp only; omega) | rfl)) ?_) | (refine VSeq.go ?_) | (refine VB.is ?_; refine VB.no (by omega) fun _ => ?_) | (refine VLd.is ?_; refine VLd.mk (.row aT (by rfl)) ?_) | (refine VSt.is ?_; refine VSt.row aT (by rfl) (by first | rfl | assumption) ?_)
  all_goals (conv => whnf)
  rename_i b4 _
  refine VLoop.mk (α := Nat × Evt) (fun z => (1 ≤ z.1 ∧ z.1 ≤ A.length) ∧ z.2 ∈ A.take z.1 ∧ ∀ y ∈ A.take z.1, z.2.tick ≤ y.tick) (fun z => [(1000000, .tuple #[]), (0, .slice (some ⟨gq, 0, none⟩) A.length cq), (1, .func (.func 178) #[] #[]), (4, .pointer (some ⟨b4, 0, none⟩)), (5, .pointer (some ⟨b5, 0, none⟩)), (6, .int .i64 (z.1 : Int))])
    (fun z => [.row b5 64 (evtV z.2), .row b4 64 [.int .i64 0, .int .i64 0], .vec (some ⟨gq, 0, none⟩) A.length cq 64 2 (flat evtV A), .row b2 50 (clmV c pc cc)]) (fun z => A.length - z.1) (1, x0) ⟨by dsimp only; omega, ?_, ?_⟩ aE aH ?_
  · dsimp only
    rw [List.take_add_one, hx0]; simp
  · dsimp only
    rw [List.take_add_one, hx0]
    intro y hy
    simp only [List.take_zero, Option.toList_some, List.nil_append, List.mem_singleton] at hy
    rw [hy]; exact Int.le_refl _
  rintro ⟨j, m⟩ ⟨⟨hj1, hj⟩, hmem, hmin⟩
  dsimp only at hj1 hj hmem hmin ⊢
  rcases Nat.lt_or_ge j A.length with hjl | hjg
  · obtain ⟨x, hx⟩ : ∃ x, A[j]? = some x := ⟨A[j], List.getElem?_eq_getElem _⟩
    have htk : A.take (j + 1) = A.take j ++ [x] := by rw [List.take_add_one, hx]; rfl
    repeat' (conv => whnf); first | (refine VCall.isF 178 ?_; refine VCall.inl (F := Tryz.fx178) Tryz.func178 rfl rfl rfl Tryz.ok178 ?_) | (refine VCall.isF 162 ?_; refine VCall.inl (F := Tryz.fx162) Tryz.func162 rfl rfl rfl Tryz.ok162 ?_) | (refine VCall.isF 185 ?_; refine VCall.inl (F := Tryz.fx185) Tryz.func185 rfl rfl rfl Tryz.ok185 ?_) | (refine VNew.mk fun b9 => ?_) | (refine VIx.is ?_; refine VIx.mk rfl (by omega) (by omega) ?_) | (refine VLd.is ?_; refine VLd.mk (Rd.cast (.vec aT (sub_flat0 (f := evtV) (k := 2) (fun _ => rfl) hx (hxv x))) (by first | omega | (dsimp only; omega) | rfl)) ?_) | (refine VSeq.go ?_) | (refine VB.is ?_; refine VB.yes (by omega) fun _ => ?_) | (refine VB.is ?_; refine VB.no (by omega) fun _ => ?_) | (refine VB.split (fun _ => ?_) (fun _ => ?_)) | (refine VLd.is ?_; refine VLd.mk (.row aT (by rfl)) ?_) | (refine VSt.is ?_; refine VSt.row aT (by rfl) (by first | rfl | assumption) ?_) | (refine VAr.is ?_; refine oA ?_) | (refine VHs.mk _ (.refl _) ?_)
    all_goals (conv => whnf)
    all_goals first
      | (refine VNext.mk (j + 1, x) ⟨by dsimp only; omega, ?_, ?_⟩ (by dsimp only; omega) aE aH
         · dsimp only; rw [htk]; exact List.mem_append_right _ (List.mem_singleton.2 rfl)
         · dsimp only
           rw [htk]
           intro y hy
           rcases List.mem_append.1 hy with hy | hy
           · have := hmin y hy; omega
           · rw [List.mem_singleton.1 hy]; exact Int.le_refl _)
      | (refine VNext.mk (j + 1, m) ⟨by dsimp only; omega, ?_, ?_⟩ (by dsimp only; omega) aE aH
         · dsimp only; rw [htk]; exact List.mem_append_left _ hmem
         · dsimp only
           rw [htk]
           intro y hy
           rcases List.mem_append.1 hy with hy | hy
           · exact hmin y hy
           · rw [List.mem_singleton.1 hy]; omega)
  rw [List.take_of_length_le hjg] at hmem hmin
  repeat' (conv => whnf); first | (refine VNew.mk fun b6 => ?_) | (refine VCall.isF 91 ?_; refine VCall.inl (F := Tryz.fx91) Tryz.func91 rfl rfl rfl Tryz.ok91 ?_) | (refine VCall.isF 150 ?_; refine VCall.inl (F := Tryz.fx150) Tryz.func150 rfl rfl rfl Tryz.ok150 ?_) | (refine VSeq.go ?_) | (refine VB.is ?_; refine VB.no (by omega) fun _ => ?_) | (refine VLd.is ?_; refine VLd.mk (.row aT (by rfl)) ?_) | (refine VSt.is ?_; refine VSt.row aT (by rfl) (by first | rfl | assumption) ?_)
  all_goals (conv => whnf)
  refine VLoop.mk (α := Nat) (fun k => k ≤ A.length ∧ ∀ x ∈ A.take k, ¬ (x.tick = m.tick ∧ x.id ≠ one)) (fun k => [(1000000, .tuple #[]), (0, .slice (some ⟨gq, 0, none⟩) A.length cq), (1, .func (.func 179) #[] #[.pointer (some ⟨b6, 0, none⟩), .pointer (some ⟨b2, 0, none⟩)]), (4, .int .i64 0), (7, .int .i64 (A.length : Int)), (8, .int .i64 (k : Int))])
    (fun _ => [.row b6 3 [.int .i64 m.tick], .vec (some ⟨gq, 0, none⟩) A.length cq 64 2 (flat evtV A), .row b2 50 (clmV c pc cc)]) (fun k => A.length - k) 0 ⟨by omega, by simp⟩ aE aH ?_
  rintro k ⟨hk, hall⟩
  rcases Nat.lt_or_ge k A.length with hkl | hkg
  · obtain ⟨x, hx⟩ : ∃ x, A[k]? = some x := ⟨A[k], List.getElem?_eq_getElem _⟩
    have hxA := List.mem_of_getElem? hx
    repeat' (conv => whnf); first | (refine VCall.isF 179 ?_; refine VCall.inl (F := Tryz.fx179) Tryz.func179 rfl rfl rfl Tryz.ok179 ?_) | (refine VNew.mk fun b9 => ?_) | (refine VIx.is ?_; refine VIx.mk rfl (by omega) (by omega) ?_) | (refine VIx.is ?_; refine VIx.mk (h1.ptr (by omega)) (by omega) (by omega) ?_) | (refine VLd.is ?_; refine VLd.mk (Rd.cast (.vec aT (sub_flat0 (f := evtV) (k := 2) (fun _ => rfl) hx (hxv x))) (by first | omega | (dsimp only; omega) | rfl)) ?_) | (refine VLd.is ?_; refine VLd.mk (Rd.cast (h1.rd0 (by simp) (fun _ => rfl) hone rfl) (by first | omega | (dsimp only; omega) | rfl)) ?_) | (refine VSeq.go ?_) | (refine VB.is ?_; refine VB.yes (by omega) fun _ => ?_) | (refine VB.split (fun _ => ?_) (fun _ => ?_)) | (refine VLd.is ?_; refine VLd.mk (.row aT (by rfl)) ?_) | (refine VAr.is ?_; refine oA ?_) | (refine VHs.mk _ (.refl _) ?_)
    all_goals (conv => whnf)
    all_goals first
      | (refine VNext.mk (k + 1) ⟨by omega, ?_⟩ (by omega) aE aH
         rw [List.take_add_one, hx, Option.toList_some]
         intro y hy
         rcases List.mem_append.1 hy with hy | hy
         · exact hall y hy
         · simp only [List.mem_singleton] at hy; subst hy; exact fun h => by have := h.1; have := h.2; omega)
      | (refine ⟨fun w' hw' => ⟨false, rfl, ⟨fun h => (by cases h), fun h => ?_⟩, hw'.le .nil⟩⟩
         obtain ⟨y, hy, hyall⟩ := hLP.1 h
         have g1 := (hyall m hmem).1
         have g2 := hmin y hy
         have g3 := (hyall x hxA).2 (by omega)
         simp only [Option.some.injEq] at g3
         omega)
  rw [List.take_of_length_le hkg] at hall
  repeat' (conv => whnf); first | (refine VSeq.go ?_) | (refine VB.is ?_; refine VB.no (by omega) fun _ => ?_)
  all_goals (conv => whnf)
  refine ⟨fun w' hw' => ⟨true, rfl, ⟨fun _ => hLP.2 ⟨m, hmem, fun y hy => ⟨hmin y hy, fun e => ?_⟩⟩, fun _ => rfl⟩, hw'.le .nil⟩⟩
  have := hall y hy
  congr 1
  by_cases h : y.id = one
  · exact h.symm
  · exact absurd ⟨e, h⟩ this

end Go.Proofs
