import Derived.Test.YtephkjicokbckaaGreatDoorVerifyCertainsWb
import Derived.Test.YtephkjicokbckaaGreatDoorVerifyCertainsRa
set_option linter.unusedVariables false

set_option linter.unusedSimpArgs false

namespace Go.Proofs

open Go Go.Vx Go.Gm

def caseV : Option Sp → List Value
  | none => [.bool false, .int .i64 0, .int .i64 0]
  | some s => [.bool true, .int .i64 s.lo, .int .i64 s.hi]

theorem caseV_len (x : Option Sp) : (caseV x).length = 3 := by cases x <;> rfl

theorem caseV_one (x : Option Sp) : oneAll (caseV x) = true := by cases x <;> rfl

theorem upd_case (a b : Option Sp) : upd (caseV a) 0 (caseV b) = some (caseV b) := by cases a <;> cases b <;> rfl

theorem sub_case (a : Option Sp) : sub (caseV a) 0 3 = some (caseV a) := by cases a <;> rfl

theorem rLeak_any (p : Par) (hp : ParOk p) (v : Int) (h1 : -1048576 ≤ v) (h2 : v ≤ 1048576) (w : World) :
    Calls Tryz.prog 143 #[.agg (parV p).toArray, .int .i64 v] w fun e w' => e = .returned (.tuple #[.int .i64 (leak p v), .int .i64 0]) ∧ St w [] [] w' := by
  have hc : chk p = 0 := good_iff.2 hp
  refine enter (C := Tryz.cx) (F := Tryz.fx143) (args := [_, _]) Tryz.func143 rfl rfl rfl Tryz.ok143 (St.start w []) ?_
  repeat' (conv => whnf); first | (refine VCall.isF 134 ?_; (refine VCall.val (refCheck_any p hp.wf) ?_; rw [hc])) | (refine VCall.is ?_; refine VCall.bool (within_ref _ _ _) ?_) | (refine VCall.isF 175 ?_; refine VCall.val (refLeak_any p hp _ h1 h2) ?_) | (refine VSeq.go ?_) | (refine VB.is ?_; refine VB.yes (by omega) fun _ => ?_) | (refine VB.is ?_; refine VB.no (by omega) fun _ => ?_) | (refine VLd.is ?_; refine VLd.mk (.row aT (by rfl)) ?_) | (refine VNew.mk fun _ => ?_)
  all_goals (conv => whnf)
  all_goals exact ⟨fun w' hw' => ⟨rfl, hw'.le .nil⟩⟩

theorem joined_any (a b : Option Sp) (w : World) :
    Calls Tryz.prog 145 #[.agg (caseV a).toArray, .agg (caseV b).toArray] w fun e w' => e = .returned (.agg (caseV (jo a b)).toArray) ∧ St w [] [] w' := by
  cases a with
  | none =>
    refine enter (C := Tryz.cx) (F := Tryz.fx145) (args := [_, _]) Tryz.func145 rfl rfl rfl Tryz.ok145 (St.start w []) ?_
    cases b with
    | none =>
      repeat' (conv => whnf); first | (refine VSeq.go ?_) | (refine VB.is ?_; refine VB.yes (by omega) fun _ => ?_) | (refine VLd.is ?_; refine VLd.mk (.row aT (by rfl)) ?_) | (refine VSt.is ?_; refine VSt.row aT (by rfl) (by first | rfl | assumption) ?_) | (refine VNew.mk fun _ => ?_)
      all_goals (conv => whnf)
      all_goals exact ⟨fun w' hw' => ⟨rfl, hw'.le .nil⟩⟩
    | some y =>
      repeat' (conv => whnf); first | (refine VSeq.go ?_) | (refine VB.is ?_; refine VB.yes (by omega) fun _ => ?_) | (refine VLd.is ?_; refine VLd.mk (.row aT (by rfl)) ?_) | (refine VSt.is ?_; refine VSt.row aT (by rfl) (by first | rfl | assumption) ?_) | (refine VNew.mk fun _ => ?_)
      all_goals (conv => whnf)
      all_goals exact ⟨fun w' hw' => ⟨rfl, hw'.le .nil⟩⟩
  | some x =>
    refine enter (C := Tryz.cx) (F := Tryz.fx145) (args := [_, _]) Tryz.func145 rfl rfl rfl Tryz.ok145 (St.start w []) ?_
    cases b with
    | none =>
      repeat' (conv => whnf); first | (refine VSeq.go ?_) | (refine VB.is ?_; refine VB.yes (by omega) fun _ => ?_) | (refine VLd.is ?_; refine VLd.mk (.row aT (by rfl)) ?_) | (refine VSt.is ?_; refine VSt.row aT (by rfl) (by first | rfl | assumption) ?_) | (refine VNew.mk fun _ => ?_)
      all_goals (conv => whnf)
      all_goals exact ⟨fun w' hw' => ⟨rfl, hw'.le .nil⟩⟩
    | some y =>
      repeat' (conv => whnf); first | (refine VSeq.go ?_) | (refine VB.is ?_; refine VB.yes (by omega) fun _ => ?_) | (refine VLd.is ?_; refine VLd.mk (.row aT (by rfl)) ?_) | (refine VSt.is ?_; refine VSt.row aT (by rfl) (by first | rfl | assumption) ?_) | (refine VNew.mk fun _ => ?_)
      all_goals (conv => whnf)
      all_goals exact ⟨fun w' hw' => ⟨rfl, hw'.le .nil⟩⟩

theorem refTicked_any (p : Par) (hp : ParOk p) (C : List (Option Sp)) (hC : CellOk p C) (d : Sp) (hd : (-268435456 ≤ d.lo ∧ d.lo ≤ 268435456) ∧ (-268435456 ≤ d.hi ∧ d.hi ≤ 268435456)) (q : Option Addr) (cq b o : Nat) (w : World) (h1 : Sl w caseV 3 C q C.length b o) :
    Calls Tryz.prog 82 #[.agg (parV p).toArray, .slice q C.length cq, .int .i64 d.lo, .int .i64 d.hi] w fun e w' => ∃ g : Nat, e = .returned (.tuple #[.slice (some ⟨g, 0, none⟩) C.length C.length, .int .i64 (tickV p C d)]) ∧ True ∧
      St w [] [.vec (some ⟨g, 0, none⟩) C.length C.length 150 3 (flat caseV (tickC p C d))] w' := by
  have hbias := hp.bias
  have hfl := hp.fl
  have hth := hp.th
  have hrs := hp.rs
  have hrest := hp.rest
  have hCl := hC.len
  obtain ⟨x0, hx0⟩ : ∃ x0, C[0]? = some x0 := ⟨C[0]'(by omega), List.getElem?_eq_getElem _⟩
  have hc0 : cget C 0 = x0 := by
    have := cget_nat C 0
    rw [hx0] at this
    exact this
  refine enter (C := Tryz.cx) (F := Tryz.fx82) (args := [_, _, _, _]) Tryz.func82 rfl rfl rfl Tryz.ok82 (St.start w []) ?_
  repeat' (conv => whnf); first | (refine VMk.is ?_; refine VMk.mk (by omega) (by omega) (by (try dsimp only); omega) (by omega) fun g => ?_) | (refine VSeq.go ?_) | (refine VNew.mk fun _ => ?_)
  all_goals (conv => whnf)
  rename_i b4
  rw [Int.toNat_natCast]
  obtain ⟨n, hn⟩ : ∃ n, C.length = n := ⟨_, rfl⟩
  have hml : ∀ j, (movedTo C j).length = n := fun j => by rw [movedTo_len, hn]
  rw [hn] at h1 hCl ⊢
  refine VLoop.mk (α := Nat × Bool) (fun y => 1 ≤ y.1 ∧ y.1 ≤ n ∧ (y.2 = true ↔ ∃ i, 1 ≤ i ∧ i < y.1 ∧ ∃ s, C[i]? = some (some s)))
    (fun y => [(1000000, .tuple #[]), (1, .slice q n cq), (2, .int .i64 d.lo), (3, .int .i64 d.hi), (4, .pointer (some ⟨b4, 0, none⟩)), (8, .slice none 0 0), (9, .int .i64 0), (10, .slice (some ⟨g, 0, none⟩) n n), (11, .bool y.2), (12, .int .i64 (y.1 : Int))])
    (fun y => [.vec (some ⟨g, 0, none⟩) n n 150 3 (flat caseV (movedTo C y.1)), .row b4 136 (parV p)]) (fun y => n - y.1) (1, false) ⟨by dsimp only; omega, by dsimp only; omega, by simp; intro i h1 h2; omega⟩ aE ?_ ?_
  · rw [movedTo_one, hn]
    have e := flat_rep (f := caseV) (x := none) n
    rw [← e]
    exact aH
  rintro ⟨j, o⟩ ⟨hj1, hj2, ho⟩
  dsimp only at hj1 hj2 ho ⊢
  rcases Nat.lt_or_ge j n with hlt | hge
  · obtain ⟨x, hx⟩ : ∃ x, C[j]? = some x := ⟨C[j]'(by omega), List.getElem?_eq_getElem _⟩
    cases x with
    | none =>
      repeat' (conv => whnf); first | (refine VIx.is ?_; refine VIx.mk (h1.ptr (by omega)) (by omega) (by omega) ?_) | (refine VLd.is ?_; refine VLd.mk (Rd.cast (h1.rd0 (vs := [.bool false]) (by simp) caseV_len hx rfl) (by first | omega | (dsimp only; omega) | rfl)) ?_) | (refine VSeq.go ?_) | (refine VB.is ?_; refine VB.yes (by omega) fun _ => ?_) | (refine VAr.is ?_; refine oA ?_)
      all_goals (conv => whnf)
      refine VNext.mk (j + 1, o) ⟨by dsimp only; omega, by dsimp only; omega, ?_⟩ (by dsimp only; omega) aE ?_
      · rw [ho]
        constructor
        · rintro ⟨i, g1, g2, g3⟩; exact ⟨i, g1, by dsimp only; omega, g3⟩
        · rintro ⟨i, g1, g2, s, g3⟩
          dsimp only at g2
          have : i ≠ j := fun e => by subst e; rw [hx] at g3; cases g3
          exact ⟨i, g1, by omega, s, g3⟩
      · dsimp only
        rw [movedTo_none hj1 hx]
        exact aH
    | some s =>
      obtain ⟨y, hy⟩ : ∃ y, (movedTo C j)[j - 1]? = some y := ⟨(movedTo C j)[j - 1]'(by rw [hml]; omega), List.getElem?_eq_getElem _⟩
      repeat' (conv => whnf); first | (refine VIx.is ?_; refine VIx.mk (h1.ptr (by omega)) (by omega) (by omega) ?_) | (refine VIx.is ?_; refine VIx.mk rfl (by omega) (by omega) ?_) | (refine VLd.is ?_; refine VLd.mk (Rd.cast (h1.rd0 (vs := [.bool true]) (by simp) caseV_len hx rfl) (by first | omega | (dsimp only; omega) | rfl)) ?_) | (refine VLd.is ?_; refine VLd.mk (Rd.cast (h1.rd0 (vs := caseV (some s)) (by simp) caseV_len hx rfl) (by first | omega | (dsimp only; omega) | rfl)) ?_) | (refine VSt.is ?_; refine VSt.cast (off' := (j - 1) * 3) (by first | omega | (dsimp only; omega)) (VSt.vec aT (upd_flat0 (f := caseV) (k := 3) caseV_len hy (upd_case y (some s))) (caseV_one (some s)) ?_)) | (refine VSeq.go ?_) | (refine VB.is ?_; refine VB.yes (by omega) fun _ => ?_) | (refine VAr.is ?_; refine oA ?_)
      all_goals (conv => whnf)
      refine VNext.mk (j + 1, true) ⟨by dsimp only; omega, by dsimp only; omega, ?_⟩ (by dsimp only; omega) aE ?_
      · simp only [true_iff]
        exact ⟨j, hj1, by omega, s, hx⟩
      · dsimp only
        rw [movedTo_step hj1 hx]
        exact aH
  have hjn : j = n := by omega
  subst hjn
  have ho2 : o = true ↔ restsB C = true := by rw [ho, restsB_iff, rests_iff, hn]
  cases x0 with
  | none =>
    repeat' (conv => whnf); first | (refine VIx.is ?_; refine VIx.mk (h1.ptr (by omega)) (by omega) (by omega) ?_) | (refine VLd.is ?_; refine VLd.mk (Rd.cast (h1.rd0 (vs := [.bool false]) (by simp) caseV_len hx0 rfl) (by first | omega | (dsimp only; omega) | rfl)) ?_) | (refine VSeq.go ?_) | (refine VB.is ?_; refine VB.no (by omega) fun _ => ?_)
    all_goals (conv => whnf)
    have hv : tickV p C d = 0 := by unfold tickV; rw [hc0]
    rw [hv]
    refine ⟨fun w' hw' => ⟨g, rfl, trivial, ?_⟩⟩
    rw [← ref_tickC0 d hc0, hn]
    exact hw'.le aH
  | some s =>
    have hsp := hC.get hc0
    have hl1 := leak_bounds hp (v := s.lo) (by omega) (by omega)
    have hl2 := leak_bounds hp (v := s.hi) (by omega) (by omega)
    repeat' (conv => whnf); first | (refine VIx.is ?_; refine VIx.mk (h1.ptr (by omega)) (by omega) (by omega) ?_) | (refine VLd.is ?_; refine VLd.mk (Rd.cast (h1.rd0 (vs := [.bool true]) (by simp) caseV_len hx0 rfl) (by first | omega | (dsimp only; omega) | rfl)) ?_) | (refine VLd.is ?_; refine VLd.mk (Rd.cast (h1.rd (o := 1) (vs := [.int .i64 s.lo]) (by simp) caseV_len hx0 rfl) (by first | omega | (dsimp only; omega) | rfl)) ?_) | (refine VLd.is ?_; refine VLd.mk (Rd.cast (h1.rd (o := 2) (vs := [.int .i64 s.hi]) (by simp) caseV_len hx0 rfl) (by first | omega | (dsimp only; omega) | rfl)) ?_) | (refine VCall.isF 143 ?_; refine VCall.val (rLeak_any p hp _ (by omega) (by omega)) ?_) | (refine VCall.isF 144 ?_; refine VCall.inl (F := Tryz.fx144) Tryz.func144 rfl rfl rfl Tryz.ok144 ?_) | (refine VSeq.is ?_; refine VSeq.cut (at_ := 14) (α := Unit) (fun _ => True) (fun _ => [(1000000, .tuple #[]), (4, .pointer (some ⟨b4, 0, none⟩)), (8, .slice none 0 0), (9, .int .i64 0), (10, .slice (some ⟨g, 0, none⟩) j j), (11, .bool o), (17, .int .i64 (tlo p d s)), (18, .int .i64 (thi p d s))]) (fun _ => [.vec (some ⟨g, 0, none⟩) j j 150 3 (flat caseV (movedTo C j)), .row b4 136 (parV p)]) ?_ ?_) | (refine VSeq.go ?_) | (refine VB.is ?_; refine VB.no (by omega) fun _ => ?_) | (refine VLd.is ?_; refine VLd.mk (.row aT (by rfl)) ?_) | (refine VAr.is ?_; refine oA ?_) | (refine VKeep.is ?_; refine VKeep.mk aH ?_) | (refine VHs.mk _ (.refl _) ?_)
    all_goals (conv => whnf)
    · exact VMid.mk () trivial aE aH
    rintro - -
    have hspk := spike_none (p := p) (d := d) (s := s)
    have hr0 : addC (addC (movedTo C j) 0 (stayC p d s)) p.rest.toNat (spikeC p d s) = tickC p C d := by rw [← hn]; exact ref_tickC hp hC d hc0
    obtain ⟨y0, hy0⟩ : ∃ y0, (movedTo C j)[0]? = some y0 := ⟨(movedTo C j)[0]'(by rw [hml]; omega), List.getElem?_eq_getElem _⟩
    have hv : tickV p C d = if thi p d s < p.th then 0 else if o = true ∨ tlo p d s < p.th then 1 else 2 := by
      unfold tickV
      rw [hc0]
      simp only [ho2]
    have t1 := tlo_in hp d s
    have t2 := thi_in hp d s
    obtain ⟨X, hX⟩ : ∃ X, tlo p d s = X := ⟨_, rfl⟩
    obtain ⟨Y, hY⟩ : ∃ Y, thi p d s = Y := ⟨_, rfl⟩
    rw [hX] at t1
    rw [hY] at t2
    rw [hX, hY] at hv ⊢
    have hjo : ∀ (a : Option Sp) (x : Sp), ∃ z, jo a (some x) = some z := fun a x => by cases a <;> exact ⟨_, rfl⟩
    obtain ⟨z0, hz0⟩ := hjo y0 ⟨X, min Y (p.th - 1)⟩
    have hjn := joined_any y0 (some ⟨X, min Y (p.th - 1)⟩)
    rw [hz0] at hjn
    repeat' (conv => whnf); first | (refine VIx.is ?_; refine VIx.mk rfl (by omega) (by omega) ?_) | (refine VLd.is ?_; refine VLd.mk (Rd.cast (.vec aT (sub_flat0 (f := caseV) (k := 3) (s := 3) (vs := caseV y0) caseV_len hy0 (sub_case _))) (by first | omega | (dsimp only; omega) | rfl)) ?_) | (refine VCall.isF 145 ?_; refine VCall.val hjn ?_) | (refine VSt.is ?_; refine VSt.cast (off' := 0 * 3) (by first | omega | (dsimp only; omega)) (VSt.vec aT (upd_flat0 (f := caseV) (k := 3) (y := some z0) caseV_len hy0 (upd_case _ (some z0))) (caseV_one (some z0)) ?_)) | (refine VSeq.is ?_; refine VSeq.cut (at_ := 17) (α := Bool) (fun y => y = true ↔ o = true ∨ X < p.th) (fun y => [(1000000, .tuple #[]), (4, .pointer (some ⟨b4, 0, none⟩)), (8, .slice none 0 0), (9, .int .i64 0), (10, .slice (some ⟨g, 0, none⟩) j j), (11, .bool y), (17, .int .i64 X), (18, .int .i64 Y)]) (fun _ => [.vec (some ⟨g, 0, none⟩) j j 150 3 (flat caseV (addC (movedTo C j) 0 (stayC p d s))), .row b4 136 (parV p)]) ?_ ?_) | (refine VSeq.go ?_) | (refine VB.split (fun _ => ?_) (fun _ => ?_)) | (refine VLd.is ?_; refine VLd.mk (.row aT (by rfl)) ?_) | (refine VAr.is ?_; refine oA ?_) | (refine VHs.mk _ (.refl _) ?_)
    all_goals (conv => whnf)
    · have hst : stayC p d s = some ⟨X, min Y (p.th - 1)⟩ := by rw [← hX, ← hY]; exact stay_some (by rw [hX]; assumption)
      have e : (movedTo C j).set 0 (some z0) = addC (movedTo C j) 0 (stayC p d s) := by rw [hst, addC_set hy0, hz0]
      rw [e]
      exact VMid.mk true ⟨fun _ => .inr (by assumption), fun _ => rfl⟩ aE aH
    · have hst : stayC p d s = none := stay_none (by rw [hX]; assumption)
      have e : movedTo C j = addC (movedTo C j) 0 (stayC p d s) := by rw [hst, addC_none]
      rw [← e]
      exact VMid.mk o ⟨.inl, fun h => h.elim id (fun q => absurd q (by assumption))⟩ aE aH
    rintro o1 ho1
    obtain ⟨L, hL⟩ : ∃ L, addC (movedTo C j) 0 (stayC p d s) = L := ⟨_, rfl⟩
    have hLl : L.length = j := by rw [← hL, addC_len, hml]
    rw [hL] at hr0 ⊢
    obtain ⟨R, hR⟩ : ∃ R : Nat, p.rest = R := ⟨p.rest.toNat, by omega⟩
    rw [hR, Int.toNat_natCast] at hr0
    obtain ⟨y1, hy1⟩ : ∃ y1, L[R]? = some y1 := ⟨L[R]'(by omega), List.getElem?_eq_getElem _⟩
    have hpR : parV p = [.int .i64 p.lk, .int .i64 p.lv, .int .i64 p.bias, .int .i64 p.th, .int .i64 p.rk, .int .i64 p.rs, .int .i64 p.fl, .int .i64 (R : Int)] := by rw [← hR]; rfl
    rw [hpR]
    obtain ⟨z1, hz1⟩ := hjo y1 (spikeS p d s)
    have hjs := joined_any y1 (some (spikeS p d s))
    rw [hz1] at hjs
    by_cases hYt : Y < p.th
    · rw [if_pos hYt] at hv
      rw [spike_none (by rw [hY]; exact hYt), addC_none] at hr0
      repeat' (conv => whnf); first | (refine VSeq.go ?_) | (refine VB.is ?_; refine VB.yes (by omega) fun _ => ?_) | (refine VLd.is ?_; refine VLd.mk (.row aT (by rfl)) ?_) | (refine VSt.is ?_; refine VSt.row aT (by rfl) (by first | rfl | assumption) ?_) | (refine VNew.mk fun _ => ?_)
      all_goals (conv => whnf)
      rw [hv, ← hr0]
      exact ⟨fun w' hw' => ⟨g, rfl, trivial, hw'.le aH⟩⟩
    · rw [if_neg hYt] at hv
      have hsc : spikeC p d s = some (spikeS p d s) := if_neg (by rw [hY]; exact hYt)
      rw [hsc, addC_set hy1, hz1] at hr0
      by_cases hk : p.rk = 1
      · have hss : spikeS p d s = ⟨max X p.th - p.th, Y - p.th⟩ := by unfold spikeS; rw [if_pos hk, hX, hY]
        rw [hss] at hjs
        repeat' (conv => whnf); first | (refine VIx.is ?_; refine VIx.mk rfl (by omega) (by omega) ?_) | (refine VLd.is ?_; refine VLd.mk (Rd.cast (.vec aT (sub_flat0 (f := caseV) (k := 3) (s := 3) (vs := caseV y1) caseV_len hy1 (sub_case _))) (by first | omega | (dsimp only; omega) | rfl)) ?_) | (refine VCall.isF 145 ?_; refine VCall.val hjs ?_) | (refine VSt.is ?_; refine VSt.cast (off' := R * 3) (by first | omega | (dsimp only; omega)) (VSt.vec aT (upd_flat0 (f := caseV) (k := 3) (y := some z1) caseV_len hy1 (upd_case _ (some z1))) (caseV_one (some z1)) ?_)) | (refine VSeq.go ?_) | (refine VB.is ?_; refine VB.yes (by omega) fun _ => ?_) | (refine VB.is ?_; refine VB.no (by omega) fun _ => ?_) | (refine boolE_split (fun h => ?_) (fun h => ?_) <;> subst h) | (refine VLd.is ?_; refine VLd.mk (.row aT (by rfl)) ?_) | (refine VSt.is ?_; refine VSt.row aT (by rfl) (by first | rfl | assumption) ?_) | (refine VNew.mk fun _ => ?_) | (refine VAr.is ?_; refine oA ?_) | (refine VKeep.is ?_; refine VKeep.mk aH ?_) | (refine VHs.mk _ (.refl _) ?_)
        all_goals (conv => whnf)
        · rw [hv, if_pos (ho1.1 rfl), ← hr0]
          exact ⟨fun w' hw' => ⟨g, rfl, trivial, hw'.le aH⟩⟩
        · rw [hv, if_neg (fun h => by cases ho1.2 h), ← hr0]
          exact ⟨fun w' hw' => ⟨g, rfl, trivial, hw'.le aH⟩⟩
      · have hss : spikeS p d s = ⟨p.rs, p.rs⟩ := by unfold spikeS; rw [if_neg hk]
        rw [hss] at hjs
        repeat' (conv => whnf); first | (refine VIx.is ?_; refine VIx.mk rfl (by omega) (by omega) ?_) | (refine VLd.is ?_; refine VLd.mk (Rd.cast (.vec aT (sub_flat0 (f := caseV) (k := 3) (s := 3) (vs := caseV y1) caseV_len hy1 (sub_case _))) (by first | omega | (dsimp only; omega) | rfl)) ?_) | (refine VCall.isF 145 ?_; refine VCall.val hjs ?_) | (refine VSt.is ?_; refine VSt.cast (off' := R * 3) (by first | omega | (dsimp only; omega)) (VSt.vec aT (upd_flat0 (f := caseV) (k := 3) (y := some z1) caseV_len hy1 (upd_case _ (some z1))) (caseV_one (some z1)) ?_)) | (refine VSeq.go ?_) | (refine VB.is ?_; refine VB.yes (by omega) fun _ => ?_) | (refine VB.is ?_; refine VB.no (by omega) fun _ => ?_) | (refine boolE_split (fun h => ?_) (fun h => ?_) <;> subst h) | (refine VLd.is ?_; refine VLd.mk (.row aT (by rfl)) ?_) | (refine VSt.is ?_; refine VSt.row aT (by rfl) (by first | rfl | assumption) ?_) | (refine VNew.mk fun _ => ?_) | (refine VAr.is ?_; refine oA ?_) | (refine VKeep.is ?_; refine VKeep.mk aH ?_) | (refine VHs.mk _ (.refl _) ?_)
        all_goals (conv => whnf)
        · rw [hv, if_pos (ho1.1 rfl), ← hr0]
          exact ⟨fun w' hw' => ⟨g, rfl, trivial, hw'.le aH⟩⟩
        · rw [hv, if_neg (fun h => by cases ho1.2 h), ← hr0]
          exact ⟨fun w' hw' => ⟨g, rfl, trivial, hw'.le aH⟩⟩

end Go.Proofs
