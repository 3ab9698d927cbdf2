import Derived.Test.YtephkjicokbckaaGreatDoorVerifyFoundLs
import Derived.Test.YtephkjicokbckaaGreatDoorVerifyFoundFd
import Derived.Test.YtephkjicokbckaaGreatDoorVerifyFoundSg
set_option linter.unusedVariables false

set_option linter.unusedSimpArgs false

namespace Go.Proofs

open Go Go.Vx Go.Gm

def ShowsE (l : List Evt) (m : Nat) (t : Int) (k : Nat) (x : Mom) : Prop := (∀ i ∈ x.must, (⟨t - m + 1 + k, i⟩ : Evt) ∈ l) ∧ ∀ i ∈ x.nots, (⟨t - m + 1 + k, i⟩ : Evt) ∉ l

def ShownE (l : List Evt) (pat : List Mom) (t : Int) : Prop := (pat.length : Int) ≤ t + 1 ∧ ∀ (k : Nat) x, pat[k]? = some x → ShowsE l pat.length t k x

set_option maxHeartbeats 1600000 in
theorem vshown_any (l : List Evt) (hlen : l.length ≤ 1000000) (Ls : List MomD) (h8 : Ls.length ≤ 100) (t : Int) (ht : 0 ≤ t ∧ t ≤ 1000000) (pe : Option Addr) (ce be oe : Nat) (pl : Option Addr) (cl bl ol : Nat) (w : World) (h3 : Sl w evtV 2 l pe l.length be oe) (h5 : Sl w momV 2 Ls pl Ls.length bl ol) (h6 : ∀ x ∈ Ls, MomOk w x) :
    Calls Tryz.prog 31 #[.slice pe l.length ce, .slice pl Ls.length cl, .int .i64 t] w fun e w' => ∃ b : Bool, e = .returned (.bool b) ∧ (b = true ↔ ShownE l (Ls.map (·.mom)) t) ∧ St w [] [] w' := by
  obtain ⟨pat, hpat⟩ : ∃ pat, Ls.map (·.mom) = pat := ⟨_, rfl⟩
  have hlm : pat.length = Ls.length := by rw [← hpat]; exact List.length_map ..
  rw [hpat]
  have hno : ∀ w' H, St w [] H w' → ¬ ShownE l pat t → ∃ b : Bool, Ending.returned (.bool false) = .returned (.bool b) ∧ (b = true ↔ ShownE l pat t) ∧ St w [] [] w' := by
    intro w' H hw' hne
    exact ⟨false, rfl, ⟨fun h => (by cases h), fun h => absurd h hne⟩, hw'.le .nil⟩
  obtain ⟨m, hm⟩ : ∃ m, Ls.length = m := ⟨_, rfl⟩
  rw [hm] at hlm h8 h5 ⊢
  refine enter (C := Tryz.cx) (F := Tryz.fx31) (args := [_, _, _]) Tryz.func31 rfl rfl rfl Tryz.ok31 (St.start w []) ?_
  repeat' (conv => whnf); first | (refine VSeq.go ?_) | (refine VB.is ?_; refine VB.yes (by omega) fun _ => ?_) | (refine VB.is ?_; refine VB.no (by omega) fun _ => ?_) | (refine VB.split (fun _ => ?_) (fun _ => ?_)) | (refine VLd.is ?_; refine VLd.mk (.row aT (by rfl)) ?_) | (refine VAr.is ?_; refine oA ?_)
  all_goals (conv => whnf)
  · exact ⟨fun w' hw' => hno w' _ hw' fun h => by have := h.1; omega⟩
  refine VLoop.mk (α := Nat) (fun k => k ≤ m ∧ ∀ j x, j < k → pat[j]? = some x → ShowsE l m t j x) (fun k => [(1000000, .tuple #[]), (0, .slice pe l.length ce), (1, .slice pl m cl), (2, .int .i64 t), (6, .bool false), (7, .int .i64 (m : Int)), (8, .int .i64 (k : Int))])
    (fun _ => []) (fun k => m - k) 0 ⟨by omega, fun j x hj => by omega⟩ aE aH ?_
  rintro k ⟨hk, hall⟩
  rcases Nat.lt_or_ge k m with hlt | hge
  rotate_left
  · repeat' (conv => whnf); first | (refine VSeq.go ?_) | (refine VB.is ?_; refine VB.no (by omega) fun _ => ?_)
    all_goals (conv => whnf)
    exact ⟨fun w' hw' => ⟨true, rfl, ⟨fun _ => ⟨by omega, fun j x hx => by rw [hlm]; exact hall j x (by have := (List.getElem?_eq_some_iff.1 hx).1; omega) hx⟩, fun _ => rfl⟩, hw'.le .nil⟩⟩
  obtain ⟨x, hx⟩ := h5.get hlt
  obtain ⟨⟨bm, om, hmu⟩, ⟨bn, on, hnu⟩, hml, hnl⟩ := h6 x (List.mem_of_getElem? hx)
  have hpk : pat[k]? = some x.mom := by rw [← hpat, List.getElem?_map, hx]; rfl
  have hS : ShowsE l m t k x.mom ↔ (∀ i ∈ x.m.l, (⟨t - m + 1 + k, i⟩ : Evt) ∈ l) ∧ ∀ i ∈ x.n.l, (⟨t - m + 1 + k, i⟩ : Evt) ∉ l := Iff.rfl
  have hne : ¬ ((∀ i ∈ x.m.l, (⟨t - m + 1 + k, i⟩ : Evt) ∈ l) ∧ ∀ i ∈ x.n.l, (⟨t - m + 1 + k, i⟩ : Evt) ∉ l) → ¬ ShownE l pat t := fun h1 h2 => h1 (hS.1 (by have := h2.2 k x.mom hpk; rwa [hlm] at this))
  have s0 : sub (momV x) 0 1 = some [.slice x.m.p x.m.l.length x.m.c] := rfl
  have s1 : sub (momV x) 1 1 = some [.slice x.n.p x.n.l.length x.n.c] := rfl
  obtain ⟨M, hM⟩ : ∃ M, x.m.l = M := ⟨_, rfl⟩
  obtain ⟨Q, hQ⟩ : ∃ Q, x.n.l = Q := ⟨_, rfl⟩
  rw [hM] at hmu hml hS hne s0
  rw [hQ] at hnu hnl hS hne s1
  obtain ⟨τ, hτ⟩ : ∃ τ, t - (m : Int) + 1 + (k : Int) = τ := ⟨_, rfl⟩
  rw [hτ] at hS hne
  repeat' (conv => whnf); first | (refine VSeq.go ?_) | (refine VB.is ?_; refine VB.yes (by omega) fun _ => ?_) | (refine VB.is ?_; refine VB.no (by omega) fun _ => ?_) | (refine VB.split (fun _ => ?_) (fun _ => ?_)) | (refine VLd.is ?_; refine VLd.mk (.row aT (by rfl)) ?_) | (refine VAr.is ?_; refine oA ?_)
  all_goals (conv => whnf)
  rw [hτ]
  refine VLoop.mk (α := Nat) (fun j => j ≤ M.length ∧ ∀ i ∈ M.take j, (⟨τ, i⟩ : Evt) ∈ l) (fun j => [(1000000, .tuple #[]), (0, .slice pe l.length ce), (1, .slice pl m cl), (2, .int .i64 t), (6, .bool false), (7, .int .i64 (m : Int)), (8, .int .i64 (k : Int)), (9, .int .i64 τ), (10, .int .i64 (j : Int))])
    (fun _ => []) (fun j => M.length - j) 0 ⟨by omega, by simp⟩ aE aH ?_
  rintro j ⟨hj, hmust⟩
  rcases Nat.lt_or_ge j M.length with hjl | hjg
  · obtain ⟨i, hi⟩ := hmu.get hjl
    have him := List.mem_of_getElem? hi
    repeat' (conv => whnf); first | (refine VIx.is ?_; refine VIx.mk (h5.ptr (by omega)) (by omega) (by omega) ?_) | (refine VIx.is ?_; refine VIx.mk (hmu.ptr (by omega)) (by omega) (by omega) ?_) | (refine VLd.is ?_; refine VLd.mk (Rd.cast (h5.rd (o := 0) (by simp) (fun _ => rfl) hx s0) (by first | omega | (dsimp only; omega) | rfl)) ?_) | (refine VLd.is ?_; refine VLd.mk (Rd.cast (hmu.rd0 (by simp) (fun _ => rfl) hi rfl) (by first | omega | (dsimp only; omega) | rfl)) ?_) | (refine VCall.isF 36 ?_; (refine VCall.genR (fun w' hw' => vspike_any l (by omega) τ i pe ce be oe w' (h3.keep hw' (by simp))) ?_; intro c hc; cases c <;> simp only [Bool.false_eq_true, false_iff, true_iff] at hc)) | (refine VSeq.go ?_) | (refine VB.is ?_; refine VB.yes (by omega) fun _ => ?_) | (refine VAr.is ?_; refine oA ?_)
    all_goals (conv => whnf)
    all_goals first
      | (refine VNext.mk (j + 1) ⟨by omega, ?_⟩ (by omega) aE aH
         rw [List.take_add_one, hi, Option.toList_some]
         intro k hk
         rcases List.mem_append.1 hk with hk | hk
         · exact hmust k hk
         · simp only [List.mem_singleton] at hk; subst hk; exact hc)
      | exact ⟨fun w' hw' => hno w' _ hw' (hne fun h => hc (h.1 i him))⟩
  rw [List.take_of_length_le hjg] at hmust
  repeat' (conv => whnf); first | (refine VIx.is ?_; refine VIx.mk (h5.ptr (by omega)) (by omega) (by omega) ?_) | (refine VLd.is ?_; refine VLd.mk (Rd.cast (h5.rd (o := 0) (by simp) (fun _ => rfl) hx s0) (by first | omega | (dsimp only; omega) | rfl)) ?_) | (refine VSeq.go ?_) | (refine VB.is ?_; refine VB.no (by omega) fun _ => ?_)
  all_goals (conv => whnf)
  refine VLoop.mk (α := Nat) (fun j => j ≤ Q.length ∧ ∀ i ∈ Q.take j, (⟨τ, i⟩ : Evt) ∉ l) (fun j => [(1000000, .tuple #[]), (0, .slice pe l.length ce), (1, .slice pl m cl), (2, .int .i64 t), (6, .bool false), (7, .int .i64 (m : Int)), (8, .int .i64 (k : Int)), (9, .int .i64 τ), (11, .int .i64 (j : Int))])
    (fun _ => []) (fun j => Q.length - j) 0 ⟨by omega, by simp⟩ aE aH ?_
  rintro j2 ⟨hj2, hnots⟩
  rcases Nat.lt_or_ge j2 Q.length with hjl2 | hjg2
  · obtain ⟨i, hi⟩ := hnu.get hjl2
    have him := List.mem_of_getElem? hi
    repeat' (conv => whnf); first | (refine VIx.is ?_; refine VIx.mk (h5.ptr (by omega)) (by omega) (by omega) ?_) | (refine VIx.is ?_; refine VIx.mk (hnu.ptr (by omega)) (by omega) (by omega) ?_) | (refine VLd.is ?_; refine VLd.mk (Rd.cast (h5.rd (o := 1) (by simp) (fun _ => rfl) hx s1) (by first | omega | (dsimp only; omega) | rfl)) ?_) | (refine VLd.is ?_; refine VLd.mk (Rd.cast (hnu.rd0 (by simp) (fun _ => rfl) hi rfl) (by first | omega | (dsimp only; omega) | rfl)) ?_) | (refine VCall.isF 36 ?_; (refine VCall.genR (fun w' hw' => vspike_any l (by omega) τ i pe ce be oe w' (h3.keep hw' (by simp))) ?_; intro c hc; cases c <;> simp only [Bool.false_eq_true, false_iff, true_iff] at hc)) | (refine VSeq.go ?_) | (refine VB.is ?_; refine VB.yes (by omega) fun _ => ?_) | (refine VAr.is ?_; refine oA ?_)
    all_goals (conv => whnf)
    all_goals first
      | (refine VNext.mk (j2 + 1) ⟨by omega, ?_⟩ (by omega) aE aH
         rw [List.take_add_one, hi, Option.toList_some]
         intro k hk
         rcases List.mem_append.1 hk with hk | hk
         · exact hnots k hk
         · simp only [List.mem_singleton] at hk; subst hk; exact hc)
      | exact ⟨fun w' hw' => hno w' _ hw' (hne fun h => h.2 i him hc)⟩
  rw [List.take_of_length_le hjg2] at hnots
  repeat' (conv => whnf); first | (refine VIx.is ?_; refine VIx.mk (h5.ptr (by omega)) (by omega) (by omega) ?_) | (refine VLd.is ?_; refine VLd.mk (Rd.cast (h5.rd (o := 1) (by simp) (fun _ => rfl) hx s1) (by first | omega | (dsimp only; omega) | rfl)) ?_) | (refine VSeq.go ?_) | (refine VB.is ?_; refine VB.no (by omega) fun _ => ?_) | (refine VAr.is ?_; refine oA ?_)
  all_goals (conv => whnf)
  refine VNext.mk (k + 1) ⟨by omega, fun j3 y hj3 hy => ?_⟩ (by omega) aE aH
  by_cases hjk : j3 = k
  · subst hjk
    rw [hpk, Option.some.injEq] at hy
    subst hy
    exact hS.2 ⟨hmust, hnots⟩
  · exact hall j3 y (by omega) hy

theorem fixN_take {fixed : List Evt} {t : Int} {k : Nat} {x : Evt} (h : fixed[k]? = some x) : fixN (fixed.take (k + 1)) t = fixN (fixed.take k) t + if x.tick < t then 1 else 0 := by
  unfold fixN
  rw [List.take_add_one, h, Option.toList_some, List.filter_append, List.length_append]
  by_cases hx : x.tick < t <;> simp [hx]

theorem freeN_take {free : List Int} {l : List Evt} {k : Nat} {x : Evt} (h : l[k]? = some x) : freeN free (l.take (k + 1)) = freeN free (l.take k) + free.countP (fun i => decide (x.id = i)) := by
  rw [List.take_add_one, h, Option.toList_some, freeN_app]
  congr 1

theorem idN_take {free : List Int} {i : Int} {k : Nat} {y : Int} (h : free[k]? = some y) : (free.take (k + 1)).countP (fun j => decide (i = j)) = (free.take k).countP (fun j => decide (i = j)) + if i = y then 1 else 0 := by
  rw [List.take_add_one, h, Option.toList_some, List.countP_append]
  by_cases hx : i = y <;> simp [hx]

theorem freeN_le {free : List Int} : ∀ l : List Evt, freeN free l ≤ l.length * free.length
  | [] => by simp [freeN]
  | x :: l => by
    have ih := freeN_le (free := free) l
    have h1 : free.countP (fun i => decide (x.id = i)) ≤ free.length := List.countP_le_length
    have e : freeN free (x :: l) = free.countP (fun i => decide (x.id = i)) + freeN free l := by
      unfold freeN
      rw [List.map_cons, List.sum_cons]
    rw [e, List.length_cons, Nat.add_mul]
    omega

set_option maxHeartbeats 1600000 in
theorem vkept_any (v : Sur) (run : List Evt) (a : Int) (ha : 0 ≤ a ∧ a ≤ 1000000) (hfl : v.fixed.length ≤ 65536) (hrl : run.length ≤ 1000000) (hf6 : v.free.length ≤ 6) (hfix : ∀ x ∈ v.fixed, x.tick ≤ a → x ∈ run) (htk : ∀ e ∈ run, e.tick ≤ a) (hfr : (freeN v.free run : Int) ≤ v.most) (hln : run.length = fixN v.fixed (a + 1) + freeN v.free run)
    (pf : Option Addr) (cf bf of : Nat) (px : Option Addr) (cx bx ox : Nat) (pe : Option Addr) (ce be oe : Nat) (w : World) (h1 : Sl w intV 1 v.free pf v.free.length bf of) (h2 : Sl w evtV 2 v.fixed px v.fixed.length bx ox) (h3 : Sl w evtV 2 run pe run.length be oe) :
    Calls Tryz.prog 32 #[.agg (envC pf cf px cx v).toArray, .slice pe run.length ce, .int .i64 a] w fun e w' => e = .returned (.bool true) ∧ St w [] [] w' := by
  unfold envC
  refine enter (C := Tryz.cx) (F := Tryz.fx32) (args := [_, _, _]) Tryz.func32 rfl rfl rfl Tryz.ok32 (St.start w []) ?_
  repeat' (conv => whnf); first | (refine VNew.mk fun b3 => ?_) | (refine VSeq.go ?_)
  all_goals (conv => whnf)
  refine VLoop.mk (α := Nat) (fun k => k ≤ v.fixed.length) (fun k => [(1000000, .tuple #[]), (1, .slice pe run.length ce), (2, .int .i64 a), (3, .pointer (some ⟨b3, 0, none⟩)), (6, .bool false), (7, .int .i64 (fixN (v.fixed.take k) (a + 1) : Int)), (8, .int .i64 0), (9, .int .i64 (k : Int))])
    (fun _ => [.row b3 29 [.slice pf v.free.length cf, .slice px v.fixed.length cx, .int .i64 v.most]]) (fun k => v.fixed.length - k) 0 (by omega) aE aH ?_
  intro k hk
  rcases Nat.lt_or_ge k v.fixed.length with hlt | hge
  · obtain ⟨x, hx⟩ := h2.get hlt
    have hxm := List.mem_of_getElem? hx
    have htk1 := fixN_take (t := a + 1) hx
    have hfN : fixN (v.fixed.take k) (a + 1) ≤ k := by
      unfold fixN
      have := List.length_filter_le (fun e => decide (e.tick < a + 1)) (v.fixed.take k)
      rw [List.length_take] at this
      omega
    obtain ⟨n, hn⟩ : ∃ n, fixN (v.fixed.take k) (a + 1) = n := ⟨_, rfl⟩
    rw [hn] at htk1 hfN ⊢
    repeat' (conv => whnf); first | (refine VIx.is ?_; refine VIx.mk (h2.ptr (by omega)) (by omega) (by omega) ?_) | (refine VLd.is ?_; refine VLd.mk (Rd.cast (h2.rd (o := 0) (s := 1) (by simp) (fun _ => rfl) hx rfl) (by first | omega | (dsimp only; omega) | rfl)) ?_) | (refine VLd.is ?_; refine VLd.mk (Rd.cast (h2.rd (o := 1) (s := 1) (by simp) (fun _ => rfl) hx rfl) (by first | omega | (dsimp only; omega) | rfl)) ?_) | (refine VCall.isF 36 ?_; (refine VCall.genR (fun w' hw' => vspike_any run (by omega) x.tick x.id pe ce be oe w' (h3.keep hw' (by simp))) ?_; intro c hc; have hct := hc.2 (hfix x hxm (by omega)); subst hct)) | (refine VSeq.go ?_) | (refine VB.is ?_; refine VB.yes (by omega) fun _ => ?_) | (refine VB.split (fun _ => ?_) (fun _ => ?_)) | (refine VLd.is ?_; refine VLd.mk (.row aT (by rfl)) ?_) | (refine VAr.is ?_; refine oA ?_) | (refine VHs.mk _ (.refl _) ?_)
    all_goals (conv => whnf)
    all_goals first
      | (rw [if_neg (by omega), Nat.add_zero] at htk1
         exact VNext.mk (k + 1) (by omega) (by omega) (by rw [htk1]; exact aE) aH)
      | (rw [if_pos (by omega)] at htk1
         exact VNext.mk (k + 1) (by omega) (by omega) (by rw [htk1]; exact aE) aH)
  have hkl : k = v.fixed.length := by omega
  subst hkl
  rw [List.take_length]
  obtain ⟨F, hF⟩ : ∃ F, fixN v.fixed (a + 1) = F := ⟨_, rfl⟩
  rw [hF] at hln ⊢
  repeat' (conv => whnf); first | (refine VSeq.go ?_) | (refine VB.is ?_; refine VB.yes (by omega) fun _ => ?_) | (refine VB.is ?_; refine VB.no (by omega) fun _ => ?_) | (refine VB.split (fun _ => ?_) (fun _ => ?_)) | (refine VLd.is ?_; refine VLd.mk (.row aT (by rfl)) ?_) | (refine VAr.is ?_; refine oA ?_)
  all_goals (conv => whnf)
  refine VLoop.mk (α := Nat) (fun k => k ≤ run.length) (fun k => [(1000000, .tuple #[]), (1, .slice pe run.length ce), (2, .int .i64 a), (3, .pointer (some ⟨b3, 0, none⟩)), (6, .bool false), (7, .int .i64 (F : Int)), (8, .int .i64 (freeN v.free (run.take k) : Int)), (10, .int .i64 (k : Int))])
    (fun _ => [.row b3 29 [.slice pf v.free.length cf, .slice px v.fixed.length cx, .int .i64 v.most]]) (fun k => run.length - k) 0 (by omega) aE aH ?_
  intro k hk
  rcases Nat.lt_or_ge k run.length with hlt | hge
  · obtain ⟨x, hx⟩ := h3.get hlt
    have hxt := htk x (List.mem_of_getElem? hx)
    have htk1 := freeN_take (free := v.free) hx
    have hfN := freeN_le (free := v.free) (run.take k)
    rw [List.length_take] at hfN
    have hfN2 : freeN v.free (run.take k) ≤ 6000000 := Nat.le_trans hfN (Nat.le_trans (Nat.mul_le_mul (show min k run.length ≤ 1000000 by omega) hf6) (by omega))
    clear hfN
    obtain ⟨n, hn⟩ : ∃ n, freeN v.free (run.take k) = n := ⟨_, rfl⟩
    rw [hn] at htk1 hfN2 ⊢
    repeat' (conv => whnf); first | (refine VSeq.go ?_) | (refine VB.is ?_; refine VB.yes (by omega) fun _ => ?_) | (refine VB.is ?_; refine VB.no (by omega) fun _ => ?_) | (refine VB.split (fun _ => ?_) (fun _ => ?_)) | (refine VLd.is ?_; refine VLd.mk (.row aT (by rfl)) ?_) | (refine VAr.is ?_; refine oA ?_)
    all_goals (conv => whnf)
    refine VLoop.mk (α := Nat) (fun j => j ≤ v.free.length) (fun j => [(1000000, .tuple #[]), (1, .slice pe run.length ce), (2, .int .i64 a), (3, .pointer (some ⟨b3, 0, none⟩)), (6, .bool false), (7, .int .i64 (F : Int)), (8, .int .i64 ((n : Int) + ((v.free.take j).countP (fun i => decide (x.id = i)) : Nat))), (10, .int .i64 (k : Int)), (11, .int .i64 (j : Int))])
      (fun _ => [.row b3 29 [.slice pf v.free.length cf, .slice px v.fixed.length cx, .int .i64 v.most]]) (fun j => v.free.length - j) 0 (by omega) aE aH ?_
    intro j hj
    rcases Nat.lt_or_ge j v.free.length with hjl | hjg
    · obtain ⟨y, hy⟩ := h1.get hjl
      have hid := idN_take (i := x.id) hy
      have hcl : (v.free.take j).countP (fun i => decide (x.id = i)) ≤ (v.free.take j).length := List.countP_le_length
      rw [List.length_take] at hcl
      obtain ⟨q, hq⟩ : ∃ q, (v.free.take j).countP (fun i => decide (x.id = i)) = q := ⟨_, rfl⟩
      rw [hq] at hid hcl ⊢
      repeat' (conv => whnf); first | (refine VIx.is ?_; refine VIx.mk (h1.ptr (by omega)) (by omega) (by omega) ?_) | (refine VIx.is ?_; refine VIx.mk (h3.ptr (by omega)) (by omega) (by omega) ?_) | (refine VLd.is ?_; refine VLd.mk (Rd.cast (h1.rd0 (by simp) (fun _ => rfl) hy rfl) (by first | omega | (dsimp only; omega) | rfl)) ?_) | (refine VLd.is ?_; refine VLd.mk (Rd.cast (h3.rd (o := 1) (s := 1) (by simp) (fun _ => rfl) hx rfl) (by first | omega | (dsimp only; omega) | rfl)) ?_) | (refine VSeq.go ?_) | (refine VB.is ?_; refine VB.yes (by omega) fun _ => ?_) | (refine VB.split (fun _ => ?_) (fun _ => ?_)) | (refine VLd.is ?_; refine VLd.mk (.row aT (by rfl)) ?_) | (refine VAr.is ?_; refine oA ?_) | (refine VHs.mk _ (.refl _) ?_)
      all_goals (conv => whnf)
      all_goals first
        | (rw [if_pos (by omega)] at hid
           exact VNext.mk (j + 1) (by omega) (by omega) (by rw [hid, show ((q + 1 : Nat) : Int) = (q : Int) + 1 from rfl, ← Int.add_assoc]; exact aE) aH)
        | (rw [if_neg (by omega), Nat.add_zero] at hid
           exact VNext.mk (j + 1) (by omega) (by omega) (by rw [hid]; exact aE) aH)
    have hjl : j = v.free.length := by omega
    subst hjl
    rw [List.take_length]
    obtain ⟨q, hq⟩ : ∃ q, v.free.countP (fun i => decide (x.id = i)) = q := ⟨_, rfl⟩
    rw [hq] at htk1 ⊢
    repeat' (conv => whnf); first | (refine VIx.is ?_; refine VIx.mk (h3.ptr (by omega)) (by omega) (by omega) ?_) | (refine VLd.is ?_; refine VLd.mk (Rd.cast (h3.rd (o := 0) (s := 1) (by simp) (fun _ => rfl) hx rfl) (by first | omega | (dsimp only; omega) | rfl)) ?_) | (refine VSeq.go ?_) | (refine VB.is ?_; refine VB.no (by omega) fun _ => ?_) | (refine VLd.is ?_; refine VLd.mk (.row aT (by rfl)) ?_) | (refine VAr.is ?_; refine oA ?_)
    all_goals (conv => whnf)
    exact VNext.mk (k + 1) (by omega) (by omega) (by rw [htk1, show ((n + q : Nat) : Int) = (n : Int) + q from rfl]; exact aE) aH
  have hkl : k = run.length := by omega
  subst hkl
  rw [List.take_length]
  repeat' (conv => whnf); first | (refine VSeq.go ?_) | (refine VB.is ?_; refine VB.yes (by omega) fun _ => ?_) | (refine VB.is ?_; refine VB.no (by omega) fun _ => ?_) | (refine VB.split (fun _ => ?_) (fun _ => ?_)) | (refine VLd.is ?_; refine VLd.mk (.row aT (by rfl)) ?_) | (refine VAr.is ?_; refine oA ?_)
  all_goals (conv => whnf)
  all_goals exact ⟨fun w' hw' => ⟨rfl, hw'.le .nil⟩⟩

theorem shown_run {N : Net} {l : List Evt} {pat : List Mom} {T t : Nat} (ht : t < T) : ShownE (outTo N l T) pat (t : Int) ↔ ShownL N l pat t := by
  unfold ShownE ShownL ShowsE Shown
  constructor
  · rintro ⟨h1, h2⟩
    refine ⟨by omega, fun j m hm => ?_⟩
    have hj := (List.getElem?_eq_some_iff.1 hm).1
    obtain ⟨g1, g2⟩ := h2 j m hm
    have e : (t : Int) - (pat.length : Int) + 1 + (j : Int) = ((t + 1 - pat.length + j : Nat) : Int) := by omega
    rw [e] at g1 g2
    exact ⟨fun i hi => by have := (mem_outTo.1 (g1 i hi)).2.2; rwa [Int.toNat_natCast] at this, fun i hi hc => g2 i hi (mem_outTo.2 ⟨by omega, by omega, by rw [Int.toNat_natCast]; exact hc⟩)⟩
  · rintro ⟨h1, h2⟩
    refine ⟨by omega, fun j m hm => ?_⟩
    have hj := (List.getElem?_eq_some_iff.1 hm).1
    obtain ⟨g1, g2⟩ := h2 j m hm
    have e : (t : Int) - (pat.length : Int) + 1 + (j : Int) = ((t + 1 - pat.length + j : Nat) : Int) := by omega
    rw [e]
    exact ⟨fun i hi => mem_outTo.2 ⟨by omega, by omega, by rw [Int.toNat_natCast]; exact g1 i hi⟩, fun i hi hc => g2 i hi (by have := (mem_outTo.1 hc).2.2; rwa [Int.toNat_natCast] at this)⟩

end Go.Proofs
