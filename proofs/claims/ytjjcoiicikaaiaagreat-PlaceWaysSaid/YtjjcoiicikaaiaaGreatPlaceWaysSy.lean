import Derived.Test.YtjjcoiicikaaiaaGreatPlaceWaysMf
import Derived.Test.YtjjcoiicikaaiaaGreatPlaceWaysMq
set_option linter.unusedVariables false
set_option linter.unusedSimpArgs false
set_option maxHeartbeats 4000000

namespace Go.Proofs

open Go Go.Vx Go.Gm

def ddJ : Int → List Int → List Int
 | _, [] => []
 | x, y :: r => if y = x then ddJ x r else y :: ddJ y r

def ddI : List Int → List Int
 | [] => []
 | x :: r => x :: ddJ x r

theorem ddJ_snoc : ∀ (l : List Int) (x y z : Int), (x :: l).getLast? = some z → ddJ x (l ++ [y]) = ddJ x l ++ if y = z then [] else [y]
 | [], x, y, z, h => by
  have hz : x = z := by simpa using h
  subst hz
  by_cases e : y = x <;> simp [ddJ, e]
 | u :: r, x, y, z, h => by
  have h' : (u :: r).getLast? = some z := by rw [List.getLast?_cons_cons] at h; exact h
  show ddJ x (u :: (r ++ [y])) = _
  by_cases e : u = x
  ·subst e
   simp only [ddJ, if_true]
   exact ddJ_snoc r u y z h'
  ·simp only [ddJ, if_neg e, ddJ_snoc r u y z h', List.cons_append]

theorem ddI_take {X : List Int} {i : Nat} {y z : Int} (hz : X[i]? = some z) (hy : X[i + 1]? = some y) : ddI (X.take (i + 2)) = ddI (X.take (i + 1)) ++ if y = z then [] else [y] := by
 have e1 : X.take (i + 2) = X.take (i + 1) ++ [y] := by rw [List.take_add_one, hy]; rfl
 have e2 : X.take (i + 1) = X.take i ++ [z] := by rw [List.take_add_one, hz]; rfl
 rw [e1]
 cases hc : X.take (i + 1) with
 | nil => rw [hc] at e2; simp at e2
 | cons x l =>
  show x :: ddJ x (l ++ [y]) = x :: ddJ x l ++ _
  rw [ddJ_snoc l x y z (by rw [← hc, e2]; simp)]
  rfl

theorem ddI_few {X : List Int} (h : X.length < 2) : ddI X = X := by
 match X, h with
 | [], _ => rfl
 | [x], _ => rfl

theorem upd_tail {α : Type} {f : α → List Value} {k : Nat} (hk : ∀ x, (f x).length = k) {l : List α} {i n : Nat} (y : α) (hn : l.length = i + n) : upd (flat f l) (i * k) (repL (f y) n) = some (flat f (l.take i ++ List.replicate n y)) := by
 have e1 : (flat f l).length = (i + n) * k := by rw [flat_length hk, hn]
 have e2 : (repL (f y) n).length = n * k := by rw [flat_rep, flat_length hk, List.length_replicate]
 have e3 : (i + n) * k = i * k + n * k := Nat.add_mul ..
 rw [upd_mk _ _ _ (by omega), flat_append, ← flat_rep]
 congr 1
 rw [List.drop_of_length_le (by omega), List.append_nil]
 congr 1
 have e4 : flat f l = flat f (l.take i) ++ flat f (l.drop i) := by rw [← flat_append, List.take_append_drop]
 have e5 : (flat f (l.take i)).length = i * k := by rw [flat_length hk, List.length_take]; congr 1; omega
 rw [e4, ← e5, List.take_left]

theorem oneAll_zeroI : ∀ n : Nat, oneAll (repL (intV 0) n) = true
 | 0 => rfl
 | n + 1 => by
  have := oneAll_zeroI n
  simpa [repL, oneAll, intV, Value.oneCell'] using this

set_option maxHeartbeats 2000000 in
theorem compact_call {w0 : World} {H : HP} {K : Value → HP → Prop} (gq cq : Nat) (X : List Int) (hnb : X.length ≤ 65536) (hK0 : K (.slice (some ⟨gq, 0, none⟩) (ddI X).length cq) (.vec (some ⟨gq, 0, none⟩) (ddI X).length cq 3 1 (flat intV (ddI X)) :: H)) :
  VCall Tryz.cx.P w0 [] (.vec (some ⟨gq, 0, none⟩) X.length cq 3 1 (flat intV X) :: H) 149 [.slice (some ⟨gq, 0, none⟩) X.length cq] K := by
 refine VCall.hle ?_
 refine VCall.inl (F := Tryz.fx149) Tryz.func149 rfl rfl rfl Tryz.ok149 ?_
 rcases Nat.lt_or_ge X.length 2 with hfew | hge2
 ·repeat' (conv => whnf); first | (refine VSeq.go ?_) | (refine VB.is ?_; refine VB.yes (by omega) fun _ => ?_)
  all_goals (conv => whnf)
  exact ⟨_, HLe.refl _, by rw [ddI_few hfew] at hK0; exact hK0⟩
 repeat' (conv => whnf); first | (refine VSeq.go ?_) | (refine VB.is ?_; refine VB.no (by omega) fun _ => ?_)
 all_goals (conv => whnf)
 have hn : 2 ≤ X.length := by omega
 refine VLoop.mk (α := Nat) (fun k => 1 ≤ k ∧ k ≤ X.length ∧ ddI (X.take k) = X.take k)
  (fun k => [(1000000, .tuple #[]), (0, .slice (some ⟨gq, 0, none⟩) X.length cq), (2, .slice none 0 0), (3, .int .i64 (k : Int))])
  (fun _ => .vec (some ⟨gq, 0, none⟩) X.length cq 3 1 (flat intV X) :: H) (fun k => X.length - k) 1 ⟨Nat.le_refl _, by omega, ddI_few (by rw [List.length_take]; omega)⟩ aE aH ?_
 rintro k ⟨hk1, hk, hdd⟩
 rcases Nat.lt_or_ge k X.length with hlt | hge
 ·obtain ⟨m, rfl⟩ : ∃ m, k = m + 1 := ⟨k - 1, by omega⟩
  obtain ⟨y, hy⟩ : ∃ y, X[m + 1]? = some y := ⟨X[m + 1], List.getElem?_eq_getElem _⟩
  obtain ⟨z, hz⟩ : ∃ z, X[m]? = some z := ⟨X[m], List.getElem?_eq_getElem _⟩
  have hst := ddI_take hz hy
  have hyv : sub (intV y) 0 1 = some [.int .i64 y] := rfl
  have hzv : sub (intV z) 0 1 = some [.int .i64 z] := rfl
  repeat' (conv => whnf); first | (refine VSeq.is ?_; refine VSeq.isN 8 rfl ?_; refine VSeq.learn (at_ := 8) (fun w hw => vec_facts (hw (.vec (some ⟨gq, 0, none⟩) X.length cq 3 1 (flat intV X)) (by simp))) (fun hfc => ?_)) | (refine VIx.is ?_; refine VIx.mk rfl (by omega) (by omega) ?_) | (refine VLd.is ?_; refine VLd.mk (Rd.cast (.vec aT (sub_flat0 (f := intV) (k := 1) (fun _ => rfl) hy hyv)) (by first | omega | (dsimp only; omega) | rfl)) ?_) | (refine VLd.is ?_; refine VLd.mk (Rd.cast (.vec aT (sub_flat0 (f := intV) (k := 1) (fun _ => rfl) hz hzv)) (by first | omega | (dsimp only; omega) | rfl)) ?_) | (refine VSl.is ?_; refine VSl.is ?_; refine VSl.mk (by omega) (by omega) (by have := hfc.1; omega) fun q2 hq2 hq3 => ?_; have hqe := hq2 (by have := hfc.1; omega); clear hq2 hq3; subst hqe) | (refine VSeq.go ?_) | (refine VB.is ?_; refine VB.yes (by omega) fun _ => ?_) | (refine VB.split (fun _ => ?_) (fun _ => ?_)) | (refine VAr.is ?_; refine oA ?_) | (refine VHs.mk _ (.refl _) ?_)
  all_goals (conv => whnf)
  rotate_left
  ·rename_i hne
   rw [if_neg (by omega)] at hst
   refine VNext.mk (m + 2) ⟨by omega, by omega, ?_⟩ (by omega) aE aH
   rw [hst, hdd]
   rw [List.take_add_one (l := X) (i := m + 1), hy]; rfl
  rename_i heq
  have hyz : y = z := by omega
  rw [if_pos hyz, List.append_nil, hdd] at hst
  have hXc := hfc.1
  have hml : (X.take (m + 1)).length = m + 1 := by rw [List.length_take]; omega
  clear hfc hdd hyz heq hyv hzv
  refine VLoop.mk (α := Nat × Nat × List Int) (fun s => (1 ≤ s.1 ∧ 1 ≤ s.2.1 ∧ s.1 < m + 1 + s.2.1 ∧ m + 1 + s.2.1 ≤ X.length ∧ s.1 = (ddI (X.take (m + 1 + s.2.1))).length) ∧ s.2.2.length = X.length ∧ s.2.2.take s.1 = ddI (X.take (m + 1 + s.2.1)) ∧ s.2.2.drop (m + s.2.1) = X.drop (m + s.2.1))
   (fun s => [(1000000, .tuple #[]), (0, .slice (some ⟨gq, 0, none⟩) X.length cq), (2, .slice none 0 0), (3, .int .i64 (s.1 : Int)), (4, .slice (some ⟨gq, 0 + (m + 1) * 1, none⟩) (X.length - (m + 1)) (cq - (m + 1))), (5, .int .i64 (s.2.1 : Int))])
   (fun s => .vec (some ⟨gq, 0, none⟩) X.length cq 3 1 (flat intV s.2.2) :: H) (fun s => X.length - s.2.1) (m + 1, 1, X) ⟨⟨by dsimp only; omega, by dsimp only; omega, by dsimp only; omega, by dsimp only; omega, ?_⟩, rfl, ?_, rfl⟩ ?_ aH ?_
  ·dsimp only; rw [hst, hml]
  ·dsimp only; rw [hst]
  ·exact aE
  clear hst hy hz hk1 hk hlt
  rintro ⟨k, j, Y⟩ ⟨⟨hk1, hj1, hkj, hj, hkl⟩, hYl, hYt, hYd⟩
  dsimp only at hk1 hj1 hkj hj hkl hYl hYt hYd ⊢
  rcases Nat.lt_or_ge (m + 1 + j) X.length with hlt | hge
  ·obtain ⟨y, hy⟩ : ∃ y, X[m + j + 1]? = some y := ⟨X[m + j + 1], List.getElem?_eq_getElem _⟩
   obtain ⟨z, hz⟩ : ∃ z, X[m + j]? = some z := ⟨X[m + j], List.getElem?_eq_getElem _⟩
   have hst := ddI_take hz hy
   rw [show m + j + 2 = m + 1 + (j + 1) by omega, show m + j + 1 = m + 1 + j by omega] at hst
   have hYz : Y[m + j]? = some z := by
    have h1 := congrArg (fun L => L[0]?) hYd
    simp only [List.getElem?_drop, Nat.add_zero] at h1
    rw [h1, hz]
   have hYy : Y[m + j + 1]? = some y := by
    have h1 := congrArg (fun L => L[1]?) hYd
    simp only [List.getElem?_drop] at h1
    rw [h1, hy]
   obtain ⟨u, hu⟩ : ∃ u, Y[k]? = some u := ⟨Y[k]'(by omega), List.getElem?_eq_getElem _⟩
   have hyv : sub (intV y) 0 1 = some [.int .i64 y] := rfl
   have hzv : sub (intV z) 0 1 = some [.int .i64 z] := rfl
   have hups : upd (flat intV Y) (k * 1) [.int .i64 y] = some (flat intV (Y.set k y)) := upd_flat0 (f := intV) (k := 1) (y := y) (fun _ => rfl) hu rfl
   repeat' (conv => whnf); first | (refine VIx.is ?_; refine VIx.mk rfl (by omega) (by omega) ?_) | (refine VLd.is ?_; refine VLd.mk (Rd.cast (.vec aT (sub_flat0 (f := intV) (k := 1) (fun _ => rfl) hYy hyv)) (by first | omega | (dsimp only; omega) | rfl)) ?_) | (refine VLd.is ?_; refine VLd.mk (Rd.cast (.vec aT (sub_flat0 (f := intV) (k := 1) (fun _ => rfl) hYz hzv)) (by first | omega | (dsimp only; omega) | rfl)) ?_) | (refine VSt.is ?_; refine VSt.cast (off' := k * 1) (by first | omega | (dsimp only; omega) | rfl) (VSt.vec aT hups rfl ?_)) | (refine VSeq.go ?_) | (refine VB.is ?_; refine VB.yes (by omega) fun _ => ?_) | (refine VB.split (fun _ => ?_) (fun _ => ?_)) | (refine VAr.is ?_; refine oA ?_) | (refine VHs.mk _ (.refl _) ?_)
   all_goals (conv => whnf)
   ·rename_i hne
    rw [if_neg (by omega)] at hst
    refine VNext.mk (k + 1, j + 1, Y.set k y) ⟨⟨by dsimp only; omega, by dsimp only; omega, by dsimp only; omega, by dsimp only; omega, by dsimp only; rw [hst, List.length_append, List.length_singleton]; omega⟩, by dsimp only; rw [List.length_set]; exact hYl, ?_, ?_⟩ (by dsimp only; omega) aE aH
    ·dsimp only
     rw [hst, ← hYt]
     apply List.ext_getElem?
     intro t
     rw [List.getElem?_take, List.getElem?_set, List.getElem?_append, List.length_take, List.getElem?_take]
     have m1 : min k Y.length = k := by omega
     rw [m1]
     rcases Nat.lt_trichotomy t k with h | h | h
     ·rw [if_pos (by omega), if_neg (by omega), if_pos h, if_pos h]
     ·subst h
      rw [if_pos (by omega), if_pos rfl, if_pos (by omega), if_neg (by omega), Nat.sub_self]; rfl
     ·rw [if_neg (by omega), if_neg (by omega), List.getElem?_eq_none (by simp; omega)]
    ·dsimp only
     apply List.ext_getElem?
     intro t
     have h2 := congrArg (fun L => L[t + 1]?) hYd
     simp only [List.getElem?_drop] at h2
     rw [List.getElem?_drop, List.getElem?_drop, List.getElem?_set, if_neg (by omega), show m + (j + 1) + t = m + j + (t + 1) by omega]
     exact h2
   ·rename_i heq
    have hyz : y = z := by omega
    rw [if_pos hyz, List.append_nil] at hst
    refine VNext.mk (k, j + 1, Y) ⟨⟨by dsimp only; omega, by dsimp only; omega, by dsimp only; omega, by dsimp only; omega, by dsimp only; rw [hst]; exact hkl⟩, hYl, by dsimp only; rw [hst]; exact hYt, ?_⟩ (by dsimp only; omega) aE aH
    dsimp only
    apply List.ext_getElem?
    intro t
    have h2 := congrArg (fun L => L[t + 1]?) hYd
    simp only [List.getElem?_drop] at h2
    rw [List.getElem?_drop, List.getElem?_drop, show m + (j + 1) + t = m + j + (t + 1) by omega]
    exact h2
  ·have hjx : m + 1 + j = X.length := by omega
   rw [hjx, List.take_length] at hkl hYt
   have hut := upd_tail (f := intV) (k := 1) (fun _ => rfl) (l := Y) (i := k) (n := X.length - k) 0 (by omega)
   repeat' (conv => whnf); first | (refine VSl.is ?_; refine VSl.is ?_; refine VSl.cut0 (m := k) (cap := cq) (by omega) ?_) | (refine VSl.is ?_; refine VSl.is ?_; refine VSl.mk (by omega) (by omega) (by omega) fun q2 hq2 hq3 => ?_; have hqe := hq2 (by omega); clear hq2 hq3; subst hqe) | (refine VCl.is ?_; refine VCl.part (b := gq) (off := k * 1) (by simp [Addr.add]; omega) (by omega) ?_) | (refine VSt.is ?_; refine VSt.is ?_; refine VSt.vec aT hut (oneAll_zeroI _) ?_) | (refine VSeq.go ?_) | (refine VB.is ?_; refine VB.no (by omega) fun _ => ?_)
   all_goals (conv => whnf)
   have hlX : (Y.take k ++ List.replicate (X.length - k) (0 : Int)).length = X.length := by rw [List.length_append, List.length_take, List.length_replicate]; omega
   have htX : (Y.take k ++ List.replicate (X.length - k) (0 : Int)).take k = ddI X := by
    rw [← hYt, List.take_append_of_le_length (by rw [List.length_take]; omega), List.take_of_length_le (by rw [List.length_take]; omega)]
   rw [← hkl] at hK0
   refine ⟨_, ?_, hK0⟩
   rw [← htX]
   exact HLe.shr (l := Y.take k ++ List.replicate (X.length - k) (0 : Int)) aT (fun _ => rfl) hlX (by omega) (HLe.refl _)
 ·have hkl : k = X.length := by omega
  subst hkl
  rw [List.take_length] at hdd
  repeat' (conv => whnf); first | (refine VSeq.go ?_) | (refine VB.is ?_; refine VB.no (by omega) fun _ => ?_)
  all_goals (conv => whnf)
  rw [hdd] at hK0
  exact ⟨_, HLe.refl _, hK0⟩

end Go.Proofs
