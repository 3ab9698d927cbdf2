import Derived.Test.YtjjcoiicikaaiaaGreatPlaceWaysRuc
import Derived.Test.YtjjcoiicikaaiaaGreatPlaceWaysDm
set_option linter.unusedVariables false
set_option linter.unusedSimpArgs false
set_option maxHeartbeats 4000000

namespace Go.Gm

def coF (co : Nat → Nat → Option Nat) (k : Prt) : Option Nat := if k.c = 0 ∧ k.o < 4 then co k.r k.o else none

def coX (co : Nat → Nat → Option Nat) (r j : Nat) : Nat → Nat → Option Nat := fun a b => if a = r ∧ b < j then none else co a b

theorem coX_zero (co : Nat → Nat → Option Nat) (r : Nat) : coX co r 0 = co := by
 funext a b
 unfold coX
 rw [if_neg (by omega)]

theorem coX_next {co : Nat → Nat → Option Nat} {r j : Nat} (hj : j < 4) (z : Prt) : coF (coX co r (j + 1)) z = if z = ⟨r, j, 0⟩ then none else coF (coX co r j) z := by
 obtain ⟨a, b, c⟩ := z
 unfold coF coX
 dsimp only
 by_cases h : (⟨a, b, c⟩ : Prt) = ⟨r, j, 0⟩
 ·rw [if_pos h]
  cases h
  rw [if_pos ⟨rfl, hj⟩, if_pos ⟨rfl, by omega⟩]
 ·rw [if_neg h]
  by_cases hc : c = 0 ∧ b < 4
  ·rw [if_pos hc, if_pos hc]
   by_cases ha : a = r ∧ b < j + 1
   ·have : ¬ b = j := fun e => h (by rw [ha.1, e, hc.1])
    rw [if_pos ha, if_pos ⟨ha.1, by omega⟩]
   ·rw [if_neg ha, if_neg (by omega)]
  ·rw [if_neg hc, if_neg hc]

theorem coX_all (co : Nat → Nat → Option Nat) (r : Nat) (z : Prt) : coF (fun a b => if a = r then none else co a b) z = coF (coX co r 4) z := by
 obtain ⟨a, b, c⟩ := z
 unfold coF coX
 dsimp only
 by_cases hc : c = 0 ∧ b < 4
 ·rw [if_pos hc, if_pos hc]
  by_cases ha : a = r
  ·rw [if_pos ha, if_pos ⟨ha, hc.2⟩]
  ·rw [if_neg ha, if_neg fun h => ha h.1]
 ·rw [if_neg hc, if_neg hc]

end Go.Gm

namespace Go.Proofs

open Go Go.Vx Go.Gm

def pkV (x : Pkt) : List Value := [.int .i64 0, .int .i64 (x.src : Int), .int .i64 x.key, .int .i64 0]

def comesL (co : Nat → Nat → Option Nat) (r j : Nat) : List Nat := (List.range j).filterMap fun o => co r o

theorem comesL_next (co : Nat → Nat → Option Nat) (r j : Nat) : comesL co r (j + 1) = comesL co r j ++ (co r j).toList := by
 unfold comesL
 rw [List.range_succ, List.filterMap_append]
 cases h : co r j <;> simp [h]

theorem comesL_le (co : Nat → Nat → Option Nat) (r j : Nat) : (comesL co r j).length ≤ j := by
 unfold comesL
 have := List.length_filterMap_le (fun o => co r o) (List.range j)
 rwa [List.length_range] at this

def sentsL (pk : List Pkt) (r j : Nat) : List Nat := (List.range j).filter fun p => decide ((pk[p]?.map (·.src)).getD 0 = r)

theorem sentsL_le (pk : List Pkt) (r j : Nat) : (sentsL pk r j).length ≤ j := by
 unfold sentsL
 have := List.length_filter_le (fun p => decide ((pk[p]?.map (·.src)).getD 0 = r)) (List.range j)
 rwa [List.length_range] at this

theorem sentsL_next {pk : List Pkt} {r j : Nat} {x : Pkt} (hx : pk[j]? = some x) : sentsL pk r (j + 1) = sentsL pk r j ++ if x.src = r then [j] else [] := by
 unfold sentsL
 rw [List.range_succ, List.filter_append]
 by_cases h : x.src = r <;> simp [hx, h]

theorem entering_iter {α : Type} {w0 : World} {H : HP} {K : Value → HP → Prop} (t1 t2 t3 t4 t7 t9 t10 t11 t12 : Value) (hone : oneAll [t1, t2, t3, t4, t7, t9, t10, t11, t12] = true) (pk : List Pkt) (hpk : pk.length ≤ 1024) (pl : Option Addr) (cl bl ol : Nat) (hpl : Sl w0 pkV 4 pk pl pk.length bl ol)
  (wb sb cb gs cs : Nat) (sm : List (Int × Value)) (t r : Nat) (hr : r < 64) (ht : t ≤ 10000) (hs0 : t = 0 → 0 < pk.length → mfind sm 0 = some (.slice (some ⟨gs, 0, none⟩) pk.length cs)) (hs1 : t ≠ 0 ∨ pk.length = 0 → mfind sm (t : Int) = none)
  (co : Nat → Nat → Option Nat) (cm : List (Value × Value)) (hcm : MapF prtA prtW natV cm (coF co)) (l b3 b4 b5 : Nat) (I : List Nat → α → Prop) (G : α → HP) (x0 : α) (h0 : I [] x0)
  (hH : HLe (.row b5 3 [.int .i64 (r : Int)] :: .row b3 185 [.pointer (some ⟨wb, 0, none⟩)] :: .row b4 3 [.int .i64 (t : Int)] :: .row wb 190 [t1, t2, t3, t4, .slice pl pk.length cl, .map (some sb), t7, .map (some cb), t9, t10, t11, t12] :: .mapk cb cm :: .map sb sm :: .vec (some ⟨gs, 0, none⟩) pk.length cs 3 1 (flat nV (List.range pk.length)) :: G x0) H)
  (step : ∀ (F : HP) (A : List Nat) (p : Nat) (x : α), A.length < 1100 → I A x → VYield Tryz.cx.P w0 [] (F ++ G x) l [.int .i64 (p : Int)] fun v H' => v = .bool true ∧ ∃ y, I (A ++ [p]) y ∧ HLe (F ++ G y) H')
  (fin : ∀ x cm', MapF prtA prtW natV cm' (coF (fun a b => if a = r then none else co a b)) → I (comesL co r 4 ++ (if t = 0 then sentsL pk r pk.length else ([] : List Nat))) x → K (.tuple #[]) (.row b5 3 [.int .i64 (r : Int)] :: .row b3 185 [.pointer (some ⟨wb, 0, none⟩)] :: .row b4 3 [.int .i64 (t : Int)] :: .row wb 190 [t1, t2, t3, t4, .slice pl pk.length cl, .map (some sb), t7, .map (some cb), t9, t10, t11, t12] :: .mapk cb cm' :: .map sb sm :: .vec (some ⟨gs, 0, none⟩) pk.length cs 3 1 (flat nV (List.range pk.length)) :: G x)) :
  VCall Tryz.cx.P w0 [] H 137 [.func (.yield l) #[] #[], .pointer (some ⟨b5, 0, none⟩), .pointer (some ⟨b3, 0, none⟩), .pointer (some ⟨b4, 0, none⟩)] K := by
 refine VCall.le hH (VCall.leK ?_)
 refine VCall.inl (F := Tryz.fx137) Tryz.func137 rfl rfl rfl Tryz.ok137 ?_
 have hout : ∀ j : Nat, j < 4 → sub [.int .i64 1, .int .i64 2, .int .i64 4, .int .i64 8, .int .i64 16] (j * 1) 1 = some [.int .i64 (pow2 j)] := fun j hj => by
  rcases j with _ | _ | _ | _ | j
  ·rfl
  ·rfl
  ·rfl
  ·rfl
  ·omega
 repeat' (conv => whnf); first | (refine VCall.isF 100 ?_; refine VCall.inl (F := Tryz.fx100) Tryz.func100 rfl rfl rfl Tryz.ok100 ?_) | (refine VNew.mk fun go => ?_) | (refine VSl.is ?_; refine VSl.is ?_; refine VSl.mk (by omega) (by omega) (by omega) fun q hq1 hq2 => ?_; obtain rfl : q = some ⟨go, 0, none⟩ := (by rw [hq1 (by omega)]; rfl)) | (refine VSeq.go ?_)
 all_goals (conv => whnf)
 refine VLoop.mk (α := Nat × List (Value × Value) × α) (fun z => z.1 ≤ 4 ∧ MapF prtA prtW natV z.2.1 (coF (coX co r z.1)) ∧ I (comesL co r z.1) z.2.2) (fun z => [(1000000, .tuple #[]), (0, .func (.yield l) #[] #[]), (1, .pointer (some ⟨b5, 0, none⟩)), (2, .pointer (some ⟨b3, 0, none⟩)), (3, .pointer (some ⟨b4, 0, none⟩)), (13, .slice (some ⟨go, 0, none⟩) 4 5), (14, .int .i64 4), (15, .int .i64 (z.1 : Int))])
  (fun z => .vec (some ⟨go, 0, none⟩) 5 5 3 1 [.int .i64 1, .int .i64 2, .int .i64 4, .int .i64 8, .int .i64 16] :: .row b5 3 [.int .i64 (r : Int)] :: .row b3 185 [.pointer (some ⟨wb, 0, none⟩)] :: .row b4 3 [.int .i64 (t : Int)] :: .row wb 190 [t1, t2, t3, t4, .slice pl pk.length cl, .map (some sb), t7, .map (some cb), t9, t10, t11, t12] :: .mapk cb z.2.1 :: .map sb sm :: .vec (some ⟨gs, 0, none⟩) pk.length cs 3 1 (flat nV (List.range pk.length)) :: G z.2.2) (fun z => 4 - z.1) (0, cm, x0) ⟨Nat.zero_le _, by rw [coX_zero]; exact hcm, h0⟩ aE aH ?_
 rintro ⟨j, m, x⟩ ⟨hj, hm, hI⟩
 dsimp only at hj hm hI ⊢
 rcases Nat.lt_or_ge j 4 with hlt | hge
 ·have hpj := pow2_lt (o := j) (by omega)
  have hoj := hout j hlt
  have hkw : prtW ⟨r, j, 0⟩ := ⟨by dsimp only; omega, by dsimp only; omega, by dsimp only; omega⟩
  have hcj : coF (coX co r j) ⟨r, j, 0⟩ = co r j := by
   unfold coF coX
   dsimp only
   rw [if_pos ⟨rfl, hlt⟩, if_neg (by omega)]
  have hcn := comesL_next co r j
  have hcx := coX_next (co := co) (r := r) hlt
  have hdl := fun {H : HP} {u : Ent → HP} {r' : HP} {kk : HP → Prop} (hat : At H (.mapk cb m) u r') hkk => MapF.del (T := 196) (k := kk) keyPt hat hm ⟨r, j, 0⟩ hkw hkk
  unfold prtA at hdl
  dsimp only at hdl
  cases hc : co r j with
  | none =>
   rw [hc] at hcj hcn
   simp only [Option.toList_none, List.append_nil] at hcn
   have hlk := fun {H : HP} {u : Ent → HP} {r' : HP} {kk : Option Value → Prop} (hat : At H (.mapk cb m) u r') (hkk : kk none) => MapF.get (T := 196) (k := kk) keyPt hat hm ⟨r, j, 0⟩ hkw (fun _ => hkk) (fun y hy => absurd (hcj.symm.trans hy) (by simp))
   unfold prtA at hlk
   dsimp only at hlk
   repeat' (conv => whnf); first | (refine VNew.mk fun bp => ?_) | (refine VIx.is ?_; refine VIx.mk rfl (by omega) (by omega) ?_) | (refine VLd.is ?_; refine VLd.mk (Rd.cast (.vec aT (hoj)) (by first | omega | (dsimp only; omega) | rfl)) ?_) | (refine VLkK.is ?_; refine VLkK.is ?_; refine hlk aT ?_) | (refine VDlK.is ?_; refine VDlK.is ?_; refine hdl aT fun m2 hm2 => ?_) | (refine VSeq.go ?_) | (refine VB.is ?_; refine VB.yes (by omega) fun _ => ?_) | (refine VLd.is ?_; refine VLd.mk (.row aT (by rfl)) ?_) | (refine VSt.is ?_; refine VSt.row aT (by rfl) (by first | rfl | assumption) ?_) | (refine VAr.is ?_; refine oA ?_) | (refine VHs.mk _ (.refl _) ?_)
   all_goals (conv => whnf)
   exact VNext.mk (j + 1, m2, x) ⟨by dsimp only; omega, hm2.congr hcx, by dsimp only; rw [hcn]; exact hI⟩ (by dsimp only; omega) aE aH
  | some p =>
   rw [hc] at hcj hcn
   simp only [Option.toList_some] at hcn
   have hlk := fun {H : HP} {u : Ent → HP} {r' : HP} {kk : Option Value → Prop} (hat : At H (.mapk cb m) u r') (hkk : kk (some (.int .i64 (p : Int)))) => MapF.get (T := 196) (k := kk) keyPt hat hm ⟨r, j, 0⟩ hkw (fun h0 => absurd (h0.symm.trans hcj) (by simp)) (fun y hy => by rw [hcj] at hy; cases hy; exact hkk)
   unfold prtA at hlk
   dsimp only at hlk
   have hst := fun F => step F (comesL co r j) p x (by have := comesL_le co r j; omega) hI
   repeat' (conv => whnf); first | (refine VNew.mk fun bp => ?_) | (refine VIx.is ?_; refine VIx.mk rfl (by omega) (by omega) ?_) | (refine VLd.is ?_; refine VLd.mk (Rd.cast (.vec aT (hoj)) (by first | omega | (dsimp only; omega) | rfl)) ?_) | (refine VLkK.is ?_; refine VLkK.is ?_; refine hlk aT ?_) | (refine VDlK.is ?_; refine VDlK.is ?_; refine hdl aT fun m2 hm2 => ?_) | (refine VYield.is ?_; refine VYield.is ?_; refine VYield.hle (VYield.mono (VYield.weak ?_ (hst (.vec (some ⟨go, 0, none⟩) 5 5 3 1 [.int .i64 1, .int .i64 2, .int .i64 4, .int .i64 8, .int .i64 16] :: .row b5 3 [.int .i64 (r : Int)] :: .row b3 185 [.pointer (some ⟨wb, 0, none⟩)] :: .row b4 3 [.int .i64 (t : Int)] :: .row wb 190 [t1, t2, t3, t4, .slice pl pk.length cl, .map (some sb), t7, .map (some cb), t9, t10, t11, t12] :: .mapk cb m2 :: (.map sb sm :: .vec (some ⟨gs, 0, none⟩) pk.length cs 3 1 (flat nV (List.range pk.length)) :: [])))) fun v H' hr => ?_); (focus (exact aH)); obtain ⟨rfl, y, hy, hl⟩ := hr; refine ⟨_, hl, ?_⟩) | (refine VSeq.go ?_) | (refine VB.is ?_; refine VB.yes (by omega) fun _ => ?_) | (refine VLd.is ?_; refine VLd.mk (.row aT (by rfl)) ?_) | (refine VSt.is ?_; refine VSt.row aT (by rfl) (by first | rfl | assumption) ?_) | (refine VAr.is ?_; refine oA ?_) | (refine VHs.mk _ (.refl _) ?_)
   all_goals (conv => whnf)
   exact VNext.mk (j + 1, m2, y) ⟨by dsimp only; omega, hm2.congr hcx, by dsimp only; rw [hcn]; exact hy⟩ (by dsimp only; omega) aE aH
 have hj4 : j = 4 := by omega
 subst hj4
 have hm' : MapF prtA prtW natV m (coF (fun a b => if a = r then none else co a b)) := hm.congr (coX_all co r)
 by_cases hz : t = 0 ∧ 0 < pk.length
 ·have hsz := hs0 hz.1 hz.2
  obtain ⟨ht0, hpos⟩ := hz
  rw [if_pos ht0] at fin
  have hsz : mfind sm (t : Int) = some (.slice (some ⟨gs, 0, none⟩) pk.length cs) := by rw [ht0]; exact hsz
  have hs00 : sentsL pk r 0 = [] := rfl
  repeat' (conv => whnf); first | (refine VMp.is ?_; refine VMp.is ?_; refine VMp.mk aT ?_) | (refine VLk.is ?_; refine VLk.is ?_; refine VLk.has hsz ?_) | (refine VSeq.go ?_) | (refine VB.is ?_; refine VB.no (by omega) fun _ => ?_) | (refine VLd.is ?_; refine VLd.mk (.row aT (by rfl)) ?_) | (refine VHs.mk _ (.refl _) ?_)
  all_goals (conv => whnf)
  refine VLoop.mk (α := Nat × α) (fun z => z.1 ≤ pk.length ∧ I (comesL co r 4 ++ sentsL pk r z.1) z.2) (fun z => [(1000000, .tuple #[]), (0, .func (.yield l) #[] #[]), (1, .pointer (some ⟨b5, 0, none⟩)), (2, .pointer (some ⟨b3, 0, none⟩)), (49, .slice (some ⟨gs, 0, none⟩) pk.length cs), (50, .int .i64 (pk.length : Int)), (51, .int .i64 (z.1 : Int))])
   (fun z => .row b5 3 [.int .i64 (r : Int)] :: .row b3 185 [.pointer (some ⟨wb, 0, none⟩)] :: .row b4 3 [.int .i64 (t : Int)] :: .row wb 190 [t1, t2, t3, t4, .slice pl pk.length cl, .map (some sb), t7, .map (some cb), t9, t10, t11, t12] :: .mapk cb m :: .map sb sm :: .vec (some ⟨gs, 0, none⟩) pk.length cs 3 1 (flat nV (List.range pk.length)) :: G z.2) (fun z => pk.length - z.1) (0, x) ⟨Nat.zero_le _, by dsimp only; rw [hs00, List.append_nil]; exact hI⟩ aE aH ?_
  clear hI
  rintro ⟨i, x⟩ ⟨hi, hI⟩
  dsimp only at hi hI ⊢
  rcases Nat.lt_or_ge i pk.length with hil | hig
  ·obtain ⟨u, hu⟩ := hpl.get hil
   have hsn := sentsL_next (r := r) hu
   have hri : (List.range pk.length)[i]? = some i := List.getElem?_range hil
   have v1 : sub (pkV u) 1 1 = some [.int .i64 (u.src : Int)] := rfl
   by_cases hsr : u.src = r
   ·rw [if_pos hsr] at hsn
    have hst := fun F => step F (comesL co r 4 ++ sentsL pk r i) i x (by have := comesL_le co r 4; have := sentsL_le pk r i; rw [List.length_append]; omega) hI
    repeat' (conv => whnf); first | (refine VIx.is ?_; refine VIx.mk rfl (by omega) (by omega) ?_) | (refine VLd.is ?_; refine VLd.mk (Rd.cast (.vec aT (sub_flat0 (f := nV) (k := 1) (fun _ => rfl) hri rfl)) (by first | omega | (dsimp only; omega) | rfl)) ?_) | (refine VIx.is ?_; refine VIx.mk (hpl.ptr (by omega)) (by omega) (by omega) ?_) | (refine VLd.is ?_; refine VLd.mk (Rd.cast (hpl.rd (o := 1) (s := 1) (by simp) (fun _ => rfl) hu v1) (by first | omega | (dsimp only; omega) | rfl)) ?_) | (refine VYield.is ?_; refine VYield.is ?_; refine VYield.hle (VYield.mono (VYield.weak ?_ (hst (.row b5 3 [.int .i64 (r : Int)] :: .row b3 185 [.pointer (some ⟨wb, 0, none⟩)] :: .row b4 3 [.int .i64 (t : Int)] :: .row wb 190 [t1, t2, t3, t4, .slice pl pk.length cl, .map (some sb), t7, .map (some cb), t9, t10, t11, t12] :: .mapk cb m :: (.map sb sm :: .vec (some ⟨gs, 0, none⟩) pk.length cs 3 1 (flat nV (List.range pk.length)) :: [])))) fun v H' hr => ?_); (focus (exact aH)); obtain ⟨rfl, y, hy, hl⟩ := hr; refine ⟨_, hl, ?_⟩) | (refine VSeq.go ?_) | (refine VB.is ?_; refine VB.yes (by omega) fun _ => ?_) | (refine VLd.is ?_; refine VLd.mk (.row aT (by rfl)) ?_) | (refine VAr.is ?_; refine oA ?_) | (refine VHs.mk _ (.refl _) ?_)
    all_goals (conv => whnf)
    exact VNext.mk (i + 1, y) ⟨by dsimp only; omega, by dsimp only; rw [hsn, ← List.append_assoc]; exact hy⟩ (by dsimp only; omega) aE aH
   ·rw [if_neg hsr, List.append_nil] at hsn
    repeat' (conv => whnf); first | (refine VIx.is ?_; refine VIx.mk rfl (by omega) (by omega) ?_) | (refine VLd.is ?_; refine VLd.mk (Rd.cast (.vec aT (sub_flat0 (f := nV) (k := 1) (fun _ => rfl) hri rfl)) (by first | omega | (dsimp only; omega) | rfl)) ?_) | (refine VIx.is ?_; refine VIx.mk (hpl.ptr (by omega)) (by omega) (by omega) ?_) | (refine VLd.is ?_; refine VLd.mk (Rd.cast (hpl.rd (o := 1) (s := 1) (by simp) (fun _ => rfl) hu v1) (by first | omega | (dsimp only; omega) | rfl)) ?_) | (refine VSeq.go ?_) | (refine VB.is ?_; refine VB.yes (by omega) fun _ => ?_) | (refine VB.is ?_; refine VB.no (by omega) fun _ => ?_) | (refine VLd.is ?_; refine VLd.mk (.row aT (by rfl)) ?_) | (refine VAr.is ?_; refine oA ?_) | (refine VHs.mk _ (.refl _) ?_)
    all_goals (conv => whnf)
    exact VNext.mk (i + 1, x) ⟨by dsimp only; omega, by dsimp only; rw [hsn]; exact hI⟩ (by dsimp only; omega) aE aH
  have hie : i = pk.length := by omega
  subst hie
  repeat' (conv => whnf); first | (refine VSeq.go ?_) | (refine VB.is ?_; refine VB.no (by omega) fun _ => ?_)
  all_goals (conv => whnf)
  exact ⟨_, by exact aH, fin x m hm' hI⟩
 ·have hsz := hs1 (by omega)
  have hfin := fin x m hm' (by
   by_cases h0 : t = 0
   ·have : pk.length = 0 := by omega
    rw [if_pos h0, this]
    show I (comesL co r 4 ++ []) x
    rw [List.append_nil]; exact hI
   ·rw [if_neg h0, List.append_nil]; exact hI)
  repeat' (conv => whnf); first | (refine VMp.is ?_; refine VMp.is ?_; refine VMp.mk aT ?_) | (refine VLk.is ?_; refine VLk.is ?_; refine VLk.lacks hsz ?_) | (refine VSeq.go ?_) | (refine VB.is ?_; refine VB.no (by omega) fun _ => ?_) | (refine VLd.is ?_; refine VLd.mk (.row aT (by rfl)) ?_) | (refine VHs.mk _ (.refl _) ?_)
  all_goals (conv => whnf)
  refine VLoop.mk (α := Unit) (fun _ => True) (fun z => [(1000000, .tuple #[]), (0, .func (.yield l) #[] #[]), (1, .pointer (some ⟨b5, 0, none⟩)), (2, .pointer (some ⟨b3, 0, none⟩)), (49, .slice none 0 0), (50, .int .i64 0), (51, .int .i64 0)])
   (fun z => .row b5 3 [.int .i64 (r : Int)] :: .row b3 185 [.pointer (some ⟨wb, 0, none⟩)] :: .row b4 3 [.int .i64 (t : Int)] :: .row wb 190 [t1, t2, t3, t4, .slice pl pk.length cl, .map (some sb), t7, .map (some cb), t9, t10, t11, t12] :: .mapk cb m :: .map sb sm :: .vec (some ⟨gs, 0, none⟩) pk.length cs 3 1 (flat nV (List.range pk.length)) :: G x) (fun _ => 0) () trivial aE aH ?_
  rintro _ _
  repeat' (conv => whnf); first | (refine VSeq.go ?_) | (refine VB.is ?_; refine VB.no (by omega) fun _ => ?_)
  all_goals (conv => whnf)
  exact ⟨_, by exact aH, hfin⟩

end Go.Proofs
