import Derived.Test.YtjjcoiicikaaiaaGreatPlaceWaysRue
import Derived.Test.YtjjcoiicikaaiaaGreatPlaceWaysRud
set_option linter.unusedVariables false
set_option linter.unusedSimpArgs false
set_option maxHeartbeats 4000000
section

namespace Go.Gm

theorem enterT_inv {c : RCtx} (hc : RCtxOk c) {st : RunS} {ent : Nat → Nat → Prop} {snt : Nat → Nat → Nat → Prop} {dl : Nat → Nat → Nat} {rd : Nat → Prop} {t r : Nat} {l : List Nat} (hdl : ∀ o, dl r o = t)
  (h : RInv c st ent snt dl t (fun _ _ => True) rd (fun x y => y = r ∧ x ∈ l)) (hn : l.Nodup) : ∀ i, i ≤ l.length → ∃ ent', RInv c ((l.take i).foldl (enterP c.s c.tabs c.pk t r) st) ent' snt dl t (fun _ _ => True) rd fun x y => y = r ∧ x ∈ l.drop i
 | 0, _ => ⟨ent, h⟩
 | i + 1, hi => by
  obtain ⟨ent', ih⟩ := enterT_inv hc hdl h hn i (by omega)
  have hlt : i < l.length := by omega
  have hd : l.drop i = l[i] :: l.drop (i + 1) := List.drop_eq_getElem_cons hlt
  rw [hd] at ih
  have hnd : (l[i] :: l.drop (i + 1)).Nodup := by rw [← hd]; exact hn.sublist (List.drop_sublist _ _)
  obtain ⟨e2, h2⟩ := enterP_inv hc ih hnd hdl
  refine ⟨e2, ?_⟩
  rw [List.take_add_one, List.getElem?_eq_getElem hlt, Option.toList_some, List.foldl_append]
  exact h2

def inSt (c : RCtx) (k j : Nat) : RunS := (List.range j).foldl (inR c.s c.tabs c.pk k) (runM c.s c.tabs c.pk c.n k)

def inLs (c : RCtx) (k j : Nat) : List Nat := cominR (inSt c k j) j ++ if k = 0 then sentsR c.pk j else []

def inEn (c : RCtx) (k j i : Nat) : RunS := ((inLs c k j).take i).foldl (enterP c.s c.tabs c.pk k j) (clearR (inSt c k j) j)

def outSt (c : RCtx) (k j : Nat) : RunS := (List.range j).foldl (sendR c.s k) (inSt c k c.n)

def outO (c : RCtx) (k j o : Nat) : RunS := (List.range o).foldl (sendO c.s k j) (outSt c k j)

theorem inEn_zero (c : RCtx) (k j : Nat) : inEn c k j 0 = clearR (inSt c k j) j := rfl

theorem inEn_all (c : RCtx) (k j : Nat) : inEn c k j (inLs c k j).length = inSt c k (j + 1) := by
 unfold inEn
 rw [List.take_length]
 unfold inSt
 rw [List.range_succ, List.foldl_append]
 rfl

theorem outO_next (c : RCtx) (k j o : Nat) : outO c k j (o + 1) = sendO c.s k j (outO c k j o) o := by
 unfold outO
 rw [List.range_succ, List.foldl_append]
 rfl

theorem outO_all (c : RCtx) (k j : Nat) : outO c k j 5 = outSt c k (j + 1) := by
 unfold outSt
 rw [List.range_succ, List.foldl_append]
 rfl

theorem outSt_all (c : RCtx) (k : Nat) : outSt c k c.n = runM c.s c.tabs c.pk c.n (k + 1) := by
 unfold runM
 rw [List.range_succ, List.foldl_append]
 rfl

theorem inSt_inv {c : RCtx} (hc : RCtxOk c) (k j : Nat) (hj : j ≤ c.n) : ∃ ent snt, RInv c (inSt c k j) ent snt (fun _ _ => k) k (fun _ _ => True) (fun y => k ≠ 0 ∨ y < j) fun _ _ => False := by
 obtain ⟨ent, snt, h⟩ := run_inv hc k
 obtain ⟨e2, h2⟩ := ins_inv hc h j hj
 exact ⟨e2, snt, h2⟩

theorem inEn_inv {c : RCtx} (hc : RCtxOk c) (k j i : Nat) (hj : j < c.n) (hi : i ≤ (inLs c k j).length) : ∃ ent snt rd, RInv c (inEn c k j i) ent snt (fun _ _ => k) k (fun _ _ => True) rd fun x y => y = j ∧ x ∈ (inLs c k j).drop i := by
 obtain ⟨ent, snt, h⟩ := inSt_inv hc k j (by omega)
 obtain ⟨h1, h2⟩ := clear_inv hc hj h (by omega)
 obtain ⟨e2, h3⟩ := enterT_inv hc (fun _ => rfl) h1 h2 i hi
 exact ⟨e2, snt, _, h3⟩

structure EnterOk (c : RCtx) (st : RunS) (j p : Nat) : Prop where
 lt : p < c.pk.length
 outs : c.outs p j ≠ 0
 find : findE ((c.tabs[j]?).getD []) ((c.pk[p]?.map (·.key)).getD 0) = some (c.outs p j)
 good : ∀ o, o < 5 → c.has p j o → leadM c.s.wide c.s.high (j : Int) (pow2 o) ∧ ((st.q j o).length : Int) < c.s.room

theorem inEn_ok {c : RCtx} (hc : RCtxOk c) {k j i p : Nat} (hj : j < c.n) (hp : (inLs c k j)[i]? = some p) : EnterOk c (inEn c k j i) j p ∧ inEn c k j (i + 1) = (List.range 5).foldl (enterO c.s k j p (c.outs p j)) (inEn c k j i) ∧ EnO c (inEn c k j i) (inEn c k j (i + 1)) j p 5 := by
 have hlt := (List.getElem?_eq_some_iff.1 hp).1
 obtain ⟨ent, snt, rd, h⟩ := inEn_inv hc k j i hj (by omega)
 have hd : (inLs c k j).drop i = p :: (inLs c k j).drop (i + 1) := by
  rw [List.drop_eq_getElem_cons hlt]
  congr 1
  rw [List.getElem?_eq_getElem hlt] at hp
  exact Option.some.inj hp
 obtain ⟨h1, h2, h3, h4, h5, h6, h7⟩ := h.pe p j ⟨rfl, by rw [hd]; exact List.mem_cons_self⟩
 have hf := hc.find p j h1 h2 h3
 have hno : ∀ o, p ∉ (inEn c k j i).q j o := fun o hm => h4 (h.q j o p hm).2.2.2.2.1
 have hstep : inEn c k j (i + 1) = (List.range 5).foldl (enterO c.s k j p (c.outs p j)) (inEn c k j i) := by
  unfold inEn
  rw [List.take_add_one, hp, Option.toList_some, List.foldl_append]
  show enterP c.s c.tabs c.pk k j _ p = _
  unfold enterP
  rw [hf]
 refine ⟨⟨h1, h3, hf, fun o ho hh => ?_⟩, hstep, ?_⟩
 ·have hfew := queue_few hc (l := (inEn c k j i).q j o) ho (fun y hy => ⟨(h.q j o y hy).1, (h.q j o y hy).2.2.2.1⟩) (h.qn j o) h1 hh (hno o)
  have hroom := hc.room
  refine ⟨?_, by omega⟩
  by_cases h4 : o < 4
  ·exact (hc.edge p j o h1 hj h4 hh).1
  ·have : o = 4 := by omega
   subst this
   unfold leadM pow2
   simp
 ·rw [hstep]
  exact enterO_all hc (t := k) h1 hj (fun o x hx => ⟨(h.q j o x hx).1, (h.q j o x hx).2.2.2.1⟩) (fun o => h.qn j o) hno 5 (Nat.le_refl _)

theorem inLs_le {c : RCtx} (hc : RCtxOk c) (k j : Nat) : (inLs c k j).length ≤ 4 + c.pk.length := by
 unfold inLs
 rw [List.length_append]
 have h1 := List.length_filterMap_le (fun o => (inSt c k j).co j o) (List.range 4)
 rw [List.length_range] at h1
 have h2 := List.length_filter_le (fun p => decide ((c.pk[p]?.map (·.src)).getD 0 = j)) (List.range c.pk.length)
 rw [List.length_range] at h2
 unfold cominR sentsR
 split
 ·omega
 ·have : ([] : List Nat).length = 0 := rfl
  omega

theorem outSt_inv {c : RCtx} (hc : RCtxOk c) (k j : Nat) (hj : j ≤ c.n) : ∃ ent snt rd, RInv c (outSt c k j) ent snt (dlO k j 0) (k + 1) (bef j 0) rd fun _ _ => False := by
 obtain ⟨ent, snt, h1⟩ := inSt_inv hc k c.n (Nat.le_refl _)
 have hno : ∀ a b p, (inSt c k c.n).co a b = some p → False := by
  intro a b p hp
  obtain ⟨a1, a2, _⟩ := h1.co a b p hp
  unfold inSt at hp
  rw [ins_co, if_pos a2] at hp
  cases hp
 have h2 : RInv c (inSt c k c.n) ent snt (dlO k 0 0) (k + 1) (bef 0 0) (fun _ => k + 1 ≠ 0) fun _ _ => False := by
  refine ⟨h1.q, h1.qn, ?_, fun a b p hp => (hno a b p hp).elim, h1.all, h1.on, h1.sn, h1.en, h1.pa, fun x y hx => hx.elim, ?_, h1.ar, h1.an, h1.aa, h1.dr⟩
  ·intro a b i p hp
   have : dlO k 0 0 a b = k := by unfold dlO; rw [if_neg (by unfold bef; omega)]
   rw [this]; exact h1.qd a b i p hp
  ·intro p hp
   refine ⟨fun _ => (h1.rt p hp).1 (.inr (hc.root p hp).1), fun h3 => absurd (by omega : k + 1 ≠ 0) h3⟩
 obtain ⟨s2, h3⟩ := sends_inv hc h2 j hj
 exact ⟨ent, s2, _, h3⟩

theorem outO_inv {c : RCtx} (hc : RCtxOk c) (k j o : Nat) (hj : j < c.n) (ho : o ≤ 5) : ∃ ent snt rd, RInv c (outO c k j o) ent snt (dlO k j o) (k + 1) (bef j o) rd fun _ _ => False := by
 obtain ⟨ent, snt, rd, h⟩ := outSt_inv hc k j (by omega)
 obtain ⟨s2, h2⟩ := sendOs_inv hc hj h o ho
 exact ⟨ent, s2, rd, h2⟩

theorem RInv.arr_few {c : RCtx} {st ent snt dl cdl proc rd pend} (h : RInv c st ent snt dl cdl proc rd pend) : st.arr.length ≤ c.pk.length * c.n := by
 have h1 : (st.arr.map fun x => (x.1, x.2.1)).length ≤ ((List.range c.pk.length).flatMap fun p => (List.range c.n).map fun r => (p, r)).length := by
  refine Go.Vx.nodup_len h.an fun x hx => ?_
  obtain ⟨⟨a, b, t⟩, hm, rfl⟩ := List.mem_map.1 hx
  have h2 := h.en a b (h.sn a b 4 (h.ar a b t hm).1).1
  rw [List.mem_flatMap]
  exact ⟨a, List.mem_range.2 h2.1, List.mem_map.2 ⟨b, List.mem_range.2 h2.2.1, rfl⟩⟩
 rw [List.length_map] at h1
 have h2 : ((List.range c.pk.length).flatMap fun p => (List.range c.n).map fun r => (p, r)).length = c.pk.length * c.n := by
  have : ∀ m : Nat, ((List.range m).flatMap fun p => (List.range c.n).map fun r => (p, r)).length = m * c.n := by
   intro m
   induction m with
   | zero => simp
   | succ m ih => rw [List.range_succ, List.flatMap_append, List.length_append, ih, List.flatMap_singleton, List.length_map, List.length_range, Nat.succ_mul]
  exact this _
 omega

theorem outO_ok {c : RCtx} (hc : RCtxOk c) {k j o : Nat} (hj : j < c.n) (ho : o < 5) : (o < 4 → (outO c k j o).q j o ≠ [] → leadM c.s.wide c.s.high (j : Int) (pow2 o)) ∧ (outO c k j o).arr.length ≤ c.pk.length * c.n := by
 obtain ⟨ent, snt, rd, h⟩ := outO_inv hc k j o hj (by omega)
 refine ⟨fun h4 hne => ?_, h.arr_few⟩
 obtain ⟨p, hp⟩ := List.exists_mem_of_ne_nil _ hne
 obtain ⟨h1, h2, h3, h5, _⟩ := h.q j o p hp
 exact (hc.edge p j o h1 h2 h4 h5).1

end Go.Gm
end

section

namespace Go.Proofs

open Go Go.Vx Go.Gm

def inL (co : Nat → Nat → Option Nat) (pk : List Pkt) (t r : Nat) : List Nat := comesL co r 4 ++ (if t = 0 then sentsL pk r pk.length else ([] : List Nat))

theorem collect_vc {w0 : World} {H R : HP} {K : Value → HP → Prop} (t1 t2 t3 t4 t7 t9 t10 t11 t12 : Value) (hone : oneAll [t1, t2, t3, t4, t7, t9, t10, t11, t12] = true) (pk : List Pkt) (hpk : pk.length ≤ 1024) (pl : Option Addr) (cl bl ol : Nat) (hpl : Sl w0 pkV 4 pk pl pk.length bl ol)
  (wb sb cb gs cs : Nat) (sm : List (Int × Value)) (t r : Nat) (hr : r < 64) (ht : t ≤ 10000) (hs0 : t = 0 → 0 < pk.length → mfind sm 0 = some (.slice (some ⟨gs, 0, none⟩) pk.length cs)) (hs1 : t ≠ 0 ∨ pk.length = 0 → mfind sm (t : Int) = none)
  (co : Nat → Nat → Option Nat) (cm : List (Value × Value)) (hcm : MapF prtA prtW natV cm (coF co)) (b3 b4 b5 : Nat)
  (hT : Take H (.row b5 3 [.int .i64 (r : Int)] :: .row b3 185 [.pointer (some ⟨wb, 0, none⟩)] :: .row b4 3 [.int .i64 (t : Int)] :: .row wb 190 [t1, t2, t3, t4, .slice pl pk.length cl, .map (some sb), t7, .map (some cb), t9, t10, t11, t12] :: .mapk cb cm :: .map sb sm :: [.vec (some ⟨gs, 0, none⟩) pk.length cs 3 1 (flat nV (List.range pk.length))]) R)
  (hK : ∀ p c cm', MapF prtA prtW natV cm' (coF (fun a b => if a = r then none else co a b)) → (0 < (inL co pk t r).length → ∃ g, p = some ⟨g, 0, none⟩) → K (.slice p (inL co pk t r).length c) (.vec p (inL co pk t r).length c 3 1 (flat nV (inL co pk t r)) :: (.row b5 3 [.int .i64 (r : Int)] :: .row b3 185 [.pointer (some ⟨wb, 0, none⟩)] :: .row b4 3 [.int .i64 (t : Int)] :: .row wb 190 [t1, t2, t3, t4, .slice pl pk.length cl, .map (some sb), t7, .map (some cb), t9, t10, t11, t12] :: .mapk cb cm' :: .map sb sm :: .vec (some ⟨gs, 0, none⟩) pk.length cs 3 1 (flat nV (List.range pk.length)) :: R))) :
  VCall Tryz.cx.P w0 [] H 97 [.func (.func 137) #[] #[.pointer (some ⟨b5, 0, none⟩), .pointer (some ⟨b3, 0, none⟩), .pointer (some ⟨b4, 0, none⟩)]] K := by
 refine VCall.takeQ hT (VCall.leK ?_)
 refine VCall.inl (F := Tryz.fx97) Tryz.func97 rfl rfl rfl Tryz.ok97 ?_
 repeat' (conv => whnf); first | (refine VCall.isF 136 ?_; refine VCall.inl (F := Tryz.fx136) Tryz.func136 rfl rfl rfl Tryz.ok136 ?_) | (refine VNew.mk fun b2 => ?_) | (refine VRange.go (ms := []) rfl fun hokx hoky l d L hL => ?_) | (refine VSeq.go ?_)
 all_goals (conv => whnf)
 refine entering_iter t1 t2 t3 t4 t7 t9 t10 t11 t12 hone pk hpk pl cl bl ol hpl wb sb cb gs cs sm t r hr ht hs0 hs1 co cm hcm l b3 b4 b5 (α := List Nat × Option Addr × Nat) (fun A x => x.1 = A ∧ (0 < A.length → ∃ g, x.2.1 = some ⟨g, 0, none⟩))
  (fun x => L .ready none :: .obj d (.deferred (some [])) :: .row b2 24 [.slice x.2.1 x.1.length x.2.2] :: .vec x.2.1 x.1.length x.2.2 3 1 (flat nV x.1) :: R) ([], none, 0) ⟨rfl, fun h => absurd h (by simp)⟩ ?_ ?_ ?_
 ·dsimp only
  refine HLe.trans ?_ (HLe.nilv (e := 3) (size := 1) (.refl _))
  exact aH
 ·rintro F A p ⟨A', q, c⟩ hA ⟨rfl, hq⟩
  dsimp only at hA hq ⊢
  refine VYield.go hL hokx hoky aT rfl ?_
  repeat' (conv => whnf); first | (refine VBegin.is ?_; refine VBegin.mk aT ?_) | (refine VNew.mk fun bn => ?_) | (refine VAp.is ?_; refine VAp.own aT (.at_ (.vec aT rfl)) (by simp [Value.oneCell']) (by (try dsimp only); omega) (by simp only [maxLen]; omega) fun p' c' hp' => ?_) | (refine VLd.is ?_; refine VLd.mk (.row aT (by rfl)) ?_) | (refine VSt.is ?_; refine VSt.row aT (by rfl) (by first | rfl | assumption) ?_)
  all_goals (conv => whnf)
  refine VRound.mk aT ?_
  refine ⟨rfl, (A' ++ [p], p', c'), ⟨rfl, fun _ => hp' (by omega)⟩, ?_⟩
  dsimp only
  rw [flat_append, List.length_append]
  exact aH
 ·rintro ⟨A, q, c⟩ cm' hcm' ⟨rfl, hq⟩
  dsimp only at hq ⊢
  repeat' (conv => whnf); first | (refine VEnd.is ?_; refine VEnd.mk aT (by simp) ?_) | (refine VUn.is ?_; refine VUn.mk aT ?_) | (refine VSeq.go ?_) | (refine VLd.is ?_; refine VLd.mk (.row aT (by rfl)) ?_)
  all_goals (conv => whnf)
  exact ⟨_, by exact aH, hK q c cm' hcm' hq⟩

end Go.Proofs
end
