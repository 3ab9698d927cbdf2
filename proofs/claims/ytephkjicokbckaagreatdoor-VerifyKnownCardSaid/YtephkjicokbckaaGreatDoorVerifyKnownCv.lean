import Derived.Test.YtephkjicokbckaaGreatDoorVerifyKnownCl
import Derived.Test.YtephkjicokbckaaGreatDoorVerifyKnownWg
set_option linter.unusedVariables false

set_option linter.unusedSimpArgs false

namespace Go.Gm

def vAt (row : List Int) (i : Int) : Int := row[i.toNat]?.getD 0

def cntRow (v : Int) (row : List Int) (ns : List Int) : Nat := ns.countP fun i => decide (vAt row i = v)

def cntRows (v : Int) (V : List (List Int)) (ns : List Int) : Nat := (V.map fun row => cntRow v row ns).sum

def certCount (c : Clm) (V : List (List Int)) : Int :=
  if c.lo ≤ (cntRows 2 V c.ns : Int) ∧ (cntRows 2 V c.ns : Int) + cntRows 1 V c.ns ≤ c.hi then 1
  else if (cntRows 2 V c.ns : Int) + cntRows 1 V c.ns < c.lo ∨ c.hi < (cntRows 2 V c.ns : Int) then -1 else 0

def allZ (row : List Int) (l : List Int) : Bool := l.all fun i => decide (vAt row i = 0)

def leadRows (one : Int) (others : List Int) : List (List Int) → Bool → Bool → Int
  | [], _, quiet => if quiet = true then -1 else 0
  | row :: r, alone, quiet =>
    if quiet = true ∧ ∃ i ∈ others, vAt row i = 2 then -1
    else if vAt row one = 2 then (if alone = true ∧ allZ row others = true then 1 else 0)
    else leadRows one others r (alone && allZ row others) (quiet && decide (vAt row one = 0))

def certLead (c : Clm) (V : List (List Int)) : Int :=
  match c.ns with
  | [] => 0
  | one :: others => leadRows one others V true true

def certV (c : Clm) (V : List (List Int)) : Int :=
  if c.kind = 1 then certLead c ((V.drop c.frm.toNat).take (c.to.toNat - c.frm.toNat)) else certCount c ((V.drop c.frm.toNat).take (c.to.toNat - c.frm.toNat))

theorem cntRow_take {v : Int} {row ns : List Int} {k : Nat} {i : Int} (h : ns[k]? = some i) : cntRow v row (ns.take (k + 1)) = cntRow v row (ns.take k) + if vAt row i = v then 1 else 0 := by
  unfold cntRow
  rw [List.take_add_one, h, Option.toList_some, List.countP_append]
  simp [List.countP_cons]

theorem cntRows_take {v : Int} {V : List (List Int)} {ns : List Int} {t : Nat} {row : List Int} (h : V[t]? = some row) : cntRows v (V.take (t + 1)) ns = cntRows v (V.take t) ns + cntRow v row ns := by
  unfold cntRows
  rw [List.take_add_one, h, Option.toList_some, List.map_append, List.sum_append]
  simp

theorem cntRow_le (v : Int) (row ns : List Int) : cntRow v row ns ≤ ns.length := List.countP_le_length

theorem cntRows_le (v : Int) (V : List (List Int)) (ns : List Int) : cntRows v V ns ≤ V.length * ns.length := by
  unfold cntRows
  induction V with
  | nil => simp
  | cons row V ih =>
    have := cntRow_le v row ns
    simp only [List.map_cons, List.sum_cons, List.length_cons, Nat.add_mul]
    omega

end Go.Gm

namespace Go.Proofs

open Go Go.Vx Go.Gm

structure RowsAt (w : World) (D : List DRow) (q : Option Addr) (b o : Nat) (n : Nat) : Prop where
  out : Sl w drV 1 D q D.length b o
  row : ∀ d ∈ D, Sl w intV 1 d.l (some ⟨d.g, 0, none⟩) d.l.length d.g 0
  len : ∀ d ∈ D, d.l.length = n

theorem RowsAt.keep {w w' : World} {H : HP} {D : List DRow} {q : Option Addr} {b o n : Nat} (h : RowsAt w D q b o n) (hs : St w [] H w') : RowsAt w' D q b o n :=
  ⟨h.out.keep hs (by simp), fun d hd => (h.row d hd).keep hs (by simp), h.len⟩

theorem _root_.Go.Vx.Sl.cut {α : Type} {f : α → List Value} {k : Nat} {w : World} {l : List α} {p q : Option Addr} {n b o F T cap : Nat} (h : Sl w f k l p n b o) (hk : ∀ x, (f x).length = k) (hFT : F ≤ T) (hT : T ≤ n) (hc : n ≤ cap)
    (hq : (F : Int) < (cap : Int) → q = p.map fun a => a.add (F * k)) : Sl w f k ((l.drop F).take (T - F)) q (T - F) b (o + F * k) := by
  have hl := h.len
  refine ⟨?_, by simp; omega, ?_⟩
  · by_cases h0 : F < T
    · have hp := h.ptr (by omega)
      rw [hq (by omega), hp]
      exact .inl (by simp [Addr.add])
    · refine .inr ⟨by omega, ?_⟩
      cases q with
      | none => exact .inl rfl
      | some a => exact .inr ⟨a, rfl⟩
  · intro j v hj
    have e : flat f l = flat f (l.take F) ++ (flat f ((l.drop F).take (T - F)) ++ flat f ((l.drop F).drop (T - F))) := by
      rw [← flat_append, ← flat_append, List.take_append_drop, List.take_append_drop]
    have e1 : (flat f (l.take F)).length = F * k := by rw [flat_length hk, List.length_take, Nat.min_eq_left (by omega)]
    have hlt := (List.getElem?_eq_some_iff.1 hj).1
    have h1 := h.cells (F * k + j) v (by
      rw [e, List.getElem?_append_right (by omega), e1, Nat.add_sub_cancel_left, List.getElem?_append_left hlt]
      exact hj)
    rwa [← Nat.add_assoc] at h1

theorem surelyCounts_any (c : Clm) (hc : c.wf) (hns : c.ns.length ≤ 100000) (pc : Option Addr) (cc b o : Nat) (D : List DRow) (q : Option Addr) (cq bq oq n : Nat) (hcq : D.length ≤ cq) (hr : 0 ≤ c.frm ∧ c.frm ≤ c.to ∧ c.to ≤ (D.length : Int)) (hDl : D.length ≤ 10000)
    (hin : ∀ i ∈ c.ns, 0 ≤ i ∧ i ≤ (n : Int) - 1) (w : World) (h1 : Sl w intV 1 c.ns pc c.ns.length b o) (h2 : RowsAt w D q bq oq n) :
    Calls Tryz.prog 149 #[clmA c pc cc, .slice q D.length cq] w fun e w' => e = .returned (.int .i64 (certCount c (((D.map (·.l)).drop c.frm.toNat).take (c.to.toNat - c.frm.toNat)))) ∧ St w [] [] w' := by
  obtain ⟨w1, w2, w3, w4, w5, w6⟩ := hc
  unfold I64 at w1 w3 w4 w5 w6
  refine enter (C := Tryz.cx) (F := Tryz.fx149) (args := [_, _]) Tryz.func149 rfl rfl rfl Tryz.ok149 (St.start w []) ?_
  obtain ⟨F, hF⟩ : ∃ F : Nat, c.frm = F := ⟨c.frm.toNat, by omega⟩
  obtain ⟨T, hT⟩ : ∃ T : Nat, c.to = T := ⟨c.to.toNat, by omega⟩
  have hFT : F ≤ T := by omega
  have hTD : T ≤ D.length := by omega
  rw [hF, hT, Int.toNat_natCast, Int.toNat_natCast]
  have hA : clmA c pc cc = .agg #[.int .i64 c.kind, .slice pc c.ns.length cc, .int .i64 (F : Int), .int .i64 (T : Int), .int .i64 c.lo, .int .i64 c.hi] := by unfold clmA; rw [hF, hT]
  rw [hA]
  obtain ⟨V, hV⟩ : ∃ V, ((D.map (·.l)).drop F).take (T - F) = V := ⟨_, rfl⟩
  have hVl : V.length = T - F := by rw [← hV]; simp; omega
  rw [hV]
  repeat' (conv => whnf); first | (refine VNew.mk fun b2 => ?_) | (refine VSl.is ?_; refine VSl.is ?_; refine VSl.mk (by omega) (by omega) (by omega) fun q2 hq2 hq3 => ?_) | (refine VSeq.go ?_) | (refine VLd.is ?_; refine VLd.mk (.row aT (by rfl)) ?_)
  all_goals (conv => whnf)
  have hq2' : (F : Int) < (cq : Int) → q2 = q.map fun a => a.add (F * 1) := fun h => hq2 h
  have hsub := h2.out.cut (fun _ => rfl) hFT hTD hcq hq2'
  obtain ⟨DD, hDD⟩ : ∃ DD, (D.drop F).take (T - F) = DD := ⟨_, rfl⟩
  have hDV : DD.map (·.l) = V := by rw [← hV, ← hDD, List.map_take, List.map_drop]
  have hDDl : DD.length = T - F := by rw [← hVl, ← hDV, List.length_map]
  have hDDm : ∀ d ∈ DD, d ∈ D := fun d hd => by rw [← hDD] at hd; exact List.mem_of_mem_drop (List.mem_of_mem_take hd)
  rw [hDD, ← hDDl] at hsub
  have hm : (T : Int).toNat - (F : Int).toNat = DD.length := by omega
  rw [hm]
  have hcb : ∀ v t, cntRows v (V.take t) c.ns ≤ 1000000000 := by
    intro v t
    have h1 := cntRows_le v (V.take t) c.ns
    have h2 : (V.take t).length ≤ 10000 := by rw [List.length_take]; omega
    exact Nat.le_trans h1 (Nat.mul_le_mul h2 hns)
  refine VLoop.mk (α := Nat) (fun t => t ≤ DD.length) (fun t => [(1000000, .tuple #[]), (2, .pointer (some ⟨b2, 0, none⟩)), (4, .int .i64 0), (5, .int .i64 ((cntRows 2 (V.take t) c.ns : Nat) : Int)), (6, .int .i64 ((cntRows 1 (V.take t) c.ns : Nat) : Int)), (16, .slice q2 DD.length ((cq : Int).toNat - (F : Int).toNat)), (17, .int .i64 (DD.length : Int)), (18, .int .i64 (t : Int))])
    (fun _ => [.row b2 50 [.int .i64 c.kind, .slice pc c.ns.length cc, .int .i64 (F : Int), .int .i64 (T : Int), .int .i64 c.lo, .int .i64 c.hi]]) (fun t => DD.length - t) 0 (by omega) aE aH ?_
  intro t ht
  rcases Nat.lt_or_ge t DD.length with hlt | hge
  · obtain ⟨d, hd⟩ := hsub.get hlt
    have hdm := hDDm d (List.mem_of_getElem? hd)
    have hdr := h2.row d hdm
    have hdl := h2.len d hdm
    have hVt : V[t]? = some d.l := by rw [← hDV, List.getElem?_map, hd]; rfl
    repeat' (conv => whnf); first | (refine VIx.is ?_; refine VIx.mk (hsub.ptr (by omega)) (by omega) (by omega) ?_) | (refine VLd.is ?_; refine VLd.mk (Rd.cast (hsub.rd0 (by simp) (fun _ => rfl) hd rfl) (by first | omega | (dsimp only; omega) | rfl)) ?_) | (refine VSeq.go ?_) | (refine VB.is ?_; refine VB.yes (by omega) fun _ => ?_) | (refine VLd.is ?_; refine VLd.mk (.row aT (by rfl)) ?_)
    all_goals (conv => whnf)
    have hA2 := hcb 2 t
    have hA1 := hcb 1 t
    obtain ⟨A2, hA2e⟩ : ∃ A, cntRows 2 (V.take t) c.ns = A := ⟨_, rfl⟩
    obtain ⟨A1, hA1e⟩ : ∃ A, cntRows 1 (V.take t) c.ns = A := ⟨_, rfl⟩
    rw [hA2e] at hA2 ⊢
    rw [hA1e] at hA1 ⊢
    refine VLoop.mk (α := Nat) (fun k => k ≤ c.ns.length) (fun k => [(1000000, .tuple #[]), (2, .pointer (some ⟨b2, 0, none⟩)), (4, .int .i64 0), (5, .int .i64 ((A2 + cntRow 2 d.l (c.ns.take k) : Nat) : Int)), (6, .int .i64 ((A1 + cntRow 1 d.l (c.ns.take k) : Nat) : Int)), (8, .slice (some ⟨d.g, 0, none⟩) d.l.length d.cap), (16, .slice q2 DD.length ((cq : Int).toNat - (F : Int).toNat)), (17, .int .i64 (DD.length : Int)), (18, .int .i64 (t : Int)), (23, .slice pc c.ns.length cc), (24, .int .i64 (c.ns.length : Int)), (25, .int .i64 (k : Int))])
      (fun _ => [.row b2 50 [.int .i64 c.kind, .slice pc c.ns.length cc, .int .i64 (F : Int), .int .i64 (T : Int), .int .i64 c.lo, .int .i64 c.hi]]) (fun k => c.ns.length - k) 0 (by omega) aE aH ?_
    intro k hk
    rcases Nat.lt_or_ge k c.ns.length with hltk | hgek
    · obtain ⟨i, hi⟩ := h1.get hltk
      have hib := hin i (List.mem_of_getElem? hi)
      obtain ⟨v, hv⟩ := hdr.get (i := i.toNat) (by omega)
      have hva : vAt d.l i = v := by unfold vAt; rw [hv]; rfl
      have e2 := cntRow_take (v := 2) (row := d.l) hi
      have e1 := cntRow_take (v := 1) (row := d.l) hi
      rw [hva] at e2 e1
      have b2 := Nat.le_trans (cntRow_le 2 d.l (c.ns.take k)) (by rw [List.length_take]; omega : (c.ns.take k).length ≤ 100000)
      have b1 := Nat.le_trans (cntRow_le 1 d.l (c.ns.take k)) (by rw [List.length_take]; omega : (c.ns.take k).length ≤ 100000)
      obtain ⟨P2, hP2⟩ : ∃ P, cntRow 2 d.l (c.ns.take k) = P := ⟨_, rfl⟩
      obtain ⟨P1, hP1⟩ : ∃ P, cntRow 1 d.l (c.ns.take k) = P := ⟨_, rfl⟩
      rw [hP2] at e2 b2 ⊢
      rw [hP1] at e1 b1 ⊢
      repeat' (conv => whnf); first | (refine VIx.is ?_; refine VIx.mk (h1.ptr (by omega)) (by omega) (by omega) ?_) | (refine VIx.is ?_; refine VIx.mk rfl (by omega) (by omega) ?_) | (refine VLd.is ?_; refine VLd.mk (Rd.cast (h1.rd0 (by simp) (fun _ => rfl) hi rfl) (by first | omega | (dsimp only; omega) | rfl)) ?_) | (refine VLd.is ?_; refine VLd.mk (Rd.cast (hdr.rd0 (by simp) (fun _ => rfl) hv rfl) (by first | omega | (dsimp only; omega) | rfl)) ?_) | (refine VSeq.go ?_) | (refine VB.is ?_; refine VB.yes (by omega) fun _ => ?_) | (refine VB.split (fun _ => ?_) (fun _ => ?_)) | (refine VAr.is ?_; refine oA ?_)
      all_goals (conv => whnf)
      · rw [if_pos (by omega)] at e2
        rw [if_neg (by omega)] at e1
        refine VNext.mk (k + 1) (by omega) (by omega) ?_ aH
        rw [e2, e1]
        exact aE
      · rw [if_neg (by omega)] at e2
        rw [if_pos (by omega)] at e1
        refine VNext.mk (k + 1) (by omega) (by omega) ?_ aH
        rw [e2, e1]
        exact aE
      · rw [if_neg (by omega)] at e2
        rw [if_neg (by omega)] at e1
        refine VNext.mk (k + 1) (by omega) (by omega) ?_ aH
        rw [e2, e1]
        exact aE
    · rw [List.take_of_length_le hgek]
      have f2 := cntRows_take (v := 2) (ns := c.ns) hVt
      have f1 := cntRows_take (v := 1) (ns := c.ns) hVt
      rw [hA2e] at f2
      rw [hA1e] at f1
      repeat' (conv => whnf); first | (refine VSeq.go ?_) | (refine VB.is ?_; refine VB.yes (by omega) fun _ => ?_) | (refine VB.is ?_; refine VB.no (by omega) fun _ => ?_) | (refine VB.split (fun _ => ?_) (fun _ => ?_)) | (refine boolE_split (fun h => ?_) (fun h => ?_) <;> subst h) | (refine VLd.is ?_; refine VLd.mk (.row aT (by rfl)) ?_) | (refine VAr.is ?_; refine oA ?_)
      all_goals (conv => whnf)
      refine VNext.mk (t + 1) (by omega) (by omega) ?_ aH
      rw [f2, f1]
      exact aE
  · have hb2 := hcb 2 t
    have hb1 := hcb 1 t
    rw [List.take_of_length_le (by omega)] at hb2 hb1 ⊢
    have hres : certCount c V = if c.lo ≤ (cntRows 2 V c.ns : Int) ∧ (cntRows 2 V c.ns : Int) + cntRows 1 V c.ns ≤ c.hi then 1 else if (cntRows 2 V c.ns : Int) + cntRows 1 V c.ns < c.lo ∨ c.hi < (cntRows 2 V c.ns : Int) then -1 else 0 := rfl
    obtain ⟨A2, hA2e⟩ : ∃ A, cntRows 2 V c.ns = A := ⟨_, rfl⟩
    obtain ⟨A1, hA1e⟩ : ∃ A, cntRows 1 V c.ns = A := ⟨_, rfl⟩
    rw [hA2e] at hb2 hres ⊢
    rw [hA1e] at hb1 hres ⊢
    repeat' (conv => whnf); first | (refine VSeq.go ?_) | (refine VB.is ?_; refine VB.yes (by omega) fun _ => ?_) | (refine VB.is ?_; refine VB.no (by omega) fun _ => ?_) | (refine VB.split (fun _ => ?_) (fun _ => ?_)) | (refine boolE_split (fun h => ?_) (fun h => ?_) <;> subst h) | (refine VLd.is ?_; refine VLd.mk (.row aT (by rfl)) ?_) | (refine VAr.is ?_; refine oA ?_)
    all_goals (conv => whnf)
    all_goals first
      | exact ⟨fun w' hw' => ⟨by rw [hres, if_pos (by omega)]; rfl, hw'.le .nil⟩⟩
      | exact ⟨fun w' hw' => ⟨by rw [hres, if_neg (by omega), if_pos (by omega)]; rfl, hw'.le .nil⟩⟩
      | exact ⟨fun w' hw' => ⟨by rw [hres, if_neg (by omega), if_neg (by omega)]; rfl, hw'.le .nil⟩⟩

theorem all_take {row : List Int} {l : List Int} {k : Nat} {i : Int} (h : l[k]? = some i) : allZ row (l.take (k + 1)) = (allZ row (l.take k) && decide (vAt row i = 0)) := by
  unfold allZ
  rw [List.take_add_one, h, Option.toList_some, List.all_append]
  simp

theorem ex_take {P : Int → Prop} {l : List Int} {k : Nat} {i : Int} (h : l[k]? = some i) : (∃ j ∈ l.take (k + 1), P j) ↔ (∃ j ∈ l.take k, P j) ∨ P i := by
  rw [List.take_add_one, h, Option.toList_some]
  constructor
  · rintro ⟨j, hj, hp⟩
    rcases List.mem_append.1 hj with hj | hj
    · exact .inl ⟨j, hj, hp⟩
    · simp only [List.mem_singleton] at hj; subst hj; exact .inr hp
  · rintro (⟨j, hj, hp⟩ | hp)
    · exact ⟨j, List.mem_append_left _ hj, hp⟩
    · exact ⟨i, by simp, hp⟩

theorem leadRows_step {one : Int} {others : List Int} {V : List (List Int)} {t : Nat} {row : List Int} (h : V[t]? = some row) (a q : Bool) : leadRows one others (V.drop t) a q =
    if q = true ∧ ∃ i ∈ others, vAt row i = 2 then -1
    else if vAt row one = 2 then (if a = true ∧ allZ row others = true then 1 else 0)
    else leadRows one others (V.drop (t + 1)) (a && allZ row others) (q && decide (vAt row one = 0)) := by
  obtain ⟨hlt, he⟩ := List.getElem?_eq_some_iff.1 h
  rw [List.drop_eq_getElem_cons hlt, he]
  rfl

theorem surelyLeads_any (c : Clm) (hc : c.wf) (hns : c.ns.length ≤ 100000) (hn0 : 0 < c.ns.length) (pc : Option Addr) (cc b o : Nat) (hcc : c.ns.length ≤ cc) (D : List DRow) (q : Option Addr) (cq bq oq n : Nat) (hcq : D.length ≤ cq) (hr : 0 ≤ c.frm ∧ c.frm ≤ c.to ∧ c.to ≤ (D.length : Int)) (hDl : D.length ≤ 10000)
    (hin : ∀ i ∈ c.ns, 0 ≤ i ∧ i ≤ (n : Int) - 1) (w : World) (h1 : Sl w intV 1 c.ns pc c.ns.length b o) (h2 : RowsAt w D q bq oq n) :
    Calls Tryz.prog 147 #[clmA c pc cc, .slice q D.length cq] w fun e w' => e = .returned (.int .i64 (certLead c (((D.map (·.l)).drop c.frm.toNat).take (c.to.toNat - c.frm.toNat)))) ∧ St w [] [] w' := by
  obtain ⟨w1, w2, w3, w4, w5, w6⟩ := hc
  unfold I64 at w1 w3 w4 w5 w6
  refine enter (C := Tryz.cx) (F := Tryz.fx147) (args := [_, _]) Tryz.func147 rfl rfl rfl Tryz.ok147 (St.start w []) ?_
  obtain ⟨F, hF⟩ : ∃ F : Nat, c.frm = F := ⟨c.frm.toNat, by omega⟩
  obtain ⟨T, hT⟩ : ∃ T : Nat, c.to = T := ⟨c.to.toNat, by omega⟩
  have hFT : F ≤ T := by omega
  have hTD : T ≤ D.length := by omega
  rw [hF, hT, Int.toNat_natCast, Int.toNat_natCast]
  have hA : clmA c pc cc = .agg #[.int .i64 c.kind, .slice pc c.ns.length cc, .int .i64 (F : Int), .int .i64 (T : Int), .int .i64 c.lo, .int .i64 c.hi] := by unfold clmA; rw [hF, hT]
  rw [hA]
  obtain ⟨V, hV⟩ : ∃ V, ((D.map (·.l)).drop F).take (T - F) = V := ⟨_, rfl⟩
  have hVl : V.length = T - F := by rw [← hV]; simp; omega
  rw [hV]
  obtain ⟨one, others, hcons⟩ : ∃ one others, c.ns = one :: others := by
    cases hx : c.ns with
    | nil => rw [hx] at hn0; simp at hn0
    | cons a l => exact ⟨a, l, rfl⟩
  have hone := hin one (by rw [hcons]; simp)
  have hoth : ∀ i ∈ others, 0 ≤ i ∧ i ≤ (n : Int) - 1 := fun i hi => hin i (by rw [hcons]; simp [hi])
  have h0 : c.ns[0]? = some one := by rw [hcons]; rfl
  have hlen : c.ns.length = others.length + 1 := by rw [hcons]; rfl
  have hres : certLead c V = leadRows one others V true true := by unfold certLead; rw [hcons]
  repeat' (conv => whnf); first | (refine VNew.mk fun b2 => ?_) | (refine VIx.is ?_; refine VIx.mk (h1.ptr (by omega)) (by omega) (by omega) ?_) | (refine VLd.is ?_; refine VLd.mk (Rd.cast (h1.rd0 (i := 0) (by simp) (fun _ => rfl) h0 rfl) (by first | omega | (dsimp only; omega) | rfl)) ?_) | (refine VSl.is ?_; refine VSl.is ?_; refine VSl.mk (by omega) (by omega) (by omega) fun q2 hq2 hq3 => ?_) | (refine VSeq.go ?_) | (refine VLd.is ?_; refine VLd.mk (.row aT (by rfl)) ?_) | (refine VHs.mk _ (.refl _) ?_)
  all_goals (conv => whnf)
  rename_i q1 hq1 _
  have hq2' : (F : Int) < (cq : Int) → q2 = q.map fun a => a.add (F * 1) := fun h => hq2 h
  have hsub := h2.out.cut (fun _ => rfl) hFT hTD hcq hq2'
  have hq1' : ((1 : Nat) : Int) < (cc : Int) → q1 = pc.map fun a => a.add (1 * 1) := fun h => hq1 h
  have hos := h1.cut (fun _ => rfl) (by omega : 1 ≤ c.ns.length) (Nat.le_refl _) hcc hq1'
  have hoe : (c.ns.drop 1).take (c.ns.length - 1) = others := by rw [hcons]; simp
  have hol : c.ns.length - 1 = others.length := by omega
  rw [hoe, hol] at hos
  obtain ⟨DD, hDD⟩ : ∃ DD, (D.drop F).take (T - F) = DD := ⟨_, rfl⟩
  have hDV : DD.map (·.l) = V := by rw [← hV, ← hDD, List.map_take, List.map_drop]
  have hDDl : DD.length = T - F := by rw [← hVl, ← hDV, List.length_map]
  have hDDm : ∀ d ∈ DD, d ∈ D := fun d hd => by rw [← hDD] at hd; exact List.mem_of_mem_drop (List.mem_of_mem_take hd)
  rw [hDD, ← hDDl] at hsub
  have hm : (T : Int).toNat - (F : Int).toNat = DD.length := by omega
  have hm1 : (c.ns.length : Int).toNat - Int.toNat 1 = others.length := by omega
  rw [hm, hm1]
  obtain ⟨co, hco⟩ : ∃ co, (cc : Int).toNat - Int.toNat 1 = co := ⟨_, rfl⟩
  obtain ⟨cd, hcd⟩ : ∃ cd, (cq : Int).toNat - (F : Int).toNat = cd := ⟨_, rfl⟩
  rw [hco, hcd]
  refine VLoop.mk (α := Nat × Bool × Bool) (fun y => y.1 ≤ DD.length ∧ leadRows one others V true true = leadRows one others (V.drop y.1) y.2.1 y.2.2)
    (fun y => [(1000000, .tuple #[]), (4, .int .i64 0), (5, .int .i64 one), (6, .slice q1 others.length co), (7, .bool y.2.2), (8, .bool y.2.1), (25, .slice q2 DD.length cd), (26, .int .i64 (DD.length : Int)), (27, .int .i64 (y.1 : Int))])
    (fun _ => []) (fun y => DD.length - y.1) (0, true, true) ⟨by dsimp only; omega, rfl⟩ aE aH ?_
  rintro ⟨t, al, qu⟩ ⟨ht, hinv⟩
  dsimp only at ht hinv ⊢
  rcases Nat.lt_or_ge t DD.length with hlt | hge
  · obtain ⟨d, hd⟩ := hsub.get hlt
    have hdm := hDDm d (List.mem_of_getElem? hd)
    have hdr := h2.row d hdm
    have hdl := h2.len d hdm
    have hVt : V[t]? = some d.l := by rw [← hDV, List.getElem?_map, hd]; rfl
    rw [leadRows_step hVt] at hinv
    repeat' (conv => whnf); first | (refine VIx.is ?_; refine VIx.mk (hsub.ptr (by omega)) (by omega) (by omega) ?_) | (refine VLd.is ?_; refine VLd.mk (Rd.cast (hsub.rd0 (by simp) (fun _ => rfl) hd rfl) (by first | omega | (dsimp only; omega) | rfl)) ?_) | (refine VSeq.go ?_) | (refine VB.is ?_; refine VB.yes (by omega) fun _ => ?_) | (refine VLd.is ?_; refine VLd.mk (.row aT (by rfl)) ?_)
    all_goals (conv => whnf)
    refine VLoop.mk (α := Nat × Bool) (fun y => y.1 ≤ others.length ∧ y.2 = (al && allZ d.l (others.take y.1)) ∧ ¬ (qu = true ∧ ∃ i ∈ others.take y.1, vAt d.l i = 2))
      (fun y => [(1000000, .tuple #[]), (4, .int .i64 0), (5, .int .i64 one), (6, .slice q1 others.length co), (7, .bool qu), (8, .bool y.2), (10, .slice (some ⟨d.g, 0, none⟩) d.l.length d.cap), (25, .slice q2 DD.length cd), (26, .int .i64 (DD.length : Int)), (27, .int .i64 (t : Int)), (31, .slice q1 others.length co), (32, .int .i64 (others.length : Int)), (33, .int .i64 (y.1 : Int))])
      (fun _ => []) (fun y => others.length - y.1) (0, al) ⟨by dsimp only; omega, by simp [allZ], by simp⟩ aE aH ?_
    rintro ⟨k, a2⟩ ⟨hk, ha2, hq0⟩
    dsimp only at hk ha2 hq0 ⊢
    rcases Nat.lt_or_ge k others.length with hltk | hgek
    · obtain ⟨i, hi⟩ := hos.get hltk
      have hib := hoth i (List.mem_of_getElem? hi)
      obtain ⟨v, hv⟩ := hdr.get (i := i.toNat) (by omega)
      have hva : vAt d.l i = v := by unfold vAt; rw [hv]; rfl
      have hkey : ∀ b' : Bool, b' = (a2 && decide (v = 0)) → b' = (al && allZ d.l (others.take (k + 1))) := fun b' hb => by
        rw [all_take hi, ← Bool.and_assoc, ← ha2, hva]; exact hb
      have hex : ¬ (qu = true ∧ v = 2) → ¬ (qu = true ∧ ∃ j ∈ others.take (k + 1), vAt d.l j = 2) := by
        rintro h ⟨hq1, hj⟩
        rcases (ex_take hi).1 hj with hj | hj
        · exact hq0 ⟨hq1, hj⟩
        · exact h ⟨hq1, by rw [← hva]; exact hj⟩
      have hret : qu = true → v = 2 → leadRows one others V true true = -1 := fun hq1 hv2 => by
        rw [hinv, if_pos ⟨hq1, i, List.mem_of_getElem? hi, by rw [hva]; exact hv2⟩]
      clear hinv
      repeat' (conv => whnf); first | (refine VIx.is ?_; refine VIx.mk (hos.ptr (by omega)) (by omega) (by omega) ?_) | (refine VIx.is ?_; refine VIx.mk rfl (by omega) (by omega) ?_) | (refine VLd.is ?_; refine VLd.mk (Rd.cast (hos.rd0 (by simp) (fun _ => rfl) hi rfl) (by first | omega | (dsimp only; omega) | rfl)) ?_) | (refine VLd.is ?_; refine VLd.mk (Rd.cast (hdr.rd0 (by simp) (fun _ => rfl) hv rfl) (by first | omega | (dsimp only; omega) | rfl)) ?_) | (refine VSeq.go ?_) | (refine VB.is ?_; refine VB.yes (by omega) fun _ => ?_) | (refine VB.is ?_; refine VB.no (by omega) fun _ => ?_) | (refine VB.split (fun _ => ?_) (fun _ => ?_)) | (refine boolE_split (fun h => ?_) (fun h => ?_) <;> subst h) | (refine VAr.is ?_; refine oA ?_)
      all_goals (conv => whnf)
      all_goals first
        | (exact ⟨fun w' hw' => ⟨by rw [hres, hret rfl (by omega)]; rfl, hw'.le .nil⟩⟩)
        | (exact VNext.mk (k + 1, true) ⟨by dsimp only; omega, hkey true (by simp; omega), hex (by simp; try omega)⟩ (by dsimp only; omega) aE aH)
        | (exact VNext.mk (k + 1, false) ⟨by dsimp only; omega, hkey false (by simp; try omega), hex (by simp; try omega)⟩ (by dsimp only; omega) aE aH)
    · rw [List.take_of_length_le hgek] at ha2 hq0
      rw [if_neg hq0, ← ha2] at hinv
      obtain ⟨v, hv⟩ := hdr.get (i := one.toNat) (by omega)
      have hva : vAt d.l one = v := by unfold vAt; rw [hv]; rfl
      rw [hva] at hinv
      have hall : (al = true ∧ allZ d.l others = true) ↔ a2 = true := by rw [ha2, Bool.and_eq_true]
      simp only [hall] at hinv
      clear ha2 hall hq0
      repeat' (conv => whnf); first | (refine VIx.is ?_; refine VIx.mk rfl (by omega) (by omega) ?_) | (refine VLd.is ?_; refine VLd.mk (Rd.cast (hdr.rd0 (by simp) (fun _ => rfl) hv rfl) (by first | omega | (dsimp only; omega) | rfl)) ?_) | (refine VSeq.go ?_) | (refine VB.is ?_; refine VB.yes (by omega) fun _ => ?_) | (refine VB.is ?_; refine VB.no (by omega) fun _ => ?_) | (refine VB.split (fun _ => ?_) (fun _ => ?_)) | (refine boolE_split (fun h => ?_) (fun h => ?_) <;> subst h) | (refine VAr.is ?_; refine oA ?_)
      all_goals (conv => whnf)
      all_goals first
        | (rw [if_pos (by omega), if_pos rfl] at hinv
           exact ⟨fun w' hw' => ⟨by rw [hres, hinv]; rfl, hw'.le .nil⟩⟩)
        | (rw [if_pos (by omega), if_neg (by simp)] at hinv
           exact ⟨fun w' hw' => ⟨by rw [hres, hinv]; rfl, hw'.le .nil⟩⟩)
        | (rw [if_neg (by omega), decide_eq_true (by omega)] at hinv
           exact VNext.mk (t + 1, a2, true) ⟨by dsimp only; omega, hinv⟩ (by dsimp only; omega) aE aH)
        | (rw [if_neg (by omega), decide_eq_false (by omega)] at hinv
           exact VNext.mk (t + 1, a2, false) ⟨by dsimp only; omega, hinv⟩ (by dsimp only; omega) aE aH)
        | (rw [if_neg (by omega), Bool.false_and] at hinv
           exact VNext.mk (t + 1, a2, false) ⟨by dsimp only; omega, hinv⟩ (by dsimp only; omega) aE aH)
  · rw [List.drop_eq_nil_of_le (by omega)] at hinv
    repeat' (conv => whnf); first | (refine VSeq.go ?_) | (refine VB.is ?_; refine VB.yes (by omega) fun _ => ?_) | (refine VB.is ?_; refine VB.no (by omega) fun _ => ?_) | (refine VB.split (fun _ => ?_) (fun _ => ?_)) | (refine boolE_split (fun h => ?_) (fun h => ?_) <;> subst h) | (refine VLd.is ?_; refine VLd.mk (.row aT (by rfl)) ?_) | (refine VAr.is ?_; refine oA ?_)
    all_goals (conv => whnf)
    all_goals exact ⟨fun w' hw' => ⟨by rw [hres, hinv]; rfl, hw'.le .nil⟩⟩

end Go.Proofs
