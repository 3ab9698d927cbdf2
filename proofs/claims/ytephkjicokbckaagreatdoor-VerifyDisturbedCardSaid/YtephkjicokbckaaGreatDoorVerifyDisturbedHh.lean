import Derived.Test.YtephkjicokbckaaGreatDoorVerifyDisturbedVp
import Derived.Test.YtephkjicokbckaaGreatDoorVerifyDisturbedHd
import Derived.Test.YtephkjicokbckaaGreatDoorVerifyDisturbedNa
import Derived.Test.YtephkjicokbckaaGreatDoorVerifyDisturbedHc
import Derived.Test.YtephkjicokbckaaGreatDoorVerifyDisturbedMk
section
set_option linter.unusedVariables false

set_option linter.unusedSimpArgs false

namespace Go.Gm

def dfsO (R : Nat → List (List Int)) (L : Nat) (O : List Int) : List (List Int) :=
  O.flatMap fun t => if t < 0 then (if L = 0 then [] else (R (L - 1)).map (t :: ·)) else (R L).map (t :: ·)

def dfs (J : Nat) : List Int → Nat → List (List Int)
  | [], _ => [[]]
  | t :: r, L => dfsO (dfs J r) L (opts t J ++ [-1])

theorem ext_dfsO {L : Nat} {R : Nat → List (List Int)} {x : List Int} (hx : lostN x ≤ L) : ∀ O : List Int,
    (extR L O x).flatMap (fun y => (R (L - lostN y)).map (y ++ ·)) = (dfsO R (L - lostN x) O).map (x ++ ·)
  | [] => rfl
  | o :: O => by
    have e1 : extR L (o :: O) x = (if lostN (x ++ [o]) ≤ L then [x ++ [o]] else []) ++ extR L O x := by
      unfold extR
      rw [List.map_cons, List.filter_cons]
      by_cases h : lostN (x ++ [o]) ≤ L <;> simp [h]
    have e2 : dfsO R (L - lostN x) (o :: O) = (if o < 0 then (if L - lostN x = 0 then [] else (R (L - lostN x - 1)).map (o :: ·)) else (R (L - lostN x)).map (o :: ·)) ++ dfsO R (L - lostN x) O := by
      unfold dfsO; rw [List.flatMap_cons]
    rw [e1, e2, List.flatMap_append, List.map_append, ext_dfsO hx O]
    congr 1
    rw [lostN_snoc]
    by_cases ho : o < 0
    · rw [if_pos ho, if_pos ho]
      by_cases hl : lostN x + 1 ≤ L
      · rw [if_pos hl, if_neg (by omega)]
        simp only [List.flatMap_cons, List.flatMap_nil, List.append_nil, List.map_map]
        rw [lostN_snoc, if_pos ho, show L - (lostN x + 1) = L - lostN x - 1 by omega]
        apply List.map_congr_left
        intro y _
        simp
      · rw [if_neg hl, if_pos (by omega)]; rfl
    · rw [if_neg ho, if_neg ho, if_pos (by omega)]
      simp only [List.flatMap_cons, List.flatMap_nil, List.append_nil, List.map_map]
      rw [lostN_snoc, if_neg ho, Nat.add_zero]
      apply List.map_congr_left
      intro y _
      simp

theorem extAll_lost {losses : Nat} {l : List Int} : ∀ (out acc : List (List Int)), (∀ x ∈ acc, lostN x ≤ losses) → ∀ x ∈ extAll losses l acc out, lostN x ≤ losses := by
  intro out
  induction out with
  | nil => intro acc ha; exact ha
  | cons y r ih =>
    intro acc ha
    rw [extAll]
    split
    · refine ih _ fun x hx => ?_
      rcases List.mem_append.1 hx with hx | hx
      · exact ha x hx
      · unfold extR at hx; simpa using (List.mem_filter.1 hx).2
    · exact ha

theorem runs_dfs {L J : Nat} : ∀ (r : List Int) (out : List (List Int)), (∀ t ∈ r, 0 ≤ t ∧ t < 10000) → (∀ x ∈ out, lostN x ≤ L) → (runsM L J r out).length ≤ 20000 →
    runsM L J r out = out.flatMap fun x => (dfs J r (L - lostN x)).map (x ++ ·)
  | [], out, _, _, _ => by
    rw [runsM]
    simp only [dfs, List.map_cons, List.map_nil, List.append_nil]
    have key : ∀ out : List (List Int), out = out.flatMap fun x => [x] := fun out => by
      induction out with
      | nil => rfl
      | cons x r ih => rw [List.flatMap_cons, ← ih]; rfl
    exact key out
  | t :: r, out, ht, hl, h => by
    have ht' : ∀ u ∈ r, 0 ≤ u ∧ u < 10000 := fun u hu => ht u (List.mem_cons_of_mem _ hu)
    rw [runsM] at h ⊢
    by_cases h1 : 20000 < (out.flatMap (extR L (opts t J ++ [-1]))).length
    · have h2 := extAll_many (losses := L) (l := opts t J ++ [-1]) out [] (by simpa using h1)
      have h3 := runsM_many (losses := L) (j := J) r _ ht' (extAll_lost (l := opts t J ++ [-1]) out [] (by simp)) h2
      omega
    · have h2 := extAll_few (losses := L) (l := opts t J ++ [-1]) out [] (by simpa using h1)
      rw [List.nil_append] at h2
      rw [h2] at h ⊢
      rw [runs_dfs r _ ht' flat_lost h, List.flatMap_assoc]
      have key : ∀ out : List (List Int), (∀ x ∈ out, lostN x ≤ L) → (out.flatMap fun x => (extR L (opts t J ++ [-1]) x).flatMap fun y => (dfs J r (L - lostN y)).map (y ++ ·)) = out.flatMap fun x => (dfs J (t :: r) (L - lostN x)).map (x ++ ·) := by
        intro out
        induction out with
        | nil => intro _; rfl
        | cons x q ih =>
          intro hq
          rw [List.flatMap_cons, List.flatMap_cons, ih fun y hy => hq y (List.mem_cons_of_mem _ hy), ext_dfsO (hq x List.mem_cons_self)]
          rfl
      exact key out hl

theorem runs_dfs0 {L J : Nat} {T : List Int} (ht : ∀ t ∈ T, 0 ≤ t ∧ t < 10000) (h : (runsM L J T [[]]).length ≤ 20000) : runsM L J T [[]] = dfs J T L := by
  rw [runs_dfs T [[]] ht (by simp [lostN]) h]
  simp [lostN]

def kept : List Evt → List Int → List Evt
  | e :: l, t :: x => (if t < 0 then [] else [⟨t, e.id⟩]) ++ kept l x
  | _, _ => []

def firstB {β : Type} (f : List Evt → Option β) (J : Nat) (C r : List Evt) (L : Nat) : Option β := (dfs J (r.map (·.tick)) L).findSome? fun y => f (C ++ kept r y)

def firstO {β : Type} (f : List Evt → Option β) (J : Nat) (C : List Evt) (e : Evt) (r : List Evt) (L : Nat) (O : List Int) : Option β :=
  O.findSome? fun t => if t < 0 then (if L = 0 then none else firstB f J C r (L - 1)) else firstB f J (C ++ [⟨t, e.id⟩]) r L

theorem firstB_nil {β : Type} (f : List Evt → Option β) (J : Nat) (C : List Evt) (L : Nat) : firstB f J C [] L = f C := by
  unfold firstB
  simp only [List.map_nil, dfs, List.findSome?_cons, List.findSome?_nil, kept, List.append_nil]
  cases f C <;> rfl

theorem firstB_cons {β : Type} (f : List Evt → Option β) (J : Nat) (C : List Evt) (e : Evt) (r : List Evt) (L : Nat) : firstB f J C (e :: r) L = firstO f J C e r L (opts e.tick J ++ [-1]) := by
  unfold firstB firstO
  simp only [List.map_cons, dfs]
  generalize opts e.tick J ++ [-1] = O
  induction O with
  | nil => rfl
  | cons o O ih =>
    have e2 : dfsO (dfs J (r.map (·.tick))) L (o :: O) = (if o < 0 then (if L = 0 then [] else (dfs J (r.map (·.tick)) (L - 1)).map (o :: ·)) else (dfs J (r.map (·.tick)) L).map (o :: ·)) ++ dfsO (dfs J (r.map (·.tick))) L O := by
      unfold dfsO; rw [List.flatMap_cons]
    rw [e2, List.findSome?_append, ih, List.findSome?_cons]
    by_cases ho : o < 0
    · by_cases hL : L = 0
      · simp only [ho, hL, if_true, List.findSome?_nil, Option.none_or]
      · simp only [ho, hL, if_true, if_false, List.findSome?_map]
        have : ((fun y => f (C ++ kept (e :: r) y)) ∘ fun x => o :: x) = fun y => f (C ++ kept r y) := by
          funext y
          simp only [Function.comp, kept, ho, if_true, List.nil_append]
        rw [this]
        unfold firstB
        cases List.findSome? (fun y => f (C ++ kept r y)) (dfs J (List.map (fun x => x.tick) r) (L - 1)) <;> rfl
    · simp only [ho, if_false, List.findSome?_map]
      have : ((fun y => f (C ++ kept (e :: r) y)) ∘ fun x => o :: x) = fun y => f (C ++ [⟨o, e.id⟩] ++ kept r y) := by
        funext y
        simp only [Function.comp, kept, ho, if_false, List.append_assoc]
      rw [this]
      unfold firstB
      cases List.findSome? (fun y => f (C ++ [⟨o, e.id⟩] ++ kept r y)) (dfs J (List.map (fun x => x.tick) r) L) <;> rfl

theorem firstO_take {β : Type} {f : List Evt → Option β} {J : Nat} {C : List Evt} {e : Evt} {r : List Evt} {L : Nat} {O : List Int} {j : Nat} {t : Int} (h : O[j]? = some t) (h0 : firstO f J C e r L (O.take j) = none) :
    firstO f J C e r L (O.take (j + 1)) = (if t < 0 then (if L = 0 then none else firstB f J C r (L - 1)) else firstB f J (C ++ [⟨t, e.id⟩]) r L) ∧
    ∀ b, (if t < 0 then (if L = 0 then none else firstB f J C r (L - 1)) else firstB f J (C ++ [⟨t, e.id⟩]) r L) = some b → firstO f J C e r L O = some b := by
  have e1 : ∀ X, firstO f J C e r L (O.take j ++ X) = firstO f J C e r L X := fun X => by
    unfold firstO at h0 ⊢
    rw [List.findSome?_append, h0, Option.none_or]
  refine ⟨?_, fun b hb => ?_⟩
  · rw [List.take_add_one, h, Option.toList_some, e1]
    unfold firstO
    rw [List.findSome?_cons, List.findSome?_nil]
    cases (if t < 0 then (if L = 0 then none else firstB f J C r (L - 1)) else firstB f J (C ++ [⟨t, e.id⟩]) r L) <;> rfl
  · have e2 : O = O.take j ++ t :: O.drop (j + 1) := by
      obtain ⟨hlt, rfl⟩ := List.getElem?_eq_some_iff.1 h
      rw [← List.drop_eq_getElem_cons hlt, List.take_append_drop]
    rw [e2, e1]
    unfold firstO
    rw [List.findSome?_cons, hb]

end Go.Gm
end

section
set_option linter.unusedVariables false

set_option linter.unusedSimpArgs false

namespace Go.Proofs

open Go Go.Vx Go.Gm

def hldErr (N : Net) (c : Clm) : Int := if netchk N ≠ 0 then netchk N else clmErr N.ps.length c

end Go.Proofs
end

section
set_option linter.unusedVariables false

set_option linter.unusedSimpArgs false

namespace Go.Proofs

open Go Go.Vx Go.Gm

set_option maxHeartbeats 1600000 in
theorem vchk_any (N : Net) (hN : N.wf) (c : Clm) (hc : c.wf) (hns : c.ns.length ≤ 100000) (hnl : N.ps.length ≤ 1000000000) (pn : Option Addr) (cn bn on : Nat) (qs : Option Addr) (cs bs os : Nat) (pc : Option Addr) (cc bc oc : Nat) (hcc : c.ns.length ≤ cc) (w : World)
    (h1 : Sl w parV 8 N.ps pn N.ps.length bn on) (h2 : Sl w synV 4 N.syns qs N.syns.length bs os) (h5 : Sl w intV 1 c.ns pc c.ns.length bc oc) :
    Calls Tryz.prog 39 #[.agg #[.slice pn N.ps.length cn, .int .i64 N.inputs, .slice qs N.syns.length cs], clmA c pc cc] w fun e w' => e = .returned (.int .i64 (hldErr N c)) ∧ St w [] [] w' := by
  have hone : oneAll [.slice pn N.ps.length cn, .int .i64 N.inputs, .slice qs N.syns.length cs] = true := rfl
  refine enter (C := Tryz.cx) (F := Tryz.fx39) (args := [_, _]) Tryz.func39 rfl rfl rfl Tryz.ok39 (St.start w []) ?_
  refine VSeq.go ?_
  repeat' (conv => whnf); first | (refine VNew.mk fun b3 => ?_)
  all_goals (conv => whnf)
  rename_i b2
  repeat' (conv => whnf); first | (refine VCall.isF 47 ?_; refine VCall.inl (F := Tryz.fx47) Tryz.func47 rfl rfl rfl Tryz.ok47 ?_) | (refine VSeq.go ?_) | (refine VNew.mk fun _ => ?_)
  all_goals (conv => whnf)
  rename_i gf
  refine VLoop.mk (α := Nat) (fun i => i ≤ 2 ∧ (1 ≤ i → netchk N = 0) ∧ (2 ≤ i → clmErr N.ps.length c = 0))
    (fun i => [(1000000, .tuple #[]), (2, .int .i64 0), (6, .slice (some ⟨gf, 0, none⟩) 2 2), (7, .int .i64 2), (8, .int .i64 (i : Int))])
    (fun _ => [.vec (some ⟨gf, 0, none⟩) 2 2 93 1 [.func (.func 101) #[] #[.pointer (some ⟨b2, 0, none⟩)], .func (.func 102) #[] #[.pointer (some ⟨b3, 0, none⟩), .pointer (some ⟨b2, 0, none⟩)]],
      .row b2 25 [.slice pn N.ps.length cn, .int .i64 N.inputs, .slice qs N.syns.length cs], .row b3 50 (clmV c pc cc)]) (fun i => 2 - i) 0 (by omega) aE aH ?_
  rintro i ⟨hi, f1, f2⟩
  have hi3 : i = 0 ∨ i = 1 ∨ i = 2 := by omega
  rcases hi3 with rfl | rfl | rfl
  · repeat' (conv => whnf); first | (refine VLd.is ?_; refine VLd.mk (.vec aT rfl) ?_) | (refine VCall.isF 101 ?_; refine VCall.inl (F := Tryz.fx101) Tryz.func101 rfl rfl rfl Tryz.ok101 ?_) | (refine VCall.isF 49 ?_; refine VCall.valR (fun w' hw' => Check_any N hN _ _ _ _ _ _ _ _ _ (h1.keep hw' (by simp)) (h2.keep hw' (by simp))) ?_) | (refine VSeq.go ?_) | (refine VB.is ?_; refine VB.yes (by omega) fun _ => ?_) | (refine VB.split (fun _ => ?_) (fun _ => ?_)) | (refine VLd.is ?_; refine VLd.mk (.row aT (by rfl)) ?_) | (refine VAr.is ?_; refine oA ?_) | (refine VIx.is ?_; refine VIx.mk rfl (by omega) (by omega) ?_)
    all_goals (conv => whnf)
    all_goals first
      | exact VNext.mk 1 (by omega) (by omega) aE aH
      | exact ⟨fun w' hw' => ⟨by unfold hldErr; rw [if_pos (by omega)]; rfl, hw'.le .nil⟩⟩
  · repeat' (conv => whnf); first | (refine VLd.is ?_; refine VLd.mk (.vec aT rfl) ?_) | (refine VCall.isF 102 ?_; refine VCall.inl (F := Tryz.fx102) Tryz.func102 rfl rfl rfl Tryz.ok102 ?_) | (refine VCall.isF 84 ?_; refine VCall.valR (fun w' hw' => vcheck_any c hc (by omega) pc cc bc oc hcc N.ps.length hnl pn cn _ _ hone w' (h5.keep hw' (by simp))) ?_) | (refine VSeq.go ?_) | (refine VB.is ?_; refine VB.yes (by omega) fun _ => ?_) | (refine VB.split (fun _ => ?_) (fun _ => ?_)) | (refine VLd.is ?_; refine VLd.mk (.row aT (by rfl)) ?_) | (refine VAr.is ?_; refine oA ?_) | (refine VIx.is ?_; refine VIx.mk rfl (by omega) (by omega) ?_)
    all_goals (conv => whnf)
    all_goals first
      | exact VNext.mk 2 (by omega) (by omega) aE aH
      | exact ⟨fun w' hw' => ⟨by unfold hldErr; rw [if_neg (by omega)]; rfl, hw'.le .nil⟩⟩
  · have g1 := f1 (by omega)
    have g2 := f2 (by omega)
    repeat' (conv => whnf); first | (refine VSeq.go ?_) | (refine VB.is ?_; refine VB.no (by omega) fun _ => ?_)
    all_goals (conv => whnf)
    exact ⟨fun w' hw' => ⟨by unfold hldErr; rw [if_neg (by omega), g2]; rfl, hw'.le .nil⟩⟩

theorem hldErr_zero {N : Net} {c : Clm} (h : hldErr N c = 0) : netchk N = 0 ∧ clmErr N.ps.length c = 0 := by
  unfold hldErr at h
  split at h
  · contradiction
  · exact ⟨by omega, h⟩

set_option maxHeartbeats 1600000 in
theorem vholds_any (N : Net) (hN : N.wf) (c : Clm) (hc : c.wf) (hns : c.ns.length ≤ 100000) (hnl : N.ps.length ≤ 1000000000) (l : List Evt) (hl : l.length ≤ 65536) (pn : Option Addr) (cn bn on : Nat) (qs : Option Addr) (cs bs os : Nat) (pc : Option Addr) (cc bc oc : Nat) (hcc : c.ns.length ≤ cc) (pe : Option Addr) (ce be oe : Nat) (w : World)
    (h1 : Sl w parV 8 N.ps pn N.ps.length bn on) (h2 : Sl w synV 4 N.syns qs N.syns.length bs os) (h5 : Sl w intV 1 c.ns pc c.ns.length bc oc) (h3 : Sl w evtV 2 l pe l.length be oe) :
    Calls Tryz.prog 37 #[.agg #[.slice pn N.ps.length cn, .int .i64 N.inputs, .slice qs N.syns.length cs], clmA c pc cc, .slice pe l.length ce] w fun e w' => ∃ b : Bool, e = .returned (.tuple #[.bool b, .int .i64 (hldErr N c)]) ∧ (b = true ↔ hldErr N c = 0 ∧ HoldsP c l) ∧ St w [] [] w' := by
  have hchk := fun (w' : World) H (hw' : St w [] H w') => vchk_any N hN c hc hns hnl pn cn bn on qs cs bs os pc cc bc oc hcc w' (h1.keep hw' (by simp)) (h2.keep hw' (by simp)) (h5.keep hw' (by simp))
  refine enter (C := Tryz.cx) (F := Tryz.fx37) (args := [_, _, _]) Tryz.func37 rfl rfl rfl Tryz.ok37 (St.start w []) ?_
  by_cases he : hldErr N c = 0
  rotate_left
  · repeat' (conv => whnf); first | (refine VNew.mk fun b3 => ?_) | (refine VCall.isF 39 ?_; refine VCall.valR (fun w' hw' => hchk w' _ hw') ?_) | (refine VSeq.go ?_) | (refine VB.is ?_; refine VB.yes (by omega) fun _ => ?_) | (refine VLd.is ?_; refine VLd.mk (.row aT (by rfl)) ?_)
    all_goals (conv => whnf)
    exact ⟨fun w' hw' => ⟨false, rfl, ⟨fun h => (by cases h), fun h => absurd h.1 he⟩, hw'.le .nil⟩⟩
  obtain ⟨hkind, hn0, _, _⟩ := clmErr_zero (hldErr_zero he).2
  obtain ⟨one, hone⟩ : ∃ one, c.ns[0]? = some one := ⟨c.ns[0]'(by omega), List.getElem?_eq_getElem _⟩
  rw [he] at hchk ⊢
  rcases hkind with hk1 | hk2
  · have hk := kinds_any c.kind
    have e1 : kindA c.kind = .agg #[.func (.func 146) #[] #[], .func (.func 147) #[] #[]] := by unfold kindA; rw [if_pos hk1]
    have e2 : decide (c.kind = 1 ∨ c.kind = 2) = true := decide_eq_true (.inl hk1)
    rw [e1, e2] at hk
    repeat' (conv => whnf); first | (refine VNew.mk fun b3 => ?_) | (refine VCall.isF 39 ?_; refine VCall.valR (fun w' hw' => hchk w' _ hw') ?_) | (refine VCall.isF 87 ?_; refine VCall.val hk ?_) | (refine VCall.isF 146 ?_; (refine VCall.genR (fun w' hw' => vleads_any c hc (by omega) hone l hl pc cc bc oc pe ce be oe w' (h5.keep hw' (by simp)) (h3.keep hw' (by simp))) ?_; intro b hb)) | (refine VSeq.go ?_) | (refine VB.is ?_; refine VB.no (by omega) fun _ => ?_) | (refine VLd.is ?_; refine VLd.mk (.row aT (by rfl)) ?_) | (refine VSt.is ?_; refine VSt.row aT (by rfl) (by first | rfl | assumption) ?_)
    all_goals (conv => whnf)
    exact ⟨fun w' hw' => ⟨_, rfl, by rw [hb]; unfold HoldsP; rw [if_pos hk1]; exact ⟨fun h => ⟨rfl, h⟩, fun h => h.2⟩, hw'.le .nil⟩⟩
  · have hk := kinds_any c.kind
    have hk1 : ¬ c.kind = 1 := by omega
    have e1 : kindA c.kind = .agg #[.func (.func 148) #[] #[], .func (.func 149) #[] #[]] := by unfold kindA; rw [if_neg hk1, if_pos hk2]
    have e2 : decide (c.kind = 1 ∨ c.kind = 2) = true := decide_eq_true (.inr hk2)
    rw [e1, e2] at hk
    repeat' (conv => whnf); first | (refine VNew.mk fun b3 => ?_) | (refine VCall.isF 39 ?_; refine VCall.valR (fun w' hw' => hchk w' _ hw') ?_) | (refine VCall.isF 87 ?_; refine VCall.val hk ?_) | (refine VCall.isF 148 ?_; (refine VCall.genR (fun w' hw' => vcounts_any c hc (by omega) l hl pc cc bc oc pe ce be oe w' (h5.keep hw' (by simp)) (h3.keep hw' (by simp))) ?_; intro b hb)) | (refine VSeq.go ?_) | (refine VB.is ?_; refine VB.no (by omega) fun _ => ?_) | (refine VLd.is ?_; refine VLd.mk (.row aT (by rfl)) ?_) | (refine VSt.is ?_; refine VSt.row aT (by rfl) (by first | rfl | assumption) ?_)
    all_goals (conv => whnf)
    exact ⟨fun w' hw' => ⟨_, rfl, by rw [hb]; unfold HoldsP; rw [if_neg hk1]; exact ⟨fun h => ⟨rfl, h⟩, fun h => h.2⟩, hw'.le .nil⟩⟩

end Go.Proofs
end
