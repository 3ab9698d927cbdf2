import Derived.Test.YtephkjicokbckaaGreatDoorVerifyCertainHd
import Derived.Test.YtephkjicokbckaaGreatDoorVerifyCertainCv
import Derived.Test.YtephkjicokbckaaGreatDoorVerifyCertainGd
set_option linter.unusedVariables false

set_option linter.unusedSimpArgs false

namespace Go.Proofs

open Go Go.Vx Go.Gm

def FitRow (ns : List Int) (row sp : List Int) : Prop := ∀ i ∈ ns, (vAt row i = 2 → i ∈ sp) ∧ (vAt row i = 0 → i ∉ sp) ∧ (vAt row i = 0 ∨ vAt row i = 1 ∨ vAt row i = 2)

def Fits (ns : List Int) : List (List Int) → List (List Int) → Prop
  | [], [] => True
  | r :: V, s :: S => FitRow ns r s ∧ Fits ns V S
  | _, _ => False

theorem cntRow_fit {row sp : List Int} : ∀ {ns : List Int}, FitRow ns row sp → cntRow 2 row ns ≤ ns.countP (fun i => decide (i ∈ sp)) ∧ ns.countP (fun i => decide (i ∈ sp)) ≤ cntRow 2 row ns + cntRow 1 row ns
  | [], _ => by simp [cntRow]
  | n :: ns, h => by
    obtain ⟨ih1, ih2⟩ := cntRow_fit (ns := ns) fun i hi => h i (List.mem_cons_of_mem _ hi)
    obtain ⟨h2, h0, hv⟩ := h n List.mem_cons_self
    unfold cntRow at ih1 ih2 ⊢
    simp only [List.countP_cons, decide_eq_true_eq]
    rcases hv with e | e | e
    · have := h0 e
      simp only [e, this, if_false]
      simp only [show ¬ ((0 : Int) = 2) from by omega, show ¬ ((0 : Int) = 1) from by omega, if_false]
      omega
    · simp only [e, show ¬ ((1 : Int) = 2) from by omega, if_false, if_true]
      split <;> omega
    · have := h2 e
      simp only [e, this, if_true]
      simp only [show ¬ ((2 : Int) = 1) from by omega, if_false, if_true]
      omega

theorem cntRows_fit {ns : List Int} : ∀ {V S : List (List Int)}, Fits ns V S →
    cntRows 2 V ns ≤ (S.map fun sp => ns.countP fun i => decide (i ∈ sp)).sum ∧ (S.map fun sp => ns.countP fun i => decide (i ∈ sp)).sum ≤ cntRows 2 V ns + cntRows 1 V ns
  | [], [], _ => by simp [cntRows]
  | r :: V, s :: S, h => by
    obtain ⟨h1, h2⟩ := cntRow_fit h.1
    obtain ⟨h3, h4⟩ := cntRows_fit h.2
    unfold cntRows at h3 h4 ⊢
    simp only [List.map_cons, List.sum_cons]
    omega
  | [], _ :: _, h => h.elim
  | _ :: _, [], h => h.elim

theorem lead_one {ns : List Int} {one : Int} {others : List Int} (h1 : one ∈ ns) (ho : ∀ i ∈ others, i ∈ ns) : ∀ {V S : List (List Int)} {alone quiet : Bool}, Fits ns V S → leadRows one others V alone quiet = 1 →
    alone = true ∧ ∃ (j : Nat) (sp : List Int), S[j]? = some sp ∧ one ∈ sp ∧ ∀ (k : Nat) (s : List Int), k ≤ j → S[k]? = some s → ∀ i ∈ others, i ∉ s
  | [], [], alone, quiet, _, h => by
    unfold leadRows at h
    split at h <;> omega
  | r :: V, s :: S, alone, quiet, hf, h => by
    unfold leadRows at h
    split at h
    · omega
    · split at h
      · rename_i _ hv
        split at h
        · rename_i ha
          refine ⟨ha.1, 0, s, rfl, (hf.1 one h1).1 hv, fun k s' hk hs i hi => ?_⟩
          have hk0 : k = 0 := by omega
          subst hk0
          simp only [List.getElem?_cons_zero, Option.some.injEq] at hs
          subst hs
          have := List.all_eq_true.1 ha.2 i hi
          exact (hf.1 i (ho i hi)).2.1 (of_decide_eq_true this)
        · omega
      · obtain ⟨ha, j, sp, hj, hsp, hall⟩ := lead_one h1 ho hf.2 h
        rw [Bool.and_eq_true] at ha
        refine ⟨ha.1, j + 1, sp, hj, hsp, fun k s' hk hs i hi => ?_⟩
        cases k with
        | zero =>
          simp only [List.getElem?_cons_zero, Option.some.injEq] at hs
          subst hs
          have := List.all_eq_true.1 ha.2 i hi
          exact (hf.1 i (ho i hi)).2.1 (of_decide_eq_true this)
        | succ k => exact hall k s' (by omega) hs i hi
  | [], _ :: _, _, _, h, _ => h.elim
  | _ :: _, [], _, _, h, _ => h.elim

theorem lead_neg {ns : List Int} {one : Int} {others : List Int} (h1 : one ∈ ns) (ho : ∀ i ∈ others, i ∈ ns) : ∀ {V S : List (List Int)} {alone quiet : Bool}, Fits ns V S → leadRows one others V alone quiet = -1 →
    quiet = true ∧ ((∀ (j : Nat) (sp : List Int), S[j]? = some sp → one ∉ sp) ∨ ∃ (j : Nat) (sp : List Int), S[j]? = some sp ∧ (∃ i ∈ others, i ∈ sp) ∧ ∀ (k : Nat) (s : List Int), k < j → S[k]? = some s → one ∉ s)
  | [], [], alone, quiet, _, h => by
    unfold leadRows at h
    split at h
    · exact ⟨‹_›, .inl (by simp)⟩
    · omega
  | r :: V, s :: S, alone, quiet, hf, h => by
    unfold leadRows at h
    split at h
    · rename_i hq
      obtain ⟨hq, i, hi, hv⟩ := hq
      exact ⟨hq, .inr ⟨0, s, rfl, ⟨i, hi, (hf.1 i (ho i hi)).1 hv⟩, fun k _ hk => by omega⟩⟩
    · split at h
      · split at h <;> omega
      · obtain ⟨hq, hr⟩ := lead_neg h1 ho hf.2 h
        rw [Bool.and_eq_true, decide_eq_true_eq] at hq
        have h0 := (hf.1 one h1).2.1 hq.2
        refine ⟨hq.1, ?_⟩
        rcases hr with hr | ⟨j, sp, hj, hi, hk⟩
        · refine .inl fun j sp hj => ?_
          cases j with
          | zero =>
            simp only [List.getElem?_cons_zero, Option.some.injEq] at hj
            subst hj
            exact h0
          | succ j => exact hr j sp hj
        · refine .inr ⟨j + 1, sp, hj, hi, fun k s' hk' hs => ?_⟩
          cases k with
          | zero =>
            simp only [List.getElem?_cons_zero, Option.some.injEq] at hs
            subst hs
            exact h0
          | succ k => exact hk k s' (by omega) hs
  | [], _ :: _, _, _, h, _ => h.elim
  | _ :: _, [], _, _, h, _ => h.elim

theorem leadRows_in (one : Int) (others : List Int) : ∀ (V : List (List Int)) (a q : Bool), -1 ≤ leadRows one others V a q ∧ leadRows one others V a q ≤ 1
  | [], a, q => by unfold leadRows; split <;> omega
  | r :: V, a, q => by
    unfold leadRows
    split
    · omega
    · split
      · split <;> omega
      · exact leadRows_in one others V _ _

theorem fits_of {ns : List Int} {V S : List (List Int)} (hl : V.length = S.length) (h : ∀ (j : Nat) r s, V[j]? = some r → S[j]? = some s → FitRow ns r s) : Fits ns V S := by
  induction V generalizing S with
  | nil => cases S with
    | nil => trivial
    | cons s S => simp at hl
  | cons r V ih => cases S with
    | nil => simp at hl
    | cons s S =>
      simp only [List.length_cons] at hl
      exact ⟨h 0 r s rfl rfl, ih (by omega) fun j r' s' h1 h2 => h (j + 1) r' s' h1 h2⟩

def winS (N : Net) (L : List Evt) (F n : Nat) : List (List Int) := (List.range n).map fun j => spkAt N L (F + j)

theorem winS_get {N : Net} {L : List Evt} {F n j : Nat} (h : j < n) : (winS N L F n)[j]? = some (spkAt N L (F + j)) := by
  unfold winS
  rw [List.getElem?_map, List.getElem?_range h]; rfl

theorem winS_some {N : Net} {L : List Evt} {F n j : Nat} {sp : List Int} (h : (winS N L F n)[j]? = some sp) : j < n ∧ sp = spkAt N L (F + j) := by
  have hlt : j < n := by
    have := (List.getElem?_eq_some_iff.1 h).1
    unfold winS at this
    simpa using this
  rw [winS_get hlt, Option.some.injEq] at h
  exact ⟨hlt, h.symm⟩

theorem sub_len : ∀ {A B : List Int}, A.Nodup → (∀ x ∈ A, x ∈ B) → A.length ≤ B.length
  | [], _, _, _ => by simp
  | a :: A, B, h, hs => by
    obtain ⟨h1, h2⟩ := List.nodup_cons.1 h
    have ha := hs a List.mem_cons_self
    have := sub_len (A := A) (B := B.erase a) h2 fun x hx => (List.mem_erase_of_ne (fun e => h1 (by rw [← e]; exact hx))).2 (hs x (List.mem_cons_of_mem _ hx))
    rw [List.length_erase_of_mem ha] at this
    have := List.length_pos_of_mem ha
    simp only [List.length_cons]
    omega

theorem both_len {A B : List Int} (hA : A.Nodup) (hB : B.Nodup) : (A.filter fun i => decide (i ∈ B)).length = B.countP fun i => decide (i ∈ A) := by
  rw [List.countP_eq_length_filter]
  have h1 := sub_len (A := A.filter fun i => decide (i ∈ B)) (B := B.filter fun i => decide (i ∈ A)) (hA.filter _) fun x hx => by
    rw [List.mem_filter, decide_eq_true_eq] at hx ⊢
    exact ⟨hx.2, hx.1⟩
  have h2 := sub_len (A := B.filter fun i => decide (i ∈ A)) (B := A.filter fun i => decide (i ∈ B)) (hB.filter _) fun x hx => by
    rw [List.mem_filter, decide_eq_true_eq] at hx ⊢
    exact ⟨hx.2, hx.1⟩
  omega

theorem spkAt_nodup (N : Net) (L : List Evt) (t : Nat) : (spkAt N L t).Nodup := by
  have := (spkFrom_lt (fire N.ps (stAt N L t).sts (((stAt N L t).D[t % 16]?).getD [])) 0).1
  exact this.imp fun h => by omega

theorem about_tick (N : Net) (L : List Evt) (c : Clm) (hn : c.ns.Nodup) (t : Nat) : (aboutL c ((spkAt N L t).map fun i => (⟨(t : Int), i⟩ : Evt))).length = if c.frm ≤ (t : Int) ∧ (t : Int) < c.to then c.ns.countP (fun i => decide (i ∈ spkAt N L t)) else 0 := by
  rw [← both_len (spkAt_nodup N L t) hn]
  unfold aboutL
  rw [List.filter_map, List.length_map]
  by_cases h : c.frm ≤ (t : Int) ∧ (t : Int) < c.to
  · rw [if_pos h]
    congr 1
    refine List.filter_congr fun i _ => ?_
    unfold inC
    simp [h.1, h.2]
  · rw [if_neg h, List.filter_eq_nil_iff.2 fun i _ => ?_]
    · rfl
    · show ¬ decide (inC c ⟨(t : Int), i⟩) = true
      rw [decide_eq_true_eq]
      exact fun h2 => h ⟨h2.1, h2.2.1⟩

theorem about_next (N : Net) (L : List Evt) (c : Clm) (hn : c.ns.Nodup) (t : Nat) : (aboutL c (outTo N L (t + 1))).length = (aboutL c (outTo N L t)).length + if c.frm ≤ (t : Int) ∧ (t : Int) < c.to then c.ns.countP (fun i => decide (i ∈ spkAt N L t)) else 0 := by
  rw [← about_tick N L c hn]
  unfold aboutL
  rw [outTo, List.filter_append, List.length_append]

theorem about_before (N : Net) (L : List Evt) (c : Clm) (hn : c.ns.Nodup) : ∀ t : Nat, (t : Int) ≤ c.frm → (aboutL c (outTo N L t)).length = 0
  | 0, _ => rfl
  | t + 1, h => by rw [about_next N L c hn, about_before N L c hn t (by omega), if_neg (by omega)]

theorem about_in (N : Net) (L : List Evt) (c : Clm) (hn : c.ns.Nodup) {F : Nat} (hF : c.frm = (F : Int)) : ∀ j : Nat, ((F + j : Nat) : Int) ≤ c.to → (aboutL c (outTo N L (F + j))).length = ((winS N L F j).map fun sp => c.ns.countP fun i => decide (i ∈ sp)).sum
  | 0, _ => by rw [Nat.add_zero, about_before N L c hn F (by omega)]; rfl
  | j + 1, h => by
    rw [← Nat.add_assoc, about_next N L c hn, about_in N L c hn hF j (by omega), if_pos (by omega)]
    unfold winS
    rw [List.range_succ, List.map_append, List.map_append, List.sum_append]
    simp

theorem about_behind (N : Net) (L : List Evt) (c : Clm) (hn : c.ns.Nodup) {T : Nat} (hT : c.to = (T : Int)) : ∀ j : Nat, (aboutL c (outTo N L (T + j))).length = (aboutL c (outTo N L T)).length
  | 0 => rfl
  | j + 1 => by rw [← Nat.add_assoc, about_next N L c hn, about_behind N L c hn hT j, if_neg (by omega), Nat.add_zero]

theorem least_ex {P : Nat → Prop} : ∀ n : Nat, P n → ∃ m, m ≤ n ∧ P m ∧ ∀ k, k < m → ¬ P k := by
  intro n
  induction n using Nat.strongRecOn with
  | ind n ih =>
    intro h
    by_cases hk : ∃ k, k < n ∧ P k
    · obtain ⟨k, hk, hp⟩ := hk
      obtain ⟨m, h1, h2, h3⟩ := ih k hk hp
      exact ⟨m, by omega, h2, h3⟩
    · exact ⟨n, Nat.le_refl _, h, fun k hk2 hp => hk ⟨k, hk2, hp⟩⟩

theorem about_out {N : Net} {L : List Evt} {c : Clm} {F T U : Nat} (hF : c.frm = (F : Int)) (hT : c.to = (T : Int)) (hU : T ≤ U) {y : Evt} : y ∈ aboutL c (outTo N L U) ↔ ∃ j : Nat, F + j < T ∧ y.tick = ((F + j : Nat) : Int) ∧ y.id ∈ c.ns ∧ y.id ∈ spkAt N L (F + j) := by
  have hm : ∀ {U : Nat} {y : Evt}, y ∈ outTo N L U ↔ ∃ t : Nat, t < U ∧ y.tick = (t : Int) ∧ y.id ∈ spkAt N L t := by
    intro U
    induction U with
    | zero => intro y; simp [outTo]
    | succ U ih =>
      intro y
      rw [outTo, List.mem_append, ih, List.mem_map]
      constructor
      · rintro (⟨t, h1, h2, h3⟩ | ⟨i, hi, rfl⟩)
        · exact ⟨t, by omega, h2, h3⟩
        · exact ⟨U, by omega, rfl, hi⟩
      · rintro ⟨t, h1, h2, h3⟩
        by_cases h : t < U
        · exact .inl ⟨t, h, h2, h3⟩
        · have e : t = U := by omega
          subst e
          refine .inr ⟨y.id, h3, ?_⟩
          rw [← h2]
  rw [mem_aboutL, hm]
  unfold inC
  constructor
  · rintro ⟨⟨t, h1, h2, h3⟩, h4, h5, h6⟩
    exact ⟨t - F, by omega, by omega, h6, by rw [show F + (t - F) = t by omega]; exact h3⟩
  · rintro ⟨j, h1, h2, h3, h4⟩
    exact ⟨⟨F + j, by omega, h2, h4⟩, by omega, by omega, h3⟩

theorem certV_sound {N : Net} {L : List Evt} {c : Clm} {out : List (List Int)} (hc : clmErr N.ps.length c = 0) (hto : c.to ≤ (out.length : Int)) (hfit : ∀ (t : Nat) row, out[t]? = some row → FitRow c.ns row (spkAt N L t)) :
    (-1 ≤ certV c out ∧ certV c out ≤ 1) ∧ (certV c out = 1 → HoldsP c (outTo N L out.length)) ∧ (certV c out = -1 → ¬ HoldsP c (outTo N L out.length)) := by
  obtain ⟨hk, hn0, ⟨hin, hnd⟩, hr⟩ := clmErr_zero hc
  obtain ⟨F, hF⟩ : ∃ F : Nat, c.frm = (F : Int) := ⟨c.frm.toNat, by omega⟩
  obtain ⟨T, hT⟩ : ∃ T : Nat, c.to = (T : Int) := ⟨c.to.toNat, by omega⟩
  have eF : c.frm.toNat = F := by omega
  have eT : c.to.toNat = T := by omega
  unfold certV HoldsP
  rw [eF, eT]
  have hfits : Fits c.ns ((out.drop F).take (T - F)) (winS N L F (T - F)) := by
    refine fits_of (by unfold winS; simp; omega) fun j r s h1 h2 => ?_
    obtain ⟨hj, rfl⟩ := winS_some h2
    rw [List.getElem?_take, if_pos hj, List.getElem?_drop] at h1
    exact hfit _ r h1
  obtain ⟨V, hV⟩ : ∃ V, (out.drop F).take (T - F) = V := ⟨_, rfl⟩
  rw [hV] at hfits ⊢
  by_cases hk1 : c.kind = 1
  · rw [if_pos hk1, if_pos hk1]
    unfold certLead
    cases hns : c.ns with
    | nil => rw [hns] at hn0; simp at hn0
    | cons one others =>
      dsimp only
      rw [hns] at hfits hnd
      have hno := (List.nodup_cons.1 hnd).1
      have h1 : one ∈ one :: others := List.mem_cons_self
      have ho : ∀ i ∈ others, i ∈ one :: others := fun i hi => List.mem_cons_of_mem _ hi
      have h00 : c.ns[0]? = some one := by rw [hns]; rfl
      refine ⟨leadRows_in _ _ _ _ _, fun h => ?_, fun h => ?_⟩
      · obtain ⟨_, j, sp, hj, hsp, hall⟩ := lead_one h1 ho hfits h
        obtain ⟨hjn, rfl⟩ := winS_some hj
        obtain ⟨m, hm1, hm2, hm3⟩ := least_ex (P := fun j => one ∈ spkAt N L (F + j)) j hsp
        refine ⟨⟨((F + m : Nat) : Int), one⟩, (about_out hF hT (by omega)).2 ⟨m, by omega, rfl, by rw [hns]; exact h1, hm2⟩, fun y hy => ?_⟩
        obtain ⟨k, hk, hyt, hyn, hys⟩ := (about_out hF hT (by omega)).1 hy
        rw [hns] at hyn
        rcases List.mem_cons.1 hyn with e | hyo
        · have : m ≤ k := by
            rcases Nat.lt_or_ge k m with hlt | hge
            · exact absurd (e ▸ hys) (hm3 k hlt)
            · exact hge
          exact ⟨by dsimp only; omega, fun _ => by rw [h00, e]⟩
        · have : j < k := by
            rcases Nat.lt_or_ge j k with hlt | hge
            · exact hlt
            · exact absurd hys (hall k _ hge (winS_get (by omega)) y.id hyo)
          exact ⟨by dsimp only; omega, fun e => by dsimp only at e; omega⟩
      · obtain ⟨_, hr⟩ := lead_neg h1 ho hfits h
        rintro ⟨x, hx, hall⟩
        obtain ⟨k, hk, hxt, hxn, hxs⟩ := (about_out hF hT (by omega)).1 hx
        have hx1 : x.id = one := by
          have := (hall x hx).2 rfl
          rw [h00, Option.some.injEq] at this
          exact this.symm
        rw [hx1] at hxs
        rcases hr with hr | ⟨j, sp, hj, ⟨i, hi, his⟩, hbef⟩
        · exact hr k _ (winS_get (by omega)) hxs
        · obtain ⟨hjn, rfl⟩ := winS_some hj
          have hy := hall ⟨((F + j : Nat) : Int), i⟩ ((about_out hF hT (by omega)).2 ⟨j, by omega, rfl, by rw [hns]; exact ho i hi, his⟩)
          dsimp only at hy
          have hkj : k = j := by
            rcases Nat.lt_trichotomy k j with hlt | he | hgt
            · exact absurd hxs (hbef k _ hlt (winS_get (by omega)))
            · exact he
            · omega
          have := hy.2 (by omega)
          rw [h00, Option.some.injEq] at this
          subst this
          exact hno hi
  · rw [if_neg hk1, if_neg hk1]
    obtain ⟨h1, h2⟩ := cntRows_fit hfits
    have h3 := about_in N L c hnd hF (T - F) (by omega)
    have h4 := about_behind N L c hnd hT (out.length - T)
    rw [show F + (T - F) = T by omega] at h3
    rw [show T + (out.length - T) = out.length by omega, h3] at h4
    unfold certCount CountsP
    rw [h4]
    refine ⟨?_, fun h => ?_, fun h => ?_⟩
    · split
      · omega
      · split <;> omega
    · split at h
      · omega
      · split at h <;> omega
    · split at h
      · omega
      · split at h
        · omega
        · omega

end Go.Proofs
