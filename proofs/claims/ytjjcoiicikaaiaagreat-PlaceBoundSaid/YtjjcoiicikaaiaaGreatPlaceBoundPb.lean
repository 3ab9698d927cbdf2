import Derived.Test.YtjjcoiicikaaiaaGreatPlaceBoundPw
set_option linter.unusedVariables false

set_option linter.unusedSimpArgs false

namespace Go.Gm

theorem rte_last {W : Int} (hW : 0 < W) {t : Int} : ∀ (n : Nat) (r : Int), distM W r t = n → r ≠ t → ∃ q ∈ rte W r t, nextM W q (turnM W q t) = t ∧ turnM W q t ≠ 16
  | 0, r, h, hne => absurd ((dist_zero hW).1 h) hne
  | n + 1, r, h, hne => by
    have hd := dist_step hW hne
    rw [rte_step hW hne]
    by_cases hl : nextM W r (turnM W r t) = t
    · exact ⟨r, List.mem_cons_self, hl, fun e => hne ((turn_local hW).1 e)⟩
    · obtain ⟨q, h1, h2⟩ := rte_last hW n _ (by omega) hl
      exact ⟨q, List.mem_cons_of_mem _ h1, h2⟩

theorem links_len (t : List Int) : linksM t = ((outsM t).filter fun o => decide (o.2 ≠ 16)).length := by
  have h1 : ∀ (r : Nat) (x : Int), ((outsOf r x).filter fun o => decide (o.2 ≠ 16)).length = linkN x := by
    intro r x
    unfold outsOf linkN
    rw [List.filter_map, List.length_map, List.filter_filter, ← List.countP_eq_length_filter]
    simp only [List.countP_cons, List.countP_nil, Function.comp]
    simp
  unfold linksM outsM
  have key : ∀ (l : List Int) (k : Nat), (l.map linkN).sum = ((((l.zipIdx k).map fun x => outsOf x.2 x.1).flatten).filter fun o => decide (o.2 ≠ 16)).length := by
    intro l
    induction l with
    | nil => intro k; rfl
    | cons x l ih =>
      intro k
      rw [List.map_cons, List.sum_cons, List.zipIdx_cons, List.map_cons, List.flatten_cons, List.filter_append, List.length_append, h1, ih (k + 1)]
  exact key t 0

theorem sub_lenG {α : Type} [DecidableEq α] : ∀ {A B : List α}, A.Nodup → (∀ x ∈ A, x ∈ B) → A.length ≤ B.length
  | [], _, _, _ => by simp
  | a :: A, B, h, hs => by
    obtain ⟨h1, h2⟩ := List.nodup_cons.1 h
    have ha := hs a List.mem_cons_self
    have := sub_lenG (A := A) (B := B.erase a) h2 fun x hx => (List.mem_erase_of_ne (fun e => h1 (by rw [← e]; exact hx))).2 (hs x (List.mem_cons_of_mem _ hx))
    rw [List.length_erase_of_mem ha] at this
    have := List.length_pos_of_mem ha
    simp only [List.length_cons]
    omega

theorem links_ge {W H src : Int} (hW : 0 < W) (hs : 0 ≤ src ∧ src < W * H) {ts : List Int} (h : ∀ t ∈ ts, 0 ≤ t ∧ t < W * H) (hn : ts.Nodup) : (ts.filter fun t => decide (t ≠ src)).length ≤ linksM (treeM W (W * H).toNat src ts) := by
  rw [links_len]
  refine Nat.le_trans (sub_lenG (B := ((outsM (treeM W (W * H).toNat src ts)).filter fun o => decide (o.2 ≠ 16)).map fun o => nextM W o.1 o.2) (List.Pairwise.filter _ hn) fun t ht => ?_) (by rw [List.length_map]; exact Nat.le_refl _)
  rw [List.mem_filter, decide_eq_true_eq] at ht
  obtain ⟨ht1, ht2⟩ := ht
  obtain ⟨q, h1, h2, h3⟩ := rte_last hW _ src rfl (Ne.symm ht2)
  have hq := rte_range hW (h t ht1) _ src rfl hs q h1
  have hb : isOut (turnM W q t) := turn_cases W q t
  refine List.mem_map.2 ⟨(q, turnM W q t), List.mem_filter.2 ⟨mem_outsM.2 ⟨⟨hq.1, hb⟩, ?_⟩, by simpa using h3⟩, h2⟩
  exact (tree_has hW hs hb hq.1 h).2 ⟨t, ht1, h1, rfl⟩

theorem mem_coresM {N : Net} {C : Chp} {cores : List Int} {key k : Int} : k ∈ coresM N C cores key ↔ (0 ≤ k ∧ k < nCores C) ∧ ∃ s ∈ N.syns, keyM N s.frm = key ∧ cores[s.to.toNat]? = some k := by
  unfold coresM
  rw [List.mem_filter, decide_eq_true_eq]
  have := mem_allC (C := C) (k := k)
  unfold allC at this
  rw [this]

theorem coresM_nodup (N : Net) (C : Chp) (cores : List Int) (key : Int) : (coresM N C cores key).Nodup := by
  unfold coresM
  refine List.Pairwise.filter _ ?_
  rw [List.pairwise_map]
  exact List.nodup_range.imp fun h e => h (by omega)

theorem useN_range (cores : List Int) (d : Int) : useN cores d = ((List.range cores.length).filter fun i => decide (cores[i]? = some d)).length := by
  unfold useN
  refine snoc_ind (P := fun cores : List Int => (cores.countP fun c => decide (c = d)) = ((List.range cores.length).filter fun i => decide (cores[i]? = some d)).length) rfl (fun l x ih => ?_) cores
  rw [List.countP_append, List.length_append, List.length_singleton, List.range_succ, List.filter_append, List.length_append, ih]
  congr 1
  · congr 1
    refine List.filter_congr fun i hi => ?_
    rw [List.mem_range] at hi
    rw [List.getElem?_append_left hi]
  · rw [List.countP_cons, List.countP_nil, List.filter_cons, List.filter_nil]
    simp only [List.getElem?_concat_length, Option.some.injEq, decide_eq_true_eq]
    split <;> simp

theorem pigeon {cores : List Int} {m : Nat} : ∀ {D : List Int} {S : List Nat}, (∀ d ∈ D, useN cores d ≤ m) → D.Nodup → S.Nodup → (∀ i ∈ S, ∃ d ∈ D, cores[i]? = some d) → S.length ≤ D.length * m
  | [], S, _, _, _, h => by
    cases S with
    | nil => simp
    | cons i S => obtain ⟨d, hd, _⟩ := h i List.mem_cons_self; cases hd
  | d :: D, S, hu, hD, hS, h => by
    have h1 := hu d List.mem_cons_self
    rw [useN_range] at h1
    have h2 : (S.filter fun i => decide (cores[i]? = some d)).length ≤ m := by
      refine Nat.le_trans (sub_lenG (List.Pairwise.filter _ hS) fun i hi => ?_) h1
      rw [List.mem_filter] at hi ⊢
      refine ⟨?_, hi.2⟩
      have := of_decide_eq_true hi.2
      rw [List.mem_range]
      exact (List.getElem?_eq_some_iff.1 this).1
    have h3 : (S.filter fun i => !decide (cores[i]? = some d)).length ≤ D.length * m := by
      refine pigeon (fun e he => hu e (List.mem_cons_of_mem _ he)) (List.nodup_cons.1 hD).2 (List.Pairwise.filter _ hS) fun i hi => ?_
      rw [List.mem_filter] at hi
      obtain ⟨e, he, hc⟩ := h i hi.1
      rcases List.mem_cons.1 he with rfl | he
      · simp [hc] at hi
      · exact ⟨e, he, hc⟩
    have h4 : S.length = (S.filter fun i => decide (cores[i]? = some d)).length + (S.filter fun i => !decide (cores[i]? = some d)).length := by
      rw [← List.countP_eq_length_filter, ← List.countP_eq_length_filter]
      have := List.length_eq_countP_add_countP (fun i => decide (cores[i]? = some d)) (l := S)
      simpa using this
    rw [List.length_cons, Nat.add_mul, Nat.one_mul]
    omega

theorem core_of {N : Net} {C : Chp} {cores : List Int} (h : AsgOk N C cores) {s : Syn} (hs : s ∈ N.syns) : ∃ d, cores[s.to.toNat]? = some d ∧ (0 ≤ d ∧ d < nCores C) := by
  have ht := (h.plan.net.syns s hs).2.1
  have hl := h.len
  have hlt : s.to.toNat < cores.length := by omega
  refine ⟨cores[s.to.toNat], List.getElem?_eq_getElem hlt, ?_⟩
  have := (h.core _ (List.getElem_mem hlt)).1
  have := (nCores_ok h.plan.chip).1
  omega

theorem home_range {N : Net} {C : Chp} {cores : List Int} (h : AsgOk N C cores) (key : Int) (hk : 0 ≤ key) : 0 ≤ homeM N cores key ∧ homeM N cores key < nCores C := by
  have hn := nCores_ok h.plan.chip
  unfold homeM
  split
  · have hlt : key.toNat < cores.length := by have := h.len; omega
    rw [List.getElem?_eq_getElem hlt, Option.getD_some]
    have := (h.core _ (List.getElem_mem hlt)).1
    omega
  · omega

theorem low_key {N : Net} {C : Chp} {cores : List Int} (h : AsgOk N C cores) {key : Int} (hk : 0 ≤ key ∧ key < nSrc N) : 0 ≤ lowK N C key ∧ lowK N C key ≤ if (∃ s ∈ N.syns, keyM N s.frm = key) then (linksM (srcTree N C cores key) : Int) else 0 := by
  have hn := nCores_ok h.plan.chip
  have hnr := h.plan.chip.nr
  have hW := h.plan.chip.mesh.wide
  unfold lowK
  by_cases he : tgtM N N.syns key = []
  · rw [if_pos he]
    split
    · exact ⟨by omega, by omega⟩
    · exact ⟨by omega, by omega⟩
  rw [if_neg he]
  obtain ⟨t0, ht0⟩ := List.exists_mem_of_ne_nil _ he
  obtain ⟨s0, hs0, hk0, _⟩ := mem_tgtM.1 ht0
  rw [if_pos (show ∃ s ∈ N.syns, keyM N s.frm = key from ⟨s0, hs0, hk0⟩)]
  obtain ⟨T, hT⟩ : ∃ T, tgtM N N.syns key = T := ⟨_, rfl⟩
  rw [hT] at he ⊢
  have hTn : T.Nodup := by rw [← hT]; exact tgt_nodup _ _ List.nodup_nil
  have hTr : ∀ t ∈ T, 0 ≤ t ∧ t < N.ps.length := fun t ht => by
    rw [← hT] at ht
    obtain ⟨s, hs, _, rfl⟩ := mem_tgtM.1 ht
    have := (h.plan.net.syns s hs).2.1
    omega
  have hT1 : 1 ≤ T.length := List.length_pos_iff.2 he
  obtain ⟨D, hD⟩ : ∃ D, coresM N C cores key = D := ⟨_, rfl⟩
  obtain ⟨hm, hhm⟩ : ∃ hm, homeM N cores key = hm := ⟨_, rfl⟩
  have hhr := home_range h key hk.1
  rw [hhm] at hhr
  have hDn : D.Nodup := by rw [← hD]; exact coresM_nodup _ _ _ _
  have hDr : ∀ d ∈ D, 0 ≤ d ∧ d < C.mesh.wide * C.mesh.high := fun d hd => by
    rw [← hD] at hd
    have := (mem_coresM.1 hd).1
    omega
  have hlk : (D.filter fun t => decide (t ≠ hm)).length ≤ linksM (srcTree N C cores key) := by
    unfold srcTree
    rw [hD, hhm]
    exact links_ge (by omega) (by omega) hDr hDn
  have hTD : ∀ t ∈ T, ∃ d ∈ D, cores[t.toNat]? = some d := fun t ht => by
    rw [← hT] at ht
    obtain ⟨s, hs, h1, rfl⟩ := mem_tgtM.1 ht
    obtain ⟨d, h2, h3⟩ := core_of h hs
    exact ⟨d, by rw [← hD]; exact mem_coresM.2 ⟨h3, s, hs, h1, h2⟩, h2⟩
  -- all neurons, and all cores
  obtain ⟨S, hS⟩ : ∃ S : List Int, (if key < N.ps.length ∧ key ∉ T then T ++ [key] else T) = S := ⟨_, rfl⟩
  obtain ⟨E, hE⟩ : ∃ E : List Int, (if key < N.ps.length ∧ hm ∉ D then D ++ [hm] else D) = E := ⟨_, rfl⟩
  have hSl : (S.length : Int) = (T.length : Int) + (if key < N.ps.length ∧ key ∉ T then 1 else 0) := by
    rw [← hS]
    split <;> simp
  have hSn : S.Nodup := by
    rw [← hS]
    split
    · rename_i hh
      exact List.nodup_append.2 ⟨hTn, by simp, fun a ha b hb e => by rw [List.mem_singleton] at hb; subst hb; subst e; exact hh.2 ha⟩
    · exact hTn
  have hEn : E.Nodup := by
    rw [← hE]
    split
    · rename_i hh
      exact List.nodup_append.2 ⟨hDn, by simp, fun a ha b hb e => by rw [List.mem_singleton] at hb; subst hb; subst e; exact hh.2 ha⟩
    · exact hDn
  have hSr : ∀ t ∈ S, (0 ≤ t ∧ t < N.ps.length) ∧ ∃ d ∈ E, cores[t.toNat]? = some d := fun t ht => by
    have hDE : ∀ d ∈ D, d ∈ E := fun d hd => by
      rw [← hE]
      split
      · exact List.mem_append_left _ hd
      · exact hd
    have hTT : t ∈ T → (0 ≤ t ∧ t < N.ps.length) ∧ ∃ d ∈ E, cores[t.toNat]? = some d := fun h1 => by
      obtain ⟨d, hd, hc⟩ := hTD t h1
      exact ⟨hTr t h1, d, hDE d hd, hc⟩
    rw [← hS] at ht
    split at ht
    · rename_i hh
      rcases List.mem_append.1 ht with h1 | h1
      · exact hTT h1
      · rw [List.mem_singleton] at h1
        subst h1
        refine ⟨⟨hk.1, hh.1⟩, hm, ?_, ?_⟩
        · rw [← hE]
          by_cases hd : hm ∈ D
          · rw [if_neg (fun h => h.2 hd)]; exact hd
          · rw [if_pos ⟨hh.1, hd⟩]; simp
        · unfold homeM at hhm
          rw [if_pos hh.1] at hhm
          have hlt : t.toNat < cores.length := by have := h.len; omega
          rw [List.getElem?_eq_getElem hlt, Option.getD_some] at hhm
          rw [List.getElem?_eq_getElem hlt, hhm]
    · exact hTT ht
  have hEr : ∀ d ∈ E, 0 ≤ d ∧ d < nCores C := fun d hd => by
    rw [← hE] at hd
    split at hd
    · rcases List.mem_append.1 hd with h1 | h1
      · have := hDr d h1; omega
      · rw [List.mem_singleton] at h1; subst h1; omega
    · have := hDr d hd; omega
  have hpig : S.length ≤ E.length * C.nr.toNat := by
    have := pigeon (cores := cores) (m := C.nr.toNat) (D := E) (S := S.map Int.toNat) (fun d hd => by
      obtain ⟨g1, g2⟩ := hEr d hd
      obtain ⟨j, rfl⟩ : ∃ j : Nat, d = j := ⟨d.toNat, by omega⟩
      have := (h.fits j (by omega)).1
      omega) hEn (by
        rw [List.Nodup, List.pairwise_map]
        exact List.Pairwise.imp_of_mem (fun {a b} ha hb hne e => hne (by have := (hSr a ha).1; have := (hSr b hb).1; omega)) hSn) (fun i hi => by
        obtain ⟨t, ht, rfl⟩ := List.mem_map.1 hi
        exact (hSr t ht).2)
    rwa [List.length_map] at this
  have hEl : (E.length : Int) - 1 ≤ linksM (srcTree N C cores key) := by
    have h1 : D.length ≤ (D.filter fun t => decide (t ≠ hm)).length + 1 := by
      have := sub_lenG (A := D) (B := hm :: D.filter fun t => decide (t ≠ hm)) hDn fun x hx => by
        by_cases e : x = hm
        · rw [e]; exact List.mem_cons_self
        · exact List.mem_cons_of_mem _ (List.mem_filter.2 ⟨hx, by simpa using e⟩)
      simpa using this
    rw [← hE]
    split
    · rename_i hh
      have h2 : D.filter (fun t => decide (t ≠ hm)) = D := List.filter_eq_self.2 fun x hx => by
        rw [decide_eq_true_eq]
        exact fun e => hh.2 (e ▸ hx)
      rw [h2] at hlk
      rw [List.length_append, List.length_singleton]
      omega
    · omega
  rw [← hSl]
  have hS1 : 1 ≤ S.length := by
    rw [← hS]
    split
    · rw [List.length_append]; omega
    · exact hT1
  refine ⟨Int.ediv_nonneg (by omega) (by omega), ?_⟩
  refine Int.le_trans (b := (E.length : Int) - 1) ?_ hEl
  have hp2 : (S.length : Int) ≤ (E.length : Int) * C.nr := by
    have e : ((E.length * C.nr.toNat : Nat) : Int) = (E.length : Int) * C.nr := by
      rw [Int.natCast_mul, Int.toNat_of_nonneg (by omega)]
    omega
  have : ((S.length : Int) - 1) / C.nr < (E.length : Int) := by
    rw [Int.ediv_lt_iff_lt_mul (by omega)]
    omega
  omega

theorem low_le {N : Net} {C : Chp} {cores : List Int} (h : AsgOk N C cores) : 0 ≤ lowM N C ∧ lowM N C ≤ costM N C cores := by
  have key : ∀ l : List Int, (∀ k ∈ l, 0 ≤ k ∧ k < nSrc N) → 0 ≤ (l.map (lowK N C)).sum ∧ (l.map (lowK N C)).sum ≤ (((l.filter fun k => decide (∃ s ∈ N.syns, keyM N s.frm = k)).map fun k => linksM (srcTree N C cores k)).sum : Nat) := by
    intro l
    induction l with
    | nil => intro _; simp
    | cons k l ih =>
      intro hl
      have h1 := ih fun x hx => hl x (List.mem_cons_of_mem _ hx)
      have h2 := low_key h (hl k List.mem_cons_self)
      rw [List.map_cons, List.sum_cons, List.filter_cons]
      by_cases hs : ∃ s ∈ N.syns, keyM N s.frm = k
      · rw [if_pos hs] at h2
        rw [if_pos (decide_eq_true hs), List.map_cons, List.sum_cons]
        omega
      · rw [if_neg hs] at h2
        rw [if_neg (by simpa using hs)]
        omega
  have h1 := key ((List.range (nSrc N)).map fun (k : Nat) => (k : Int)) (fun k hk => by
    obtain ⟨j, hj, rfl⟩ := List.mem_map.1 hk
    rw [List.mem_range] at hj
    omega)
  unfold lowM costM keysM
  rw [List.map_map] at h1
  exact h1

end Go.Gm
