/- Sm: runs of a renumbered network, in plain Lean. -/
import Derived.Test.YtbnipfgbfnhibaaGd
import Derived.Test.YtbnipfgbfnhibaaRn
set_option linter.unusedVariables false
set_option linter.unusedSimpArgs false
namespace Go.Proofs
open Go Go.Gm

theorem ringStep_filter (N : Net) (t : Nat) (x : Sm) {ins : List Int} (h0 : ∀ k ∈ ins, 0 ≤ k) (hn : ins.Nodup) :
    ringStep N t x ins = ⟨(fire N.ps x.sts ((x.D[t % 16]?).getD [])).map (·.1), (N.syns.filter fun s => decide (s.frm ∈ ringSpk N t x ++ ins.map fun k => -1 - k)).foldl (due1 t) (x.D.modify (t % 16) fun l => List.replicate l.length 0)⟩ := by
  have hnd : (ringSpk N t x ++ ins.map fun k => -1 - k).Nodup := by
    unfold ringSpk spk
    have hs := spkFrom_lt (fire N.ps x.sts ((x.D[t % 16]?).getD [])) 0
    refine List.nodup_append.2 ⟨hs.1.imp (fun h => by omega), ?_, fun a ha b hb hab => ?_⟩
    · exact List.Pairwise.map _ (fun a b hab h => hab (by omega)) hn
    · have h1 := hs.2 a ha
      obtain ⟨k, hk, rfl⟩ := List.mem_map.1 hb
      have := h0 k hk
      omega
  unfold ringStep
  simp only [Sm.mk.injEq, true_and]
  exact due1_perm (yields_perm N.syns hnd) _

/-- Only what is due. -/
def RenD (to : List Int) (D E : List (List Int)) : Prop := ∀ (r i : Nat) (k : Int), to[i]? = some k → (E[r]?).map (fun l => l[k.toNat]?) = (D[r]?).map (fun l => l[i]?)

/-- The states and the numbers that are due of a renumbered network. -/
structure RenS (to : List Int) (n : Nat) (x y : Sm) : Prop where
  sts : ∀ (i : Nat) (k : Int), to[i]? = some k → y.sts[k.toNat]? = x.sts[i]?
  due : RenD to x.D y.D

theorem putAll_get {n : Nat} {to : List Int} (hr : ∀ k ∈ to, 0 ≤ k ∧ k < n) (hn : to.Nodup) {ps : List Par} (hl : ps.length = to.length) {i : Nat} {k : Int} (h : to[i]? = some k) : (putAll n to ps)[k.toNat]? = ps[i]? := by
  have key : ∀ (m : Nat), m ≤ to.length → ∀ i k, i < m → to[i]? = some k → (putAll n (to.take m) (ps.take m))[k.toNat]? = ps[i]? := by
    intro m
    induction m with
    | zero => intro _ i k hi; omega
    | succ m ih =>
      intro hm i k hi hk
      obtain ⟨km, hkm⟩ : ∃ km, to[m]? = some km := ⟨_, List.getElem?_eq_getElem (by omega)⟩
      obtain ⟨pm, hpm⟩ : ∃ pm, ps[m]? = some pm := ⟨_, List.getElem?_eq_getElem (by omega)⟩
      rw [← putAll_next hkm hpm, List.getElem?_set]
      have hkr := hr k (List.mem_of_getElem? hk)
      have hkmr := hr km (List.mem_of_getElem? hkm)
      have hlen := putAll_length n (to.take m) (ps.take m)
      by_cases he : i = m
      · subst he
        rw [hk] at hkm
        cases hkm
        rw [if_pos rfl, if_pos (by omega), hpm]
      · have hne : ¬ km.toNat = k.toNat := by
          intro e
          have e2 : km = k := by omega
          subst e2
          obtain ⟨l1, e1⟩ := List.getElem?_eq_some_iff.1 hk
          obtain ⟨l2, e2⟩ := List.getElem?_eq_some_iff.1 hkm
          exact he ((List.getElem_inj hn).1 (e1.trans e2.symm))
        rw [if_neg hne]
        exact ih (by omega) i k (by omega) hk
  have hlt := (List.getElem?_eq_some_iff.1 h).1
  have := key to.length (Nat.le_refl _) i k hlt h
  rwa [List.take_of_length_le (Nat.le_refl _), List.take_of_length_le (by omega)] at this

theorem toAt_get {to : List Int} {i : Nat} {k : Int} (h : to[i]? = some k) : toAt to (i : Int) = k := by unfold toAt; simp [h]

/-- All of a renumbering that is valid. -/
structure RenOk (N : Net) (to : List Int) : Prop where
  net : NetOk N
  len : to.length = N.ps.length
  range : ∀ k ∈ to, 0 ≤ k ∧ k < N.ps.length
  nodup : to.Nodup

theorem RenOk.get {N : Net} {to : List Int} (h : RenOk N to) {i : Nat} (hi : i < N.ps.length) : ∃ k, to[i]? = some k ∧ 0 ≤ k ∧ k < N.ps.length :=
  ⟨to[i]'(by have := h.len; omega), List.getElem?_eq_getElem _, h.range _ (List.getElem_mem _)⟩

theorem RenOk.inj {N : Net} {to : List Int} (h : RenOk N to) {i j : Nat} {k : Int} (h1 : to[i]? = some k) (h2 : to[j]? = some k) : i = j := by
  obtain ⟨l1, e1⟩ := List.getElem?_eq_some_iff.1 h1
  obtain ⟨l2, e2⟩ := List.getElem?_eq_some_iff.1 h2
  exact (List.getElem_inj h.nodup).1 (e1.trans e2.symm)

/-- Each number below n is met. -/
theorem onto {n : Nat} {to : List Int} (hl : to.length = n) (hr : ∀ k ∈ to, 0 ≤ k ∧ k < n) (hn : to.Nodup) {j : Int} (hj : 0 ≤ j ∧ j < n) : j ∈ to := by
  apply Classical.byContradiction
  intro hne
  have := nodup_le n 0 (j :: to) (List.nodup_cons.2 ⟨hne, hn⟩) (fun x hx => by
    rcases List.mem_cons.1 hx with rfl | hx
    · omega
    · have := hr x hx; omega)
  simp only [List.length_cons] at this
  omega

theorem RenOk.from_ {N : Net} {to : List Int} (h : RenOk N to) {j : Int} (hj : 0 ≤ j ∧ j < N.ps.length) : ∃ i : Nat, i < N.ps.length ∧ to[i]? = some j := by
  obtain ⟨i, hi⟩ := List.getElem?_of_mem (onto h.len h.range h.nodup hj)
  exact ⟨i, by have := (List.getElem?_eq_some_iff.1 hi).1; have := h.len; omega, hi⟩

theorem renNet_ps {N : Net} {to : List Int} (h : RenOk N to) {i : Nat} {k : Int} (hk : to[i]? = some k) : (renNet N to).ps[k.toNat]? = N.ps[i]? := putAll_get h.range h.nodup h.len.symm hk

theorem renNet_len (N : Net) (to : List Int) : (renNet N to).ps.length = N.ps.length := putAll_length _ _ _

/-- A spike is a spike under the other number. -/
theorem RenS.fire {N : Net} {to : List Int} (h : RenOk N to) {t : Nat} {x y : Sm} (hx : SmOk N x) (hy : SmOk (renNet N to) y) (hs : RenS to N.ps.length x y) {i : Nat} {k : Int} (hk : to[i]? = some k) :
    (Gm.fire (renNet N to).ps y.sts ((y.D[t % 16]?).getD []))[k.toNat]? = (Gm.fire N.ps x.sts ((x.D[t % 16]?).getD []))[i]? := by
  have hi : i < N.ps.length := by have := (List.getElem?_eq_some_iff.1 hk).1; have := h.len; omega
  have hkr := h.range k (List.mem_of_getElem? hk)
  obtain ⟨r, hr, hrl⟩ := hx.row t
  obtain ⟨r', hr', hrl'⟩ := hy.row t
  have hd := hs.due (t % 16) i k hk
  rw [hr, hr'] at hd
  simp only [Option.map_some, Option.some.injEq] at hd
  obtain ⟨p, hp⟩ : ∃ p, N.ps[i]? = some p := ⟨_, List.getElem?_eq_getElem hi⟩
  obtain ⟨s, hss⟩ : ∃ s, x.sts[i]? = some s := ⟨_, List.getElem?_eq_getElem (by rw [hx.sts]; exact hi)⟩
  obtain ⟨a, ha⟩ : ∃ a, r[i]? = some a := ⟨_, List.getElem?_eq_getElem (by rw [hrl]; exact hi)⟩
  rw [hr, hr', Option.getD_some, Option.getD_some]
  rw [fire_get hp hss ha]
  exact fire_get ((renNet_ps h hk).trans hp) ((hs.sts i k hk).trans hss) (hd.trans ha)

theorem RenS.spk {N : Net} {to : List Int} (h : RenOk N to) {t : Nat} {x y : Sm} (hx : SmOk N x) (hy : SmOk (renNet N to) y) (hs : RenS to N.ps.length x y) {i : Nat} {k : Int} (hk : to[i]? = some k) :
    k ∈ ringSpk (renNet N to) t y ↔ (i : Int) ∈ ringSpk N t x := by
  have hf := hs.fire h (t := t) hx hy hk
  have hkr := h.range k (List.mem_of_getElem? hk)
  unfold ringSpk Gm.spk
  rw [spkFrom_mem, spkFrom_mem]
  constructor
  · rintro ⟨j, hj, s, h1⟩
    have : k.toNat = j := by omega
    rw [this] at hf
    exact ⟨i, by omega, s, hf ▸ h1⟩
  · rintro ⟨j, hj, s, h1⟩
    have : i = j := by omega
    subst this
    exact ⟨k.toNat, by omega, s, hf.trans h1⟩

theorem spk_range {N : Net} {t : Nat} {x : Sm} (hx : SmOk N x) {k : Int} (h : k ∈ ringSpk N t x) : 0 ≤ k ∧ k < N.ps.length := by
  unfold ringSpk Gm.spk at h
  obtain ⟨j, hj, s, hs⟩ := (spkFrom_mem _ 0 k).1 h
  have hl := hx.fire t
  have := (List.getElem?_eq_some_iff.1 hs).1
  omega

theorem RenS.src {N : Net} {to : List Int} (h : RenOk N to) {t : Nat} {x y : Sm} (hx : SmOk N x) (hy : SmOk (renNet N to) y) (hs : RenS to N.ps.length x y) {ins : List Int} (h0 : ∀ k ∈ ins, 0 ≤ k) {s : Syn} (hso : synOk N s) :
    (renSyn to s).frm ∈ (ringSpk (renNet N to) t y ++ ins.map fun k => -1 - k) ↔ s.frm ∈ (ringSpk N t x ++ ins.map fun k => -1 - k) := by
  unfold synOk srcOk at hso
  by_cases hf : 0 ≤ s.frm
  · obtain ⟨k, hk, hkr⟩ := h.get (i := s.frm.toNat) (by omega)
    have e : (renSyn to s).frm = k := by unfold renSyn; rw [if_pos hf]; unfold toAt; rw [hk]; rfl
    rw [e, List.mem_append, List.mem_append, hs.spk h (t := t) hx hy hk, show ((s.frm.toNat : Nat) : Int) = s.frm by omega]
    refine or_congr Iff.rfl ⟨fun hm => ?_, fun hm => ?_⟩
    · obtain ⟨a, ha, hb⟩ := List.mem_map.1 hm
      have := h0 a ha
      omega
    · obtain ⟨a, ha, hb⟩ := List.mem_map.1 hm
      have := h0 a ha
      omega
  · have e : (renSyn to s).frm = s.frm := by unfold renSyn; rw [if_neg hf]
    rw [e, List.mem_append, List.mem_append]
    refine or_congr ⟨fun hm => ?_, fun hm => ?_⟩ Iff.rfl
    · have := spk_range hy hm; omega
    · have := spk_range hx hm; omega

theorem RenD.add {N : Net} {to : List Int} (h : RenOk N to) {t : Nat} {D E : List (List Int)} (hd : RenD to D E) {s : Syn} (hso : synOk N s) : RenD to (due1 t D s) (due1 t E (renSyn to s)) := by
  unfold synOk at hso
  obtain ⟨u, hu, hur⟩ := h.get (i := s.to.toNat) (by omega)
  have e : (renSyn to s).to.toNat = u.toNat := by unfold renSyn toAt; simp only; rw [hu]; rfl
  intro r i k hk
  have hd1 := hd r i k hk
  have hkr := h.range k (List.mem_of_getElem? hk)
  unfold due1
  rw [e]
  show Option.map _ ((E.modify ((t + s.dl.toNat) % 16) _)[r]?) = Option.map _ ((D.modify ((t + s.dl.toNat) % 16) _)[r]?)
  rw [List.getElem?_modify, List.getElem?_modify]
  by_cases hr : (t + s.dl.toNat) % 16 = r
  · cases hE : E[r]? with
    | none =>
      rw [hE] at hd1
      cases hD : D[r]? with
      | none => rfl
      | some d => rw [hD] at hd1; simp at hd1
    | some e' =>
      rw [hE] at hd1
      cases hD : D[r]? with
      | none => rw [hD] at hd1; simp at hd1
      | some d =>
        rw [hD] at hd1
        simp only [Option.map_some, Option.some.injEq] at hd1
        simp only [hr, if_true, Option.map_some, Option.map_eq_map, List.getElem?_modify]
        by_cases hik : s.to.toNat = i
        · have hku : k = u := by rw [hik] at hu; rw [hk] at hu; exact Option.some.inj hu
          subst hku
          simp only [hik, if_true, hd1]
          rfl
        · have hne : ¬ u.toNat = k.toNat := by
            intro e2
            have : u = k := by omega
            subst this
            exact hik (h.inj hu hk)
          simp only [hik, hne, if_false, hd1]
  · simp only [hr, if_false, Option.map_eq_map, Option.map_map]
    exact hd1

theorem RenD.adds {N : Net} {to : List Int} (h : RenOk N to) {t : Nat} : ∀ (l : List Syn) {D E : List (List Int)}, RenD to D E → (∀ s ∈ l, synOk N s) → RenD to (l.foldl (due1 t) D) ((l.map (renSyn to)).foldl (due1 t) E)
  | [], _, _, hd, _ => hd
  | s :: l, _, _, hd, hl => RenD.adds h l (hd.add h (hl s (by simp))) (fun s hs => hl s (by simp [hs]))

end Go.Proofs
