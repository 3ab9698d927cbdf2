/- Cs: spikes do not depend on later events, nor on events at inputs that do not reach their neurons; in plain Lean. -/
import Derived.Test.YtbnipfgbfnhibaaSm
import Derived.Test.YtbnipfgbfnhibaaRp
set_option linter.unusedVariables false
set_option linter.unusedSimpArgs false
namespace Go.Proofs
open Go Go.Gm

theorem EvOk.sub {inputs limit : Int} {l m : List Evt} (h : EvOk inputs limit l) (hm : m.Sublist l) : EvOk inputs limit m :=
  ⟨Nat.le_trans hm.length_le h.few, fun x hx => h.range x (hm.subset hx), h.sorted.sublist hm⟩

/-! ### Later events -/

def early (a : Nat) (l : List Evt) : List Evt := l.filter fun e => decide (e.tick < (a : Int))

theorem insAt_early' {a t : Nat} (h : t < a) (l : List Evt) : insAt (early a l) t = insAt l t := by
  unfold insAt early
  rw [List.filter_filter]
  congr 1
  apply List.filter_congr
  intro e _
  by_cases he : e.tick = (t : Int)
  · have : e.tick < (a : Int) := by omega
    simp [he, h]
  · simp [he]

theorem stAt_early (N : Net) (a : Nat) (l : List Evt) : ∀ t : Nat, t ≤ a → stAt N (early a l) t = stAt N l t
  | 0, _ => rfl
  | t + 1, h => by
    have ih := stAt_early N a l t (by omega)
    show ringStep N t (stAt N (early a l) t) (insAt (early a l) t) = ringStep N t (stAt N l t) (insAt l t)
    rw [ih, insAt_early' (by omega)]

def upto (a : Int) (l : List Evt) : List Evt := l.filter fun e => decide (e.tick ≤ a)

theorem out_early (N : Net) (a : Nat) (l : List Evt) : ∀ t : Nat, upto a (outTo N (early a l) t) = upto a (outTo N l t)
  | 0 => rfl
  | t + 1 => by
    have ih := out_early N a l t
    unfold upto at ih ⊢
    simp only [outTo, List.filter_append]
    rw [ih]
    congr 1
    by_cases h : t ≤ a
    · unfold spkAt
      rw [stAt_early N a l t h]
    · have e : ∀ m : List Int, (m.map fun i => (⟨(t : Int), i⟩ : Evt)).filter (fun e => decide (e.tick ≤ (a : Int))) = [] := by
        intro m
        rw [List.filter_eq_nil_iff]
        intro x hx
        obtain ⟨i, _, rfl⟩ := List.mem_map.1 hx
        simp only [decide_eq_true_eq]
        omega
      rw [e, e]

/-! ### Inputs that do not reach -/

/-- A number is not reached from an input. -/
def Free (N : Net) (k : Int) (f : Int) : Prop := ¬ Reaches N (-1 - k) f

theorem wadd_i64 (a b : Int) : I64 (wadd a b) := by unfold wadd I64; omega

theorem wadd_zero {a : Int} (h : I64 a) : wadd a 0 = a := by unfold wadd; unfold I64 at h; omega

def InR (D : List (List Int)) : Prop := ∀ r ∈ D, ∀ a ∈ r, I64 a

theorem InR.add {D : List (List Int)} (h : InR D) (t : Nat) (s : Syn) : InR (due1 t D s) := by
  intro r hr a ha
  unfold due1 at hr
  obtain ⟨i, hi⟩ := List.getElem?_of_mem hr
  rw [List.getElem?_modify] at hi
  cases hD : D[i]? with
  | none => rw [hD] at hi; simp at hi
  | some d =>
    have hd := h d (List.mem_of_getElem? hD)
    rw [hD] at hi
    simp only [Option.map_eq_map, Option.map_some, Option.some.injEq] at hi
    split at hi
    · subst hi
      obtain ⟨j, hj⟩ := List.getElem?_of_mem ha
      rw [List.getElem?_modify] at hj
      cases hdj : d[j]? with
      | none => rw [hdj] at hj; simp at hj
      | some b =>
        rw [hdj] at hj
        simp only [Option.map_eq_map, Option.map_some, Option.some.injEq] at hj
        split at hj
        · subst hj; exact wadd_i64 _ _
        · subst hj; exact hd b (List.mem_of_getElem? hdj)
    · subst hi; exact hd a ha

theorem InR.adds (t : Nat) : ∀ (l : List Syn) {D : List (List Int)}, InR D → InR (l.foldl (due1 t) D)
  | [], _, h => h
  | s :: l, _, h => InR.adds t l (h.add t s)

theorem InR.zero {D : List (List Int)} (h : InR D) (a : Nat) : InR (D.modify a fun l => List.replicate l.length 0) := by
  intro r hr x hx
  obtain ⟨i, hi⟩ := List.getElem?_of_mem hr
  rw [List.getElem?_modify] at hi
  cases hD : D[i]? with
  | none => rw [hD] at hi; simp at hi
  | some d =>
    rw [hD] at hi
    simp only [Option.map_eq_map, Option.map_some, Option.some.injEq] at hi
    split at hi
    · subst hi
      have := List.eq_of_mem_replicate hx
      subst this
      unfold I64; omega
    · subst hi; exact h d (List.mem_of_getElem? hD) x hx

/-- The same where the neuron is free. -/
def Agree (N : Net) (k : Int) (D E : List (List Int)) : Prop := ∀ (r i : Nat), Free N k i → (E[r]?).map (fun l => l[i]?) = (D[r]?).map (fun l => l[i]?)

theorem due1_col (t : Nat) (D : List (List Int)) (s : Syn) (r i : Nat) : ((due1 t D s)[r]?).map (fun l => l[i]?) = (D[r]?).map (fun l => if (t + s.dl.toNat) % 16 = r ∧ s.to.toNat = i then (l[i]?).map (fun a => wadd a s.wt) else l[i]?) := by
  unfold due1
  rw [List.getElem?_modify]
  cases hD : D[r]? with
  | none => simp
  | some d =>
    simp only [Option.map_eq_map, Option.map_some]
    by_cases hr : (t + s.dl.toNat) % 16 = r
    · simp only [hr, if_true, true_and, List.getElem?_modify, Option.map_eq_map]
      by_cases hi : s.to.toNat = i
      · simp [hi]
      · simp [hi]
    · simp [hr]

theorem Agree.both {N : Net} {k : Int} {D E : List (List Int)} (h : Agree N k D E) (t : Nat) (s : Syn) : Agree N k (due1 t D s) (due1 t E s) := by
  intro r i hf
  have := h r i hf
  rw [due1_col, due1_col]
  cases hD : D[r]? with
  | none =>
    rw [hD] at this
    cases hE : E[r]? with
    | none => rfl
    | some e => rw [hE] at this; simp at this
  | some d =>
    rw [hD] at this
    cases hE : E[r]? with
    | none => rw [hE] at this; simp at this
    | some e =>
      rw [hE] at this
      simp only [Option.map_some, Option.some.injEq] at this ⊢
      rw [this]

/-- A synapse without a weight, or to a neuron that is reached, changes nothing here. -/
theorem due1_none {N : Net} {k : Int} {D : List (List Int)} (hD : InR D) (t : Nat) {s : Syn} (hs : 0 ≤ s.to) (h : s.wt = 0 ∨ ¬ Free N k s.to) {r i : Nat} (hf : Free N k i) : ((due1 t D s)[r]?).map (fun l => l[i]?) = (D[r]?).map (fun l => l[i]?) := by
  rw [due1_col]
  cases hd : D[r]? with
  | none => rfl
  | some d =>
    simp only [Option.map_some, Option.some.injEq]
    by_cases hi : (t + s.dl.toNat) % 16 = r ∧ s.to.toNat = i
    · rw [if_pos hi]
      rcases h with h | h
      · cases hdi : d[i]? with
        | none => rfl
        | some a =>
          simp only [Option.map_some]
          rw [h, wadd_zero (hD d (List.mem_of_getElem? hd) a (List.mem_of_getElem? hdi))]
      · exact absurd (by rw [show s.to = (i : Int) by omega]; exact hf) h
    · rw [if_neg hi]

theorem Agree.folds {N : Net} {k : Int} {t : Nat} {S T : List Int} (hST : ∀ f, Free N k f → (f ∈ T ↔ f ∈ S)) : ∀ (l : List Syn) {D E : List (List Int)}, (∀ s ∈ l, s ∈ N.syns ∧ 0 ≤ s.to) → InR D → InR E → Agree N k D E →
    Agree N k ((l.filter fun s => decide (s.frm ∈ S)).foldl (due1 t) D) ((l.filter fun s => decide (s.frm ∈ T)).foldl (due1 t) E)
  | [], _, _, _, _, _, h => h
  | s :: l, D, E, hl, hD, hE, h => by
    have hs := hl s (by simp)
    have hl' : ∀ s ∈ l, s ∈ N.syns ∧ 0 ≤ s.to := fun x hx => hl x (by simp [hx])
    have hcase : (s.wt = 0 ∨ ¬ Free N k s.to) ∨ (s.frm ∈ T ↔ s.frm ∈ S) := by
      by_cases hw : s.wt = 0
      · exact .inl (.inl hw)
      · by_cases hf : Free N k s.to
        · refine .inr (hST s.frm fun hr => hf (hr.step ⟨s, hs.1, hw, rfl, rfl⟩))
        · exact .inl (.inr hf)
    simp only [List.filter_cons]
    by_cases h1 : s.frm ∈ S <;> by_cases h2 : s.frm ∈ T
    · simp only [h1, h2, decide_true, if_true, List.foldl_cons]
      exact Agree.folds hST l hl' (hD.add t s) (hE.add t s) (h.both t s)
    · simp only [h1, h2, decide_true, decide_false, if_true, Bool.false_eq_true, if_false, List.foldl_cons]
      rcases hcase with hc | hc
      · exact Agree.folds hST l hl' (hD.add t s) hE (fun r i hf => (h r i hf).trans (due1_none hD t hs.2 hc hf).symm)
      · exact absurd (hc.2 h1) h2
    · simp only [h1, h2, decide_true, decide_false, if_true, Bool.false_eq_true, if_false, List.foldl_cons]
      rcases hcase with hc | hc
      · exact Agree.folds hST l hl' hD (hE.add t s) (fun r i hf => (due1_none hE t hs.2 hc hf).trans (h r i hf))
      · exact absurd (hc.1 h2) h1
    · simp only [h1, h2, decide_false, Bool.false_eq_true, if_false]
      exact Agree.folds hST l hl' hD hE h

def others (k : Int) (l : List Evt) : List Evt := l.filter fun e => decide (e.id ≠ k)

theorem insAt_others (k : Int) (l : List Evt) (t : Nat) : insAt (others k l) t = (insAt l t).filter fun i => decide (i ≠ k) := by
  unfold insAt others
  rw [List.filter_map, List.filter_filter, List.filter_filter]
  congr 1
  apply List.filter_congr
  intro e _
  simp only [Function.comp]
  exact Bool.and_comm _ _

structure AgreeS (N : Net) (k : Int) (x y : Sm) : Prop where
  sts : ∀ i : Nat, Free N k i → y.sts[i]? = x.sts[i]?
  due : Agree N k x.D y.D
  inx : InR x.D
  iny : InR y.D

theorem AgreeS.fire {N : Net} {k : Int} {t : Nat} {x y : Sm} (hx : SmOk N x) (hy : SmOk N y) (h : AgreeS N k x y) {i : Nat} (hf : Free N k i) :
    (Gm.fire N.ps y.sts ((y.D[t % 16]?).getD []))[i]? = (Gm.fire N.ps x.sts ((x.D[t % 16]?).getD []))[i]? := by
  have l1 := hx.fire t
  have l2 := hy.fire t
  by_cases hi : i < N.ps.length
  · obtain ⟨r, hr, hrl⟩ := hx.row t
    obtain ⟨r', hr', hrl'⟩ := hy.row t
    have hd := h.due (t % 16) i hf
    rw [hr, hr'] at hd
    simp only [Option.map_some, Option.some.injEq] at hd
    obtain ⟨p, hp⟩ : ∃ p, N.ps[i]? = some p := ⟨_, List.getElem?_eq_getElem hi⟩
    obtain ⟨s, hss⟩ : ∃ s, x.sts[i]? = some s := ⟨_, List.getElem?_eq_getElem (by rw [hx.sts]; exact hi)⟩
    obtain ⟨a, ha⟩ : ∃ a, r[i]? = some a := ⟨_, List.getElem?_eq_getElem (by rw [hrl]; exact hi)⟩
    rw [hr, hr', Option.getD_some, Option.getD_some, fire_get hp hss ha]
    exact fire_get hp ((h.sts i hf).trans hss) (hd.trans ha)
  · rw [List.getElem?_eq_none (by omega), List.getElem?_eq_none (by omega)]

theorem AgreeS.spk {N : Net} {k : Int} {t : Nat} {x y : Sm} (hx : SmOk N x) (hy : SmOk N y) (h : AgreeS N k x y) {f : Int} (hf : Free N k f) : f ∈ ringSpk N t y ↔ f ∈ ringSpk N t x := by
  by_cases h0 : 0 ≤ f
  · have hff := h.fire (t := t) hx hy (i := f.toNat) (by rw [show ((f.toNat : Nat) : Int) = f by omega]; exact hf)
    unfold ringSpk Gm.spk
    rw [spkFrom_mem, spkFrom_mem]
    constructor
    · rintro ⟨j, hj, s, h1⟩
      have : f.toNat = j := by omega
      rw [this] at hff
      exact ⟨j, hj, s, hff ▸ h1⟩
    · rintro ⟨j, hj, s, h1⟩
      have : f.toNat = j := by omega
      rw [this] at hff
      exact ⟨j, hj, s, hff.trans h1⟩
  · constructor
    · intro hh; have := spk_range hy hh; omega
    · intro hh; have := spk_range hx hh; omega

theorem AgreeS.step {N : Net} (hN : NetOk N) {k : Int} {t : Nat} {x y : Sm} (hx : SmOk N x) (hy : SmOk N y) (h : AgreeS N k x y) {ins : List Int} (h0 : ∀ k ∈ ins, 0 ≤ k) (hn : ins.Nodup) :
    AgreeS N k (ringStep N t x ins) (ringStep N t y (ins.filter fun i => decide (i ≠ k))) := by
  rw [ringStep_filter N t x h0 hn, ringStep_filter N t y (fun i hi => h0 i (List.mem_filter.1 hi).1) (hn.sublist List.filter_sublist)]
  have hST : ∀ f, Free N k f → (f ∈ (ringSpk N t y ++ (ins.filter fun i => decide (i ≠ k)).map fun k => -1 - k) ↔ f ∈ (ringSpk N t x ++ ins.map fun k => -1 - k)) := by
    intro f hf
    rw [List.mem_append, List.mem_append, h.spk hx hy hf]
    refine or_congr Iff.rfl ⟨fun hm => ?_, fun hm => ?_⟩
    · obtain ⟨a, ha, rfl⟩ := List.mem_map.1 hm
      exact List.mem_map.2 ⟨a, (List.mem_filter.1 ha).1, rfl⟩
    · obtain ⟨a, ha, rfl⟩ := List.mem_map.1 hm
      refine List.mem_map.2 ⟨a, List.mem_filter.2 ⟨ha, ?_⟩, rfl⟩
      simp only [decide_eq_true_eq]
      intro e
      subst e
      exact hf .refl
  have hz : Agree N k (x.D.modify (t % 16) fun l => List.replicate l.length 0) (y.D.modify (t % 16) fun l => List.replicate l.length 0) := by
    intro r i hf
    have hd1 := h.due r i hf
    rw [List.getElem?_modify, List.getElem?_modify]
    by_cases hr : t % 16 = r
    · cases hE' : y.D[r]? with
      | none =>
        rw [hE'] at hd1
        cases hD' : x.D[r]? with
        | none => rfl
        | some d => rw [hD'] at hd1; simp at hd1
      | some e' =>
        rw [hE'] at hd1
        cases hD' : x.D[r]? with
        | none => rw [hD'] at hd1; simp at hd1
        | some d =>
          have l1 := hx.rows d (List.mem_of_getElem? hD')
          have l2 := hy.rows e' (List.mem_of_getElem? hE')
          simp only [hr, if_true, Option.map_some, Option.map_eq_map, l1, l2]
    · simp only [hr, if_false, Option.map_eq_map, Option.map_map]
      exact hd1
  refine ⟨fun i hf => ?_, ?_, InR.adds t _ (h.inx.zero _), InR.adds t _ (h.iny.zero _)⟩
  · dsimp only
    rw [List.getElem?_map, List.getElem?_map, h.fire (t := t) hx hy hf]
  · exact Agree.folds hST N.syns (fun s hs => ⟨hs, by have := hN.syns s hs; unfold synOk at this; omega⟩) (h.inx.zero _) (h.iny.zero _) hz

theorem agree_st {N : Net} (hN : NetOk N) {inputs limit : Int} {l : List Evt} (hl : EvOk inputs limit l) (k : Int) : ∀ t : Nat, AgreeS N k (stAt N l t) (stAt N (others k l) t)
  | 0 => by
    have hr : InR (sm0 N).D := by
      intro r hr a ha
      have := List.eq_of_mem_replicate hr
      subst this
      have := List.eq_of_mem_replicate ha
      subst this
      unfold I64; omega
    exact ⟨fun _ _ => rfl, fun _ _ _ => rfl, hr, hr⟩
  | t + 1 => by
    have hn := insAt_nodup hl t
    have := (agree_st hN hl k t).step hN (t := t) (stAt_ok hN l t) (stAt_ok hN (others k l) t) hn.2 hn.1
    rw [← insAt_others] at this
    exact this

/-- The events of neurons that a list of marks does not mark. -/
def unmarked (L : List Bool) (l : List Evt) : List Evt := l.filter fun e => decide (e.id < 0) || decide ((L.length : Int) ≤ e.id) || !((L[e.id.toNat]?).getD true)

theorem filter_sorted_eq {p : Int → Bool} {a b : List Int} (ha : a.Pairwise (· < ·)) (hb : b.Pairwise (· < ·)) (h : ∀ x, p x = true → (x ∈ b ↔ x ∈ a)) : b.filter p = a.filter p := by
  have hperm : (b.filter p).Perm (a.filter p) := by
    refine (List.perm_ext_iff_of_nodup ((hb.imp fun h => by omega).sublist List.filter_sublist) ((ha.imp fun h => by omega).sublist List.filter_sublist)).2 fun x => ?_
    rw [List.mem_filter, List.mem_filter]
    constructor
    · rintro ⟨h1, h2⟩; exact ⟨(h x h2).1 h1, h2⟩
    · rintro ⟨h1, h2⟩; exact ⟨(h x h2).2 h1, h2⟩
  refine hperm.eq_of_pairwise (le := fun x y : Int => x < y) (fun x y _ _ h1 h2 => by omega) (hb.sublist List.filter_sublist) (ha.sublist List.filter_sublist)

theorem out_others {N : Net} (hN : NetOk N) {inputs limit : Int} {l : List Evt} (hl : EvOk inputs limit l) {k : Int} {L : List Bool} (hL : IsReach N [-1 - k] L) : ∀ t : Nat, unmarked L (outTo N (others k l) t) = unmarked L (outTo N l t)
  | 0 => rfl
  | t + 1 => by
    have ih := out_others hN hl hL t
    unfold unmarked at ih ⊢
    simp only [outTo, List.filter_append]
    rw [ih]
    congr 1
    rw [List.filter_map, List.filter_map]
    congr 1
    refine filter_sorted_eq ((spkFrom_lt _ 0).1) ((spkFrom_lt _ 0).1) fun x hx => ?_
    have hag := agree_st hN hl k t
    have hok1 := stAt_ok hN l t
    have hok2 := stAt_ok hN (others k l) t
    by_cases hr : 0 ≤ x ∧ x < N.ps.length
    · refine hag.spk (t := t) hok1 hok2 ?_
      simp only [Function.comp] at hx
      have hlen := hL.len
      obtain ⟨b, hb⟩ : ∃ b, L[x.toNat]? = some b := ⟨_, List.getElem?_eq_getElem (by omega)⟩
      rw [hb] at hx
      have hbf : b = false := by
        have h1 : ¬ x < 0 := by omega
        have h2 : ¬ (L.length : Int) ≤ x := by omega
        simp only [h1, h2, decide_false, Bool.false_or, Option.getD_some, Bool.not_eq_true', Bool.or_self] at hx
        exact hx
      intro hre
      have := (hL.get x.toNat b hb).2 ⟨-1 - k, by simp, by rw [show ((x.toNat : Nat) : Int) = x by omega]; exact hre⟩
      rw [hbf] at this
      cases this
    · constructor
      · intro hh; exact absurd (spk_range hok2 hh) hr
      · intro hh; exact absurd (spk_range hok1 hh) hr

theorem run_zero {N : Net} {l : List Evt} {ticks : Int} (h : (runRes N l ticks).2 = 0) : prepErr N l ticks 10000 = 0 ∧ (runRes N l ticks).1 = outTo N l ticks.toNat := by
  have h0 : prepErr N l ticks 10000 = 0 := by
    unfold runRes at h
    by_cases hp : prepErr N l ticks 10000 = 0
    · exact hp
    · rw [if_pos hp] at h; exact absurd h hp
  have hq := runRes_eq h0
  refine ⟨h0, ?_⟩
  by_cases hx : 65536 < (outTo N l ticks.toNat).length
  · rw [hq, if_pos hx] at h; cases h
  · rw [hq, if_neg hx]

theorem run_part {N : Net} {l m : List Evt} {ticks : Int} (h : (runRes N l ticks).2 = 0) (hm : m.Sublist l) : (runRes N m ticks).2 = 0 ∨ (runRes N m ticks).2 = 8 := by
  obtain ⟨h0, _⟩ := run_zero h
  obtain ⟨h1, h2, h3⟩ := prep_zero.1 h0
  have := runRes_eq (prep_zero.2 ⟨h1, h2, EvOk.sub h3 hm⟩)
  rw [this]
  split
  · exact .inr rfl
  · exact .inl rfl

theorem early_runs {N : Net} {l : List Evt} {ticks : Int} (h : (runRes N l ticks).2 = 0) (a : Nat) (h2 : (runRes N (early a l) ticks).2 = 0) : upto a (runRes N (early a l) ticks).1 = upto a (runRes N l ticks).1 := by
  rw [(run_zero h).2, (run_zero h2).2]
  exact out_early N a l _

theorem others_runs {N : Net} {l : List Evt} {ticks : Int} (h : (runRes N l ticks).2 = 0) {k : Int} {L : List Bool} (hL : IsReach N [-1 - k] L) (h2 : (runRes N (others k l) ticks).2 = 0) : unmarked L (runRes N (others k l) ticks).1 = unmarked L (runRes N l ticks).1 := by
  obtain ⟨h0, h1⟩ := run_zero h
  obtain ⟨a, b, c⟩ := prep_zero.1 h0
  rw [h1, (run_zero h2).2]
  exact out_others a c hL _

end Go.Proofs
