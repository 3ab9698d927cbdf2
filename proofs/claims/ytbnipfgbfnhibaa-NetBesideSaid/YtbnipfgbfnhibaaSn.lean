/- Sn: a renumbered network has the same spikes, with the other numbers; sorting by insertion. -/
import Derived.Test.YtbnipfgbfnhibaaSm
set_option linter.unusedVariables false
set_option linter.unusedSimpArgs false
namespace Go.Proofs
open Go Go.Gm

theorem RenD.zero {N : Net} {to : List Int} (h : RenOk N to) {D E : List (List Int)} (hd : RenD to D E) (hD : ∀ r ∈ D, r.length = N.ps.length) (hE : ∀ r ∈ E, r.length = N.ps.length) (a : Nat) :
    RenD to (D.modify a fun l => List.replicate l.length 0) (E.modify a fun l => List.replicate l.length 0) := by
  intro r i k hk
  have hd1 := hd r i k hk
  have hkr := h.range k (List.mem_of_getElem? hk)
  have hi : i < N.ps.length := by have := (List.getElem?_eq_some_iff.1 hk).1; have := h.len; omega
  rw [List.getElem?_modify, List.getElem?_modify]
  by_cases hr : a = r
  · cases hE' : E[r]? with
    | none =>
      rw [hE'] at hd1
      cases hD' : D[r]? with
      | none => rfl
      | some d => rw [hD'] at hd1; simp at hd1
    | some e' =>
      rw [hE'] at hd1
      cases hD' : D[r]? with
      | none => rw [hD'] at hd1; simp at hd1
      | some d =>
        have l1 := hD d (List.mem_of_getElem? hD')
        have l2 := hE e' (List.mem_of_getElem? hE')
        simp only [hr, if_true, Option.map_some, Option.map_eq_map, List.getElem?_replicate, l1, l2]
        rw [if_pos (by omega), if_pos hi]
  · simp only [hr, if_false, Option.map_eq_map, Option.map_map]
    exact hd1

theorem RenS.step {N : Net} {to : List Int} (h : RenOk N to) {t : Nat} {x y : Sm} (hx : SmOk N x) (hy : SmOk (renNet N to) y) (hs : RenS to N.ps.length x y) {ins : List Int} (h0 : ∀ k ∈ ins, 0 ≤ k) (hn : ins.Nodup) :
    RenS to N.ps.length (ringStep N t x ins) (ringStep (renNet N to) t y ins) := by
  rw [ringStep_filter N t x h0 hn, ringStep_filter (renNet N to) t y h0 hn]
  refine ⟨fun i k hk => ?_, ?_⟩
  · have := hs.fire h (t := t) hx hy hk
    dsimp only
    rw [List.getElem?_map, List.getElem?_map, this]
  · dsimp only
    have e : (renNet N to).syns.filter (fun s => decide (s.frm ∈ ringSpk (renNet N to) t y ++ ins.map fun k => -1 - k)) = (N.syns.filter (fun s => decide (s.frm ∈ ringSpk N t x ++ ins.map fun k => -1 - k))).map (renSyn to) := by
      show (N.syns.map (renSyn to)).filter _ = _
      rw [List.filter_map]
      congr 1
      apply List.filter_congr
      intro s hs'
      have := hs.src h (t := t) hx hy h0 (h.net.syns s hs')
      simp only [Function.comp]
      exact decide_eq_decide.2 this
    rw [e]
    exact RenD.adds h _ (RenD.zero h hs.due hx.rows (fun r hr => (hy.rows r hr).trans (renNet_len N to)) _) (fun s hs' => h.net.syns s (List.mem_filter.1 hs').1)

theorem renNet_ok {N : Net} {to : List Int} (h : RenOk N to) : NetOk (renNet N to) := by
  have hl := renNet_len N to
  have hN := h.net
  have hsl : (renNet N to).syns.length = N.syns.length := by simp [renNet]
  refine ⟨by rw [hl]; exact hN.some, by rw [hl]; exact hN.few, hN.inputs, by rw [hsl]; exact hN.fewS, ?_, ?_⟩
  · intro p hp
    obtain ⟨j, hj⟩ := List.getElem?_of_mem hp
    have hlt := (List.getElem?_eq_some_iff.1 hj).1
    obtain ⟨i, hi, hk⟩ := h.from_ (j := (j : Int)) (by omega)
    have := renNet_ps h hk
    rw [show (j : Int).toNat = j by omega, hj] at this
    exact hN.ps p (List.mem_of_getElem? this.symm)
  · intro s hs
    obtain ⟨s0, hs0, rfl⟩ := List.mem_map.1 hs
    have hso := hN.syns s0 hs0
    unfold synOk srcOk at hso ⊢
    obtain ⟨u, hu, hur⟩ := h.get (i := s0.to.toNat) (by omega)
    have eu : (renSyn to s0).to = u := by unfold renSyn toAt; simp only; rw [hu]; rfl
    have ew : (renSyn to s0).wt = s0.wt ∧ (renSyn to s0).dl = s0.dl := ⟨rfl, rfl⟩
    have ei : (renNet N to).inputs = N.inputs := rfl
    have hin := hN.inputs
    by_cases hf : 0 ≤ s0.frm
    · obtain ⟨v, hv, hvr⟩ := h.get (i := s0.frm.toNat) (by omega)
      have ef : (renSyn to s0).frm = v := by unfold renSyn; rw [if_pos hf]; unfold toAt; rw [hv]; rfl
      omega
    · have ef : (renSyn to s0).frm = s0.frm := by unfold renSyn; rw [if_neg hf]
      omega

theorem ren_st {N : Net} {to : List Int} (h : RenOk N to) {inputs limit : Int} {l : List Evt} (hl : EvOk inputs limit l) : ∀ t : Nat, RenS to N.ps.length (stAt N l t) (stAt (renNet N to) l t)
  | 0 => by
    refine ⟨fun i k hk => ?_, fun r i k hk => ?_⟩
    · have hkr := h.range k (List.mem_of_getElem? hk)
      have hi : i < N.ps.length := by have := (List.getElem?_eq_some_iff.1 hk).1; have := h.len; omega
      show (List.replicate (renNet N to).ps.length (⟨0, 0⟩ : Sta))[k.toNat]? = (List.replicate N.ps.length (⟨0, 0⟩ : Sta))[i]?
      rw [renNet_len, List.getElem?_replicate, List.getElem?_replicate, if_pos (by omega), if_pos hi]
    · have hkr := h.range k (List.mem_of_getElem? hk)
      have hi : i < N.ps.length := by have := (List.getElem?_eq_some_iff.1 hk).1; have := h.len; omega
      show ((List.replicate 16 (List.replicate (renNet N to).ps.length (0 : Int)))[r]?).map _ = ((List.replicate 16 (List.replicate N.ps.length (0 : Int)))[r]?).map _
      rw [renNet_len, List.getElem?_replicate]
      split
      · simp only [Option.map_some, List.getElem?_replicate]
        rw [if_pos (by omega), if_pos hi]
      · rfl
  | t + 1 => by
    have hn := insAt_nodup hl t
    exact (ren_st h hl t).step h (stAt_ok h.net l t) (stAt_ok (renNet_ok h) l t) hn.2 hn.1

theorem outTo_range' {N : Net} (hN : NetOk N) (l : List Evt) : ∀ (t : Nat), ∀ e ∈ outTo N l t, 0 ≤ e.tick ∧ e.tick < t
  | 0, e, he => by simp [outTo] at he
  | t + 1, e, he => by
    simp only [outTo] at he
    rcases List.mem_append.1 he with he | he
    · have := outTo_range' hN l t e he
      omega
    · obtain ⟨i, hi, rfl⟩ := List.mem_map.1 he
      dsimp only
      omega

theorem ringSpk_nodup (N : Net) (t : Nat) (x : Sm) : (ringSpk N t x).Pairwise (· < ·) := (spkFrom_lt _ 0).1

def renEvt (to : List Int) (e : Evt) : Evt := ⟨e.tick, toAt to e.id⟩

theorem ren_spk {N : Net} {to : List Int} (h : RenOk N to) {inputs limit : Int} {l : List Evt} (hl : EvOk inputs limit l) (t : Nat) : (spkAt (renNet N to) l t).Perm ((spkAt N l t).map (toAt to)) := by
  have hx := stAt_ok h.net l t
  have hy := stAt_ok (renNet_ok h) l t
  have hs := ren_st h hl t
  refine (List.perm_ext_iff_of_nodup ((ringSpk_nodup _ _ _).imp fun h => by omega) ?_).2 fun k => ?_
  · refine List.pairwise_map.2 (List.Pairwise.imp_of_mem ?_ (ringSpk_nodup N t (stAt N l t)))
    intro a b ha hb hab e
    have ra := spk_range hx ha
    have rb := spk_range hx hb
    obtain ⟨u, hu, _⟩ := h.get (i := a.toNat) (by omega)
    obtain ⟨v, hv, _⟩ := h.get (i := b.toNat) (by omega)
    have ea : toAt to a = u := by unfold toAt; rw [hu]; rfl
    have eb : toAt to b = v := by unfold toAt; rw [hv]; rfl
    rw [ea, eb] at e
    subst e
    have := h.inj hu hv
    omega
  · constructor
    · intro hk
      have hr := spk_range hy hk
      rw [renNet_len] at hr
      obtain ⟨i, hi, hik⟩ := h.from_ hr
      exact List.mem_map.2 ⟨i, (hs.spk h hx hy hik).1 hk, toAt_get hik⟩
    · intro hk
      obtain ⟨a, ha, rfl⟩ := List.mem_map.1 hk
      have ra := spk_range hx ha
      obtain ⟨u, hu, _⟩ := h.get (i := a.toNat) (by omega)
      have ea : toAt to a = u := by unfold toAt; rw [hu]; rfl
      rw [ea]
      exact (hs.spk h hx hy hu).2 (by rw [show ((a.toNat : Nat) : Int) = a by omega]; exact ha)

theorem ren_out {N : Net} {to : List Int} (h : RenOk N to) {inputs limit : Int} {l : List Evt} (hl : EvOk inputs limit l) : ∀ t : Nat, (outTo (renNet N to) l t).Perm ((outTo N l t).map (renEvt to))
  | 0 => .refl _
  | t + 1 => by
    have := ren_out h hl t
    show (outTo (renNet N to) l t ++ (spkAt (renNet N to) l t).map _).Perm ((outTo N l t ++ (spkAt N l t).map _).map (renEvt to))
    rw [List.map_append]
    refine this.append (((ren_spk h hl t).map _).trans (.of_eq ?_))
    rw [List.map_map, List.map_map]
    rfl

/-- The spikes of a run are in order. -/
theorem outTo_sorted {N : Net} (hN : NetOk N) (l : List Evt) : ∀ t : Nat, (outTo N l t).Pairwise evLt
  | 0 => List.Pairwise.nil
  | t + 1 => by
    show (outTo N l t ++ (spkAt N l t).map fun i => (⟨t, i⟩ : Evt)).Pairwise evLt
    rw [List.pairwise_append]
    refine ⟨outTo_sorted hN l t, List.pairwise_map.2 ((ringSpk_nodup N t (stAt N l t)).imp fun h => .inr ⟨rfl, h⟩), fun a ha b hb => ?_⟩
    obtain ⟨i, hi, rfl⟩ := List.mem_map.1 hb
    have := outTo_range' hN l t a ha
    exact .inl this.2

/-! ### Sorting by insertion -/

instance (a b : Evt) : Decidable (evLt a b) := by unfold evLt; infer_instance

/-- Where an event is put, from k on downwards. -/
def insK (out : List Evt) (x : Evt) : Nat → Nat
  | 0 => 0
  | k + 1 => match out[k]? with
    | some y => if evLt x y then insK out x k else k + 1
    | none => k + 1

def insOne (out : List Evt) (x : Evt) : List Evt := out.take (insK out x out.length) ++ x :: out.drop (insK out x out.length)

def insSort (l : List Evt) : List Evt := l.foldl insOne []

theorem insOne_perm (out : List Evt) (x : Evt) : (insOne out x).Perm (x :: out) := by
  unfold insOne
  refine List.perm_middle.trans (.of_eq ?_)
  rw [List.take_append_drop]

theorem insSort_perm (l : List Evt) : ∀ out : List Evt, (l.foldl insOne out).Perm (l ++ out) := by
  induction l with
  | nil => intro out; exact .refl _
  | cons x l ih => intro out; exact (ih _).trans (((insOne_perm out x).append_left l).trans List.perm_middle)

theorem insK_le (out : List Evt) (x : Evt) : ∀ k, insK out x k ≤ k
  | 0 => Nat.le_refl _
  | k + 1 => by
    unfold insK
    split
    · split
      · have := insK_le out x k; omega
      · exact Nat.le_refl _
    · exact Nat.le_refl _

theorem insK_above (out : List Evt) (x : Evt) : ∀ (k j : Nat) (y : Evt), insK out x k ≤ j → j < k → out[j]? = some y → evLt x y
  | 0, j, y, _, h, _ => by omega
  | k + 1, j, y, h1, h2, h3 => by
    unfold insK at h1
    split at h1
    · rename_i z hz
      split at h1
      · rename_i hlt
        by_cases hj : j = k
        · subst hj; rw [hz] at h3; cases h3; exact hlt
        · exact insK_above out x k j y h1 (by omega) h3
      · omega
    · omega

theorem insK_below (out : List Evt) (x : Evt) : ∀ (k : Nat), k ≤ out.length → ∀ y, 0 < insK out x k → out[insK out x k - 1]? = some y → ¬ evLt x y
  | 0, _, y, h, _ => by simp [insK] at h
  | k + 1, hk, y, h1, h2 => by
    unfold insK at h1 h2
    split at h1
    · rename_i z hz
      rw [hz] at h2
      simp only at h2
      split at h1
      · rename_i hlt
        rw [if_pos hlt] at h2
        exact insK_below out x k (by omega) y h1 h2
      · rename_i hlt
        rw [if_neg hlt, Nat.add_sub_cancel, hz] at h2
        cases h2
        exact hlt
    · rename_i hz
      rw [List.getElem?_eq_getElem (by omega)] at hz
      cases hz

def evGe (a b : Evt) : Prop := ¬ evLt b a

theorem insOne_sorted {out : List Evt} (h : out.Pairwise evGe) (x : Evt) : (insOne out x).Pairwise evGe := by
  unfold insOne
  obtain ⟨k, hk⟩ : ∃ k, insK out x out.length = k := ⟨_, rfl⟩
  have hle := insK_le out x out.length
  have ha := insK_above out x out.length
  have hb := insK_below out x out.length (Nat.le_refl _)
  rw [hk] at hle ha hb ⊢
  have hlo : ∀ y ∈ out.take k, ¬ evLt x y := by
    intro y hy
    obtain ⟨j, hj⟩ := List.getElem?_of_mem hy
    rw [List.getElem?_take] at hj
    split at hj
    · rename_i hjk
      obtain ⟨z, hz⟩ : ∃ z, out[k - 1]? = some z := ⟨_, List.getElem?_eq_getElem (by omega)⟩
      have h1 := hb z (by omega) hz
      by_cases he : j = k - 1
      · subst he; rw [hz] at hj; cases hj; exact h1
      · obtain ⟨l1, e1⟩ := List.getElem?_eq_some_iff.1 hj
        obtain ⟨l2, e2⟩ := List.getElem?_eq_some_iff.1 hz
        have := List.pairwise_iff_getElem.1 h j (k - 1) l1 l2 (by omega)
        rw [e1, e2] at this
        unfold evGe evLt at *
        omega
    · cases hj
  have hhi : ∀ y ∈ out.drop k, evLt x y := by
    intro y hy
    obtain ⟨j, hj⟩ := List.getElem?_of_mem hy
    rw [List.getElem?_drop] at hj
    have := (List.getElem?_eq_some_iff.1 hj).1
    exact ha (k + j) y (by omega) (by omega) hj
  rw [List.pairwise_append, List.pairwise_cons]
  refine ⟨h.sublist (List.take_sublist _ _), ⟨fun y hy => ?_, h.sublist (List.drop_sublist _ _)⟩, fun a ha' b hb' => ?_⟩
  · have := hhi y hy
    unfold evGe evLt at *
    omega
  · have h1 := hlo a ha'
    rcases List.mem_cons.1 hb' with rfl | hb'
    · exact h1
    · have := hhi b hb'
      unfold evGe evLt at *
      omega

theorem insSort_sorted (l : List Evt) : ∀ out : List Evt, out.Pairwise evGe → (l.foldl insOne out).Pairwise evGe := by
  induction l with
  | nil => intro out h; exact h
  | cons x l ih => intro out h; exact ih _ (insOne_sorted h x)

theorem perm_sorted_eq : ∀ {l m : List Evt}, l.Pairwise evGe → m.Pairwise evGe → l.Perm m → l = m
  | [], m, _, _, h => by simpa using h.symm.eq_nil.symm
  | a :: l, [], _, _, h => by simpa using h.eq_nil
  | a :: l, b :: m, h1, h2, h => by
    have e : a = b := by
      rw [List.pairwise_cons] at h1 h2
      have ha : a ∈ b :: m := h.mem_iff.1 (by simp)
      have hb : b ∈ a :: l := h.mem_iff.2 (by simp)
      rcases List.mem_cons.1 ha with rfl | ha
      · rfl
      rcases List.mem_cons.1 hb with rfl | hb
      · rfl
      have x1 := h1.1 b hb
      have x2 := h2.1 a ha
      unfold evGe evLt at x1 x2
      cases a; cases b
      simp only [Evt.mk.injEq] at *
      omega
    subst e
    rw [perm_sorted_eq (List.pairwise_cons.1 h1).2 (List.pairwise_cons.1 h2).2 (List.Perm.cons_inv h)]

/-- Sorting a permutation of a list in order gives that list. -/
theorem insSort_eq {l m : List Evt} (hm : m.Pairwise evLt) (h : m.Perm l) : insSort l = m := by
  refine perm_sorted_eq (insSort_sorted l [] List.Pairwise.nil) (hm.imp fun h => ?_) ?_
  · unfold evGe evLt at *; omega
  · have := insSort_perm l []
    rw [List.append_nil] at this
    exact this.trans h.symm

/-- A renumbered network has the same spikes, with the other numbers. -/
theorem ren_runs {N : Net} {to : List Int} {l : List Evt} {ticks : Int} (h : RenOk N to) (hr : (runRes N l ticks).2 = 0) :
    runRes (renNet N to) l ticks = (insSort ((runRes N l ticks).1.map (renEvt to)), 0) := by
  have h0 : prepErr N l ticks 10000 = 0 := by
    unfold runRes at hr
    by_cases hp : prepErr N l ticks 10000 = 0
    · exact hp
    · rw [if_pos hp] at hr; exact absurd hr hp
  obtain ⟨h1, h2, h3⟩ := prep_zero.1 h0
  have hq := runRes_eq h0
  have h65 : ¬ 65536 < (outTo N l ticks.toNat).length := by
    intro hx
    rw [hq, if_pos hx] at hr
    cases hr
  rw [if_neg h65] at hq
  have h0' : prepErr (renNet N to) l ticks 10000 = 0 := prep_zero.2 ⟨renNet_ok h, h2, h3⟩
  have hp := ren_out h h3 ticks.toNat
  have hl : (outTo (renNet N to) l ticks.toNat).length = (outTo N l ticks.toNat).length := by rw [hp.length_eq, List.length_map]
  rw [runRes_eq h0', hq, hl, if_neg h65, insSort_eq (outTo_sorted (renNet_ok h) l _) hp]

theorem run_zero {N : Net} {l : List Evt} {ticks : Int} (h : (runRes N l ticks).2 = 0) : prepErr N l ticks 10000 = 0 ∧ (runRes N l ticks).1 = outTo N l ticks.toNat := by
  have h0 : prepErr N l ticks 10000 = 0 := by
    unfold runRes at h
    by_cases hp : prepErr N l ticks 10000 = 0
    · exact hp
    · rw [if_pos hp] at h; exact absurd h hp
  have hq := runRes_eq h0
  refine ⟨h0, ?_⟩
  by_cases hx : 65536 < (outTo N l ticks.toNat).length
  · rw [hq, if_pos hx] at h; cases h
  · rw [hq, if_neg hx]

end Go.Proofs
