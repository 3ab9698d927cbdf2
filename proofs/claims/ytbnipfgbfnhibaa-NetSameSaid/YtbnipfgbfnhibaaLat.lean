/- Lat: runs that begin later: without biases all spikes happen as much later as all events do. -/
import Derived.Test.YtbnipfgbfnhibaaGd
import Derived.Test.YtbnipfgbfnhibaaDc
set_option linter.unusedVariables false
set_option linter.unusedSimpArgs false
namespace Go.Proofs
open Go Go.Gm

def later (k : Nat) (l : List Evt) : List Evt := l.map fun e => ⟨e.tick + k, e.id⟩

theorem insAt_later (k t : Nat) (l : List Evt) : insAt (later k l) (t + k) = insAt l t := by
  unfold insAt later
  rw [List.filter_map, List.map_map]
  congr 1
  congr 1
  funext e
  simp only [Function.comp]
  congr 1
  apply propext
  omega

theorem insAt_early {inputs limit : Int} {l : List Evt} (hl : EvOk inputs limit l) (k t : Nat) (ht : t < k) : insAt (later k l) t = [] := by
  unfold insAt later
  rw [List.filter_map, List.map_map, List.map_eq_nil_iff, List.filter_eq_nil_iff]
  intro e he
  have := hl.range e he
  simp only [Function.comp, decide_eq_true_eq]
  omega

theorem later_ok {inputs limit : Int} {l : List Evt} (hl : EvOk inputs limit l) (k : Nat) : EvOk inputs (limit + k) (later k l) := by
  refine ⟨by unfold later; rw [List.length_map]; exact hl.few, ?_, ?_⟩
  · intro x hx
    obtain ⟨e, he, rfl⟩ := List.mem_map.1 hx
    have := hl.range e he
    dsimp only
    omega
  · refine List.Pairwise.map _ (fun a b h => ?_) hl.sorted
    unfold evLt at h ⊢
    dsimp only
    omega

theorem _root_.Go.Gm.EvOk.mono {inputs a b : Int} {l : List Evt} (h : EvOk inputs a l) (hab : a ≤ b) : EvOk inputs b l :=
  ⟨h.few, fun x hx => by have := h.range x hx; omega, h.sorted⟩

theorem tick_zero {p : Par} (hp : ParOk p) (hb : p.bias = 0) : tick p ⟨0, 0⟩ 0 = (⟨0, 0⟩, false) := by
  have h1 := hp.leak
  have h2 := hp.fl
  have h3 := hp.th
  unfold leakOk at h1
  have hl : leak p 0 = 0 := by
    unfold leak
    split
    · split <;> omega
    · split
      · rw [Int.zero_mul]; rfl
      · rfl
  have hv : vnext p ⟨0, 0⟩ 0 = 0 := by unfold vnext; dsimp only; rw [hl, hb]; omega
  exact tick_low hv (by dsimp only; omega) (by omega)

theorem still_zero {N : Net} (hN : NetOk N) (hb : ∀ p ∈ N.ps, p.bias = 0) : stillB N (sm0 N) = true := by
  unfold stillB sm0
  simp only [Bool.and_eq_true]
  constructor
  · rw [List.all_eq_true]
    intro r hr
    have := List.eq_of_mem_replicate hr
    subst this
    rw [List.all_eq_true]
    intro a ha
    have := List.eq_of_mem_replicate ha
    simp [this]
  · rw [List.all_eq_true]
    rintro ⟨p, s⟩ hy
    have h1 := List.of_mem_zip hy
    have h2 := List.eq_of_mem_replicate h1.2
    subst h2
    simp [tick_zero (hN.ps p h1.1) (hb p h1.1)]

theorem ringSpk_rot (N : Net) (t : Nat) (x : Sm) : ringSpk N t x = spk (fire N.ps (smRot t x).sts (((smRot t x).D[0]?).getD [])) := by
  unfold ringSpk smRot
  dsimp only
  rw [rot_get]
  simp

theorem later_run {N : Net} (hN : NetOk N) (hb : ∀ p ∈ N.ps, p.bias = 0) {inputs limit : Int} {l : List Evt} (hl : EvOk inputs limit l) (k : Nat) :
    ∀ t : Nat, smRot (t + k) (stAt N (later k l) (t + k)) = smRot t (stAt N l t) ∧ outTo N (later k l) (t + k) = later k (outTo N l t)
  | 0 => by
    have h := skipTo hN (l := later k l) (a := 0) (still_zero hN hb) k (fun t _ ht => insAt_early hl k t (by omega))
    rw [h.1, h.2]
    refine ⟨?_, rfl⟩
    show (⟨_, rot (0 + k) _⟩ : Sm) = ⟨_, rot 0 _⟩
    have e : ∀ a, rot a (sm0 N).D = List.replicate 16 (List.replicate N.ps.length 0) := by
      intro a
      apply List.ext_getElem?
      intro i
      rw [rot_get]
      unfold sm0
      dsimp only
      simp only [List.getElem?_replicate]
      by_cases h : i < 16
      · have h2 : (a + i) % 16 < 16 := Nat.mod_lt _ (by omega)
        simp [h, h2]
      · simp [h]
    show (⟨(sm0 N).sts, rot (0 + k) (sm0 N).D⟩ : Sm) = ⟨(sm0 N).sts, rot 0 (sm0 N).D⟩
    rw [e, e]
  | t + 1 => by
    obtain ⟨h1, h2⟩ := later_run hN hb hl k t
    have n1 := insAt_nodup (later_ok hl k) (t + k)
    have n2 := insAt_nodup hl t
    have r1 := ref_step hN (stAt_ok hN (later k l) (t + k)) (t + k) (refSrcs_nodup N (smRot (t + k) (stAt N (later k l) (t + k))) n1.2 n1.1)
    have r2 := ref_step hN (stAt_ok hN l t) t (refSrcs_nodup N (smRot t (stAt N l t)) n2.2 n2.1)
    rw [show t + 1 + k = t + k + 1 by omega]
    constructor
    · show smRot (t + k + 1) (ringStep N (t + k) (stAt N (later k l) (t + k)) (insAt (later k l) (t + k))) = smRot (t + 1) (ringStep N t (stAt N l t) (insAt l t))
      rw [r1, r2, h1, insAt_later]
    · show outTo N (later k l) (t + k) ++ (ringSpk N (t + k) (stAt N (later k l) (t + k))).map (fun i => (⟨((t + k : Nat) : Int), i⟩ : Evt)) = later k (outTo N l t ++ (ringSpk N t (stAt N l t)).map fun i => (⟨(t : Int), i⟩ : Evt))
      rw [h2, ringSpk_rot, h1, ← ringSpk_rot]
      unfold later
      rw [List.map_append, List.map_map]
      congr 1
/-- What Driven returns of later events. -/
theorem later_res {N : Net} {l : List Evt} {ticks : Int} {k : Nat} (hk : k < 536870912) (hb : ∀ p ∈ N.ps, p.bias = 0) (h : (runRes N l ticks).2 = 0) :
    drvRes N (later k l) (ticks + k) = (later k (runRes N l ticks).1, 0) := by
  have h0 : prepErr N l ticks 10000 = 0 := by
    unfold runRes at h
    by_cases hp : prepErr N l ticks 10000 = 0
    · exact hp
    · rw [if_pos hp] at h; exact absurd h hp
  obtain ⟨h1, h2, h3⟩ := prep_zero.1 h0
  have hr := runRes_eq h0
  have h65 : ¬ 65536 < (outTo N l ticks.toNat).length := by
    intro hx
    rw [hr, if_pos hx] at h
    cases h
  rw [if_neg h65] at hr
  rw [hr]
  have hp2 : prepErr N (later k l) (ticks + k) 1073741824 = 0 := prep_zero.2 ⟨h1, by omega, (later_ok h3 k).mono (by omega)⟩
  have ht : (ticks + (k : Int)).toNat = ticks.toNat + k := by omega
  have ho := (later_run h1 hb h3 k ticks.toNat).2
  unfold drvRes
  rw [if_neg (by omega), ht, ho, if_neg (by unfold later; rw [List.length_map]; exact h65)]

end Go.Proofs
