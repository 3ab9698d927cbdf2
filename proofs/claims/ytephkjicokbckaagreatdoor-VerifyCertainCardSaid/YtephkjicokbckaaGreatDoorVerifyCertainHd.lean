import Derived.Test.YtephkjicokbckaaGreatDoorVerifyCertainSe
import Derived.Test.YtephkjicokbckaaGreatDoorVerifyCertainSu
import Derived.Test.YtephkjicokbckaaGreatDoorVerifyCertainWg
import Derived.Test.YtephkjicokbckaaGreatDoorVerifyCertainWb
import Derived.Test.YtephkjicokbckaaGreatDoorVerifyCertainMk
import Derived.Test.YtephkjicokbckaaGreatDoorVerifyCertainLs
import Derived.Test.YtephkjicokbckaaGreatDoorVerifyCertainCl
section
set_option linter.unusedVariables false

set_option linter.unusedSimpArgs false

namespace Go.Proofs

open Go Go.Vx Go.Gm

theorem leak_ends {p : Par} (hp : ParOk p) : leak p 1048576 ≤ 1048576 ∧ -1048576 ≤ leak p (-1048576) := by
  have h := hp.leak
  unfold leakOk at h
  unfold leak
  rcases h with ⟨h1, h2⟩ | ⟨h1, h2⟩ | ⟨h1, h2⟩
  · rw [if_neg (by omega), if_neg (by omega), if_neg (by omega), if_neg (by omega)]; omega
  · rw [if_pos h1, if_pos h1, if_neg (by omega), if_pos (by omega)]; omega
  · rw [if_neg (by omega), if_pos h1, if_neg (by omega), if_pos h1]
    have e1 : (1048576 * p.lv).tdiv 256 = 4096 * p.lv := by
      rw [show (1048576 : Int) * p.lv = (4096 * p.lv) * 256 by omega]
      exact Int.mul_tdiv_cancel _ (by omega)
    have e2 : (-1048576 * p.lv).tdiv 256 = -4096 * p.lv := by
      rw [show (-1048576 : Int) * p.lv = (-4096 * p.lv) * 256 by omega]
      exact Int.mul_tdiv_cancel _ (by omega)
    rw [e1, e2]; omega

theorem outTo_few {N : Net} (hN : NetOk N) (l : List Evt) : ∀ t : Nat, (outTo N l t).length ≤ t * N.ps.length
  | 0 => by simp [outTo]
  | t + 1 => by
    have ih := outTo_few hN l t
    have hx := (stAt_ok hN l t).fire t
    have hl : (spkAt N l t).length ≤ N.ps.length := by
      unfold spkAt ringSpk spk
      have := spkFrom_length (fire N.ps (stAt N l t).sts (((stAt N l t).D[t % 16]?).getD [])) 0
      omega
    simp only [outTo, List.length_append, List.length_map]
    rw [Nat.add_mul]
    omega

structure Given (N : Net) (sure may : List Evt) (ticks : Int) : Prop where
  net : NetOk N
  sure : EvOk N.inputs 10000 sure
  may : EvOk N.inputs 10000 may
  ticks : 0 ≤ ticks ∧ ticks ≤ 10000

theorem given_of {N : Net} {sure may : List Evt} {ticks : Int} (h : bndErr N sure may ticks = 0) : Given N sure may ticks := by
  unfold bndErr at h
  split at h
  · omega
  · rename_i h1
    split at h
    · omega
    · rename_i h2
      split at h
      · omega
      · rename_i h3
        refine ⟨netchk_zero.1 (by omega), evEr_zero (by omega), evEr_zero (by omega), ?_⟩
        unfold tmE at h
        split at h
        · assumption
        · cases h

theorem happened_ok {N : Net} {sure may sub : List Evt} {ticks : Int} (h : Given N sure may ticks) (hs : sub.Sublist may) (h1 : sure.length ≤ 1000) (h2 : may.length ≤ 1000) : EvOk N.inputs 10000 (sortU (sure ++ sub)) := by
  have hl := sortU_len (sure ++ sub)
  have hl2 := hs.length_le
  rw [List.length_append] at hl
  refine ⟨by omega, fun x hx => ?_, sortU_asc _⟩
  rcases List.mem_append.1 (mem_sortU.1 hx) with hx | hx
  · exact h.sure.range x hx
  · exact h.may.range x (hs.mem hx)

theorem happened_run {N : Net} {sure may sub : List Evt} {ticks : Int} (h : Given N sure may ticks) (hs : sub.Sublist may) (h1 : sure.length ≤ 1000) (h2 : may.length ≤ 1000) (hf : N.ps.length ≤ 10) (ht : ticks ≤ 60) : runRes N (sortU (sure ++ sub)) ticks = (outTo N (sortU (sure ++ sub)) ticks.toNat, 0) := by
  have hok := happened_ok h hs h1 h2
  have ht2 := h.ticks
  rw [runRes_eq (prep_zero.2 ⟨h.net, ⟨by omega, by omega⟩, hok⟩), if_neg]
  have := outTo_few h.net (sortU (sure ++ sub)) ticks.toNat
  have h3 : ticks.toNat * N.ps.length ≤ 60 * 10 := Nat.mul_le_mul (by omega) hf
  omega

theorem sound {N : Net} {sure may sub : List Evt} {ticks : Int} (h : Given N sure may ticks) (hs : sub.Sublist may) (h1 : sure.length ≤ 1000) (h2 : may.length ≤ 1000) {t i : Nat} {r : List Int} {v : Int} (hr : (bst N sure may ticks.toNat).out[t]? = some r) (hv : r[i]? = some v) :
    (0 ≤ v ∧ v ≤ 2) ∧ (v = 2 → (i : Int) ∈ spkAt N (sortU (sure ++ sub)) t) ∧ (v = 0 → (i : Int) ∉ spkAt N (sortU (sure ++ sub)) t) := by
  have hok := happened_ok h hs h1 h2
  have hm : ∀ p ∈ N.ps, ∀ u v, u ≤ v → leak p u ≤ leak p v := fun p hp u v huv => leak_mono (h.net.ps p hp) huv
  have hB := bst_ok h.net.ps sure may ticks.toNat
  have hrow := hB.row r (List.mem_of_getElem? hr)
  have hlt := (List.getElem?_eq_some_iff.1 hr).1
  have hil := (List.getElem?_eq_some_iff.1 hv).1
  obtain ⟨L, hL⟩ : ∃ L, sortU (sure ++ sub) = L := ⟨_, rfl⟩
  rw [hL] at hok ⊢
  have hle := bst_le h.net.ps hm (s1 := L) (m1 := L) (s2 := sure) (m2 := may) (fun e he => by rw [← hL]; exact mem_sortU.2 (List.mem_append_left _ he)) (fun e he => by
    have : e ∈ sure ++ sub := mem_sortU.1 (by rw [hL]; rcases he with he | he <;> exact he)
    rcases List.mem_append.1 this with h' | h'
    · exact .inl h'
    · exact .inr (hs.mem h')) ticks.toNat
  have hrun := bst_run h.net hm (fun p hp => leak_ends (h.net.ps p hp)) hok ticks.toNat
  have hlen := hle.out.1
  obtain ⟨a, ha⟩ : ∃ a, (bst N L L ticks.toNat).out[t]? = some a := ⟨(bst N L L ticks.toNat).out[t]'(by omega), List.getElem?_eq_getElem _⟩
  have hR := hle.out.2 t a r ha hr
  have hx := hrun.out t i (by omega) (by rw [← hrow.1]; exact hil)
  rw [ha, Option.getD_some] at hx
  have hV := hR.2 i _ v hx hv
  refine ⟨hrow.2 v (List.mem_of_getElem? hv), fun e => ?_, fun e => ?_⟩
  · subst e
    rcases hV with hV | hV
    · by_cases hc : (i : Int) ∈ spkAt N L t
      · exact hc
      · rw [if_neg hc] at hV; omega
    · omega
  · subst e
    rcases hV with hV | hV
    · by_cases hc : (i : Int) ∈ spkAt N L t
      · rw [if_pos hc] at hV; omega
      · exact hc
    · omega

end Go.Proofs
end

section
set_option linter.unusedVariables false

set_option linter.unusedSimpArgs false

namespace Go.Proofs

open Go Go.Vx Go.Gm

end Go.Proofs
end

section
set_option linter.unusedVariables false

set_option linter.unusedSimpArgs false

namespace Go.Proofs

open Go Go.Vx Go.Gm

end Go.Proofs
end

section
set_option linter.unusedVariables false

set_option linter.unusedSimpArgs false

namespace Go.Proofs

open Go Go.Vx Go.Gm

end Go.Proofs
end

section
set_option linter.unusedVariables false

set_option linter.unusedSimpArgs false

namespace Go.Proofs

open Go Go.Vx Go.Gm

theorem bndRes_ok {N : Net} {sure may : List Evt} {ticks : Int} (h : (bndRes N sure may ticks).2 = 0) : bndErr N sure may ticks = 0 ∧ (bndRes N sure may ticks).1 = (bst N sure may ticks.toNat).out := by
  unfold bndRes at h ⊢
  split at h
  · contradiction
  · rename_i h0
    exact ⟨by omega, by rw [if_neg h0]⟩

end Go.Proofs
end

section
set_option linter.unusedVariables false

set_option linter.unusedSimpArgs false

namespace Go.Gm

def inC (c : Clm) (x : Evt) : Prop := c.frm ≤ x.tick ∧ x.tick < c.to ∧ x.id ∈ c.ns

instance (c : Clm) (x : Evt) : Decidable (inC c x) := by unfold inC; infer_instance

def aboutL (c : Clm) (l : List Evt) : List Evt := l.filter fun x => decide (inC c x)

theorem mem_aboutL {c : Clm} {l : List Evt} {x : Evt} : x ∈ aboutL c l ↔ x ∈ l ∧ inC c x := by
  unfold aboutL
  rw [List.mem_filter, decide_eq_true_eq]

def LeadsP (c : Clm) (l : List Evt) : Prop := ∃ x ∈ aboutL c l, ∀ y ∈ aboutL c l, x.tick ≤ y.tick ∧ (y.tick = x.tick → c.ns[0]? = some y.id)

def CountsP (c : Clm) (l : List Evt) : Prop := c.lo ≤ ((aboutL c l).length : Int) ∧ ((aboutL c l).length : Int) ≤ c.hi

def HoldsP (c : Clm) (l : List Evt) : Prop := if c.kind = 1 then LeadsP c l else CountsP c l

def hitC (c : Clm) (n : Int) (x : Evt) : Prop := x.id = n ∧ c.frm ≤ x.tick ∧ x.tick < c.to

instance (c : Clm) (n : Int) (x : Evt) : Decidable (hitC c n x) := by unfold hitC; infer_instance

end Go.Gm
end
