import Derived.Test.YtephkjicokbckaaGreatDoorVerifyCertainLw
import Derived.Test.YtephkjicokbckaaGreatDoorVerifyCertainCt
import Derived.Test.YtephkjicokbckaaGreatDoorVerifyCertainGa
section
set_option linter.unusedVariables false

set_option linter.unusedSimpArgs false

namespace Go.Proofs

open Go Go.Vx Go.Gm

theorem vfew_any (pn qs : Option Addr) (n m cn cs : Nat) (x : Value) (w : World) : Calls Tryz.prog 15 #[.agg #[.slice pn n cn, x, .slice qs m cs]] w fun e w' => ∃ b : Bool, e = .returned (.bool b) ∧ (b = true → n ≤ 10 ∧ m ≤ 40) ∧ St w [] [] w' := by
  refine enter (C := Tryz.cx) (F := Tryz.fx15) (args := [_]) Tryz.func15 rfl rfl rfl Tryz.ok15 (St.start w []) ?_
  repeat' (conv => whnf); first | (refine VSeq.go ?_) | (refine VB.is ?_; refine VB.no (by omega) fun _ => ?_) | (refine VB.split (fun _ => ?_) (fun _ => ?_)) | (refine VLd.is ?_; refine VLd.mk (.row aT (by rfl)) ?_) | (refine VNew.mk fun _ => ?_)
  all_goals (conv => whnf)
  all_goals exact ⟨fun w' hw' => ⟨_, rfl, by first | (intro h; cases h; done) | (intro _; omega), hw'.le .nil⟩⟩

end Go.Proofs
end

section
set_option linter.unusedVariables false

set_option linter.unusedSimpArgs false

namespace Go.Gm

instance decEvLt (a b : Evt) : Decidable (evLt a b) := by unfold evLt; infer_instance

def kU (out : List Evt) (x : Evt) : Nat → Nat
  | 0 => 0
  | k + 1 => match out[k]? with
    | some y => if evLt x y then kU out x k else k + 1
    | none => k + 1

def hasU (out : List Evt) (x : Evt) : Prop := 0 < kU out x out.length ∧ out[kU out x out.length - 1]? = some x

instance (out : List Evt) (x : Evt) : Decidable (hasU out x) := by unfold hasU; infer_instance

def oneU (out : List Evt) (x : Evt) : List Evt := if hasU out x then out else out.take (kU out x out.length) ++ x :: out.drop (kU out x out.length)

def sortU (l : List Evt) : List Evt := l.foldl oneU []

theorem kU_le (out : List Evt) (x : Evt) : ∀ k, kU out x k ≤ k
  | 0 => Nat.le_refl _
  | k + 1 => by
    unfold kU
    split
    · split
      · have := kU_le out x k; omega
      · exact Nat.le_refl _
    · exact Nat.le_refl _

theorem kU_above (out : List Evt) (x : Evt) : ∀ (k j : Nat) (y : Evt), kU out x k ≤ j → j < k → out[j]? = some y → evLt x y
  | 0, j, y, _, h, _ => by omega
  | k + 1, j, y, h1, h2, h3 => by
    unfold kU at h1
    split at h1
    · rename_i z hz
      split at h1
      · rename_i hlt
        by_cases hj : j = k
        · subst hj; rw [hz] at h3; cases h3; exact hlt
        · exact kU_above out x k j y h1 (by omega) h3
      · omega
    · omega

theorem kU_below (out : List Evt) (x : Evt) : ∀ (k : Nat), k ≤ out.length → ∀ y, 0 < kU out x k → out[kU out x k - 1]? = some y → ¬ evLt x y
  | 0, _, y, h, _ => by simp [kU] at h
  | k + 1, hk, y, h1, h2 => by
    unfold kU at h1 h2
    split at h1
    · rename_i z hz
      rw [hz] at h2
      simp only at h2
      split at h1
      · rename_i hlt
        rw [if_pos hlt] at h2
        exact kU_below out x k (by omega) y h1 h2
      · rename_i hlt
        rw [if_neg hlt, Nat.add_sub_cancel, hz] at h2
        cases h2
        exact hlt
    · rename_i hz
      rw [List.getElem?_eq_getElem (by omega)] at hz
      cases hz

theorem evLt_trans {a b c : Evt} (h1 : evLt a b) (h2 : evLt b c) : evLt a c := by unfold evLt at *; omega

theorem evLt_tri {a b : Evt} (h1 : ¬ evLt a b) (h2 : ¬ evLt b a) : a = b := by
  obtain ⟨a1, a2⟩ := a
  obtain ⟨b1, b2⟩ := b
  unfold evLt at h1 h2
  dsimp only at h1 h2
  simp only [Evt.mk.injEq]
  omega

theorem mem_oneU {out : List Evt} {x y : Evt} : y ∈ oneU out x ↔ y = x ∨ y ∈ out := by
  unfold oneU
  split
  · rename_i h
    constructor
    · exact .inr
    · rintro (rfl | h2)
      · exact List.mem_of_getElem? h.2
      · exact h2
  · rw [List.mem_append, List.mem_cons]
    have e := List.take_append_drop (kU out x out.length) out
    constructor
    · rintro (h | h | h)
      · exact .inr (List.mem_of_mem_take h)
      · exact .inl h
      · exact .inr (List.mem_of_mem_drop h)
    · rintro (h | h)
      · exact .inr (.inl h)
      · rw [← e] at h
        rcases List.mem_append.1 h with h | h
        · exact .inl h
        · exact .inr (.inr h)

theorem oneU_asc {out : List Evt} (h : out.Pairwise evLt) (x : Evt) : (oneU out x).Pairwise evLt := by
  unfold oneU
  split
  · exact h
  · rename_i hno
    obtain ⟨K, hK⟩ : ∃ K, kU out x out.length = K := ⟨_, rfl⟩
    have hle := kU_le out x out.length
    have habove := kU_above out x out.length
    have hbelow := kU_below out x out.length (Nat.le_refl _)
    unfold hasU at hno
    rw [hK] at hno hle habove hbelow ⊢
    refine List.pairwise_append.2 ⟨h.sublist (List.take_sublist _ _), List.pairwise_cons.2 ⟨fun y hy => ?_, h.sublist (List.drop_sublist _ _)⟩, fun a ha b hb => ?_⟩
    · obtain ⟨j, hj⟩ := List.getElem?_of_mem hy
      rw [List.getElem?_drop] at hj
      exact habove (K + j) y (by omega) (List.getElem?_eq_some_iff.1 hj).1 hj
    · obtain ⟨i, hi⟩ := List.getElem?_of_mem ha
      rw [List.getElem?_take] at hi
      split at hi
      · rename_i hik
        -- a lies before x
        have hax : evLt a x := by
          obtain ⟨z, hz⟩ : ∃ z, out[K - 1]? = some z := ⟨out[K - 1]'(by omega), List.getElem?_eq_getElem _⟩
          have h1 := hbelow z (by omega) hz
          have h2 : z ≠ x := fun e => hno ⟨by omega, by rw [hz, e]⟩
          have hzx : evLt z x := by
            by_cases h3 : evLt z x
            · exact h3
            · exact absurd (evLt_tri h3 h1) h2
          by_cases e : i = K - 1
          · subst e; rw [hz] at hi; cases hi; exact hzx
          · have h4 := List.pairwise_iff_getElem.1 h i (K - 1) (by omega) (by omega) (by omega)
            have e1 := (List.getElem?_eq_some_iff.1 hi).2
            have e2 := (List.getElem?_eq_some_iff.1 hz).2
            rw [e1, e2] at h4
            exact evLt_trans h4 hzx
        rcases List.mem_cons.1 hb with rfl | hb
        · exact hax
        · obtain ⟨j, hj⟩ := List.getElem?_of_mem hb
          rw [List.getElem?_drop] at hj
          exact evLt_trans hax (habove (K + j) b (by omega) (List.getElem?_eq_some_iff.1 hj).1 hj)
      · cases hi

theorem foldU_asc : ∀ (l : List Evt) {out : List Evt}, out.Pairwise evLt → (l.foldl oneU out).Pairwise evLt
  | [], _, h => h
  | x :: l, _, h => foldU_asc l (oneU_asc h x)

theorem mem_foldU {y : Evt} : ∀ (l : List Evt) {out : List Evt}, y ∈ l.foldl oneU out ↔ y ∈ l ∨ y ∈ out
  | [], out => by simp
  | x :: l, out => by
    rw [List.foldl_cons, mem_foldU l, mem_oneU, List.mem_cons]
    constructor
    · rintro (h | h | h)
      · exact .inl (.inr h)
      · exact .inl (.inl h)
      · exact .inr h
    · rintro ((h | h) | h)
      · exact .inr (.inl h)
      · exact .inl h
      · exact .inr (.inr h)

theorem sortU_asc (l : List Evt) : (sortU l).Pairwise evLt := foldU_asc l List.Pairwise.nil

theorem mem_sortU {l : List Evt} {y : Evt} : y ∈ sortU l ↔ y ∈ l := by
  unfold sortU
  rw [mem_foldU]
  simp

theorem oneU_len (out : List Evt) (x : Evt) : out.length ≤ (oneU out x).length ∧ (oneU out x).length ≤ out.length + 1 := by
  unfold oneU
  split
  · omega
  · rw [List.length_append, List.length_cons, List.length_take, List.length_drop]
    have := kU_le out x out.length
    omega

theorem foldU_len : ∀ (l : List Evt) (out : List Evt), (l.foldl oneU out).length ≤ out.length + l.length
  | [], out => by simp
  | x :: l, out => by
    have h1 := foldU_len l (oneU out x)
    have h2 := oneU_len out x
    simp only [List.foldl_cons, List.length_cons]
    omega

theorem sortU_len (l : List Evt) : (sortU l).length ≤ l.length := by
  have := foldU_len l []
  simpa [sortU] using this

theorem sortU_next {l : List Evt} {i : Nat} {x : Evt} (h : l[i]? = some x) : sortU (l.take (i + 1)) = oneU (sortU (l.take i)) x := by
  unfold sortU
  rw [List.take_add_one, h, Option.toList_some, List.foldl_append]
  rfl

end Go.Gm
end
