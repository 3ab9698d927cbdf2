import Derived.Test.YtephkjicokbckaaGreatDoorVerifyKnownTo2
import Derived.Test.YtephkjicokbckaaGreatDoorVerifyKnownAi
import Derived.Test.YtephkjicokbckaaGreatDoorTie
import Derived.LaidMore
import Derived.Lib.LaidU8
import Derived.Stop.Joined
import Derived.Test.YtephkjicokbckaaGreatDoorCards
import Derived.Test.YtephkjicokbckaaGreatDoorVerifyKnownGa
section
set_option linter.unusedVariables false

set_option linter.unusedSimpArgs false

set_option maxRecDepth 100000

namespace Go.Proofs.YtephkjicokbckaaGreatDoor

open Go Go.Vx Go.Gm Go.RowKit Go.WideShapes Go.ChangeShapes Go.Deep Go.Joins Go.Proofs

def laid3 : List (String × DataW Unit) := [("math/bits.deBruijn32tab", Rows.laid_math_bits_deBruijn32tab), ("math/bits.deBruijn64tab", Rows.laid_math_bits_deBruijn64tab), ("internal/strconv.uint64pow10", Rows.laid_internal_strconv_uint64pow10)]

theorem door_met (os : Os) (args : Array Value) : laidMetH Tryz.prog laid3 ((World.doorLaid Tryz.prog 4000 os).forCall (fun _ _ => 0) ⟨#[], args, []⟩).memory :=
  laidMetH_of_parts3 (fuel := 8) (laidMet_of_run' 8 (by kernel_rfl) (by kernel_rfl)) (by kernel_rfl) (by kernel_rfl)

theorem Tryz.gPow : Tryz.prog.globalNamed "internal/strconv.uint64pow10" = some 0 := by kernel_rfl

theorem Tryz.tPow : (Tryz.prog.globals[0]?).map (·.type) = some 288 := by kernel_rfl

theorem Tryz.aPow : Tryz.prog.underlying 288 = some (.array 20 67) := by kernel_rfl

theorem Tryz.ePow : Tryz.prog.underlying 67 = some (.int .u64) := by kernel_rfl

theorem Tryz.cPow : Tryz.prog.cellsOf 67 = 1 := by kernel_rfl

theorem Tryz.nPow : Tryz.prog.cellsOf 288 = 20 := by kernel_rfl

theorem pow_of_laid {W : World} (h : laidMetH Tryz.prog laid3 W) : PowTab W := by
  rw [MakeChecks.laidMetH_plain _ _ _ (by kernel_rfl)] at h
  obtain ⟨g, t, cs, fuel, p, hg, ht, hv, hd⟩ := Lib.laidMet.reads h (n := "internal/strconv.uint64pow10") (d := Lib.tabData .u64 Lib.pow10Tab) (.tail _ (.tail _ (.head _)))
  obtain rfl := Option.some.inj (Tryz.gPow.symm.trans hg)
  obtain rfl := Option.some.inj (Tryz.tPow.symm.trans ht)
  unfold PowTab Lib.TabIs
  rw [hv, ← Lib.cells_of_tab Tryz.aPow Tryz.ePow Tryz.cPow Tryz.nPow hd]

end Go.Proofs.YtephkjicokbckaaGreatDoor
end

section
set_option linter.unusedVariables false

set_option linter.unusedSimpArgs false

namespace Go.Proofs.YtephkjicokbckaaGreatDoor.verifyKnown

open Go Go.Proofs

theorem k1 : (Rows.verifyKnownRow.wf (OpenSpec.ofChange Rows.verifyKnownSpec)) = true := by kernel_rfl

theorem k2 : (laidOutB Tryz.pinned.checked.prog) = true := by kernel_rfl

theorem k3 : (mapsRowed Tryz.pinned.checked.prog) = true := by kernel_rfl

theorem k4 : (Tryz.f13.params.all (Tryz.pinned.checked.prog.readableRec ·)) = true := by kernel_rfl

theorem k5 : (namedTie Tryz.pinned.checked.prog Rows.verifyKnownRow.named Rows.verifyKnownSpec.vars) = true := by kernel_rfl

theorem k6 : ((Rows.verifyKnownRow.stops == [])) = true := by kernel_rfl

theorem k7 : ((Tryz.pinned.checked.prog.stops == [])) = true := by kernel_rfl

theorem k8 : ((Rows.verifyKnownRow.knobs == [])) = true := by kernel_rfl

theorem k9 : ((Tryz.pinned.checked.prog.stopKnobs == [])) = true := by kernel_rfl

theorem k10 : ((Rows.verifyKnownRow.inPlace == Tryz.pinned.checked.prog.inPlace 13)) = true := by kernel_rfl

theorem k11 : ((Rows.verifyKnownRow.unfollowed == Tryz.pinned.checked.prog.unfollowed 13)) = true := by kernel_rfl

theorem k12 : ((Rows.verifyKnownRow.recurses == Tryz.pinned.checked.prog.recurses 13)) = true := by kernel_rfl

theorem k13 : ((Rows.verifyKnownRow.named == Tryz.pinned.checked.prog.varsNamed 13)) = true := by kernel_rfl

theorem k14 : ((Rows.verifyKnownRow.maps == (Tryz.f13.params.toList ++ Rows.verifyKnownSpec.plain.varTypes Tryz.pinned.checked.prog).any (Tryz.pinned.checked.prog.mapsRec ·))) = true := by kernel_rfl

theorem k15 : ((Rows.verifyKnownRow.ifaces == (Tryz.f13.params.toList ++ Rows.verifyKnownSpec.plain.varTypes Tryz.pinned.checked.prog).any (Tryz.pinned.checked.prog.ifacesRec ·))) = true := by kernel_rfl

theorem k16 : ((Rows.verifyKnownRow.mapsOut == Tryz.pinned.checked.prog.mapsAmong Tryz.f13.resultTypes.toList)) = true := by kernel_rfl

end Go.Proofs.YtephkjicokbckaaGreatDoor.verifyKnown
end

section
set_option linter.unusedVariables false

set_option linter.unusedSimpArgs false

namespace Go.Proofs.YtephkjicokbckaaGreatDoor.verifyKnown

open Go Go.Proofs

theorem and2 {a b : Bool} (ha : a = true) (hb : b = true) : (a && b) = true := by rw [ha, hb]; rfl

theorem k17 : ((Rows.verifyKnownRow.loops == (Tryz.f13.params.toList ++ Rows.verifyKnownSpec.plain.varTypes Tryz.pinned.checked.prog).any (Tryz.pinned.checked.prog.loopsFrom ·))) = true := by kernel_rfl

theorem k17b : ((Rows.verifyKnownRow.wideKeys == (Tryz.f13.params.toList ++ Rows.verifyKnownSpec.plain.varTypes Tryz.pinned.checked.prog ++ Tryz.f13.resultTypes.toList).any (Tryz.pinned.checked.prog.wideKeysFrom ·))) = true := by kernel_rfl

theorem k18 : (Rows.verifyKnownSpec.vars.all (Tryz.pinned.checked.prog.varReadable ·)) = true := by kernel_rfl

theorem k19 : (Tryz.f13.resultTypes.all (fun t => Tryz.pinned.checked.prog.readableRec t && decide (t < Tryz.pinned.checked.prog.types.size))) = true := by kernel_rfl

theorem k20 : ((Rows.verifyKnownRow.ifacesOut == Tryz.f13.resultTypes.toList.any (Tryz.pinned.checked.prog.ifacesRec ·))) = true := by kernel_rfl

theorem k21 : ((Rows.verifyKnownRow.loopsOut == Tryz.f13.resultTypes.toList.any (Tryz.pinned.checked.prog.loopsFrom ·))) = true := by kernel_rfl

theorem k22 : ((Rows.verifyKnownRow.plainKeys == Tryz.pinned.checked.prog.plainKeys)) = true := by kernel_rfl

theorem k23 : (Rows.verifyKnownRow.shortTexts.isNone) = true := by kernel_rfl

theorem k23b : (Tryz.pinned.checked.prog.stopsHeard) = true := by kernel_rfl

theorem k24 : (Tryz.pinned.checked.prog.mayEnter) = true := by kernel_rfl

theorem k24b : ((Rows.verifyKnownRow.lifted == Tryz.pinned.checked.prog.liftsFinal)) = true := by kernel_rfl

theorem k24c : ((Tryz.pinned.checked.prog.make == some Rows.verifyKnownRow.make)) = true := by kernel_rfl

theorem k25 : ((Rows.verifyKnownRow.kinds == (if Rows.verifyKnownRow.domain.isEmpty then [] else Tryz.f13.params.toList.map fun t => match Tryz.pinned.checked.prog.underlying t with | some (.int k) => some k | _ => none))) = true := by kernel_rfl

theorem k26 : ((Rows.verifyKnownRow.pinned == Rows.verifyKnownRow.pinnedBy)) = true := by kernel_rfl

theorem k27 : ((Rows.verifyKnownRow.veiled == (Tryz.f13.params.toList ++ Rows.verifyKnownSpec.plain.varTypes Tryz.pinned.checked.prog ++ Tryz.f13.resultTypes.toList).any (Tryz.pinned.checked.prog.veiledRec ·))) = true := by kernel_rfl

theorem k28 : (Rows.verifyKnownRow.veiledFits Tryz.pinned.checked.prog Tryz.f13.params.toList (Tryz.f13.params.toList ++ Rows.verifyKnownSpec.plain.varTypes Tryz.pinned.checked.prog ++ Tryz.f13.resultTypes.toList)) = true := by kernel_rfl

theorem named : Tryz.pinned.checked.prog.funcNamed Rows.verifyKnownRow.func = some 13 := by kernel_rfl

theorem inst : Tryz.f13.isInstance Tryz.pinned.checked.prog Rows.verifyKnownRow.origin Rows.verifyKnownRow.targs := of_decide_eq_true (by kernel_rfl)

theorem wrap : Tryz.f13.isWrapper Tryz.pinned.checked.prog Rows.verifyKnownRow.wrapper Rows.verifyKnownRow.mainSum := by unfold Func.isWrapper; first | (rw [if_pos (by decide +kernel)]; kernel_rfl) | (rw [if_neg (by decide +kernel)]; exact ⟨rfl, rfl⟩)

theorem card_wf : Rows.verifyKnownRow.wfByText (OpenSpec.ofChange Rows.verifyKnownSpec) = true := by kernel_rfl

theorem card_goes : false = Rows.verifyKnownRow.goesBy Tryz.pinned.checked.prog := by kernel_rfl

theorem card_looks : false = Tryz.pinned.checked.prog.looks [] := by kernel_rfl

theorem card_params : (([] : List TypeId).all fun u => !Tryz.pinned.checked.prog.wantsStandIn u) = true := by kernel_rfl

theorem card_main : Tryz.pinned.checked.prog.mainIs = some (Rows.verifyKnownCard.stood.harness.1, Rows.verifyKnownCard.stood.harness.2.toList) := by kernel_rfl

end Go.Proofs.YtephkjicokbckaaGreatDoor.verifyKnown
end

section
set_option linter.unusedVariables false

set_option linter.unusedSimpArgs false

namespace Go.Gm

instance decEvLt (a b : Evt) : Decidable (evLt a b) := by unfold evLt; infer_instance

def kU (out : List Evt) (x : Evt) : Nat → Nat
  | 0 => 0
  | k + 1 => match out[k]? with
    | some y => if evLt x y then kU out x k else k + 1
    | none => k + 1

def hasU (out : List Evt) (x : Evt) : Prop := 0 < kU out x out.length ∧ out[kU out x out.length - 1]? = some x

instance (out : List Evt) (x : Evt) : Decidable (hasU out x) := by unfold hasU; infer_instance

def oneU (out : List Evt) (x : Evt) : List Evt := if hasU out x then out else out.take (kU out x out.length) ++ x :: out.drop (kU out x out.length)

def sortU (l : List Evt) : List Evt := l.foldl oneU []

theorem kU_le (out : List Evt) (x : Evt) : ∀ k, kU out x k ≤ k
  | 0 => Nat.le_refl _
  | k + 1 => by
    unfold kU
    split
    · split
      · have := kU_le out x k; omega
      · exact Nat.le_refl _
    · exact Nat.le_refl _

theorem kU_above (out : List Evt) (x : Evt) : ∀ (k j : Nat) (y : Evt), kU out x k ≤ j → j < k → out[j]? = some y → evLt x y
  | 0, j, y, _, h, _ => by omega
  | k + 1, j, y, h1, h2, h3 => by
    unfold kU at h1
    split at h1
    · rename_i z hz
      split at h1
      · rename_i hlt
        by_cases hj : j = k
        · subst hj; rw [hz] at h3; cases h3; exact hlt
        · exact kU_above out x k j y h1 (by omega) h3
      · omega
    · omega

theorem kU_below (out : List Evt) (x : Evt) : ∀ (k : Nat), k ≤ out.length → ∀ y, 0 < kU out x k → out[kU out x k - 1]? = some y → ¬ evLt x y
  | 0, _, y, h, _ => by simp [kU] at h
  | k + 1, hk, y, h1, h2 => by
    unfold kU at h1 h2
    split at h1
    · rename_i z hz
      rw [hz] at h2
      simp only at h2
      split at h1
      · rename_i hlt
        rw [if_pos hlt] at h2
        exact kU_below out x k (by omega) y h1 h2
      · rename_i hlt
        rw [if_neg hlt, Nat.add_sub_cancel, hz] at h2
        cases h2
        exact hlt
    · rename_i hz
      rw [List.getElem?_eq_getElem (by omega)] at hz
      cases hz

theorem evLt_trans {a b c : Evt} (h1 : evLt a b) (h2 : evLt b c) : evLt a c := by unfold evLt at *; omega

theorem evLt_irrefl (a : Evt) : ¬ evLt a a := by unfold evLt; omega

theorem evLt_tri {a b : Evt} (h1 : ¬ evLt a b) (h2 : ¬ evLt b a) : a = b := by
  obtain ⟨a1, a2⟩ := a
  obtain ⟨b1, b2⟩ := b
  unfold evLt at h1 h2
  dsimp only at h1 h2
  simp only [Evt.mk.injEq]
  omega

theorem mem_oneU {out : List Evt} {x y : Evt} : y ∈ oneU out x ↔ y = x ∨ y ∈ out := by
  unfold oneU
  split
  · rename_i h
    constructor
    · exact .inr
    · rintro (rfl | h2)
      · exact List.mem_of_getElem? h.2
      · exact h2
  · rw [List.mem_append, List.mem_cons]
    have e := List.take_append_drop (kU out x out.length) out
    constructor
    · rintro (h | h | h)
      · exact .inr (List.mem_of_mem_take h)
      · exact .inl h
      · exact .inr (List.mem_of_mem_drop h)
    · rintro (h | h)
      · exact .inr (.inl h)
      · rw [← e] at h
        rcases List.mem_append.1 h with h | h
        · exact .inl h
        · exact .inr (.inr h)

theorem oneU_asc {out : List Evt} (h : out.Pairwise evLt) (x : Evt) : (oneU out x).Pairwise evLt := by
  unfold oneU
  split
  · exact h
  · rename_i hno
    obtain ⟨K, hK⟩ : ∃ K, kU out x out.length = K := ⟨_, rfl⟩
    have hle := kU_le out x out.length
    have habove := kU_above out x out.length
    have hbelow := kU_below out x out.length (Nat.le_refl _)
    unfold hasU at hno
    rw [hK] at hno hle habove hbelow ⊢
    refine List.pairwise_append.2 ⟨h.sublist (List.take_sublist _ _), List.pairwise_cons.2 ⟨fun y hy => ?_, h.sublist (List.drop_sublist _ _)⟩, fun a ha b hb => ?_⟩
    · obtain ⟨j, hj⟩ := List.getElem?_of_mem hy
      rw [List.getElem?_drop] at hj
      exact habove (K + j) y (by omega) (List.getElem?_eq_some_iff.1 hj).1 hj
    · obtain ⟨i, hi⟩ := List.getElem?_of_mem ha
      rw [List.getElem?_take] at hi
      split at hi
      · rename_i hik
        -- a lies before x
        have hax : evLt a x := by
          obtain ⟨z, hz⟩ : ∃ z, out[K - 1]? = some z := ⟨out[K - 1]'(by omega), List.getElem?_eq_getElem _⟩
          have h1 := hbelow z (by omega) hz
          have h2 : z ≠ x := fun e => hno ⟨by omega, by rw [hz, e]⟩
          have hzx : evLt z x := by
            by_cases h3 : evLt z x
            · exact h3
            · exact absurd (evLt_tri h3 h1) h2
          by_cases e : i = K - 1
          · subst e; rw [hz] at hi; cases hi; exact hzx
          · have h4 := List.pairwise_iff_getElem.1 h i (K - 1) (by omega) (by omega) (by omega)
            have e1 := (List.getElem?_eq_some_iff.1 hi).2
            have e2 := (List.getElem?_eq_some_iff.1 hz).2
            rw [e1, e2] at h4
            exact evLt_trans h4 hzx
        rcases List.mem_cons.1 hb with rfl | hb
        · exact hax
        · obtain ⟨j, hj⟩ := List.getElem?_of_mem hb
          rw [List.getElem?_drop] at hj
          exact evLt_trans hax (habove (K + j) b (by omega) (List.getElem?_eq_some_iff.1 hj).1 hj)
      · cases hi

theorem foldU_asc : ∀ (l : List Evt) {out : List Evt}, out.Pairwise evLt → (l.foldl oneU out).Pairwise evLt
  | [], _, h => h
  | x :: l, _, h => foldU_asc l (oneU_asc h x)

theorem mem_foldU {y : Evt} : ∀ (l : List Evt) {out : List Evt}, y ∈ l.foldl oneU out ↔ y ∈ l ∨ y ∈ out
  | [], out => by simp
  | x :: l, out => by
    rw [List.foldl_cons, mem_foldU l, mem_oneU, List.mem_cons]
    constructor
    · rintro (h | h | h)
      · exact .inl (.inr h)
      · exact .inl (.inl h)
      · exact .inr h
    · rintro ((h | h) | h)
      · exact .inr (.inl h)
      · exact .inl h
      · exact .inr (.inr h)

theorem sortU_asc (l : List Evt) : (sortU l).Pairwise evLt := foldU_asc l List.Pairwise.nil

theorem mem_sortU {l : List Evt} {y : Evt} : y ∈ sortU l ↔ y ∈ l := by
  unfold sortU
  rw [mem_foldU]
  simp

theorem oneU_len (out : List Evt) (x : Evt) : out.length ≤ (oneU out x).length ∧ (oneU out x).length ≤ out.length + 1 := by
  unfold oneU
  split
  · omega
  · rw [List.length_append, List.length_cons, List.length_take, List.length_drop]
    have := kU_le out x out.length
    omega

theorem foldU_len : ∀ (l : List Evt) (out : List Evt), (l.foldl oneU out).length ≤ out.length + l.length
  | [], out => by simp
  | x :: l, out => by
    have h1 := foldU_len l (oneU out x)
    have h2 := oneU_len out x
    simp only [List.foldl_cons, List.length_cons]
    omega

theorem sortU_len (l : List Evt) : (sortU l).length ≤ l.length := by
  have := foldU_len l []
  simpa [sortU] using this

theorem asc_evt_ext : ∀ {l m : List Evt}, l.Pairwise evLt → m.Pairwise evLt → (∀ e, e ∈ l ↔ e ∈ m) → l = m
  | [], [], _, _, _ => rfl
  | [], b :: m, _, _, h => by have := (h b).2 List.mem_cons_self; simp at this
  | a :: l, [], _, _, h => by have := (h a).1 List.mem_cons_self; simp at this
  | a :: l, b :: m, h1, h2, h => by
    have g1 := List.pairwise_cons.1 h1
    have g2 := List.pairwise_cons.1 h2
    have hab : a = b := by
      rcases List.mem_cons.1 ((h a).1 List.mem_cons_self) with e | ha
      · exact e
      · rcases List.mem_cons.1 ((h b).2 List.mem_cons_self) with e | hb
        · exact e.symm
        · exact absurd (evLt_trans (g1.1 b hb) (g2.1 a ha)) (evLt_irrefl a)
    subst hab
    congr 1
    refine asc_evt_ext g1.2 g2.2 fun e => ?_
    constructor
    · intro he
      rcases List.mem_cons.1 ((h e).1 (List.mem_cons_of_mem _ he)) with rfl | h3
      · exact absurd (g1.1 e he) (evLt_irrefl e)
      · exact h3
    · intro he
      rcases List.mem_cons.1 ((h e).2 (List.mem_cons_of_mem _ he)) with rfl | h3
      · exact absurd (g2.1 e he) (evLt_irrefl e)
      · exact h3

theorem sortU_eq {l m : List Evt} (hm : m.Pairwise evLt) (h : ∀ e, e ∈ l ↔ e ∈ m) : sortU l = m := asc_evt_ext (sortU_asc l) hm fun e => by rw [mem_sortU, h]

end Go.Gm
end
