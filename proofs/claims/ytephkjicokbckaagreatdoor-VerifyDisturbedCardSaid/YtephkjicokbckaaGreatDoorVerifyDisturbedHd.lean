import Derived.Test.YtephkjicokbckaaGreatDoorVerifyDisturbedTo2
import Derived.Test.YtephkjicokbckaaGreatDoorVerifyDisturbedSx
import Derived.Test.YtephkjicokbckaaGreatDoorCards
import Derived.Stop.Joined
import Derived.Test.YtephkjicokbckaaGreatDoorVerifyDisturbedGa
import Derived.Test.YtephkjicokbckaaGreatDoorVerifyDisturbedCl
section
set_option linter.unusedVariables false

set_option linter.unusedSimpArgs false

namespace Go.Proofs

open Go Go.Vx Go.Gm Go.RowKit Go.WideShapes Go.ChangeShapes Go.Deep Go.Joins

def byteV (x : Int) : List Value := [.int .u8 x]

section

variable {H : Type} {enc : TypeId × Value → H} {W : World} {base b0 : Nat} {spare : Nat → Bool} {held : Bool} {r : Reach}

set_option maxRecDepth 100000 in
theorem open_bytes {v : Value} {d : DataW H} {p : List MemPlace} (hv : Value.okWide Tryz.prog W r b0 58 v) (h : DataW.Trod enc Tryz.prog W base spare held 58 v d p) :
    ∃ (l : List Int) (pe : Option Addr) (ce be oe : Nat), v = .slice pe l.length ce ∧ (∀ x ∈ l, 0 ≤ x ∧ x < 256) ∧ Sl W byteV 1 l pe l.length be oe := by
  obtain ⟨n, hn⟩ := trod_of_slice Tryz.underlying58 hv h
  obtain ⟨pe, ce, be, oe, l, rfl, a1, a2, a3, a4⟩ := open_els byteV 1 (fun x : Int => 0 ≤ x ∧ x < 256) Tryz.underlying58 (by kernel_rfl) (fun _ => rfl) (fun n cs y hy => by
    obtain ⟨z, hz, _, hw⟩ := DataW.trod_int Tryz.underlying5 hy
    simp [Lit.wf, IntKind.min, IntKind.max, IntKind.signed, IntKind.bits] at hw
    exact ⟨z, hz, by omega⟩) hn (cell_of_slice Tryz.underlying58 hv)
  exact ⟨l, pe, ce, be, oe, rfl, a4, a3⟩

end

end Go.Proofs
end

section
set_option linter.unusedVariables false

set_option linter.unusedSimpArgs false

namespace Go.Proofs.YtephkjicokbckaaGreatDoor.verifyDisturbed

open Go Go.Proofs

theorem k1 : (Rows.verifyDisturbedRow.wf (OpenSpec.ofChange Rows.verifyDisturbedSpec)) = true := by kernel_rfl

theorem k2 : (laidOutB Tryz.pinned.checked.prog) = true := by kernel_rfl

theorem k3 : (mapsRowed Tryz.pinned.checked.prog) = true := by kernel_rfl

theorem k4 : (Tryz.f14.params.all (Tryz.pinned.checked.prog.readableRec ·)) = true := by kernel_rfl

theorem k5 : (namedTie Tryz.pinned.checked.prog Rows.verifyDisturbedRow.named Rows.verifyDisturbedSpec.vars) = true := by kernel_rfl

theorem k6 : ((Rows.verifyDisturbedRow.stops == [])) = true := by kernel_rfl

theorem k7 : ((Tryz.pinned.checked.prog.stops == [])) = true := by kernel_rfl

theorem k8 : ((Rows.verifyDisturbedRow.knobs == [])) = true := by kernel_rfl

theorem k9 : ((Tryz.pinned.checked.prog.stopKnobs == [])) = true := by kernel_rfl

theorem k10 : ((Rows.verifyDisturbedRow.inPlace == Tryz.pinned.checked.prog.inPlace 14)) = true := by kernel_rfl

theorem k11 : ((Rows.verifyDisturbedRow.unfollowed == Tryz.pinned.checked.prog.unfollowed 14)) = true := by kernel_rfl

theorem k12 : ((Rows.verifyDisturbedRow.recurses == Tryz.pinned.checked.prog.recurses 14)) = true := by kernel_rfl

theorem k13 : ((Rows.verifyDisturbedRow.named == Tryz.pinned.checked.prog.varsNamed 14)) = true := by kernel_rfl

theorem k14 : ((Rows.verifyDisturbedRow.maps == (Tryz.f14.params.toList ++ Rows.verifyDisturbedSpec.plain.varTypes Tryz.pinned.checked.prog).any (Tryz.pinned.checked.prog.mapsRec ·))) = true := by kernel_rfl

theorem k15 : ((Rows.verifyDisturbedRow.ifaces == (Tryz.f14.params.toList ++ Rows.verifyDisturbedSpec.plain.varTypes Tryz.pinned.checked.prog).any (Tryz.pinned.checked.prog.ifacesRec ·))) = true := by kernel_rfl

theorem k16 : ((Rows.verifyDisturbedRow.mapsOut == Tryz.pinned.checked.prog.mapsAmong Tryz.f14.resultTypes.toList)) = true := by kernel_rfl

end Go.Proofs.YtephkjicokbckaaGreatDoor.verifyDisturbed
end

section
set_option linter.unusedVariables false

set_option linter.unusedSimpArgs false

namespace Go.Proofs.YtephkjicokbckaaGreatDoor.verifyDisturbed

open Go Go.Proofs

theorem and2 {a b : Bool} (ha : a = true) (hb : b = true) : (a && b) = true := by rw [ha, hb]; rfl

theorem k17 : ((Rows.verifyDisturbedRow.loops == (Tryz.f14.params.toList ++ Rows.verifyDisturbedSpec.plain.varTypes Tryz.pinned.checked.prog).any (Tryz.pinned.checked.prog.loopsFrom ·))) = true := by kernel_rfl

theorem k17b : ((Rows.verifyDisturbedRow.wideKeys == (Tryz.f14.params.toList ++ Rows.verifyDisturbedSpec.plain.varTypes Tryz.pinned.checked.prog ++ Tryz.f14.resultTypes.toList).any (Tryz.pinned.checked.prog.wideKeysFrom ·))) = true := by kernel_rfl

theorem k18 : (Rows.verifyDisturbedSpec.vars.all (Tryz.pinned.checked.prog.varReadable ·)) = true := by kernel_rfl

theorem k19 : (Tryz.f14.resultTypes.all (fun t => Tryz.pinned.checked.prog.readableRec t && decide (t < Tryz.pinned.checked.prog.types.size))) = true := by kernel_rfl

theorem k20 : ((Rows.verifyDisturbedRow.ifacesOut == Tryz.f14.resultTypes.toList.any (Tryz.pinned.checked.prog.ifacesRec ·))) = true := by kernel_rfl

theorem k21 : ((Rows.verifyDisturbedRow.loopsOut == Tryz.f14.resultTypes.toList.any (Tryz.pinned.checked.prog.loopsFrom ·))) = true := by kernel_rfl

theorem k22 : ((Rows.verifyDisturbedRow.plainKeys == Tryz.pinned.checked.prog.plainKeys)) = true := by kernel_rfl

theorem k23 : (Rows.verifyDisturbedRow.shortTexts.isNone) = true := by kernel_rfl

theorem k23b : (Tryz.pinned.checked.prog.stopsHeard) = true := by kernel_rfl

theorem k24 : (Tryz.pinned.checked.prog.mayEnter) = true := by kernel_rfl

theorem k24b : ((Rows.verifyDisturbedRow.lifted == Tryz.pinned.checked.prog.liftsFinal)) = true := by kernel_rfl

theorem k24c : ((Tryz.pinned.checked.prog.make == some Rows.verifyDisturbedRow.make)) = true := by kernel_rfl

theorem k25 : ((Rows.verifyDisturbedRow.kinds == (if Rows.verifyDisturbedRow.domain.isEmpty then [] else Tryz.f14.params.toList.map fun t => match Tryz.pinned.checked.prog.underlying t with | some (.int k) => some k | _ => none))) = true := by kernel_rfl

theorem k26 : ((Rows.verifyDisturbedRow.pinned == Rows.verifyDisturbedRow.pinnedBy)) = true := by kernel_rfl

theorem k27 : ((Rows.verifyDisturbedRow.veiled == (Tryz.f14.params.toList ++ Rows.verifyDisturbedSpec.plain.varTypes Tryz.pinned.checked.prog ++ Tryz.f14.resultTypes.toList).any (Tryz.pinned.checked.prog.veiledRec ·))) = true := by kernel_rfl

theorem k28 : (Rows.verifyDisturbedRow.veiledFits Tryz.pinned.checked.prog Tryz.f14.params.toList (Tryz.f14.params.toList ++ Rows.verifyDisturbedSpec.plain.varTypes Tryz.pinned.checked.prog ++ Tryz.f14.resultTypes.toList)) = true := by kernel_rfl

theorem named : Tryz.pinned.checked.prog.funcNamed Rows.verifyDisturbedRow.func = some 14 := by kernel_rfl

theorem inst : Tryz.f14.isInstance Tryz.pinned.checked.prog Rows.verifyDisturbedRow.origin Rows.verifyDisturbedRow.targs := of_decide_eq_true (by kernel_rfl)

theorem wrap : Tryz.f14.isWrapper Tryz.pinned.checked.prog Rows.verifyDisturbedRow.wrapper Rows.verifyDisturbedRow.mainSum := by unfold Func.isWrapper; first | (rw [if_pos (by decide +kernel)]; kernel_rfl) | (rw [if_neg (by decide +kernel)]; exact ⟨rfl, rfl⟩)

theorem card_wf : Rows.verifyDisturbedRow.wfByText (OpenSpec.ofChange Rows.verifyDisturbedSpec) = true := by kernel_rfl

theorem card_goes : false = Rows.verifyDisturbedRow.goesBy Tryz.pinned.checked.prog := by kernel_rfl

theorem card_looks : false = Tryz.pinned.checked.prog.looks [] := by kernel_rfl

theorem card_params : (([80, 58, 67] : List TypeId).all fun u => !Tryz.pinned.checked.prog.wantsStandIn u) = true := by kernel_rfl

theorem card_main : Tryz.pinned.checked.prog.mainIs = some (Rows.verifyDisturbedCard.stood.harness.1, Rows.verifyDisturbedCard.stood.harness.2.toList) := by kernel_rfl

end Go.Proofs.YtephkjicokbckaaGreatDoor.verifyDisturbed
end

section
set_option linter.unusedVariables false

set_option linter.unusedSimpArgs false

namespace Go.Gm

instance decEvLt (a b : Evt) : Decidable (evLt a b) := by unfold evLt; infer_instance

def kU (out : List Evt) (x : Evt) : Nat → Nat
  | 0 => 0
  | k + 1 => match out[k]? with
    | some y => if evLt x y then kU out x k else k + 1
    | none => k + 1

def hasU (out : List Evt) (x : Evt) : Prop := 0 < kU out x out.length ∧ out[kU out x out.length - 1]? = some x

instance (out : List Evt) (x : Evt) : Decidable (hasU out x) := by unfold hasU; infer_instance

def oneU (out : List Evt) (x : Evt) : List Evt := if hasU out x then out else out.take (kU out x out.length) ++ x :: out.drop (kU out x out.length)

def sortU (l : List Evt) : List Evt := l.foldl oneU []

theorem kU_le (out : List Evt) (x : Evt) : ∀ k, kU out x k ≤ k
  | 0 => Nat.le_refl _
  | k + 1 => by
    unfold kU
    split
    · split
      · have := kU_le out x k; omega
      · exact Nat.le_refl _
    · exact Nat.le_refl _

theorem kU_above (out : List Evt) (x : Evt) : ∀ (k j : Nat) (y : Evt), kU out x k ≤ j → j < k → out[j]? = some y → evLt x y
  | 0, j, y, _, h, _ => by omega
  | k + 1, j, y, h1, h2, h3 => by
    unfold kU at h1
    split at h1
    · rename_i z hz
      split at h1
      · rename_i hlt
        by_cases hj : j = k
        · subst hj; rw [hz] at h3; cases h3; exact hlt
        · exact kU_above out x k j y h1 (by omega) h3
      · omega
    · omega

theorem kU_below (out : List Evt) (x : Evt) : ∀ (k : Nat), k ≤ out.length → ∀ y, 0 < kU out x k → out[kU out x k - 1]? = some y → ¬ evLt x y
  | 0, _, y, h, _ => by simp [kU] at h
  | k + 1, hk, y, h1, h2 => by
    unfold kU at h1 h2
    split at h1
    · rename_i z hz
      rw [hz] at h2
      simp only at h2
      split at h1
      · rename_i hlt
        rw [if_pos hlt] at h2
        exact kU_below out x k (by omega) y h1 h2
      · rename_i hlt
        rw [if_neg hlt, Nat.add_sub_cancel, hz] at h2
        cases h2
        exact hlt
    · rename_i hz
      rw [List.getElem?_eq_getElem (by omega)] at hz
      cases hz

theorem evLt_trans {a b c : Evt} (h1 : evLt a b) (h2 : evLt b c) : evLt a c := by unfold evLt at *; omega

theorem evLt_irrefl (a : Evt) : ¬ evLt a a := by unfold evLt; omega

theorem evLt_tri {a b : Evt} (h1 : ¬ evLt a b) (h2 : ¬ evLt b a) : a = b := by
  obtain ⟨a1, a2⟩ := a
  obtain ⟨b1, b2⟩ := b
  unfold evLt at h1 h2
  dsimp only at h1 h2
  simp only [Evt.mk.injEq]
  omega

theorem mem_oneU {out : List Evt} {x y : Evt} : y ∈ oneU out x ↔ y = x ∨ y ∈ out := by
  unfold oneU
  split
  · rename_i h
    constructor
    · exact .inr
    · rintro (rfl | h2)
      · exact List.mem_of_getElem? h.2
      · exact h2
  · rw [List.mem_append, List.mem_cons]
    have e := List.take_append_drop (kU out x out.length) out
    constructor
    · rintro (h | h | h)
      · exact .inr (List.mem_of_mem_take h)
      · exact .inl h
      · exact .inr (List.mem_of_mem_drop h)
    · rintro (h | h)
      · exact .inr (.inl h)
      · rw [← e] at h
        rcases List.mem_append.1 h with h | h
        · exact .inl h
        · exact .inr (.inr h)

theorem oneU_asc {out : List Evt} (h : out.Pairwise evLt) (x : Evt) : (oneU out x).Pairwise evLt := by
  unfold oneU
  split
  · exact h
  · rename_i hno
    obtain ⟨K, hK⟩ : ∃ K, kU out x out.length = K := ⟨_, rfl⟩
    have hle := kU_le out x out.length
    have habove := kU_above out x out.length
    have hbelow := kU_below out x out.length (Nat.le_refl _)
    unfold hasU at hno
    rw [hK] at hno hle habove hbelow ⊢
    refine List.pairwise_append.2 ⟨h.sublist (List.take_sublist _ _), List.pairwise_cons.2 ⟨fun y hy => ?_, h.sublist (List.drop_sublist _ _)⟩, fun a ha b hb => ?_⟩
    · obtain ⟨j, hj⟩ := List.getElem?_of_mem hy
      rw [List.getElem?_drop] at hj
      exact habove (K + j) y (by omega) (List.getElem?_eq_some_iff.1 hj).1 hj
    · obtain ⟨i, hi⟩ := List.getElem?_of_mem ha
      rw [List.getElem?_take] at hi
      split at hi
      · rename_i hik
        -- a lies before x
        have hax : evLt a x := by
          obtain ⟨z, hz⟩ : ∃ z, out[K - 1]? = some z := ⟨out[K - 1]'(by omega), List.getElem?_eq_getElem _⟩
          have h1 := hbelow z (by omega) hz
          have h2 : z ≠ x := fun e => hno ⟨by omega, by rw [hz, e]⟩
          have hzx : evLt z x := by
            by_cases h3 : evLt z x
            · exact h3
            · exact absurd (evLt_tri h3 h1) h2
          by_cases e : i = K - 1
          · subst e; rw [hz] at hi; cases hi; exact hzx
          · have h4 := List.pairwise_iff_getElem.1 h i (K - 1) (by omega) (by omega) (by omega)
            have e1 := (List.getElem?_eq_some_iff.1 hi).2
            have e2 := (List.getElem?_eq_some_iff.1 hz).2
            rw [e1, e2] at h4
            exact evLt_trans h4 hzx
        rcases List.mem_cons.1 hb with rfl | hb
        · exact hax
        · obtain ⟨j, hj⟩ := List.getElem?_of_mem hb
          rw [List.getElem?_drop] at hj
          exact evLt_trans hax (habove (K + j) b (by omega) (List.getElem?_eq_some_iff.1 hj).1 hj)
      · cases hi

theorem foldU_asc : ∀ (l : List Evt) {out : List Evt}, out.Pairwise evLt → (l.foldl oneU out).Pairwise evLt
  | [], _, h => h
  | x :: l, _, h => foldU_asc l (oneU_asc h x)

theorem mem_foldU {y : Evt} : ∀ (l : List Evt) {out : List Evt}, y ∈ l.foldl oneU out ↔ y ∈ l ∨ y ∈ out
  | [], out => by simp
  | x :: l, out => by
    rw [List.foldl_cons, mem_foldU l, mem_oneU, List.mem_cons]
    constructor
    · rintro (h | h | h)
      · exact .inl (.inr h)
      · exact .inl (.inl h)
      · exact .inr h
    · rintro ((h | h) | h)
      · exact .inr (.inl h)
      · exact .inl h
      · exact .inr (.inr h)

theorem sortU_asc (l : List Evt) : (sortU l).Pairwise evLt := foldU_asc l List.Pairwise.nil

theorem mem_sortU {l : List Evt} {y : Evt} : y ∈ sortU l ↔ y ∈ l := by
  unfold sortU
  rw [mem_foldU]
  simp

theorem oneU_len (out : List Evt) (x : Evt) : out.length ≤ (oneU out x).length ∧ (oneU out x).length ≤ out.length + 1 := by
  unfold oneU
  split
  · omega
  · rw [List.length_append, List.length_cons, List.length_take, List.length_drop]
    have := kU_le out x out.length
    omega

theorem foldU_len : ∀ (l : List Evt) (out : List Evt), (l.foldl oneU out).length ≤ out.length + l.length
  | [], out => by simp
  | x :: l, out => by
    have h1 := foldU_len l (oneU out x)
    have h2 := oneU_len out x
    simp only [List.foldl_cons, List.length_cons]
    omega

theorem sortU_len (l : List Evt) : (sortU l).length ≤ l.length := by
  have := foldU_len l []
  simpa [sortU] using this

theorem sortU_next {l : List Evt} {i : Nat} {x : Evt} (h : l[i]? = some x) : sortU (l.take (i + 1)) = oneU (sortU (l.take i)) x := by
  unfold sortU
  rw [List.take_add_one, h, Option.toList_some, List.foldl_append]
  rfl

theorem asc_evt_ext : ∀ {l m : List Evt}, l.Pairwise evLt → m.Pairwise evLt → (∀ e, e ∈ l ↔ e ∈ m) → l = m
  | [], [], _, _, _ => rfl
  | [], b :: m, _, _, h => by have := (h b).2 List.mem_cons_self; simp at this
  | a :: l, [], _, _, h => by have := (h a).1 List.mem_cons_self; simp at this
  | a :: l, b :: m, h1, h2, h => by
    have g1 := List.pairwise_cons.1 h1
    have g2 := List.pairwise_cons.1 h2
    have hab : a = b := by
      rcases List.mem_cons.1 ((h a).1 List.mem_cons_self) with e | ha
      · exact e
      · rcases List.mem_cons.1 ((h b).2 List.mem_cons_self) with e | hb
        · exact e.symm
        · exact absurd (evLt_trans (g1.1 b hb) (g2.1 a ha)) (evLt_irrefl a)
    subst hab
    congr 1
    refine asc_evt_ext g1.2 g2.2 fun e => ?_
    constructor
    · intro he
      rcases List.mem_cons.1 ((h e).1 (List.mem_cons_of_mem _ he)) with rfl | h3
      · exact absurd (g1.1 e he) (evLt_irrefl e)
      · exact h3
    · intro he
      rcases List.mem_cons.1 ((h e).2 (List.mem_cons_of_mem _ he)) with rfl | h3
      · exact absurd (g2.1 e he) (evLt_irrefl e)
      · exact h3

theorem sortU_eq {l m : List Evt} (hm : m.Pairwise evLt) (h : ∀ e, e ∈ l ↔ e ∈ m) : sortU l = m := asc_evt_ext (sortU_asc l) hm fun e => by rw [mem_sortU, h]

end Go.Gm
end

section
set_option linter.unusedVariables false

set_option linter.unusedSimpArgs false

namespace Go.Gm

def inC (c : Clm) (x : Evt) : Prop := c.frm ≤ x.tick ∧ x.tick < c.to ∧ x.id ∈ c.ns

instance (c : Clm) (x : Evt) : Decidable (inC c x) := by unfold inC; infer_instance

def aboutL (c : Clm) (l : List Evt) : List Evt := l.filter fun x => decide (inC c x)

def LeadsP (c : Clm) (l : List Evt) : Prop := ∃ x ∈ aboutL c l, ∀ y ∈ aboutL c l, x.tick ≤ y.tick ∧ (y.tick = x.tick → c.ns[0]? = some y.id)

def CountsP (c : Clm) (l : List Evt) : Prop := c.lo ≤ ((aboutL c l).length : Int) ∧ ((aboutL c l).length : Int) ≤ c.hi

def HoldsP (c : Clm) (l : List Evt) : Prop := if c.kind = 1 then LeadsP c l else CountsP c l

def hitC (c : Clm) (n : Int) (x : Evt) : Prop := x.id = n ∧ c.frm ≤ x.tick ∧ x.tick < c.to

instance (c : Clm) (n : Int) (x : Evt) : Decidable (hitC c n x) := by unfold hitC; infer_instance

end Go.Gm
end
