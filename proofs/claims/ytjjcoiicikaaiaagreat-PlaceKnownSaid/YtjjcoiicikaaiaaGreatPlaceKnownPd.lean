import Derived.Test.YtjjcoiicikaaiaaGreatPlaceKnownSq
import Derived.Test.YtjjcoiicikaaiaaGreatPlaceKnownMc
import Derived.Test.YtjjcoiicikaaiaaGreatPlaceKnownQw
import Derived.Test.YtjjcoiicikaaiaaGreatPlaceKnownWk
import Derived.Test.YtjjcoiicikaaiaaGreatPlaceKnownPw
section
set_option linter.unusedVariables false

set_option linter.unusedSimpArgs false

namespace Go.Proofs

open Go Go.Vx Go.Gm Go.RowKit Go.WideShapes Go.ChangeShapes Go.Deep Go.Joins

section

variable {H : Type} {enc : TypeId × Value → H} {P : Program} {w : World} {base : Nat} {spare : Nat → Bool} {held : Bool}

end

structure _root_.Go.Gm.Chp.int (C : Chp) : Prop where
  mesh : C.mesh.wf
  nr : I64 C.nr
  sy : I64 C.sy
  en : I64 C.en
  bits : I64 C.bits
  dead : ∀ x ∈ C.dead, I64 x

theorem _root_.Go.Gm.Chp.int.wf {C : Chp} (h : C.int) (hf : C.dead.length ≤ 1000000) : C.wf := ⟨h.mesh, h.nr, h.sy, h.en, h.bits, h.dead, hf⟩

section

variable {H : Type} {enc : TypeId × Value → H} {W : World} {base : Nat} {spare : Nat → Bool} {held : Bool} {r : Reach} {b0 : Nat}

end

end Go.Proofs
end

section
set_option linter.unusedVariables false

set_option linter.unusedSimpArgs false

namespace Go.Proofs

open Go Go.Vx Go.Gm

theorem _root_.Go.Vx.VCall.arg1 {P : Program} {w0 : World} {M : List Nat} {H : HP} {f : Nat} (x : Value) {xs : List Value} {K : Value → HP → Prop} (hh : VCall P w0 M H f (x :: xs) K) : VCall P w0 M H f (x :: xs) K := hh

theorem equal7_self (l : List Int) (hll : l.length ≤ 1000000) (p : Option Addr) (c b o : Nat) (q : Option Addr) (d b2 o2 : Nat) (w : World) (h1 : Sl w intV 1 l p l.length b o) (h2 : Sl w intV 1 l q l.length b2 o2) :
    Calls Tryz.prog 25 #[.slice p l.length c, .slice q l.length d] w fun e w' => e = .returned (.bool true) ∧ St w [] [] w' := by
  refine enter (C := Tryz.cx) (F := Tryz.fx25) (args := [_, _]) Tryz.func25 rfl rfl rfl Tryz.ok25 (St.start w []) ?_
  repeat' (conv => whnf); first | (refine VSeq.go ?_) | (refine VB.is ?_; refine VB.yes (by omega) fun _ => ?_) | (refine VB.is ?_; refine VB.no (by omega) fun _ => ?_) | (refine VB.split (fun _ => ?_) (fun _ => ?_)) | (refine boolE_split (fun h => ?_) (fun h => ?_) <;> subst h) | (refine VLd.is ?_; refine VLd.mk (.row aT (by rfl)) ?_) | (refine VSt.is ?_; refine VSt.row aT (by rfl) (by first | rfl | assumption) ?_) | (refine VNew.mk fun _ => ?_) | (refine VAr.is ?_; refine oA ?_) | (refine VIx.is ?_; refine VIx.mk rfl (by omega) (by omega) ?_) | (refine VKeep.is ?_; refine VKeep.mk aH ?_) | (refine VHs.mk _ (.refl _) ?_) | (refine VQ.is ?_; refine oQ ?_) | (refine VM.is ?_; refine oM ?_) | (refine And.intro ?_ ?_)
  all_goals (conv => whnf)
  refine VLoop.mk (α := Nat) (fun j => j ≤ l.length) (fun j => [(1000000, .tuple #[]), (0, .slice p l.length c), (1, .slice q l.length d), (4, .bool false), (5, .int .i64 (j : Int))])
    (fun _ => []) (fun j => l.length - j) 0 (Nat.zero_le _) aE aH ?_
  rintro j hj
  rcases Nat.lt_or_ge j l.length with hlt | hge
  · obtain ⟨x, hx⟩ := h1.get hlt
    repeat' (conv => whnf); first | (refine VIx.is ?_; refine VIx.mk (h1.ptr (by omega)) (by omega) (by omega) ?_) | (refine VIx.is ?_; refine VIx.mk (h2.ptr (by omega)) (by omega) (by omega) ?_) | (refine VLd.is ?_; refine VLd.mk (Rd.cast (h1.rd0 (by simp) (fun _ => rfl) hx rfl) (by first | omega | (dsimp only; omega) | rfl)) ?_) | (refine VLd.is ?_; refine VLd.mk (Rd.cast (h2.rd0 (by simp) (fun _ => rfl) hx rfl) (by first | omega | (dsimp only; omega) | rfl)) ?_) | (refine VSeq.go ?_) | (refine VB.is ?_; refine VB.yes (by omega) fun _ => ?_) | (refine VB.is ?_; refine VB.no (by omega) fun _ => ?_) | (refine VB.split (fun _ => ?_) (fun _ => ?_)) | (refine boolE_split (fun h => ?_) (fun h => ?_) <;> subst h) | (refine VLd.is ?_; refine VLd.mk (.row aT (by rfl)) ?_) | (refine VSt.is ?_; refine VSt.row aT (by rfl) (by first | rfl | assumption) ?_) | (refine VNew.mk fun _ => ?_) | (refine VAr.is ?_; refine oA ?_) | (refine VIx.is ?_; refine VIx.mk rfl (by omega) (by omega) ?_) | (refine VKeep.is ?_; refine VKeep.mk aH ?_) | (refine VHs.mk _ (.refl _) ?_) | (refine VQ.is ?_; refine oQ ?_) | (refine VM.is ?_; refine oM ?_) | (refine And.intro ?_ ?_)
    all_goals (conv => whnf)
    refine VNext.mk (j + 1) (by omega) (by omega) aE aH
  repeat' (conv => whnf); first | (refine VSeq.go ?_) | (refine VB.is ?_; refine VB.yes (by omega) fun _ => ?_) | (refine VB.is ?_; refine VB.no (by omega) fun _ => ?_) | (refine VB.split (fun _ => ?_) (fun _ => ?_)) | (refine boolE_split (fun h => ?_) (fun h => ?_) <;> subst h) | (refine VLd.is ?_; refine VLd.mk (.row aT (by rfl)) ?_) | (refine VSt.is ?_; refine VSt.row aT (by rfl) (by first | rfl | assumption) ?_) | (refine VNew.mk fun _ => ?_) | (refine VAr.is ?_; refine oA ?_) | (refine VIx.is ?_; refine VIx.mk rfl (by omega) (by omega) ?_) | (refine VKeep.is ?_; refine VKeep.mk aH ?_) | (refine VHs.mk _ (.refl _) ?_) | (refine VQ.is ?_; refine oQ ?_) | (refine VM.is ?_; refine oM ?_) | (refine And.intro ?_ ?_)
  all_goals (conv => whnf)
  exact ⟨fun w' hw' => ⟨rfl, hw'.le .nil⟩⟩

end Go.Proofs
end

section
set_option linter.unusedVariables false

set_option linter.unusedSimpArgs false

namespace Go.Gm

end Go.Gm
end

section
set_option linter.unusedVariables false

set_option linter.unusedSimpArgs false

namespace Go.Gm

theorem useN_set {cores : List Int} {i : Nat} {home : Int} (h : cores[i]? = some home) (k j : Int) : useN (cores.set i k) j + (if home = j then 1 else 0) = useN cores j + (if k = j then 1 else 0) := by
  obtain ⟨hlt, hh⟩ := List.getElem?_eq_some_iff.1 h
  have e1 : cores = cores.take i ++ home :: cores.drop (i + 1) := by rw [← hh, ← List.drop_eq_getElem_cons hlt, List.take_append_drop]
  have e2 : cores.set i k = cores.take i ++ k :: cores.drop (i + 1) := List.set_eq_take_append_cons_drop .. ▸ by rw [if_pos hlt]
  rw [e2]
  conv => rhs; rw [e1]
  unfold useN
  rw [List.countP_append, List.countP_append, List.countP_cons, List.countP_cons]
  simp only [decide_eq_true_eq]
  omega

theorem useR_set {l : List Syn} {cores : List Int} {i : Nat} {home : Int} (h : cores[i]? = some home) (k j : Int) : useR l (cores.set i k) j + (if home = j then rowN l i else 0) = useR l cores j + (if k = j then rowN l i else 0) := by
  obtain ⟨hlt, _⟩ := List.getElem?_eq_some_iff.1 h
  unfold useR rowN
  induction l with
  | nil => simp
  | cons s l ih =>
    rw [List.countP_cons, List.countP_cons, List.countP_cons]
    simp only [decide_eq_true_eq]
    by_cases hs : s.to = (i : Int)
    · have e : s.to.toNat = i := by omega
      rw [e, List.getElem?_set_self hlt, h, if_pos hs]
      simp only [Option.some.injEq]
      have h0 : 0 ≤ s.to := by omega
      simp only [h0, true_and]
      split <;> split <;> simp_all <;> omega
    · rw [if_neg hs, Nat.add_zero]
      by_cases h0 : 0 ≤ s.to
      · rw [List.getElem?_set_ne (by omega)]
        omega
      · simp only [h0, false_and, if_false]
        omega

theorem fits_set {C : Chp} {l : List Syn} {cores : List Int} (h : SoFar C l cores) {i : Nat} {home k : Int} (hi : cores[i]? = some home) (hk : 0 ≤ k ∧ k < nCores C) (hne : k ≠ home) : Gm.fitsR C l (cores.set i k) ↔ spaceP C l cores i k := by
  constructor
  · intro hf
    obtain ⟨j, rfl⟩ : ∃ j : Nat, k = j := ⟨k.toNat, by omega⟩
    obtain ⟨h1, h2, h3⟩ := hf j (by omega)
    have e1 := useN_set hi (j : Int) (j : Int)
    have e2 := useR_set (l := l) hi (j : Int) (j : Int)
    rw [if_pos rfl, if_neg (Ne.symm hne)] at e1 e2
    exact ⟨fun hd => h3 ⟨by omega, hd⟩, by omega, by omega⟩
  · rintro ⟨h1, h2, h3⟩ j hj
    obtain ⟨f1, f2, f3⟩ := h.fitsR j hj
    have e1 := useN_set hi k (j : Int)
    have e2 := useR_set (l := l) hi k (j : Int)
    by_cases e : k = (j : Int)
    · have hh : ¬ home = (j : Int) := fun e3 => hne (by rw [e, e3])
      rw [if_pos e, if_neg hh] at e1 e2
      subst e
      exact ⟨by omega, by omega, fun hh => h1 hh.2⟩
    · rw [if_neg e] at e1 e2
      refine ⟨by omega, by omega, fun hh => f3 ⟨by omega, hh.2⟩⟩

theorem set_self {cores : List Int} {i : Nat} {home : Int} (h : cores[i]? = some home) : cores.set i home = cores := by
  obtain ⟨hlt, rfl⟩ := List.getElem?_eq_some_iff.1 h
  exact List.set_getElem_self hlt

theorem AsgOk.soFar {N : Net} {C : Chp} {cores : List Int} (h : AsgOk N C cores) : SoFar C N.syns cores :=
  ⟨fun k hk => by have h1 := h.core k hk; have := (nCores_ok h.plan.chip).1; exact ⟨by omega, h1.2⟩, h.fits⟩

theorem asg_of {N : Net} {C : Chp} {cores : List Int} (hp : PlanOk N C) (hl : cores.length = N.ps.length) (h : SoFar C N.syns cores) : AsgOk N C cores :=
  ⟨hp, hl, fun k hk => by have h1 := h.core k hk; have := (nCores_ok hp.chip).1; exact ⟨by omega, h1.2⟩, h.fits⟩

theorem pickL_shift {v u : Int → Int} {c0 d0 r : Int} (hc : c0 = d0 + r) (hv : ∀ k, v k = u k + r) (l : List Int) : pickL v c0 l = pickL u d0 l := by
  have key : ∀ l, firstL v l = (firstL u l).map fun p => (p.1, p.2 + r) := by
    refine snoc_ind rfl fun l x ih => ?_
    rw [firstL_snoc, firstL_snoc, ih]
    cases firstL u l with
    | none => simp only [flStep, Option.map_none, Option.map_some, hv]
    | some p =>
      obtain ⟨b, m⟩ := p
      simp only [flStep, Option.map_some, hv]
      by_cases h : u x < m
      · rw [if_pos (by omega), if_pos h]; rfl
      · rw [if_neg (by omega), if_neg h]; rfl
  unfold pickL
  rw [key]
  cases firstL u l with
  | none => rfl
  | some p =>
    obtain ⟨b, m⟩ := p
    simp only [Option.map_some]
    by_cases h : m < d0
    · rw [if_pos (by omega), if_pos h]
    · rw [if_neg (by omega), if_neg h]

theorem impStep_cost {N : Net} {C : Chp} {cores : List Int} (h : AsgOk N C cores) {i : Nat} (hi : i < N.ps.length) :
    impStep N C cores i = match pickL (fun k => (costM N C (cores.set i k) : Int)) (costM N C cores) (spacesM C N.syns cores i) with
      | some k => cores.set i k
      | none => cores := by
  unfold impStep
  rw [pickL_shift (v := fun k => (costM N C (cores.set i k) : Int)) (u := fun k => (aroundM N C (cores.set i k) i : Int)) (r := restM N C cores i) (c0 := costM N C cores) (d0 := aroundM N C cores i)
    (by have := cost_split (C := C) h.plan.net cores hi; omega) (fun k => cost_set h.plan.net cores hi k)]
  cases pickL (fun k => (aroundM N C (cores.set i k) i : Int)) (aroundM N C cores i) (spacesM C N.syns cores i) <;> rfl

theorem pickL_mem {v : Int → Int} {c0 : Int} {l : List Int} {b : Int} (h : pickL v c0 l = some b) : b ∈ l ∧ v b < c0 ∧ ∀ x ∈ l, v b ≤ v x := by
  unfold pickL at h
  cases hf : firstL v l with
  | none => rw [hf] at h; cases h
  | some p =>
    obtain ⟨b0, m⟩ := p
    rw [hf] at h
    dsimp only at h
    split at h
    · simp only [Option.some.injEq] at h
      subst h
      obtain ⟨h1, h2, h3⟩ := firstL_mem hf
      exact ⟨h1, by omega, fun x hx => by have := h3 x hx; omega⟩
    · cases h

theorem impStep_ok {N : Net} {C : Chp} {cores : List Int} (h : AsgOk N C cores) {i : Nat} (hi : i < N.ps.length) : AsgOk N C (impStep N C cores i) ∧ costM N C (impStep N C cores i) ≤ costM N C cores := by
  rw [impStep_cost h hi]
  cases hp : pickL (fun k => (costM N C (cores.set i k) : Int)) (costM N C cores) (spacesM C N.syns cores i) with
  | none => exact ⟨h, Nat.le_refl _⟩
  | some k =>
    obtain ⟨h1, h2, _⟩ := pickL_mem hp
    dsimp only at h2 ⊢
    obtain ⟨g1, g2⟩ := List.mem_filter.1 h1
    have g3 := mem_allC.1 g1
    have g4 := of_decide_eq_true g2
    have hlt : i < cores.length := by have := h.len; omega
    have hi2 : cores[i]? = some cores[i] := List.getElem?_eq_getElem hlt
    by_cases hne : k = cores[i]
    · rw [hne, set_self hi2] at h2
      omega
    · have hf := (fits_set h.soFar hi2 g3 hne).2 g4
      refine ⟨asg_of h.plan (by rw [List.length_set]; exact h.len) (soFar_of (fun x hx => ?_) hf), by omega⟩
      rcases List.mem_or_eq_of_mem_set hx with hx | rfl
      · exact (h.soFar.core x hx).1
      · exact g3

end Go.Gm
end
