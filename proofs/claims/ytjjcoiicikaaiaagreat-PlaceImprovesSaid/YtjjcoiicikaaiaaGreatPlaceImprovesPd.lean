import Derived.Test.YtjjcoiicikaaiaaGreatPlaceImprovesTo
import Derived.Test.YtjjcoiicikaaiaaGreatPlaceImprovesMc
import Derived.Test.YtjjcoiicikaaiaaGreatPlaceImprovesQw
import Derived.Test.YtjjcoiicikaaiaaGreatPlaceImprovesWk
import Derived.Test.YtjjcoiicikaaiaaGreatPlaceImprovesPv
section
set_option linter.unusedVariables false

set_option linter.unusedSimpArgs false

namespace Go.Proofs

open Go Go.Vx Go.Gm Go.RowKit Go.WideShapes Go.ChangeShapes Go.Deep Go.Joins

section

variable {H : Type} {enc : TypeId × Value → H} {P : Program} {w : World} {base : Nat} {spare : Nat → Bool} {held : Bool}

theorem trod_flds {t : TypeId} {fs : Array Field} {n : Nat} {cells : List Value} {y : DataW H × List MemPlace} (hs : P.underlying t = some (.struct fs)) (h : DataW.trod enc P w base spare held n t cells = some y) :
    ∃ m, ∀ (i : Nat) (f : Field), fs[i]? = some f → ∃ z, DataW.trod enc P w base spare held m f.type ((cells.drop f.offset).take (P.cellsOf f.type)) = some z := by
  obtain ⟨d, p⟩ := y
  obtain ⟨xs, m, e, hx, hl, hxl, hall⟩ := DataW.trod_struct hs h
  refine ⟨m, fun i f h1 => ?_⟩
  have h3 := hall i f h1
  have hxi : i < xs.length := by rw [hxl]; exact (Array.getElem?_eq_some_iff.1 h1).1
  rw [List.getElem?_eq_getElem hxi] at h3
  exact ⟨_, h3⟩

theorem arr8 {cs : Array Value} (h : cs.size = 8) : ∃ a0 a1 a2 a3 a4 a5 a6 a7, cs = #[a0, a1, a2, a3, a4, a5, a6, a7] := by
  obtain ⟨l⟩ := cs
  match l, h with
  | [a0, a1, a2, a3, a4, a5, a6, a7], _ => exact ⟨a0, a1, a2, a3, a4, a5, a6, a7, rfl⟩

end

structure _root_.Go.Gm.Chp.int (C : Chp) : Prop where
  mesh : C.mesh.wf
  nr : I64 C.nr
  sy : I64 C.sy
  en : I64 C.en
  bits : I64 C.bits
  dead : ∀ x ∈ C.dead, I64 x

theorem _root_.Go.Gm.Chp.int.wf {C : Chp} (h : C.int) (hf : C.dead.length ≤ 1000000) : C.wf := ⟨h.mesh, h.nr, h.sy, h.en, h.bits, h.dead, hf⟩

section

variable {H : Type} {enc : TypeId × Value → H} {W : World} {base : Nat} {spare : Nat → Bool} {held : Bool} {r : Reach} {b0 : Nat}

theorem int_at {n : Nat} {v : Value} {y : DataW H × List MemPlace} (h : DataW.trod enc Tryz.prog W base spare held n 3 [v] = some y) : ∃ i : Int, v = .int .i64 i ∧ I64 i := by
  obtain ⟨i, hi, _, hw⟩ := DataW.trod_int Tryz.underlying3 h
  simp only [List.cons.injEq, and_true] at hi
  exact ⟨i, hi, i64_of_wf hw⟩

set_option maxRecDepth 100000 in
theorem open_chp {v : Value} {d : DataW H} {p : List MemPlace} (hv : Value.okWide Tryz.prog W r b0 26 v) (h : DataW.Trod enc Tryz.prog W base spare held 26 v d p) :
    ∃ (C : Chp) (pd : Option Addr) (cd bd od : Nat), v = .agg (chpC C pd cd).toArray ∧ C.int ∧ C.dead.length ≤ cd ∧ C.dead.length ≤ maxLen ∧ Sl W intV 1 C.dead pd C.dead.length bd od := by
  obtain ⟨cs, rfl, hsz⟩ := okWide_struct Tryz.underlying26 hv
  have hc8 : Tryz.prog.cellsOf 26 = 8 := by kernel_rfl
  obtain ⟨a0, a1, a2, a3, a4, a5, a6, a7, rfl⟩ := arr8 (hsz.trans hc8)
  obtain ⟨fuel, hf⟩ := h
  obtain ⟨m, hall⟩ := trod_flds Tryz.underlying26 hf
  have hg0 : ∃ z, DataW.trod enc Tryz.prog W base spare held m 23 [a0, a1, a2] = some z := by
    obtain ⟨z, g⟩ := hall 0 _ rfl
    change DataW.trod enc Tryz.prog W base spare held m 23 (List.take (Tryz.prog.cellsOf 23) (List.drop 0 [a0, a1, a2, a3, a4, a5, a6, a7])) = some z at g
    rw [show Tryz.prog.cellsOf 23 = 3 by kernel_rfl] at g
    exact ⟨z, g⟩
  have hg1 : ∃ z, DataW.trod enc Tryz.prog W base spare held m 3 [a3] = some z := by
    obtain ⟨z, g⟩ := hall 1 _ rfl
    change DataW.trod enc Tryz.prog W base spare held m 3 (List.take (Tryz.prog.cellsOf 3) (List.drop 3 [a0, a1, a2, a3, a4, a5, a6, a7])) = some z at g
    rw [show Tryz.prog.cellsOf 3 = 1 by kernel_rfl] at g
    exact ⟨z, g⟩
  have hg2 : ∃ z, DataW.trod enc Tryz.prog W base spare held m 3 [a4] = some z := by
    obtain ⟨z, g⟩ := hall 2 _ rfl
    change DataW.trod enc Tryz.prog W base spare held m 3 (List.take (Tryz.prog.cellsOf 3) (List.drop 4 [a0, a1, a2, a3, a4, a5, a6, a7])) = some z at g
    rw [show Tryz.prog.cellsOf 3 = 1 by kernel_rfl] at g
    exact ⟨z, g⟩
  have hg3 : ∃ z, DataW.trod enc Tryz.prog W base spare held m 3 [a5] = some z := by
    obtain ⟨z, g⟩ := hall 3 _ rfl
    change DataW.trod enc Tryz.prog W base spare held m 3 (List.take (Tryz.prog.cellsOf 3) (List.drop 5 [a0, a1, a2, a3, a4, a5, a6, a7])) = some z at g
    rw [show Tryz.prog.cellsOf 3 = 1 by kernel_rfl] at g
    exact ⟨z, g⟩
  have hg4 : ∃ z, DataW.trod enc Tryz.prog W base spare held m 3 [a6] = some z := by
    obtain ⟨z, g⟩ := hall 4 _ rfl
    change DataW.trod enc Tryz.prog W base spare held m 3 (List.take (Tryz.prog.cellsOf 3) (List.drop 6 [a0, a1, a2, a3, a4, a5, a6, a7])) = some z at g
    rw [show Tryz.prog.cellsOf 3 = 1 by kernel_rfl] at g
    exact ⟨z, g⟩
  have hg5 : ∃ z, DataW.trod enc Tryz.prog W base spare held m 24 [a7] = some z := by
    obtain ⟨z, g⟩ := hall 5 _ rfl
    change DataW.trod enc Tryz.prog W base spare held m 24 (List.take (Tryz.prog.cellsOf 24) (List.drop 7 [a0, a1, a2, a3, a4, a5, a6, a7])) = some z at g
    rw [show Tryz.prog.cellsOf 24 = 1 by kernel_rfl] at g
    exact ⟨z, g⟩
  obtain ⟨zn, hn⟩ := hg0
  obtain ⟨mn, halln⟩ := trod_flds Tryz.underlying23 hn
  have n0 : ∃ z, DataW.trod enc Tryz.prog W base spare held mn 3 [a0] = some z := by
    obtain ⟨z, g⟩ := halln 0 _ rfl
    change DataW.trod enc Tryz.prog W base spare held mn 3 (List.take (Tryz.prog.cellsOf 3) (List.drop 0 [a0, a1, a2])) = some z at g
    rw [show Tryz.prog.cellsOf 3 = 1 by kernel_rfl] at g
    exact ⟨z, g⟩
  have n1 : ∃ z, DataW.trod enc Tryz.prog W base spare held mn 3 [a1] = some z := by
    obtain ⟨z, g⟩ := halln 1 _ rfl
    change DataW.trod enc Tryz.prog W base spare held mn 3 (List.take (Tryz.prog.cellsOf 3) (List.drop 1 [a0, a1, a2])) = some z at g
    rw [show Tryz.prog.cellsOf 3 = 1 by kernel_rfl] at g
    exact ⟨z, g⟩
  have n2 : ∃ z, DataW.trod enc Tryz.prog W base spare held mn 3 [a2] = some z := by
    obtain ⟨z, g⟩ := halln 2 _ rfl
    change DataW.trod enc Tryz.prog W base spare held mn 3 (List.take (Tryz.prog.cellsOf 3) (List.drop 2 [a0, a1, a2])) = some z at g
    rw [show Tryz.prog.cellsOf 3 = 1 by kernel_rfl] at g
    exact ⟨z, g⟩
  clear hall halln hf
  obtain ⟨y, g⟩ := n0; obtain ⟨wide, rfl, hw⟩ := int_at g; clear g y
  obtain ⟨y, g⟩ := n1; obtain ⟨high, rfl, hh⟩ := int_at g; clear g y
  obtain ⟨y, g⟩ := n2; obtain ⟨room, rfl, hr⟩ := int_at g; clear g y
  obtain ⟨y, g⟩ := hg1; obtain ⟨nr, rfl, h1⟩ := int_at g; clear g y
  obtain ⟨y, g⟩ := hg2; obtain ⟨sy, rfl, h2⟩ := int_at g; clear g y
  obtain ⟨y, g⟩ := hg3; obtain ⟨en, rfl, h3⟩ := int_at g; clear g y
  obtain ⟨y, g⟩ := hg4; obtain ⟨bits, rfl, h4⟩ := int_at g; clear g y
  have hts : Tryz.prog.cellTypes Tryz.prog.depth 26 = some [3, 3, 3, 3, 3, 3, 3, 24] := by kernel_rfl
  have k7 := cell_of_row Tryz.underlying26 hts hv 7 rfl rfl (by simp)
  obtain ⟨y7, g7⟩ := hg5
  obtain ⟨pd, cd, bd, od, l, rfl, d1, d2, d3, d4⟩ := open_nums Tryz.underlying24 Tryz.underlying3 (by kernel_rfl) g7 k7
  exact ⟨⟨⟨wide, high, room⟩, nr, sy, en, bits, l⟩, pd, cd, bd, od, rfl, ⟨⟨hw, hh, hr⟩, h1, h2, h3, h4, d4⟩, d1, d2, d3⟩

end

end Go.Proofs
end

section
set_option linter.unusedVariables false

set_option linter.unusedSimpArgs false

namespace Go.Proofs

open Go Go.Vx Go.Gm

theorem equal7_self (l : List Int) (hll : l.length ≤ 1000000) (p : Option Addr) (c b o : Nat) (q : Option Addr) (d b2 o2 : Nat) (w : World) (h1 : Sl w intV 1 l p l.length b o) (h2 : Sl w intV 1 l q l.length b2 o2) :
    Calls Tryz.prog 25 #[.slice p l.length c, .slice q l.length d] w fun e w' => e = .returned (.bool true) ∧ St w [] [] w' := by
  refine enter (C := Tryz.cx) (F := Tryz.fx25) (args := [_, _]) Tryz.func25 rfl rfl rfl Tryz.ok25 (St.start w []) ?_
  repeat' (conv => whnf); first | (refine VSeq.go ?_) | (refine VB.is ?_; refine VB.yes (by omega) fun _ => ?_) | (refine VB.is ?_; refine VB.no (by omega) fun _ => ?_) | (refine VB.split (fun _ => ?_) (fun _ => ?_)) | (refine boolE_split (fun h => ?_) (fun h => ?_) <;> subst h) | (refine VLd.is ?_; refine VLd.mk (.row aT (by rfl)) ?_) | (refine VSt.is ?_; refine VSt.row aT (by rfl) (by first | rfl | assumption) ?_) | (refine VNew.mk fun _ => ?_) | (refine VAr.is ?_; refine oA ?_) | (refine VIx.is ?_; refine VIx.mk rfl (by omega) (by omega) ?_) | (refine VKeep.is ?_; refine VKeep.mk aH ?_) | (refine VHs.mk _ (.refl _) ?_) | (refine VQ.is ?_; refine oQ ?_) | (refine VM.is ?_; refine oM ?_) | (refine And.intro ?_ ?_)
  all_goals (conv => whnf)
  refine VLoop.mk (α := Nat) (fun j => j ≤ l.length) (fun j => [(1000000, .tuple #[]), (0, .slice p l.length c), (1, .slice q l.length d), (4, .bool false), (5, .int .i64 (j : Int))])
    (fun _ => []) (fun j => l.length - j) 0 (Nat.zero_le _) aE aH ?_
  rintro j hj
  rcases Nat.lt_or_ge j l.length with hlt | hge
  · obtain ⟨x, hx⟩ := h1.get hlt
    repeat' (conv => whnf); first | (refine VIx.is ?_; refine VIx.mk (h1.ptr (by omega)) (by omega) (by omega) ?_) | (refine VIx.is ?_; refine VIx.mk (h2.ptr (by omega)) (by omega) (by omega) ?_) | (refine VLd.is ?_; refine VLd.mk (Rd.cast (h1.rd0 (by simp) (fun _ => rfl) hx rfl) (by first | omega | (dsimp only; omega) | rfl)) ?_) | (refine VLd.is ?_; refine VLd.mk (Rd.cast (h2.rd0 (by simp) (fun _ => rfl) hx rfl) (by first | omega | (dsimp only; omega) | rfl)) ?_) | (refine VSeq.go ?_) | (refine VB.is ?_; refine VB.yes (by omega) fun _ => ?_) | (refine VB.is ?_; refine VB.no (by omega) fun _ => ?_) | (refine VB.split (fun _ => ?_) (fun _ => ?_)) | (refine boolE_split (fun h => ?_) (fun h => ?_) <;> subst h) | (refine VLd.is ?_; refine VLd.mk (.row aT (by rfl)) ?_) | (refine VSt.is ?_; refine VSt.row aT (by rfl) (by first | rfl | assumption) ?_) | (refine VNew.mk fun _ => ?_) | (refine VAr.is ?_; refine oA ?_) | (refine VIx.is ?_; refine VIx.mk rfl (by omega) (by omega) ?_) | (refine VKeep.is ?_; refine VKeep.mk aH ?_) | (refine VHs.mk _ (.refl _) ?_) | (refine VQ.is ?_; refine oQ ?_) | (refine VM.is ?_; refine oM ?_) | (refine And.intro ?_ ?_)
    all_goals (conv => whnf)
    refine VNext.mk (j + 1) (by omega) (by omega) aE aH
  repeat' (conv => whnf); first | (refine VSeq.go ?_) | (refine VB.is ?_; refine VB.yes (by omega) fun _ => ?_) | (refine VB.is ?_; refine VB.no (by omega) fun _ => ?_) | (refine VB.split (fun _ => ?_) (fun _ => ?_)) | (refine boolE_split (fun h => ?_) (fun h => ?_) <;> subst h) | (refine VLd.is ?_; refine VLd.mk (.row aT (by rfl)) ?_) | (refine VSt.is ?_; refine VSt.row aT (by rfl) (by first | rfl | assumption) ?_) | (refine VNew.mk fun _ => ?_) | (refine VAr.is ?_; refine oA ?_) | (refine VIx.is ?_; refine VIx.mk rfl (by omega) (by omega) ?_) | (refine VKeep.is ?_; refine VKeep.mk aH ?_) | (refine VHs.mk _ (.refl _) ?_) | (refine VQ.is ?_; refine oQ ?_) | (refine VM.is ?_; refine oM ?_) | (refine And.intro ?_ ?_)
  all_goals (conv => whnf)
  exact ⟨fun w' hw' => ⟨rfl, hw'.le .nil⟩⟩

end Go.Proofs
end

section
set_option linter.unusedVariables false

set_option linter.unusedSimpArgs false

namespace Go.Gm

theorem home_range {N : Net} {C : Chp} {cores : List Int} (h : AsgOk N C cores) (key : Int) (hk : 0 ≤ key) : 0 ≤ homeM N cores key ∧ homeM N cores key < nCores C := by
  have hn := nCores_ok h.plan.chip
  unfold homeM
  split
  · have hlt : key.toNat < cores.length := by have := h.len; omega
    rw [List.getElem?_eq_getElem hlt, Option.getD_some]
    have := (h.core _ (List.getElem_mem hlt)).1
    omega
  · omega

end Go.Gm
end

section
set_option linter.unusedVariables false

set_option linter.unusedSimpArgs false

namespace Go.Gm

theorem useN_set {cores : List Int} {i : Nat} {home : Int} (h : cores[i]? = some home) (k j : Int) : useN (cores.set i k) j + (if home = j then 1 else 0) = useN cores j + (if k = j then 1 else 0) := by
  obtain ⟨hlt, hh⟩ := List.getElem?_eq_some_iff.1 h
  have e1 : cores = cores.take i ++ home :: cores.drop (i + 1) := by rw [← hh, ← List.drop_eq_getElem_cons hlt, List.take_append_drop]
  have e2 : cores.set i k = cores.take i ++ k :: cores.drop (i + 1) := List.set_eq_take_append_cons_drop .. ▸ by rw [if_pos hlt]
  rw [e2]
  conv => rhs; rw [e1]
  unfold useN
  rw [List.countP_append, List.countP_append, List.countP_cons, List.countP_cons]
  simp only [decide_eq_true_eq]
  omega

theorem useR_set {l : List Syn} {cores : List Int} {i : Nat} {home : Int} (h : cores[i]? = some home) (k j : Int) : useR l (cores.set i k) j + (if home = j then rowN l i else 0) = useR l cores j + (if k = j then rowN l i else 0) := by
  obtain ⟨hlt, _⟩ := List.getElem?_eq_some_iff.1 h
  unfold useR rowN
  induction l with
  | nil => simp
  | cons s l ih =>
    rw [List.countP_cons, List.countP_cons, List.countP_cons]
    simp only [decide_eq_true_eq]
    by_cases hs : s.to = (i : Int)
    · have e : s.to.toNat = i := by omega
      rw [e, List.getElem?_set_self hlt, h, if_pos hs]
      simp only [Option.some.injEq]
      have h0 : 0 ≤ s.to := by omega
      simp only [h0, true_and]
      split <;> split <;> simp_all <;> omega
    · rw [if_neg hs, Nat.add_zero]
      by_cases h0 : 0 ≤ s.to
      · rw [List.getElem?_set_ne (by omega)]
        omega
      · simp only [h0, false_and, if_false]
        omega

theorem fits_set {C : Chp} {l : List Syn} {cores : List Int} (h : SoFar C l cores) {i : Nat} {home k : Int} (hi : cores[i]? = some home) (hk : 0 ≤ k ∧ k < nCores C) (hne : k ≠ home) : Gm.fitsR C l (cores.set i k) ↔ spaceP C l cores i k := by
  constructor
  · intro hf
    obtain ⟨j, rfl⟩ : ∃ j : Nat, k = j := ⟨k.toNat, by omega⟩
    obtain ⟨h1, h2, h3⟩ := hf j (by omega)
    have e1 := useN_set hi (j : Int) (j : Int)
    have e2 := useR_set (l := l) hi (j : Int) (j : Int)
    rw [if_pos rfl, if_neg (Ne.symm hne)] at e1 e2
    exact ⟨fun hd => h3 ⟨by omega, hd⟩, by omega, by omega⟩
  · rintro ⟨h1, h2, h3⟩ j hj
    obtain ⟨f1, f2, f3⟩ := h.fitsR j hj
    have e1 := useN_set hi k (j : Int)
    have e2 := useR_set (l := l) hi k (j : Int)
    by_cases e : k = (j : Int)
    · have hh : ¬ home = (j : Int) := fun e3 => hne (by rw [e, e3])
      rw [if_pos e, if_neg hh] at e1 e2
      subst e
      exact ⟨by omega, by omega, fun hh => h1 hh.2⟩
    · rw [if_neg e] at e1 e2
      refine ⟨by omega, by omega, fun hh => f3 ⟨by omega, hh.2⟩⟩

theorem set_self {cores : List Int} {i : Nat} {home : Int} (h : cores[i]? = some home) : cores.set i home = cores := by
  obtain ⟨hlt, rfl⟩ := List.getElem?_eq_some_iff.1 h
  exact List.set_getElem_self hlt

theorem AsgOk.soFar {N : Net} {C : Chp} {cores : List Int} (h : AsgOk N C cores) : SoFar C N.syns cores :=
  ⟨fun k hk => by have h1 := h.core k hk; have := (nCores_ok h.plan.chip).1; exact ⟨by omega, h1.2⟩, h.fits⟩

theorem asg_of {N : Net} {C : Chp} {cores : List Int} (hp : PlanOk N C) (hl : cores.length = N.ps.length) (h : SoFar C N.syns cores) : AsgOk N C cores :=
  ⟨hp, hl, fun k hk => by have h1 := h.core k hk; have := (nCores_ok hp.chip).1; exact ⟨by omega, h1.2⟩, h.fits⟩

theorem pickL_shift {v u : Int → Int} {c0 d0 r : Int} (hc : c0 = d0 + r) (hv : ∀ k, v k = u k + r) (l : List Int) : pickL v c0 l = pickL u d0 l := by
  have key : ∀ l, firstL v l = (firstL u l).map fun p => (p.1, p.2 + r) := by
    refine snoc_ind rfl fun l x ih => ?_
    rw [firstL_snoc, firstL_snoc, ih]
    cases firstL u l with
    | none => simp only [flStep, Option.map_none, Option.map_some, hv]
    | some p =>
      obtain ⟨b, m⟩ := p
      simp only [flStep, Option.map_some, hv]
      by_cases h : u x < m
      · rw [if_pos (by omega), if_pos h]; rfl
      · rw [if_neg (by omega), if_neg h]; rfl
  unfold pickL
  rw [key]
  cases firstL u l with
  | none => rfl
  | some p =>
    obtain ⟨b, m⟩ := p
    simp only [Option.map_some]
    by_cases h : m < d0
    · rw [if_pos (by omega), if_pos h]
    · rw [if_neg (by omega), if_neg h]

theorem impStep_cost {N : Net} {C : Chp} {cores : List Int} (h : AsgOk N C cores) {i : Nat} (hi : i < N.ps.length) :
    impStep N C cores i = match pickL (fun k => (costM N C (cores.set i k) : Int)) (costM N C cores) (spacesM C N.syns cores i) with
      | some k => cores.set i k
      | none => cores := by
  unfold impStep
  rw [pickL_shift (v := fun k => (costM N C (cores.set i k) : Int)) (u := fun k => (aroundM N C (cores.set i k) i : Int)) (r := restM N C cores i) (c0 := costM N C cores) (d0 := aroundM N C cores i)
    (by have := cost_split (C := C) h.plan.net cores hi; omega) (fun k => cost_set h.plan.net cores hi k)]
  cases pickL (fun k => (aroundM N C (cores.set i k) i : Int)) (aroundM N C cores i) (spacesM C N.syns cores i) <;> rfl

theorem pickL_mem {v : Int → Int} {c0 : Int} {l : List Int} {b : Int} (h : pickL v c0 l = some b) : b ∈ l ∧ v b < c0 ∧ ∀ x ∈ l, v b ≤ v x := by
  unfold pickL at h
  cases hf : firstL v l with
  | none => rw [hf] at h; cases h
  | some p =>
    obtain ⟨b0, m⟩ := p
    rw [hf] at h
    dsimp only at h
    split at h
    · simp only [Option.some.injEq] at h
      subst h
      obtain ⟨h1, h2, h3⟩ := firstL_mem hf
      exact ⟨h1, by omega, fun x hx => by have := h3 x hx; omega⟩
    · cases h

theorem impStep_ok {N : Net} {C : Chp} {cores : List Int} (h : AsgOk N C cores) {i : Nat} (hi : i < N.ps.length) : AsgOk N C (impStep N C cores i) ∧ costM N C (impStep N C cores i) ≤ costM N C cores := by
  rw [impStep_cost h hi]
  cases hp : pickL (fun k => (costM N C (cores.set i k) : Int)) (costM N C cores) (spacesM C N.syns cores i) with
  | none => exact ⟨h, Nat.le_refl _⟩
  | some k =>
    obtain ⟨h1, h2, _⟩ := pickL_mem hp
    dsimp only at h2 ⊢
    obtain ⟨g1, g2⟩ := List.mem_filter.1 h1
    have g3 := mem_allC.1 g1
    have g4 := of_decide_eq_true g2
    have hlt : i < cores.length := by have := h.len; omega
    have hi2 : cores[i]? = some cores[i] := List.getElem?_eq_getElem hlt
    by_cases hne : k = cores[i]
    · rw [hne, set_self hi2] at h2
      omega
    · have hf := (fits_set h.soFar hi2 g3 hne).2 g4
      refine ⟨asg_of h.plan (by rw [List.length_set]; exact h.len) (soFar_of (fun x hx => ?_) hf), by omega⟩
      rcases List.mem_or_eq_of_mem_set hx with hx | rfl
      · exact (h.soFar.core x hx).1
      · exact g3

theorem impStep_ref {N : Net} {C : Chp} {cores : List Int} (h : AsgOk N C cores) {i : Nat} (hi : i < N.ps.length) {home : Int} (hh : cores[i]? = some home) :
    cores.set i ((allC C).foldl (rfStep (fun k => decide (Gm.fitsR C N.syns (cores.set i k))) (fun k => (costM N C (cores.set i k) : Int))) (home, (costM N C cores : Int))).1 = impStep N C cores i := by
  rw [rf_fold, impStep_cost h hi]
  have hset := set_self hh
  have e : ((allC C).filter fun k => decide (Gm.fitsR C N.syns (cores.set i k))).filter (fun x => decide ((costM N C (cores.set i x) : Int) < costM N C cores)) = (spacesM C N.syns cores i).filter fun x => decide ((costM N C (cores.set i x) : Int) < costM N C cores) := by
    unfold spacesM
    rw [List.filter_filter, List.filter_filter]
    refine List.filter_congr fun k hk => ?_
    have hk2 := mem_allC.1 hk
    by_cases hne : k = home
    · subst hne
      rw [hset]
      simp
    · have := fits_set h.soFar hh hk2 hne
      by_cases hs : spaceP C N.syns cores i k
      · rw [decide_eq_true hs, decide_eq_true (this.2 hs)]
      · rw [decide_eq_false hs, decide_eq_false (fun hh => hs (this.1 hh))]
  have hp : pickL (fun k => (costM N C (cores.set i k) : Int)) (costM N C cores) ((allC C).filter fun k => decide (Gm.fitsR C N.syns (cores.set i k))) = pickL (fun k => (costM N C (cores.set i k) : Int)) (costM N C cores) (spacesM C N.syns cores i) := by
    rw [pickL_low, e, ← pickL_low]
  rw [← hp]
  unfold pickL
  cases firstL (fun k => (costM N C (cores.set i k) : Int)) ((allC C).filter fun k => decide (Gm.fitsR C N.syns (cores.set i k))) with
  | none => exact hset
  | some p =>
    obtain ⟨b, m⟩ := p
    dsimp only
    by_cases hm : m < (costM N C cores : Int)
    · rw [if_pos hm, if_pos hm]
    · rw [if_neg hm, if_neg hm]; exact hset

theorem impStep_len {N : Net} {C : Chp} (cores : List Int) (i : Nat) : (impStep N C cores i).length = cores.length := by
  unfold impStep
  split
  · rw [List.length_set]
  · rfl

end Go.Gm
end
