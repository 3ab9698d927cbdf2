import Derived.Test.YtjjcoiicikaaiaaGreatPlaceChipsVb
import Derived.Test.YtjjcoiicikaaiaaGreatPlaceChipsGa
import Derived.Test.YtjjcoiicikaaiaaGreatPlaceChipsNeuron
import Derived.Test.YtjjcoiicikaaiaaGreatPlaceChipsNa
import Derived.Deep.Slices
import Derived.Deep.Fields
import Derived.ChangeSame
import Derived.WalkKit
import Derived.ProofKit
import Derived.OpenShut
import Derived.Carry
import Derived.Lib.SmallJoins
import Derived.WideKeyArgs
import Derived.Test.YtjjcoiicikaaiaaGreatRows
section

set_option linter.unusedVariables false

set_option linter.unusedSimpArgs false

namespace Go.Proofs

open Go Go.Vx Go.Gm Go.RowKit Go.WideShapes Go.ChangeShapes Go.Deep Go.Joins

section

variable {H : Type} {enc : TypeId × Value → H} {P : Program} {w : World} {base : Nat} {spare : Nat → Bool} {held : Bool}

theorem i64_of_wf {n : Int} (h : (Lit.int .i64 n).wf = true) : I64 n := by
  simp [Lit.wf, IntKind.min, IntKind.max, IntKind.signed, IntKind.bits] at h
  unfold I64
  omega

theorem cells_flat {α : Type} {f : α → List Value} {k b : Nat} : ∀ {rows : List α} {off : Nat}, (∀ x ∈ rows, (f x).length = k) → (∀ (i : Nat) r, rows[i]? = some r → Cells w b (off + i * k) (f r)) → Cells w b off (flat f rows)
  | [], off, _, _ => by intro j v hj; simp [flat] at hj
  | x :: xs, off, hk, h => by
    intro j v hj
    have hx := hk x (by simp)
    simp only [flat, List.flatMap_cons] at hj
    by_cases hlt : j < k
    · rw [List.getElem?_append_left (by omega)] at hj
      have := h 0 x rfl j v hj
      simpa using this
    · rw [List.getElem?_append_right (by omega), hx] at hj
      have := cells_flat (rows := xs) (off := off + k) (fun y hy => hk y (by simp [hy])) (fun i r hr => by
        have := h (i + 1) r (by simpa using hr)
        rw [Nat.succ_mul] at this
        rw [show off + k + i * k = off + (i * k + k) by omega]
        exact this) (j - k) v hj
      rw [show off + k + (j - k) = off + j by omega] at this
      exact this

theorem list_of {α : Type} (p : Nat → α → Prop) : ∀ n : Nat, (∀ i, i < n → ∃ x, p i x) → ∃ l : List α, l.length = n ∧ ∀ i x, l[i]? = some x → p i x
  | 0, _ => ⟨[], rfl, by simp⟩
  | n + 1, h => by
    obtain ⟨l, hl, hp⟩ := list_of p n fun i hi => h i (by omega)
    obtain ⟨x, hx⟩ := h n (by omega)
    refine ⟨l ++ [x], by simp [hl], ?_⟩
    intro i y hy
    by_cases hi : i < n
    · rw [List.getElem?_append_left (by omega)] at hy
      exact hp i y hy
    · rw [List.getElem?_append_right (by omega)] at hy
      have : i - l.length = 0 := by
        by_cases h0 : i - l.length = 0
        · exact h0
        · rw [List.getElem?_eq_none (by simp; omega)] at hy
          cases hy
      rw [this] at hy
      cases hy
      have : i = n := by omega
      subst this
      exact hx

end

end Go.Proofs

end

section

set_option linter.unusedVariables false

set_option linter.unusedSimpArgs false

namespace Go.Proofs

open Go Go.Vx Go.Gm Go.RowKit Go.WideShapes Go.ChangeShapes Go.Deep Go.Joins

section

variable {H : Type} {enc : TypeId × Value → H} {P : Program}

theorem below_of_st {W W' : World} (h : St W [] [] W') : Below W.heap.size W W' := ⟨h.os, h.tape, h.output, h.size, fun k hk => h.old k hk (by simp)⟩

theorem args_stay (hl : laidOutB P = true) {W W' : World} (hb : Below W.heap.size W W') {sp : Nat → Bool} : ∀ {ts : List TypeId} {vs : List Value} {ds : List (DataW H)} {ps : List MemPlace},
    (ts.all fun t => P.readableRec t && decide (t < P.types.size)) = true → DataW.TrodAll enc P W 0 (fun _ => true) true ts vs ds ps → (∀ x ∈ ps, x.block < W.heap.size) → (∀ x ∈ ps, sp x.block = true) →
    DataW.TrodAll enc P W' 0 sp true ts vs ds ps
  | [], _, _, _, _, h, _, _ => by
    obtain ⟨rfl, rfl, rfl⟩ := trodAll_nil h
    rfl
  | t :: ts, _, _, _, hr, h, hlt, hsp => by
    obtain ⟨v, vs, d, ds, p, q, rfl, rfl, rfl, h1, h2⟩ := trodAll_cons h
    simp only [List.all_cons, Bool.and_eq_true, decide_eq_true_eq] at hr
    refine trodAll_cons_mk (WideElems.Trod_stays hl hr.1.1 hr.1.2 h1 (fun x hx => hb.same (hlt x (by simp [hx]))) (fun x hx => hsp x (by simp [hx]))) ?_
    exact args_stay hl hb hr.2 h2 (fun x hx => hlt x (by simp [hx])) (fun x hx => hsp x (by simp [hx]))

theorem law_post {f : Func} {s : ChangeSpec} {fresh handsOn : Bool} {W W' : World} {args : Array Value} {ds gs : List (DataW H)} {before : List MemPlace} {t0 : TypeId}
    (hl : laidOutB P = true) (hr : (f.params.toList.all fun t => P.readableRec t && decide (t < P.types.size)) = true) (hsv : s.vars = []) (hres : f.resultTypes = #[t0]) (ht0 : P.underlying t0 = some .bool)
    (hspec : s.fn H ds = { results := [.lit (.bool true)], args := ds }) (hW : DataW.Whole enc P f.params.toList s.vars false W args.toList ds gs before) (hs : St W [] [] W') :
    s.post enc P f false fresh handsOn false W args (.bool true) W' := by
  have hb := below_of_st hs
  have hlt : ∀ p ∈ before, p.block < W.heap.size := fun p hp => hW.lt p hp
  have hW' := hW
  obtain ⟨p, q, hA, hV, rfl, hz, hn⟩ := hW
  rw [hsv] at hV
  obtain ⟨rfl, rfl⟩ := trodVars_none hV
  have hargs : ∀ sp : Nat → Bool, (∀ x ∈ p, sp x.block = true) → DataW.TrodAll enc P W' 0 sp true f.params.toList args.toList ds p := fun sp hsp => args_stay hl hb hr hA (fun x hx => hlt x (by simp [hx])) hsp
  have hold : ∀ x ∈ p, (fun b => decide (b < W.heap.size)) x.block = true := fun x hx => by simpa using hlt x (by simp [hx])
  have e : s.fn H (ds ++ []) = { results := [.lit (.bool true)], args := ds } := by rw [List.append_nil]; exact hspec
  have hr1 : ∀ (b : Nat) (sp : Nat → Bool) (hd : Bool), DataW.TrodAll enc P W' b sp hd f.resultTypes.toList ((Value.bool true).resultList f.resultTypes.size) [.lit (.bool true)] [] := fun b sp hd => by
    rw [hres]
    exact trodAll_mk1 (shut_bool ht0 _)
  have hvars : ∀ sp : Nat → Bool, DataW.TrodVars enc P W' sp s.vars (s.fn H (ds ++ [])).vars [] := fun sp => by rw [hsv, e]; rfl
  refine ⟨ds, [], _, [], p, [], hW', by rw [e]; exact hr1 _ _ _, by rw [e]; exact hargs _ hold, hvars _, World.keptBut_mono (fun x hx => ?_) (hb.frame (fun _ => False)), fun h => by cases h⟩
  exact hx.elim

end

end Go.Proofs

end

section

set_option linter.unusedVariables false

set_option linter.unusedSimpArgs false

namespace Go.Proofs

open Go Go.Vx Go.Gm Go.RowKit Go.WideShapes Go.ChangeShapes Go.Deep Go.Joins

theorem Tryz.own0 : ownKnob Tryz.prog.godebug = none := by kernel_rfl

theorem Tryz.laid0 : laidOutB Tryz.prog = true := by kernel_rfl

theorem cell_of_row {P : Program} {W : World} {r : Reach} {b0 : Nat} {t : TypeId} {fs : Array Field} {vs : Array Value} {ts : List TypeId} (hs : P.underlying t = some (.struct fs)) (hts : P.cellTypes P.depth t = some ts) (h : Value.okWide P W r b0 t (.agg vs)) (j : Nat) {v : Value} {u : TypeId}
    (hv : vs[j]? = some v) (hu : ts[j]? = some u) (hj : j < ts.length) : Cell.okWide P W r b0 u v := by
  simp only [Value.okWide, hs] at h
  obtain ⟨cs, h1, _, ts', h2, _, h3⟩ := h
  cases h1
  rw [hts] at h2
  cases h2
  obtain ⟨u', hu', hc⟩ := h3 j v hv
  rw [Nat.mod_eq_of_lt hj, hu] at hu'
  cases hu'
  exact hc

section

variable {H : Type} {enc : TypeId × Value → H} {W : World} {base b0 : Nat} {spare : Nat → Bool} {held : Bool} {r : Reach}

end

end Go.Proofs

end

section

set_option linter.unusedVariables false

set_option linter.unusedSimpArgs false

namespace Go.Proofs

open Go Go.Vx Go.Gm Go.RowKit Go.WideShapes Go.ChangeShapes Go.Deep Go.Joins

section

variable {H : Type} {enc : TypeId × Value → H} {W : World} {base b0 : Nat} {spare : Nat → Bool} {held : Bool} {r : Reach}

theorem open_nums {P : Program} {t e : TypeId} {n : Nat} {v : Value} {x : DataW H × List MemPlace} (ht : P.underlying t = some (.slice e)) (he : P.underlying e = some (.int .i64)) (hC : P.cellsOf e = 1)
    (h : DataW.trod enc P W base spare held n t [v] = some x) (hok : Cell.okWide P W r b0 t v) :
    ∃ (p : Option Addr) (c b off : Nat) (l : List Int), v = .slice p l.length c ∧ l.length ≤ c ∧ l.length ≤ maxLen ∧ Sl W intV 1 l p l.length b off ∧ ∀ n ∈ l, I64 n := by
  rcases open_slice ht h with ⟨hcs, _⟩ | ⟨a, len, cap, m, n, D, Pl, hcs, hb, hl, hm, hmm, hx, hel⟩
  · simp only [List.cons.injEq, and_true] at hcs
    exact ⟨none, 0, 0, 0, [], hcs, by simp, by simp, Sl.nil (Or.inl rfl), by simp⟩
  · simp only [List.cons.injEq, and_true] at hcs
    subst hcs
    have hsp : a.spot = none := by
      simp only [Cell.okWide, ht, Cell.ok] at hok
      exact hok.2.2.2.1
    have hlm : len ≤ m := by rw [hmm]; split <;> omega
    obtain ⟨l, hlen, hrows⟩ := list_of (fun i (z : Int) => Cells W a.block (a.off + i * 1) (intV z) ∧ I64 z) len (fun i hilt => by
      obtain ⟨cs', hc, ht'⟩ := hel i (by omega)
      obtain ⟨z, hz, _, hw⟩ := DataW.trod_int he ht'
      refine ⟨z, ?_, i64_of_wf hw⟩
      obtain ⟨_, hcl, hat⟩ := World.cells?_some hc
      intro j v hj
      have hj' : cs'[j]? = some v := by rw [hz]; exact hj
      have hjl : j < cs'.length := (List.getElem?_eq_some_iff.1 hj').1
      have := hat j (by omega)
      rw [hj'] at this
      rw [← this]
      congr 1
      rw [hC]
      unfold Addr.add
      obtain ⟨ab, ao, asp⟩ := a
      simp only at hsp
      subst hsp
      split <;> split <;> simp_all <;> omega)
    subst hlen
    refine ⟨some a, cap, a.block, a.off, l, rfl, hl, by omega, ⟨Or.inl ?_, rfl, ?_⟩, ?_⟩
    · obtain ⟨ab, ao, asp⟩ := a
      simp only at hsp
      subst hsp
      rfl
    · exact cells_flat (fun x hx => rfl) (fun i r hr => (hrows i r hr).1)
    · intro r hr
      obtain ⟨i, hi, rfl⟩ := List.mem_iff_getElem.1 hr
      exact (hrows i _ (List.getElem?_eq_getElem hi)).2

end

end Go.Proofs

end
