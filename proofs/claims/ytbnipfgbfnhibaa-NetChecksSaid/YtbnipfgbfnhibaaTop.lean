/- Top: arguments as the rows read them, as lists; and what a contract of a law gives. -/
import Derived.Test.YtbnipfgbfnhibaaFlat
import Derived.Test.YtbnipfgbfnhibaaGn
import Derived.Test.YtbnipfgbfnhibaaNeuron
import Derived.Test.YtbnipfgbfnhibaaNet1
import Derived.Deep.Slices
import Derived.Deep.Fields
import Derived.ChangeSame
import Derived.WalkKit
import Derived.ProofKit
import Derived.OpenShut
import Derived.Carry
import Derived.Lib.SmallJoins
set_option linter.unusedVariables false
set_option linter.unusedSimpArgs false
namespace Go.Proofs
open Go Go.Vx Go.Gm Go.RowKit Go.WideShapes Go.ChangeShapes Go.Deep Go.Joins

section
variable {H : Type} {enc : TypeId × Value → H} {P : Program} {w : World} {base : Nat} {spare : Nat → Bool} {held : Bool}

theorem i64_of_wf {n : Int} (h : (Lit.int .i64 n).wf = true) : I64 n := by
  simp [Lit.wf, IntKind.min, IntKind.max, IntKind.signed, IntKind.bits] at h
  unfold I64
  omega

theorem ints_of {cs : List Value} (h : ∀ v ∈ cs, ∃ n : Int, v = .int .i64 n ∧ I64 n) : ∃ ns : List Int, cs = ns.map (Value.int .i64) ∧ ∀ n ∈ ns, I64 n := by
  induction cs with
  | nil => exact ⟨[], rfl, by simp⟩
  | cons v cs ih =>
    obtain ⟨n, hn, hw⟩ := h v (by simp)
    obtain ⟨ns, h1, h2⟩ := ih fun v hv => h v (by simp [hv])
    refine ⟨n :: ns, by rw [hn, h1]; rfl, ?_⟩
    intro m hm
    rcases List.mem_cons.1 hm with rfl | hm
    · exact hw
    · exact h2 m hm

theorem open_ints {e : TypeId} {fs : Array Field} {n : Nat} {cs : List Value} {x : DataW H × List MemPlace} (he : P.underlying e = some (.struct fs)) (hone : oneCellFields P fs = true) (hC : P.cellsOf e = fs.size)
    (hi : ∀ (j : Nat) (f : Field), fs[j]? = some f → P.underlying f.type = some (.int .i64)) (h : DataW.trod enc P w base spare held n e cs = some x) :
    ∃ ns : List Int, cs = ns.map (Value.int .i64) ∧ ns.length = fs.size ∧ ∀ n ∈ ns, I64 n := by
  obtain ⟨xs, m, _, _, hlen, hxl, hf⟩ := DataW.trod_struct he h
  have hall : ∀ v ∈ cs, ∃ n : Int, v = .int .i64 n ∧ I64 n := by
    intro v hv
    obtain ⟨j, hj, rfl⟩ := List.mem_iff_getElem.1 hv
    have hjf : j < fs.size := by omega
    have hfj : fs[j]? = some fs[j] := Array.getElem?_eq_getElem hjf
    obtain ⟨ho, hk⟩ := hone_of hone j _ hfj
    have h1 := hf j _ hfj
    rw [ho, hk] at h1
    have hone' : (cs.drop j).take 1 = [cs[j]] := by
      rw [List.drop_eq_getElem_cons hj]
      rfl
    rw [hone', List.getElem?_eq_getElem (by omega)] at h1
    obtain ⟨n, hn, _, hw⟩ := DataW.trod_int (hi j _ hfj) h1
    simp only [List.cons.injEq, and_true] at hn
    exact ⟨n, hn, i64_of_wf hw⟩
  obtain ⟨ns, h1, h2⟩ := ints_of hall
  exact ⟨ns, h1, by rw [← hC, ← hlen, h1, List.length_map], h2⟩

theorem cells_flat {α : Type} {f : α → List Value} {k b : Nat} : ∀ {rows : List α} {off : Nat}, (∀ x ∈ rows, (f x).length = k) → (∀ (i : Nat) r, rows[i]? = some r → Cells w b (off + i * k) (f r)) → Cells w b off (flat f rows)
  | [], off, _, _ => by intro j v hj; simp [flat] at hj
  | x :: xs, off, hk, h => by
    intro j v hj
    have hx := hk x (by simp)
    simp only [flat, List.flatMap_cons] at hj
    by_cases hlt : j < k
    · rw [List.getElem?_append_left (by omega)] at hj
      have := h 0 x rfl j v hj
      simpa using this
    · rw [List.getElem?_append_right (by omega), hx] at hj
      have := cells_flat (rows := xs) (off := off + k) (fun y hy => hk y (by simp [hy])) (fun i r hr => by
        have := h (i + 1) r (by simpa using hr)
        rw [Nat.succ_mul] at this
        rw [show off + k + i * k = off + (i * k + k) by omega]
        exact this) (j - k) v hj
      rw [show off + k + (j - k) = off + j by omega] at this
      exact this

theorem list_of {α : Type} (p : Nat → α → Prop) : ∀ n : Nat, (∀ i, i < n → ∃ x, p i x) → ∃ l : List α, l.length = n ∧ ∀ i x, l[i]? = some x → p i x
  | 0, _ => ⟨[], rfl, by simp⟩
  | n + 1, h => by
    obtain ⟨l, hl, hp⟩ := list_of p n fun i hi => h i (by omega)
    obtain ⟨x, hx⟩ := h n (by omega)
    refine ⟨l ++ [x], by simp [hl], ?_⟩
    intro i y hy
    by_cases hi : i < n
    · rw [List.getElem?_append_left (by omega)] at hy
      exact hp i y hy
    · rw [List.getElem?_append_right (by omega)] at hy
      have : i - l.length = 0 := by
        by_cases h0 : i - l.length = 0
        · exact h0
        · rw [List.getElem?_eq_none (by simp; omega)] at hy
          cases hy
      rw [this] at hy
      cases hy
      have : i = n := by omega
      subst this
      exact hx

theorem open_rows {t e : TypeId} {fs : Array Field} {n : Nat} {v : Value} {r : Reach} {b0 : Nat} {x : DataW H × List MemPlace} (ht : P.underlying t = some (.slice e)) (he : P.underlying e = some (.struct fs)) (hone : oneCellFields P fs = true)
    (hC : P.cellsOf e = fs.size) (hpos : 0 < fs.size) (hi : ∀ (j : Nat) (f : Field), fs[j]? = some f → P.underlying f.type = some (.int .i64)) (h : DataW.trod enc P w base spare held n t [v] = some x) (hok : Cell.okWide P w r b0 t v) :
    ∃ (p : Option Addr) (c b off : Nat) (rows : List (List Int)), v = .slice p rows.length c ∧ rows.length ≤ c ∧ rows.length ≤ maxLen ∧ Sl w (fun r : List Int => r.map (Value.int .i64)) fs.size rows p rows.length b off ∧
      ∀ r ∈ rows, r.length = fs.size ∧ ∀ n ∈ r, I64 n := by
  rcases open_slice ht h with ⟨hcs, _⟩ | ⟨a, len, cap, m, n, D, Pl, hcs, hb, hl, hm, hmm, hx, hel⟩
  · simp only [List.cons.injEq, and_true] at hcs
    exact ⟨none, 0, 0, 0, [], hcs, by simp, by simp, Sl.nil (Or.inl rfl), by simp⟩
  · simp only [List.cons.injEq, and_true] at hcs
    subst hcs
    have hsp : a.spot = none := by
      simp only [Cell.okWide, ht, Cell.ok] at hok
      exact hok.2.2.2.1
    have hlm : len ≤ m := by rw [hmm]; split <;> omega
    obtain ⟨rows, hlen, hrows⟩ := list_of (fun i (r : List Int) => Cells w a.block (a.off + i * fs.size) (r.map (Value.int .i64)) ∧ r.length = fs.size ∧ ∀ n ∈ r, I64 n) len (fun i hilt => by
      obtain ⟨cs', hc, ht'⟩ := hel i (by omega)
      obtain ⟨ns, h1, h2, h3⟩ := open_ints he hone hC hi ht'
      refine ⟨ns, ?_, h2, h3⟩
      obtain ⟨_, hcl, hat⟩ := World.cells?_some hc
      intro j v hj
      rw [← h1] at hj
      have hjl : j < cs'.length := (List.getElem?_eq_some_iff.1 hj).1
      have := hat j (by omega)
      rw [hj] at this
      rw [← this]
      congr 1
      rw [hC]
      unfold Addr.add
      obtain ⟨ab, ao, asp⟩ := a
      simp only at hsp
      subst hsp
      split <;> split <;> simp_all <;> omega)
    subst hlen
    refine ⟨some a, cap, a.block, a.off, rows, rfl, hl, by omega, ⟨Or.inl ?_, rfl, ?_⟩, ?_⟩
    · obtain ⟨ab, ao, asp⟩ := a
      simp only at hsp
      subst hsp
      rfl
    · refine cells_flat (fun x hx => ?_) (fun i r hr => (hrows i r hr).1)
      obtain ⟨i, hi, rfl⟩ := List.mem_iff_getElem.1 hx
      rw [List.length_map]
      exact (hrows i _ (List.getElem?_eq_getElem hi)).2.1
    · intro r hr
      obtain ⟨i, hi, rfl⟩ := List.mem_iff_getElem.1 hr
      exact (hrows i _ (List.getElem?_eq_getElem hi)).2

theorem Sl.thr {α β : Type} {f : α → List Value} {g : β → List Value} {k : Nat} {l : List α} {p : Option Addr} {n b off : Nat} (h : Sl w f k l p n b off) (m : α → β) (hm : ∀ x ∈ l, g (m x) = f x) : Sl w g k (l.map m) p n b off := by
  refine ⟨h.base, by rw [List.length_map]; exact h.len, ?_⟩
  have : flat g (l.map m) = flat f l := by
    clear h
    induction l with
    | nil => rfl
    | cons y l ih =>
      simp only [flat, List.map_cons, List.flatMap_cons] at ih ⊢
      rw [hm y (by simp), ih fun x hx => hm x (by simp [hx])]
  rw [this]
  exact h.cells

end
end Go.Proofs
