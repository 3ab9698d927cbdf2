/- Flat: lists of like elements, as cells; slices of them. -/
import Derived.Test.YtbnipfgbfnhibaaVx11
set_option linter.unusedSimpArgs false
set_option linter.unusedVariables false
namespace Go.Vx
open Go Go.RowKit

theorem upd_mk : ∀ (cs : List Value) (o : Nat) (vs : List Value), o + vs.length ≤ cs.length → upd cs o vs = some (cs.take o ++ vs ++ cs.drop (o + vs.length))
  | cs, 0, [], h => by cases cs <;> simp [upd]
  | [], 0, _ :: _, h => by simp at h
  | c :: r, 0, v :: vs, h => by
    simp only [List.length_cons] at h
    have := upd_mk r 0 vs (by omega)
    simp [upd, this]
  | [], o + 1, vs, h => by simp at h
  | c :: r, o + 1, vs, h => by
    simp only [List.length_cons] at h
    have := upd_mk r o vs (by omega)
    simp [upd, this, Nat.add_right_comm]

theorem sub_mk : ∀ (cs : List Value) (o s : Nat), o + s ≤ cs.length → sub cs o s = some ((cs.drop o).take s)
  | cs, 0, 0, h => by cases cs <;> simp [sub]
  | [], 0, s + 1, h => by simp at h
  | c :: r, 0, s + 1, h => by
    simp only [List.length_cons] at h
    have := sub_mk r 0 s (by omega)
    simp [sub, this]
  | [], o + 1, s, h => by simp at h
  | c :: r, o + 1, s, h => by
    simp only [List.length_cons] at h
    have := sub_mk r o s (by omega)
    simp [sub, this]

section
variable {α : Type} {f : α → List Value} {k : Nat} {l l' : List α} {i : Nat} {x y : α}

def flat (f : α → List Value) (l : List α) : List Value := l.flatMap f

theorem flat_length (hk : ∀ x, (f x).length = k) : (flat f l).length = l.length * k := by
  induction l with
  | nil => simp [flat]
  | cons x r ih =>
    unfold flat at *
    simp only [List.flatMap_cons, List.length_append, ih, hk, List.length_cons, Nat.add_mul, Nat.one_mul]
    omega

theorem flat_append : flat f (l ++ l') = flat f l ++ flat f l' := by simp [flat]
theorem flat_nil : flat f [] = [] := rfl
theorem flat_one : flat f [x] = f x := by simp [flat]

theorem flat_rep (n : Nat) : repL (f x) n = flat f (List.replicate n x) := by
  induction n with
  | zero => rfl
  | succ n ih => simp [repL, ih, flat, List.replicate_succ]

theorem flat_split (h : l[i]? = some x) : flat f l = flat f (l.take i) ++ (f x ++ flat f (l.drop (i + 1))) := by
  obtain ⟨hlt, rfl⟩ := List.getElem?_eq_some_iff.1 h
  conv => lhs; rw [← List.take_append_drop i l, flat_append, List.drop_eq_getElem_cons hlt]
  simp only [flat, List.flatMap_cons]

theorem flat_take_length (hk : ∀ x, (f x).length = k) (h : l[i]? = some x) : (flat f (l.take i)).length = i * k := by
  obtain ⟨hlt, _⟩ := List.getElem?_eq_some_iff.1 h
  rw [flat_length hk, List.length_take, Nat.min_eq_left (Nat.le_of_lt hlt)]

theorem sub_flat {o s : Nat} {vs : List Value} (hk : ∀ x, (f x).length = k) (h : l[i]? = some x) (hs : sub (f x) o s = some vs) : sub (flat f l) (i * k + o) s = some vs := by
  have h1 := sub_spec _ _ _ _ hs
  have hlen := flat_take_length hk h
  have hle : o + s ≤ (f x).length := by
    have key : ∀ (cs : List Value) (o s : Nat) (vs : List Value), sub cs o s = some vs → o + s ≤ cs.length := by
      intro cs
      induction cs with
      | nil => intro o s vs h; cases o <;> cases s <;> simp [sub] at h ⊢
      | cons c r ih =>
        intro o s vs h
        cases o with
        | zero =>
          cases s with
          | zero => simp
          | succ s =>
            simp only [sub] at h
            cases h2 : sub r 0 s with
            | none => simp [h2] at h
            | some q => have := ih 0 s q h2; simp; omega
        | succ o => simp only [sub] at h; have := ih o s vs h; simp; omega
    exact key _ _ _ _ hs
  rw [sub_mk _ _ _ hle] at hs
  rw [flat_split h, sub_mk _ _ _ (by simp [hlen]; omega)]
  rw [← hs, ← hlen, List.drop_append, List.drop_eq_nil_of_le (by omega), List.nil_append, Nat.add_sub_cancel_left, List.drop_append_of_le_length (by omega), List.take_append_of_le_length (by simp; omega)]

theorem sub_flat0 {s : Nat} {vs : List Value} (hk : ∀ x, (f x).length = k) (h : l[i]? = some x) (hs : sub (f x) 0 s = some vs) : sub (flat f l) (i * k) s = some vs := sub_flat (o := 0) hk h hs

theorem upd_flat {o : Nat} {vs : List Value} (hk : ∀ x, (f x).length = k) (h : l[i]? = some x) (hu : upd (f x) o vs = some (f y)) : upd (flat f l) (i * k + o) vs = some (flat f (l.set i y)) := by
  obtain ⟨h1, h2⟩ := upd_spec _ _ _ _ hu
  have hlen := flat_take_length hk h
  obtain ⟨hlt, _⟩ := List.getElem?_eq_some_iff.1 h
  have hset : (l.set i y)[i]? = some y := by simp [hlt]
  have e1 : (l.set i y).take i = l.take i := by rw [List.take_set_of_le (by omega)]
  have e2 : (l.set i y).drop (i + 1) = l.drop (i + 1) := by rw [List.drop_set_of_lt (by omega)]
  rw [flat_split h, flat_split hset, e1, e2, upd_mk _ _ _ (by simp [hlen]; omega), h2]
  congr 1
  rw [← hlen, List.take_append, List.take_of_length_le (by omega), Nat.add_sub_cancel_left, List.take_append_of_le_length (by omega), Nat.add_assoc, List.drop_append, List.drop_eq_nil_of_le (by omega), Nat.add_sub_cancel_left, List.drop_append_of_le_length (by omega)]
  simp

theorem upd_flat0 {vs : List Value} (hk : ∀ x, (f x).length = k) (h : l[i]? = some x) (hu : upd (f x) 0 vs = some (f y)) : upd (flat f l) (i * k) vs = some (flat f (l.set i y)) := upd_flat (o := 0) hk h hu

theorem Cells.part {w : World} {b off : Nat} {xs vs : List Value} {o s : Nat} (h : Cells w b off xs) (hs : sub xs o s = some vs) : Cells w b (off + o) vs := by
  intro j v hj
  have := (sub_spec _ _ _ _ hs).2 j v hj
  have := h _ _ this
  rwa [← Nat.add_assoc] at this

/-- In w the slice of n elements behind p reads as l; they lie in block b, from off on. -/
structure Sl (w : World) (f : α → List Value) (k : Nat) (l : List α) (p : Option Addr) (n b off : Nat) : Prop where
  base : p = some ⟨b, off, none⟩ ∨ (n = 0 ∧ (p = none ∨ ∃ b' off', p = some ⟨b', off', none⟩))
  len : l.length = n
  cells : Cells w b off (flat f l)

theorem Sl.ptr {w : World} {p : Option Addr} {n b off : Nat} (h : Sl w f k l p n b off) (hn : 0 < n) : p = some ⟨b, off, none⟩ := by
  rcases h.base with h1 | ⟨h1, _⟩
  · exact h1
  · omega

/-- Reading from an element of an old slice. -/
theorem Sl.rd {w0 : World} {M : List Nat} {H : HP} {p : Option Addr} {n b off o s : Nat} {vs : List Value} (h : Sl w0 f k l p n b off) (hM : b ∉ M) (hk : ∀ x, (f x).length = k) (hi : l[i]? = some x) (hs : sub (f x) o s = some vs) :
    Rd w0 M H b (off + (i * k + o)) s vs :=
  .old (h.cells.part (sub_flat hk hi hs)) (sub_spec _ _ _ _ hs).1 hM

theorem Sl.rd0 {w0 : World} {M : List Nat} {H : HP} {p : Option Addr} {n b off s : Nat} {vs : List Value} (h : Sl w0 f k l p n b off) (hM : b ∉ M) (hk : ∀ x, (f x).length = k) (hi : l[i]? = some x) (hs : sub (f x) 0 s = some vs) :
    Rd w0 M H b (off + i * k) s vs := h.rd (o := 0) hM hk hi hs

theorem Cells.keep {w0 w : World} {M : List Nat} {H : HP} {b off : Nat} {vs : List Value} (h : Cells w0 b off vs) (hs : St w0 M H w) (hM : b ∉ M) : Cells w b off vs := by
  intro j v hj
  have h1 := h j v hj
  have := hs.old b (block_lt_of_cell h1) hM
  rw [World.cell?_of_block (w := w0) (w' := w) (a := ⟨b, off + j, none⟩) this]
  exact h1

theorem Sl.keep {w0 w : World} {M : List Nat} {H : HP} {p : Option Addr} {n b off : Nat} (h : Sl w0 f k l p n b off) (hs : St w0 M H w) (hM : b ∉ M) : Sl w f k l p n b off :=
  ⟨h.base, h.len, h.cells.keep hs hM⟩

/-- A slice of our own. -/
theorem Sl.own {w0 w : World} {M : List Nat} {H r : HP} {p : Option Addr} {n cap e : Nat} {u : Ent → HP} (hs : St w0 M H w) (hat : At H (.vec p n cap e k (flat f l)) u r) (hk : ∀ x, (f x).length = k) (hl : l.length = n) : ∃ b, Sl w f k l p n b 0 := by
  have h := hs.own _ hat.mem
  cases p with
  | none =>
    obtain ⟨h1, h2⟩ := h
    rcases h2 with ⟨_, h2⟩ | ⟨g, c, cur, hv, _⟩
    · have hn : n = 0 := by simpa using h2
      subst hn
      have : l = [] := List.eq_nil_of_length_eq_zero hl
      subst this
      exact ⟨0, .inr ⟨rfl, .inl rfl⟩, rfl, fun j v hj => by simp [flat] at hj⟩
    · cases hv
  | some a =>
    obtain ⟨g, cur, hg, hh, _, _, _, ht, _⟩ := vec_some h
    subst hg
    refine ⟨g, .inl rfl, hl, fun j v hj => ?_⟩
    rw [← ht, List.getElem?_take] at hj
    split at hj
    · simp only [Nat.zero_add, World.cell?, hh]; simpa using hj
    · cases hj

/-- The whole slice, as a source. -/
theorem Sl.src {w0 : World} {M : List Nat} {H : HP} {p : Option Addr} {n b off : Nat} (h : Sl w0 f k l p n b off) (hM : b ∉ M) (hk : ∀ x, (f x).length = k) : Src w0 M H p n k (flat f l) := by
  rcases h.base with h1 | ⟨h2, h1⟩
  · rw [h1]
    exact .at_ (.old h.cells (by rw [flat_length hk, h.len]) hM)
  · subst h2
    have : l = [] := List.eq_nil_of_length_eq_zero h.len
    subst this
    rcases h1 with rfl | ⟨b', off', rfl⟩
    · exact .empty
    · exact .none0

theorem Sl.nil {w : World} {p : Option Addr} {b off : Nat} (hp : p = none ∨ ∃ b' off', p = some ⟨b', off', none⟩) : Sl w f k [] p 0 b off :=
  ⟨.inr ⟨rfl, hp⟩, rfl, fun j v hj => by simp [flat] at hj⟩

/-- A slice that has a pointer lies there. -/
theorem Sl.cases {w : World} {p : Option Addr} {n b off : Nat} (h : Sl w f k l p n b off) : (∃ b' off', p = some ⟨b', off', none⟩ ∧ Sl w f k l p n b' off') ∨ (p = none ∧ n = 0) := by
  rcases h.base with h1 | ⟨h2, h1⟩
  · exact .inl ⟨b, off, h1, h⟩
  · have hl : l = [] := List.eq_nil_of_length_eq_zero (h.len.trans h2)
    subst hl; subst h2
    rcases h1 with rfl | ⟨b', off', rfl⟩
    · exact .inr ⟨rfl, rfl⟩
    · exact .inl ⟨b', off', rfl, .nil (.inr ⟨b', off', rfl⟩)⟩

theorem flat_one_cell (h : ∀ x, ∀ v ∈ f x, v.oneCell' = true) : ∀ v ∈ flat f l, v.oneCell' = true := by
  intro v hv
  unfold flat at hv
  obtain ⟨x, _, hx⟩ := List.mem_flatMap.1 hv
  exact h x v hx

theorem Sl.get {w : World} {p : Option Addr} {n b off : Nat} (h : Sl w f k l p n b off) {i : Nat} (hi : i < n) : ∃ x, l[i]? = some x :=
  ⟨l[i]'(by rw [h.len]; exact hi), by simp [h.len, hi]⟩
end

end Go.Vx
