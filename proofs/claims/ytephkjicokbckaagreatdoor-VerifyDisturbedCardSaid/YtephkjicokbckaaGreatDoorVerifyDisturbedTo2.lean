import Derived.Test.YtephkjicokbckaaGreatDoorVerifyDisturbedNa
import Derived.Test.YtephkjicokbckaaGreatDoorVerifyDisturbedTo
section
set_option linter.unusedVariables false

set_option linter.unusedSimpArgs false

namespace Go.Proofs

open Go Go.Vx Go.Gm

structure SlD (α : Type) where
  p : Option Addr
  c : Nat
  l : List α

def slV {α : Type} (d : SlD α) : Value := .slice d.p d.l.length d.c

def slVs {α : Type} (d : SlD α) : List Value := [slV d]

def cat {α : Type} (Ls : List (SlD α)) : List α := Ls.flatMap (·.l)

theorem cat_next {α : Type} {Ls : List (SlD α)} {i : Nat} {d : SlD α} (h : Ls[i]? = some d) : cat (Ls.take (i + 1)) = cat (Ls.take i) ++ d.l := by
  unfold cat
  rw [List.take_add_one, h, Option.toList_some, List.flatMap_append]
  simp

theorem cat_take_le {α : Type} (Ls : List (SlD α)) (i : Nat) : (cat (Ls.take i)).length ≤ (cat Ls).length := by
  have : cat Ls = cat (Ls.take i) ++ cat (Ls.drop i) := by unfold cat; rw [← List.flatMap_append, List.take_append_drop]
  rw [this, List.length_append]
  omega

theorem concatInt_any (Ls : List (SlD Int)) (hn : Ls.length ≤ 1000) (hsz : (cat Ls).length ≤ 1000000) (pp : Option Addr) (cc bb oo : Nat) (w : World) (hc : Sl w slVs 1 Ls pp Ls.length bb oo) (hs : ∀ d ∈ Ls, ∃ b off, Sl w intV 1 d.l d.p d.l.length b off) :
    Calls Tryz.prog 119 #[.slice pp Ls.length cc] w fun e w' => ∃ y : Option Addr × Nat, e = .returned (.slice y.1 (cat Ls).length y.2) ∧ (0 < (cat Ls).length → ∃ g, y.1 = some ⟨g, 0, none⟩) ∧ St w [] [.vec y.1 (cat Ls).length y.2 3 1 (flat intV (cat Ls))] w' := by
  refine enter (C := Tryz.cx) (F := Tryz.fx119) (args := [_]) Tryz.func119 rfl rfl rfl Tryz.ok119 (St.start w []) ?_
  repeat' (conv => whnf); first | (refine VSeq.go ?_) | (refine VB.is ?_; refine VB.no (by omega) fun _ => ?_)
  all_goals (conv => whnf)
  refine VLoop.kr (α := Nat) [1000000, 0, 2, 9, 10] rfl (fun i => i ≤ Ls.length) (fun i K => (11, .int .i64 (i : Int)) :: (3, .int .i64 ((cat (Ls.take i)).length : Int)) :: K) (fun _ => []) (fun i => Ls.length - i) 0 (by omega) aE aH ?_
  intro i hi
  rcases Nat.lt_or_ge i Ls.length with hlt | hge
  · obtain ⟨d, hd⟩ := hc.get hlt
    have hnx := cat_next hd
    have hle := cat_take_le Ls (i + 1)
    rw [hnx, List.length_append] at hle
    repeat' (conv => whnf); first | (refine VIx.is ?_; refine VIx.mk (hc.ptr (by omega)) (by omega) (by omega) ?_) | (refine VLd.is ?_; refine VLd.mk (Rd.cast (hc.rd0 (by simp) (fun _ => rfl) hd rfl) (by first | omega | (dsimp only; omega) | rfl)) ?_) | (refine VSeq.go ?_) | (refine VB.is ?_; refine VB.yes (by omega) fun _ => ?_) | (refine VB.is ?_; refine VB.no (by omega) fun _ => ?_) | (refine VAr.is ?_; refine oA ?_)
    all_goals (conv => whnf)
    refine VNext.mk (i + 1) (by omega) (by omega) ?_ aH
    rw [hnx, List.length_append]
    exact aE
  · rw [List.take_of_length_le hge]
    by_cases h0 : (cat Ls).length = 0
    · have hall : ∀ i, cat (Ls.take i) = [] := fun i => List.eq_nil_of_length_eq_zero (by have := cat_take_le Ls i; omega)
      repeat' (conv => whnf); first | (refine VCall.isF 169 ?_; refine VCall.inl (F := Tryz.fx169) Tryz.func169 rfl rfl rfl Tryz.ok169 ?_) | (refine VSeq.go ?_) | (refine VB.is ?_; refine VB.no (by omega) fun _ => ?_) | (refine VAr.is ?_; refine oA ?_)
      all_goals (conv => whnf)
      refine VLoop.kr (α := Nat × Option Addr × Nat) [1000000, 2, 25, 26] rfl (fun y => y.1 ≤ Ls.length) (fun y K => (27, .int .i64 (y.1 : Int)) :: (6, .slice y.2.1 (cat (Ls.take y.1)).length y.2.2) :: K)
        (fun y => [.vec y.2.1 (cat (Ls.take y.1)).length y.2.2 3 1 (flat intV (cat (Ls.take y.1)))]) (fun y => Ls.length - y.1) (0, none, 0) (by simp) aE aH ?_
      rintro ⟨j, p, cap⟩ hj
      dsimp only at hj ⊢
      rcases Nat.lt_or_ge j Ls.length with hltj | hgej
      · obtain ⟨d, hd⟩ := hc.get hltj
        obtain ⟨b1, o1, hsl⟩ := hs d (List.mem_of_getElem? hd)
        have hnx := cat_next hd
        have hle := cat_take_le Ls (j + 1)
        rw [hnx, List.length_append] at hle
        repeat' (conv => whnf); first | (refine VIx.is ?_; refine VIx.mk (hc.ptr (by omega)) (by omega) (by omega) ?_) | (refine VLd.is ?_; refine VLd.mk (Rd.cast (hc.rd0 (by simp) (fun _ => rfl) hd rfl) (by first | omega | (dsimp only; omega) | rfl)) ?_) | (refine VAp.is ?_; refine VAp.own (p := p) aT (hsl.src (by simp) (fun _ => rfl)) (flat_one_cell (by simp [intV, Value.oneCell'])) (by (try dsimp only); omega) (by simp only [maxLen]; omega) fun p' cap' hp' => ?_) | (refine VSeq.go ?_) | (refine VB.is ?_; refine VB.yes (by omega) fun _ => ?_) | (refine VAr.is ?_; refine oA ?_)
        all_goals (conv => whnf)
        refine VNext.mk (j + 1, p', cap') (by dsimp only; omega) (by dsimp only; omega) ?_ ?_
        · dsimp only; rw [hnx, List.length_append]; exact aE
        · dsimp only; rw [hnx, List.length_append, flat_append]; exact aH
      · rw [List.take_of_length_le hgej]
        repeat' (conv => whnf); first | (refine VSeq.go ?_) | (refine VB.is ?_; refine VB.no (by omega) fun _ => ?_)
        all_goals (conv => whnf)
        exact ⟨fun w' hw' => ⟨(p, cap), rfl, fun h => by omega, hw'.le aH⟩⟩
    · have hz := flat_rep (f := intV) (x := (0 : Int)) (cat Ls).length
      repeat' (conv => whnf); first | (refine VCall.isF 169 ?_; refine VCall.inl (F := Tryz.fx169) Tryz.func169 rfl rfl rfl Tryz.ok169 ?_) | (refine VSl.is ?_; refine VSl.is ?_; refine VSl.cut0 (m := 0) (cap := 0) (by omega) ?_) | (refine VApZ.is ?_; refine VApZ.nil (m := (cat Ls).length) rfl rfl rfl (by omega) (by omega) (by (try dsimp only); omega) (by simp only [maxLen]; omega) fun b cap' hcap => ?_) | (refine VSl.is ?_; refine VSl.is ?_; refine VSl.cut0 (m := 0) (cap := cap') (by omega) ?_) | (refine VSeq.go ?_) | (refine VB.is ?_; refine VB.yes (by omega) fun _ => ?_) | (refine VB.is ?_; refine VB.no (by omega) fun _ => ?_) | (refine VAr.is ?_; refine oA ?_)
      all_goals (conv => whnf)
      refine VLoop.krL (α := Nat × Option Addr × Nat) [1000000, 2, 25, 26] rfl (fun y => y.1 ≤ Ls.length) (fun y K => (27, .int .i64 (y.1 : Int)) :: (6, .slice y.2.1 (cat (Ls.take y.1)).length y.2.2) :: K)
        (fun y => [.vec y.2.1 (cat (Ls.take y.1)).length y.2.2 3 1 (flat intV (cat (Ls.take y.1)))]) (fun y => Ls.length - y.1) (0, some ⟨b, 0, none⟩, cap') (fun y => 0 < (cat (Ls.take y.1)).length → ∃ g, y.2.1 = some ⟨g, 0, none⟩) (fun y _ w hw => (vec_facts (hw _ (List.mem_cons_self ..))).2.1) (by simp) aE ?_ ?_
      · have := HLe.shr (f := intV) (k := 1) (l := List.replicate (cat Ls).length (0 : Int)) (p := some ⟨b, 0, none⟩) (n := (cat Ls).length) (m := 0) (cap := cap') (e := 3) (H := [.vec (some ⟨b, 0, none⟩) (cat Ls).length cap' 3 1 (flat intV (List.replicate (cat Ls).length (0 : Int)))]) (H' := []) .here (fun _ => rfl) (by simp) (by omega) .nil
        rw [← hz] at this
        exact this
      rintro ⟨j, p, cap⟩ hj hptr
      dsimp only at hj hptr ⊢
      rcases Nat.lt_or_ge j Ls.length with hltj | hgej
      · obtain ⟨d, hd⟩ := hc.get hltj
        obtain ⟨b1, o1, hsl⟩ := hs d (List.mem_of_getElem? hd)
        have hnx := cat_next hd
        have hle := cat_take_le Ls (j + 1)
        rw [hnx, List.length_append] at hle
        repeat' (conv => whnf); first | (refine VIx.is ?_; refine VIx.mk (hc.ptr (by omega)) (by omega) (by omega) ?_) | (refine VLd.is ?_; refine VLd.mk (Rd.cast (hc.rd0 (by simp) (fun _ => rfl) hd rfl) (by first | omega | (dsimp only; omega) | rfl)) ?_) | (refine VAp.is ?_; refine VAp.own (p := p) aT (hsl.src (by simp) (fun _ => rfl)) (flat_one_cell (by simp [intV, Value.oneCell'])) (by (try dsimp only); omega) (by simp only [maxLen]; omega) fun p' cap' hp' => ?_) | (refine VSeq.go ?_) | (refine VB.is ?_; refine VB.yes (by omega) fun _ => ?_) | (refine VAr.is ?_; refine oA ?_)
        all_goals (conv => whnf)
        refine VNext.mk (j + 1, p', cap') (by dsimp only; omega) (by dsimp only; omega) ?_ ?_
        · dsimp only; rw [hnx, List.length_append]; exact aE
        · dsimp only; rw [hnx, List.length_append, flat_append]; exact aH
      · rw [List.take_of_length_le hgej] at hptr ⊢
        repeat' (conv => whnf); first | (refine VSeq.go ?_) | (refine VB.is ?_; refine VB.no (by omega) fun _ => ?_)
        all_goals (conv => whnf)
        exact ⟨fun w' hw' => ⟨(p, cap), rfl, hptr, hw'.le aH⟩⟩

end Go.Proofs
end

section
set_option linter.unusedVariables false

set_option linter.unusedSimpArgs false

namespace Go.Proofs

open Go Go.Vx Go.Gm Go.RowKit Go.WideShapes Go.ChangeShapes Go.Deep Go.Joins

section

variable {H : Type} {enc : TypeId × Value → H} {W : World} {base b0 : Nat} {spare : Nat → Bool} {held : Bool} {r : Reach}

theorem open_els {α : Type} (f : α → List Value) (k : Nat) (q : α → Prop) {P : Program} {t e : TypeId} {n : Nat} {v : Value} {x : DataW H × List MemPlace} (ht : P.underlying t = some (.slice e)) (hC : P.cellsOf e = k) (hk : ∀ x, (f x).length = k)
    (hel0 : ∀ (n : Nat) cs y, DataW.trod enc P W base spare held n e cs = some y → ∃ x : α, cs = f x ∧ q x)
    (h : DataW.trod enc P W base spare held n t [v] = some x) (hok : Cell.okWide P W r b0 t v) :
    ∃ (p : Option Addr) (c b off : Nat) (l : List α), v = .slice p l.length c ∧ l.length ≤ c ∧ l.length ≤ maxLen ∧ Sl W f k l p l.length b off ∧ ∀ x ∈ l, q x := by
  rcases open_slice ht h with ⟨hcs, _⟩ | ⟨a, len, cap, m, n, D, Pl, hcs, hb, hl, hm, hmm, hx, hel⟩
  · simp only [List.cons.injEq, and_true] at hcs
    exact ⟨none, 0, 0, 0, [], hcs, by simp, by simp, Sl.nil (Or.inl rfl), by simp⟩
  · simp only [List.cons.injEq, and_true] at hcs
    subst hcs
    have hsp : a.spot = none := by
      simp only [Cell.okWide, ht, Cell.ok] at hok
      exact hok.2.2.2.1
    have hlm : len ≤ m := by rw [hmm]; split <;> omega
    obtain ⟨l, hlen, hrows⟩ := list_of (fun i (z : α) => Cells W a.block (a.off + i * k) (f z) ∧ q z) len (fun i hilt => by
      obtain ⟨cs', hc, ht'⟩ := hel i (by omega)
      obtain ⟨z, hz, hq⟩ := hel0 _ _ _ ht'
      refine ⟨z, ?_, hq⟩
      obtain ⟨_, hcl, hat⟩ := World.cells?_some hc
      intro j v hj
      have hj' : cs'[j]? = some v := by rw [hz]; exact hj
      have hjl : j < cs'.length := (List.getElem?_eq_some_iff.1 hj').1
      have := hat j (by omega)
      rw [hj'] at this
      rw [← this]
      congr 1
      rw [hC]
      unfold Addr.add
      obtain ⟨ab, ao, asp⟩ := a
      simp only at hsp
      subst hsp
      split <;> split <;> simp_all <;> omega)
    subst hlen
    refine ⟨some a, cap, a.block, a.off, l, rfl, hl, by omega, ⟨Or.inl ?_, rfl, ?_⟩, ?_⟩
    · obtain ⟨ab, ao, asp⟩ := a
      simp only at hsp
      subst hsp
      rfl
    · exact cells_flat (fun x hx => hk x) (fun i r hr => (hrows i r hr).1)
    · intro r hr
      obtain ⟨i, hi, rfl⟩ := List.mem_iff_getElem.1 hr
      exact (hrows i _ (List.getElem?_eq_getElem hi)).2

end

end Go.Proofs
end
