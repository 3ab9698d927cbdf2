import Derived.Test.YtephkjicokbckaaGreatDoorVerifyKnownEa
import Derived.Test.YtephkjicokbckaaGreatDoorVerifyKnownNb
section
set_option linter.unusedVariables false

set_option linter.unusedSimpArgs false

namespace Go.Proofs

open Go Go.Vx Go.Gm

def momBad (n : Nat) (m : Mom) : Prop := ∃ i ∈ m.must ++ m.nots, ¬ (0 ≤ i ∧ i ≤ (n : Int) - 1)

instance (n : Nat) (m : Mom) : Decidable (momBad n m) := by unfold momBad; infer_instance

def patErr (n : Nat) (l : List Mom) : Int := if 8 < l.length then 9 else if l.length = 0 then 2 else if ∃ m ∈ l, momBad n m then 3 else 0

theorem vpat_any (n : Nat) (hn : n ≤ 1000000000) (Ls : List MomD) (pn : Option Addr) (cn : Nat) (iv sv : Value) (hone : oneAll [.slice pn n cn, iv, sv] = true) (p : Option Addr) (cp b o : Nat) (w : World) (h1 : Sl w momV 2 Ls p Ls.length b o) (h2 : ∀ x ∈ Ls, MomOk w x) :
    Calls Tryz.prog 53 #[.agg #[.slice pn n cn, iv, sv], .slice p Ls.length cp] w fun e w' => e = .returned (.int .i64 (patErr n (Ls.map (·.mom)))) ∧ St w [] [] w' := by
  have hpe : ∀ E, patErr n (Ls.map (·.mom)) = E → patErr n (Ls.map (·.mom)) = E := fun _ h => h
  have hlm : (Ls.map (·.mom)).length = Ls.length := List.length_map ..
  have hlm2 : (Ls.map MomD.mom).length = Ls.length := List.length_map ..
  refine enter (C := Tryz.cx) (F := Tryz.fx53) (args := [_, _]) Tryz.func53 rfl rfl rfl Tryz.ok53 (St.start w []) ?_
  by_cases h8 : 8 < Ls.length
  · have e : patErr n (Ls.map (·.mom)) = 9 := by unfold patErr; rw [if_pos (by omega)]
    rw [e]
    repeat' (conv => whnf); first | (refine VSeq.go ?_) | (refine VB.is ?_; refine VB.yes (by omega) fun _ => ?_) | (refine VB.is ?_; refine VB.no (by omega) fun _ => ?_) | (refine VNew.mk fun _ => ?_) | (refine VAr.is ?_; refine oA ?_)
    all_goals (conv => whnf)
    all_goals exact ⟨fun w' hw' => ⟨rfl, hw'.le .nil⟩⟩
  by_cases h0 : Ls.length = 0
  · have e : patErr n (Ls.map (·.mom)) = 2 := by unfold patErr; rw [if_neg (by omega), if_pos (by omega)]
    rw [e]
    repeat' (conv => whnf); first | (refine VSeq.go ?_) | (refine VB.is ?_; refine VB.yes (by omega) fun _ => ?_) | (refine VB.is ?_; refine VB.no (by omega) fun _ => ?_) | (refine VNew.mk fun _ => ?_) | (refine VAr.is ?_; refine oA ?_)
    all_goals (conv => whnf)
    all_goals exact ⟨fun w' hw' => ⟨rfl, hw'.le .nil⟩⟩
  have hbad : (∃ m ∈ Ls.map MomD.mom, momBad n m) → patErr n (Ls.map (·.mom)) = 3 := fun h => by unfold patErr; rw [if_neg (by omega), if_neg (by omega), if_pos h]
  have hgood : (¬ ∃ m ∈ Ls.map MomD.mom, momBad n m) → patErr n (Ls.map (·.mom)) = 0 := fun h => by unfold patErr; rw [if_neg (by omega), if_neg (by omega), if_neg h]
  repeat' (conv => whnf); first | (refine VNew.mk fun b2 => ?_) | (refine VSeq.go ?_) | (refine VB.is ?_; refine VB.no (by omega) fun _ => ?_)
  all_goals (conv => whnf)
  refine VLoop.mk (α := Nat) (fun k => k ≤ Ls.length ∧ ¬ ∃ m ∈ (Ls.map MomD.mom).take k, momBad n m)
    (fun k => [(1000000, .tuple #[]), (2, .pointer (some ⟨b2, 0, none⟩)), (4, .int .i64 0), (15, .slice p Ls.length cp), (16, .int .i64 (Ls.length : Int)), (17, .int .i64 (k : Int))])
    (fun _ => [.row b2 25 [.slice pn n cn, iv, sv]]) (fun k => Ls.length - k) 0 ⟨by omega, by simp⟩ aE aH ?_
  rintro k ⟨hk, hno⟩
  rcases Nat.lt_or_ge k Ls.length with hlt | hge
  · obtain ⟨x, hx⟩ := h1.get hlt
    have hxo := h2 x (List.mem_of_getElem? hx)
    have hxm : (Ls.map (·.mom))[k]? = some x.mom := by rw [List.getElem?_map, hx]; rfl
    have hcat : cat [x.m, x.n] = x.m.l ++ x.n.l := by simp [cat]
    have hcl : (cat [x.m, x.n]).length ≤ 1000000 := by rw [hcat, List.length_append]; have := hxo.ml; have := hxo.nl; omega
    repeat' (conv => whnf); first | (refine VIx.is ?_; refine VIx.mk (h1.ptr (by omega)) (by omega) (by omega) ?_) | (refine VLd.is ?_; refine VLd.mk (Rd.cast (h1.rd0 (s := 2) (vs := momV x) (by simp) (fun _ => rfl) hx rfl) (by first | omega | (dsimp only; omega) | rfl)) ?_) | (refine VCall.isF 119 ?_; (refine VCall.genR (fun w' hw' => concatInt_any [x.m, x.n] (by simp) hcl (some ⟨_, 0, none⟩) 2 _ 0 w' (Sl.own' (f := slVs) (cap := 2) (e := 26) hw' (by exact List.mem_cons_self) (fun _ => rfl) rfl) (fun d hd => by (have h := hxo.keep hw'); (simp only [List.mem_cons, List.not_mem_nil, or_false] at hd); (rcases hd with rfl | rfl); (· exact h.m); (· exact h.n))) ?_; rintro ⟨q, cq⟩ hq; dsimp only at hq)) | (refine VCall.isF 118 ?_; refine VCall.inl (F := Tryz.fx118) Tryz.func118 rfl rfl rfl Tryz.ok118 ?_) | (refine VCall.isF 168 ?_; refine VCall.inl (F := Tryz.fx168) Tryz.func168 rfl rfl rfl Tryz.ok168 ?_) | (refine VSeq.go ?_) | (refine VB.is ?_; refine VB.yes (by omega) fun _ => ?_) | (refine VLd.is ?_; refine VLd.mk (.row aT (by rfl)) ?_) | (refine VSt.is ?_; refine VSt.row aT (by rfl) (by first | rfl | assumption) ?_) | (refine VNew.mk fun _ => ?_)
    all_goals (conv => whnf)
    dsimp only
    obtain ⟨X, hX⟩ : ∃ X, cat [x.m, x.n] = X := ⟨_, rfl⟩
    rw [hX] at hcat hcl hq
    rw [hX]
    have hmb : momBad n x.mom ↔ ∃ i ∈ X, ¬ (0 ≤ i ∧ i ≤ (n : Int) - 1) := by unfold momBad; rw [hcat]; rfl
    have hxin : x.mom ∈ Ls.map MomD.mom := List.mem_of_getElem? hxm
    refine VLoop.kr (α := Nat) [1000000, 0, 1, 4, 7] rfl (fun j => j ≤ X.length ∧ ¬ ∃ i ∈ X.take j, ¬ (0 ≤ i ∧ i ≤ (n : Int) - 1))
      (fun j K => (8, .int .i64 (j : Int)) :: K) (fun _ => [.vec q X.length cq 3 1 (flat intV X), .row b2 25 [.slice pn n cn, iv, sv]]) (fun j => X.length - j) 0 ⟨by omega, by simp⟩ aE aH ?_
    rintro j ⟨hj, hnj⟩
    rcases Nat.lt_or_ge j X.length with hltj | hgej
    · obtain ⟨i, hi⟩ : ∃ i, X[j]? = some i := ⟨X[j], List.getElem?_eq_getElem _⟩
      have him := List.mem_of_getElem? hi
      obtain ⟨gq, rfl⟩ := hq (by omega)
      repeat' (conv => whnf); first | (refine VIx.is ?_; refine VIx.mk rfl (by omega) (by omega) ?_) | (refine VLd.is ?_; refine VLd.mk (Rd.cast (.vec aT (sub_flat0 (f := intV) (k := 1) (fun _ => rfl) hi rfl)) (by first | omega | (dsimp only; omega) | rfl)) ?_) | (refine VCall.isF 120 ?_; refine VCall.inl (F := Tryz.fx120) Tryz.func120 rfl rfl rfl Tryz.ok120 ?_) | (refine VCall.isF 90 ?_; refine VCall.inl (F := Tryz.fx90) Tryz.func90 rfl rfl rfl Tryz.ok90 ?_) | (refine VSeq.go ?_) | (refine VB.is ?_; refine VB.yes (by omega) fun _ => ?_) | (refine VB.split (fun _ => ?_) (fun _ => ?_)) | (refine VLd.is ?_; refine VLd.mk (.row aT (by rfl)) ?_) | (refine VAr.is ?_; refine oA ?_)
      all_goals (conv => whnf)
      all_goals first
        | (refine VNext.mk (j + 1) ⟨by omega, ?_⟩ (by omega) aE aH
           rw [List.take_add_one, hi, Option.toList_some]
           rintro ⟨y, hy, hf⟩
           rcases List.mem_append.1 hy with hy | hy
           · exact hnj ⟨y, hy, hf⟩
           · simp only [List.mem_singleton] at hy; subst hy; omega)
        | exact ⟨fun w' hw' => ⟨by rw [hbad ⟨x.mom, hxin, hmb.2 ⟨i, him, by omega⟩⟩]; rfl, hw'.le .nil⟩⟩
    rw [List.take_of_length_le hgej] at hnj
    repeat' (conv => whnf); first | (refine VSeq.go ?_) | (refine VB.is ?_; refine VB.yes (by omega) fun _ => ?_) | (refine VB.is ?_; refine VB.no (by omega) fun _ => ?_) | (refine VNew.mk fun _ => ?_) | (refine VAr.is ?_; refine oA ?_)
    all_goals (conv => whnf)
    refine VNext.mk (k + 1) ⟨by omega, ?_⟩ (by omega) aE aH
    rw [List.take_add_one, hxm, Option.toList_some]
    rintro ⟨y, hy, hf⟩
    rcases List.mem_append.1 hy with hy | hy
    · exact hno ⟨y, hy, hf⟩
    · simp only [List.mem_singleton] at hy; subst hy; exact hnj (hmb.1 hf)
  rw [List.take_of_length_le (by omega)] at hno
  repeat' (conv => whnf); first | (refine VSeq.go ?_) | (refine VB.is ?_; refine VB.yes (by omega) fun _ => ?_) | (refine VB.is ?_; refine VB.no (by omega) fun _ => ?_) | (refine VNew.mk fun _ => ?_) | (refine VAr.is ?_; refine oA ?_)
  all_goals (conv => whnf)
  exact ⟨fun w' hw' => ⟨by rw [hgood hno]; rfl, hw'.le .nil⟩⟩

end Go.Proofs
end

section
set_option linter.unusedVariables false

set_option linter.unusedSimpArgs false

namespace Go.Gm

theorem ascErr_len {m : Int} : ∀ {l : List Int} {p : Option Int} {lo : Int}, (∀ k, p = some k → lo ≤ k + 1) → (p = none → lo ≤ 0) → ascErr m p l = 0 → (∀ k ∈ l, 0 ≤ k ∧ k < m) ∧ (l ≠ [] → (l.length : Int) + lo ≤ m)
  | [], _, _, _, _, _ => by simp
  | k :: r, p, lo, h1, h2, h => by
    unfold ascErr at h
    by_cases hb : inBad m k
    · rw [if_pos hb] at h; cases h
    · rw [if_neg hb] at h
      by_cases hl : inBehind k p
      · rw [if_pos hl] at h; cases h
      · rw [if_neg hl] at h
        unfold inBad at hb
        have hlo : lo ≤ k := by
          cases p with
          | none => have := h2 rfl; omega
          | some q => have := h1 q rfl; unfold inBehind at hl; omega
        obtain ⟨g1, g2⟩ := ascErr_len (lo := lo + 1) (fun k' hk => by cases hk; omega) (fun hk => by cases hk) h
        refine ⟨fun x hx => ?_, fun _ => ?_⟩
        · rcases List.mem_cons.1 hx with rfl | hx
          · omega
          · exact g1 x hx
        · by_cases hr : r = []
          · subst hr; simp; omega
          · have := g2 hr; simp only [List.length_cons]; omega

theorem asc_zero {m : Int} {l : List Int} (hm : 0 ≤ m) (h : ascErr m none l = 0) : (∀ k ∈ l, 0 ≤ k ∧ k < m) ∧ (l.length : Int) ≤ m := by
  obtain ⟨g1, g2⟩ := ascErr_len (lo := 0) (by simp) (by simp) h
  refine ⟨g1, ?_⟩
  by_cases hl : l = []
  · subst hl; simpa using hm
  · have := g2 hl; omega

end Go.Gm

namespace Go.Proofs

open Go Go.Vx Go.Gm

structure SimRun (x : SimM) : Prop where
  ok : SimOk x
  sta : StaAll x.N x.sts
  tick : x.tick ≤ 10000

def stepErr (x : SimM) (ins : List Int) : Int := if 10000 ≤ x.tick then 8 else ascErr x.N.inputs none ins

def stepSpk (x : SimM) (ins : List Int) : List Int := if stepErr x ins = 0 then spk (simFire x) else []

def stepSim (x : SimM) (ins : List Int) : SimM := if stepErr x ins = 0 then simStep x ins else x

theorem SimRun.step {x : SimM} (h : SimRun x) (ins : List Int) : SimRun (stepSim x ins) := by
  unfold stepSim
  split
  · rename_i h0
    have ht : x.tick < 10000 := by
      unfold stepErr at h0
      split at h0
      · cases h0
      · omega
    exact ⟨h.ok.step ins, h.sta.step h.ok ins, by show x.tick + 1 ≤ 10000; omega⟩
  · exact h

theorem mapIs_keep {w0 w : World} {M : List Nat} {H : HP} {b : Nat} {m : List (Int × Value)} (h : mapIs w0 b m) (hM : b ∉ M) (hs : St w0 M H w) : mapIs w b m := by
  obtain ⟨es, cl, h1, h2⟩ := h
  have hlt : b < w0.heap.size := by
    by_cases hl : b < w0.heap.size
    · exact hl
    · rw [Array.getElem?_eq_none (by omega)] at h1; cases h1
  exact ⟨es, cl, by rw [hs.old b hlt hM]; exact h1, h2⟩

theorem ShOk.keep {w0 w : World} {M : List Nat} {H : HP} {x : SimM} (h : ShOk w0 M x) (hs : St w0 M H w) : ShOk w M x :=
  ⟨h.par.keep hs h.parM, h.parM, mapIs_keep h.map h.mapM hs, h.mapM, fun r hr => by
    obtain ⟨g, h1, h2, h3⟩ := h.rows r hr
    exact ⟨g, h1, h2.keep hs h3, h3⟩⟩

theorem Step_any (x : SimM) (hx : SimRun x) (ins : List Int) (hil : ins.length < 9223372036854775807) (pi : Option Addr) (ci bi oi : Nat) (w : World)
    (hs : St w (ids (ownH x)) (ownH x) w) (hsh : ShOk w (ids (ownH x)) x) (hin : Sl w intV 1 ins pi ins.length bi oi) (hbi : bi ∉ ids (ownH x)) :
    Calls Tryz.prog 57 #[.pointer (some ⟨x.b, 0, none⟩), .slice pi ins.length ci] w fun e w' => ∃ y : Option Addr × Nat, e = .returned (.tuple #[.slice y.1 (stepSpk x ins).length y.2, .int .i64 (stepErr x ins)]) ∧
      (0 < (stepSpk x ins).length → ∃ g, y.1 = some ⟨g, 0, none⟩) ∧ St w (ids (ownH x)) (ownH (stepSim x ins) ++ [.vec y.1 (stepSpk x ins).length y.2 3 1 (flat intV (stepSpk x ins))]) w' := by
  obtain ⟨hxo, hxs, hxt⟩ := hx
  have hNk := hxo.net
  have hin' := hNk.inputs
  have hpos := hNk.some
  have hsl := hxo.sts
  obtain ⟨cs, hcs⟩ : ∃ cs, simC x = cs := ⟨_, rfl⟩
  have h0 : sub cs 0 3 = some [.slice (some ⟨x.pb, 0, none⟩) x.N.ps.length x.pc, .int .i64 x.N.inputs, x.sv] := by rw [← hcs]; rfl
  have h4 : sub cs 4 1 = some [.int .i64 (x.tick : Int)] := by rw [← hcs]; rfl
  have h5 : sub cs 5 1 = some [.slice (some ⟨x.sb, 0, none⟩) x.sts.length x.sc] := by rw [← hcs, sub_mk _ _ _ (by simp [simC])]; rfl
  obtain ⟨Mx, hMx⟩ : ∃ Mx, ids (ownH x) = Mx := ⟨_, rfl⟩
  have hfin : ∀ w', St w Mx (ownH x) w' → stepErr x ins ≠ 0 → ∃ y : Option Addr × Nat, Ending.returned (.tuple #[.slice none 0 0, .int .i64 (stepErr x ins)]) = .returned (.tuple #[.slice y.1 (stepSpk x ins).length y.2, .int .i64 (stepErr x ins)]) ∧
      (0 < (stepSpk x ins).length → ∃ g, y.1 = some ⟨g, 0, none⟩) ∧ St w Mx (ownH (stepSim x ins) ++ [.vec y.1 (stepSpk x ins).length y.2 3 1 (flat intV (stepSpk x ins))]) w' := by
    intro w' hw' hne
    unfold stepSim stepSpk
    rw [if_neg hne, if_neg hne]
    exact ⟨(none, 0), rfl, by simp, hw'.le aH⟩
  have hs0 := hs
  rw [hMx] at hs hbi hsh ⊢
  unfold ownH at hs
  rw [hcs] at hs
  refine enter (C := Tryz.cx) (F := Tryz.fx57) (args := [_, _]) Tryz.func57 rfl rfl rfl Tryz.ok57 hs ?_
  repeat' (conv => whnf); first | (refine VCall.isF 122 ?_; refine VCall.inl (F := Tryz.fx122) Tryz.func122 rfl rfl rfl Tryz.ok122 ?_) | (refine VLd.is ?_; refine VLd.mk (Rd.cast (.row aT (h0)) (by first | omega | (dsimp only; omega) | rfl)) ?_) | (refine VLd.is ?_; refine VLd.mk (Rd.cast (.row aT (h4)) (by first | omega | (dsimp only; omega) | rfl)) ?_) | (refine VLd.is ?_; refine VLd.mk (Rd.cast (.row aT (h5)) (by first | omega | (dsimp only; omega) | rfl)) ?_) | (refine VCall.isF 125 ?_; refine VCall.valR (fun w' hw' => ascending_any x.N hin' ins _ _ _ _ _ _ w' (hin.keep hw' hbi) hil) ?_) | (refine VSeq.go ?_) | (refine VB.is ?_; refine VB.yes (by omega) fun _ => ?_) | (refine VB.split (fun _ => ?_) (fun _ => ?_))
  all_goals (conv => whnf)
  · have he : stepErr x ins = 8 := by unfold stepErr; rw [if_pos (by omega)]
    rw [← he, ← hcs]
    exact ⟨fun w' hw' => hfin w' hw' (by omega)⟩
  · have he : stepErr x ins = ascErr x.N.inputs none ins := by unfold stepErr; rw [if_neg (by omega)]
    rw [← he, ← hcs]
    exact ⟨fun w' hw' => hfin w' hw' (by omega)⟩
  · have he : stepErr x ins = ascErr x.N.inputs none ins := by unfold stepErr; rw [if_neg (by omega)]
    have h0e : stepErr x ins = 0 := by omega
    obtain ⟨ha1, ha2⟩ := asc_zero (by omega) (he.symm.trans h0e)
    refine VCall.turnV (α := Option Addr × Nat) (S := ownH x) (fun y => .slice y.1 (spk (simFire x)).length y.2) (fun y => 0 < (spk (simFire x)).length → ∃ g, y.1 = some ⟨g, 0, none⟩) (fun y => ownH (simStep x ins)) (fun y => [.vec y.1 (spk (simFire x)).length y.2 3 1 (flat intV (spk (simFire x)))]) (by rw [← hcs]; exact AtS.last) (fun w1 hw1 hs1 => ?_) (fun y hy => ?_)
    · rw [← hcs] at hw1
      subst hMx
      exact step_any x hxo (by omega) hxs ins (fun k hk => by have := ha1 k hk; omega) (by omega) pi ci bi oi w1 hs1 (hsh.keep hw1) (hin.keep hw1 hbi) hbi
    · skip
      all_goals (conv => whnf)
      refine ⟨fun w' hw' => ⟨y, ?_, ?_, ?_⟩⟩
      · unfold stepSpk; rw [if_pos h0e, h0e]; rfl
      · unfold stepSpk; rw [if_pos h0e]; exact hy
      · unfold stepSpk stepSim
        rw [if_pos h0e, if_pos h0e]
        exact hw'.le aH

end Go.Proofs
end
