import Derived.Test.YtjjcoiicikaaiaaGreatPlaceRowsLo
import Derived.Test.YtjjcoiicikaaiaaGreatPlaceRowsPc
import Derived.Test.YtjjcoiicikaaiaaGreatPlaceRowsVb
set_option linter.unusedVariables false
set_option linter.unusedSimpArgs false
set_option maxHeartbeats 4000000
section

namespace Go.Proofs

open Go Go.Vx Go.Gm

theorem space_any (X : PlnX) (x : PlnM) (u1 u2 : Nat) (hu1 : u1 ≤ 1000000) (hu2 : u2 ≤ 1000000) (k : Int) (i : Nat) (hi : i < X.N.ps.length) (w : World) (hx : PlnAt X x w) :
  Calls Tryz.prog 106 #[.pointer (some ⟨x.b, 0, none⟩), .agg #[.int .i64 (u1 : Int), .int .i64 (u2 : Int)], .int .i64 k, .int .i64 (i : Int)] w fun e w' => ∃ r : Bool, e = .returned (.bool r) ∧ (r = true ↔ k ∉ X.C.dead ∧ (u1 : Int) < X.C.nr ∧ (u2 : Int) + rowN X.N.syns (i : Int) ≤ X.C.sy) ∧ St w [] [] w' := by
 have hrow := hx.row
 have hRc := hx.R
 have hfs := hx.ok.net.fewS
 have hc := hx.ok.chip
 have hnr := hc.nr
 have hsy := hc.sy
 have k3 : sub (plnV X x) 3 1 = some [.int .i64 X.C.nr] := rfl
 have k4 : sub (plnV X x) 4 1 = some [.int .i64 X.C.sy] := rfl
 have k7 : sub (plnV X x) 7 1 = some [.slice X.pd X.C.dead.length X.cd] := rfl
 have k13 : sub (plnV X x) 13 1 = some [.slice (some ⟨x.gr, 0, none⟩) x.R.length x.R.length] := rfl
 obtain ⟨bd, od, hd⟩ := hx.rd.dead
 have hdl := hx.rd.chip.few
 have hR := hx.up.R
 have hRl : x.R.length = X.N.ps.length := by rw [hR]; unfold rowL; simp
 have hRi : x.R[i]? = some (rowN X.N.syns (i : Int) : Int) := by
  rw [hR]; unfold rowL
  rw [List.getElem?_map, List.getElem?_range (by omega)]; rfl
 have b3 : rowN X.N.syns (i : Int) ≤ 8192 := by
  have := List.countP_le_length (p := fun s : Syn => decide (s.to = (i : Int))) (l := X.N.syns)
  unfold rowN; omega
 obtain ⟨u3, hu3⟩ : ∃ u, rowN X.N.syns (i : Int) = u := ⟨_, rfl⟩
 rw [hu3] at hRi b3 ⊢
 refine enter (C := Tryz.cx) (F := Tryz.fx106) (args := [_, _, _, _]) Tryz.func106 rfl rfl rfl Tryz.ok106 (St.start w []) ?_
 clear hR hu3
 repeat' (conv => whnf); first | (refine VLd.is ?_; refine VLd.mk (Rd.cast (.old (hrow.part k7) rfl (by simp)) (by first | omega | (dsimp only; omega) | rfl)) ?_) | (refine VLd.is ?_; refine VLd.mk (Rd.cast (.old (hrow.part k3) rfl (by simp)) (by first | omega | (dsimp only; omega) | rfl)) ?_) | (refine VLd.is ?_; refine VLd.mk (Rd.cast (.old (hrow.part k4) rfl (by simp)) (by first | omega | (dsimp only; omega) | rfl)) ?_) | (refine VLd.is ?_; refine VLd.mk (Rd.cast (.old (hrow.part k13) rfl (by simp)) (by first | omega | (dsimp only; omega) | rfl)) ?_) | (refine VIx.is ?_; refine VIx.mk rfl (by omega) (by omega) ?_) | (refine VLd.is ?_; refine VLd.mk (Rd.cast (.old (hRc.part (sub_flat0 (vs := [.int .i64 (u3 : Int)]) (s := 1) (f := intV) (k := 1) (fun _ => rfl) hRi rfl)) rfl (by simp)) (by first | omega | (dsimp only; omega) | rfl)) ?_) | (refine VCall.isF 49 ?_; (refine VCall.genR (fun w' hw' => contains_any X.C.dead (by omega) k _ _ bd od w' (hd.keep hw' (by simp))) ?_; intro c1 hc1; cases c1 <;> simp only [Bool.false_eq_true, false_iff, true_iff] at hc1)) | (refine VSeq.go ?_) | (refine VB.split (fun _ => ?_) (fun _ => ?_)) | (refine VLd.is ?_; refine VLd.mk (.row aT (by rfl)) ?_) | (refine VNew.mk fun _ => ?_) | (refine VAr.is ?_; refine oA ?_) | (refine VHs.mk _ (.refl _) ?_) | (refine And.intro ?_ ?_)
 all_goals (conv => whnf)
 all_goals first
  | exact ⟨fun w' hw' => ⟨false, rfl, by simp only [Bool.false_eq_true, false_iff]; exact fun h => by first | exact h.1 hc1 | (have h2 := h.2; omega), hw'.le .nil⟩⟩
  | exact ⟨fun w' hw' => ⟨true, rfl, by simp only [true_iff]; exact ⟨by first | exact hc1 | exact Decidable.not_not.1 hc1, by omega, by omega⟩, hw'.le .nil⟩⟩

theorem spaces_iter {α : Type} {w0 : World} {H : HP} {K : Value → HP → Prop} (X : PlnX) (x : PlnM) (cores : List Int) (hlc : cores.length ≤ X.N.ps.length) (i : Nat) (hi : i < X.N.ps.length) (hok : PlanOk X.N X.C) (S : HP) (hx : ∀ w', St w0 [] S w' → PlnAt X x w') (gu l b1 b2 b3 : Nat) (I : Nat → α → Prop) (G : α → HP) (hS : ∀ v, HLe S (G v)) (x0 : α) (h0 : I 0 x0)
  (hH : HLe (.row b1 132 [.slice (some ⟨gu, 0, none⟩) (nCores X.C) (nCores X.C)] :: .row b2 123 [.pointer (some ⟨x.b, 0, none⟩)] :: .row b3 3 [.int .i64 (i : Int)] :: .vec (some ⟨gu, 0, none⟩) (nCores X.C) (nCores X.C) 202 2 (flat usV (usL X.C X.N.syns cores)) :: G x0) H)
  (step : ∀ k v, k < nCores X.C → spaceP X.C X.N.syns cores i (k : Int) → I k v →
   VYield Tryz.cx.P w0 [] (.row b1 132 [.slice (some ⟨gu, 0, none⟩) (nCores X.C) (nCores X.C)] :: .row b2 123 [.pointer (some ⟨x.b, 0, none⟩)] :: .row b3 3 [.int .i64 (i : Int)] :: .vec (some ⟨gu, 0, none⟩) (nCores X.C) (nCores X.C) 202 2 (flat usV (usL X.C X.N.syns cores)) :: G v) l [.int .i64 (k : Int)] fun r H' => (r = .bool true ∧ ∃ y, I (k + 1) y ∧ HLe (.row b1 132 [.slice (some ⟨gu, 0, none⟩) (nCores X.C) (nCores X.C)] :: .row b2 123 [.pointer (some ⟨x.b, 0, none⟩)] :: .row b3 3 [.int .i64 (i : Int)] :: .vec (some ⟨gu, 0, none⟩) (nCores X.C) (nCores X.C) 202 2 (flat usV (usL X.C X.N.syns cores)) :: G y) H') ∨ (r = .bool false ∧ K (.tuple #[]) H'))
  (skip : ∀ k v, k < nCores X.C → ¬ spaceP X.C X.N.syns cores i (k : Int) → I k v → I (k + 1) v)
  (fin : ∀ v, I (nCores X.C) v → K (.tuple #[]) (.row b1 132 [.slice (some ⟨gu, 0, none⟩) (nCores X.C) (nCores X.C)] :: .row b2 123 [.pointer (some ⟨x.b, 0, none⟩)] :: .row b3 3 [.int .i64 (i : Int)] :: .vec (some ⟨gu, 0, none⟩) (nCores X.C) (nCores X.C) 202 2 (flat usV (usL X.C X.N.syns cores)) :: G v)) :
  VCall Tryz.cx.P w0 [] H 105 [.func (.yield l) #[] #[], .pointer (some ⟨b1, 0, none⟩), .pointer (some ⟨b2, 0, none⟩), .pointer (some ⟨b3, 0, none⟩)] K := by
 have hnc := (nCores_ok hok.chip).2
 have hul := usL_len X.C X.N.syns cores
 have hgt := fun {k : Nat} hk => usL_get (C := X.C) (l := X.N.syns) (cores := cores) (k := k) hk
 have hfs := hok.net.fewS
 have hfn := hok.net.few
 have hbN : ∀ k : Int, useN cores k ≤ cores.length := fun k => List.countP_le_length
 have hbR : ∀ k : Int, useR X.N.syns cores k ≤ X.N.syns.length := fun k => List.countP_le_length
 obtain ⟨U, hU⟩ : ∃ U, usL X.C X.N.syns cores = U := ⟨_, rfl⟩
 obtain ⟨n, hn⟩ : ∃ n, nCores X.C = n := ⟨_, rfl⟩
 rw [hU] at hul hgt hH step fin
 rw [hn] at hnc hul hgt hH step skip fin
 refine VCall.le hH ?_
 refine VCall.inl (F := Tryz.fx105) Tryz.func105 rfl rfl rfl Tryz.ok105 ?_
 repeat' (conv => whnf); first | (refine VSeq.go ?_) | (refine VB.is ?_; refine VB.no (by omega) fun _ => ?_) | (refine VLd.is ?_; refine VLd.mk (.row aT (by rfl)) ?_)
 all_goals (conv => whnf)
 refine VLoop.mk (α := Nat × α) (fun z => z.1 ≤ n ∧ I z.1 z.2) (fun z => [(1000000, .tuple #[]), (0, .func (.yield l) #[] #[]), (2, .pointer (some ⟨b2, 0, none⟩)), (3, .pointer (some ⟨b3, 0, none⟩)), (7, .slice (some ⟨gu, 0, none⟩) n n), (8, .int .i64 (n : Int)), (9, .int .i64 (z.1 : Int))])
  (fun z => .row b1 132 [.slice (some ⟨gu, 0, none⟩) n n] :: .row b2 123 [.pointer (some ⟨x.b, 0, none⟩)] :: .row b3 3 [.int .i64 (i : Int)] :: .vec (some ⟨gu, 0, none⟩) n n 202 2 (flat usV U) :: G z.2) (fun z => n - z.1) (0, x0) ⟨Nat.zero_le _, h0⟩ aE aH ?_
 rintro ⟨k, v⟩ ⟨hk, hI⟩
 dsimp only at hk hI ⊢
 rcases Nat.lt_or_ge k n with hlt | hge
 ·have hu := hgt hlt
  have b1' := hbN (k : Int)
  have b2' := hbR (k : Int)
  have hst := fun h => step k v hlt h hI
  have hsk := fun h => skip k v hlt h hI
  have hsp := fun (w' : World) => space_any X x (useN cores (k : Int)) (useR X.N.syns cores (k : Int)) (by omega) (by omega) (k : Int) i hi w'
  unfold spaceP at hst hsk
  obtain ⟨u1, hu1⟩ : ∃ u, useN cores (k : Int) = u := ⟨_, rfl⟩
  obtain ⟨u2, hu2⟩ : ∃ u, useR X.N.syns cores (k : Int) = u := ⟨_, rfl⟩
  rw [hu1] at hu b1' hst hsk hsp
  rw [hu2] at hu b2' hst hsk hsp
  clear step skip fin
  repeat' (conv => whnf); first | (refine VIx.is ?_; refine VIx.mk rfl (by omega) (by omega) ?_) | (refine VNew.mk fun b6 => ?_) | (refine VLd.is ?_; refine VLd.mk (Rd.cast (.vec aT (sub_flat0 (f := usV) (k := 2) (fun _ => rfl) hu rfl)) (by first | omega | (dsimp only; omega) | rfl)) ?_) | (refine VCall.isF 106 ?_; (refine VCall.genR (fun w' hw' => hsp w' (hx w' (hw'.le ((hS v).trans aH)))) ?_; intro r hr; cases r <;> simp only [Bool.false_eq_true, false_iff, true_iff] at hr)) | (refine VYield.is ?_; refine VYield.is ?_; refine VYield.hle (VYield.mono (VYield.weak ?_ (hst hr)) fun r H' hr2 => ?_); (focus (exact aH)); rcases hr2 with ⟨rfl, y, hy, hl⟩ | ⟨rfl, hK⟩ <;> first | refine ⟨_, hl, ?_⟩ | refine ⟨_, HLe.refl _, ?_⟩) | (refine VSeq.go ?_) | (refine VB.is ?_; refine VB.yes (by omega) fun _ => ?_) | (refine VLd.is ?_; refine VLd.mk (.row aT (by rfl)) ?_) | (refine VSt.is ?_; refine VSt.row aT (by rfl) (by first | rfl | assumption) ?_) | (refine VAr.is ?_; refine oA ?_)
  all_goals (conv => whnf)
  all_goals first
   | exact hK
   | exact VNext.mk (k + 1, y) ⟨by dsimp only; omega, hy⟩ (by dsimp only; omega) aE aH
   | exact VNext.mk (k + 1, v) ⟨by dsimp only; omega, hsk hr⟩ (by dsimp only; omega) aE aH
 have hkl : k = n := by omega
 subst hkl
 repeat' (conv => whnf); first | (refine VSeq.go ?_) | (refine VB.is ?_; refine VB.no (by omega) fun _ => ?_) | (refine VLd.is ?_; refine VLd.mk (.row aT (by rfl)) ?_)
 all_goals (conv => whnf)
 exact fin v hI

end Go.Proofs
end

section

namespace Go.Proofs

open Go Go.Vx

def Marks (m : List (Int × Value)) (S : List Int) : Prop := ∀ k, mfind m k = if k ∈ S then some (.bool true) else none

theorem mfind_mset (m : List (Int × Value)) (j : Int) (v : Value) (k : Int) : mfind (mset m j v) k = if j = k then some v else mfind m k := by
 induction m with
 | nil => simp [mset, mfind]
 | cons x m ih =>
  obtain ⟨a, b⟩ := x
  simp only [mset, mfind]
  by_cases h : a = j
  ·subst h
   by_cases h2 : a = k <;> simp [mfind, h2]
  ·by_cases h2 : a = k
   ·have : ¬ j = k := fun e => h (by omega)
    subst h2
    rw [if_neg h, if_neg this]
    simp [mfind]
   ·simp [mfind, h, h2, ih]

theorem Marks.add {m : List (Int × Value)} {S : List Int} (h : Marks m S) (j : Int) : Marks (mset m j (.bool true)) (S ++ [j]) := by
 intro k
 rw [mfind_mset, h k]
 by_cases e : j = k
 ·subst e; simp
 ·have : ¬ k = j := fun h => e h.symm
  simp [e, this]

end Go.Proofs
end
