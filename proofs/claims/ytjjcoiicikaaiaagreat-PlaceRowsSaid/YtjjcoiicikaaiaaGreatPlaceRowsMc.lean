import Derived.Test.YtjjcoiicikaaiaaGreatPlaceRowsMt
import Derived.Test.YtjjcoiicikaaiaaGreatPlaceRowsPp
set_option linter.unusedVariables false
set_option linter.unusedSimpArgs false
set_option maxHeartbeats 4000000
section

namespace Go.Proofs

open Go Go.Vx Go.Gm

end Go.Proofs
end

section

namespace Go.Proofs

open Go Go.Vx Go.Gm

theorem _root_.Go.Vx.Sl.first {α : Type} {f : α → List Value} {k : Nat} {w : World} {l : List α} {p : Option Addr} {n b o : Nat} (h : Sl w f k l p n b o) (hk : ∀ x, (f x).length = k) (m : Nat) (hm : m ≤ n) : Sl w f k (l.take m) p m b o := by
 refine ⟨?_, by rw [List.length_take, h.len]; omega, ?_⟩
 ·rcases h.base with h1 | ⟨h1, h2⟩
  ·exact .inl h1
  ·exact .inr ⟨by omega, h2⟩
 ·intro j v hj
  refine h.cells j v ?_
  have e : flat f l = flat f (l.take m) ++ flat f (l.drop m) := by rw [← flat_append, List.take_append_drop]
  rw [e, List.getElem?_append_left (List.getElem?_eq_some_iff.1 hj).1]
  exact hj

theorem contains_any (l : List Int) (hl : l.length ≤ 1152921504606846976) (v : Int) (p : Option Addr) (cap b o : Nat) (w : World) (h1 : Sl w intV 1 l p l.length b o) :
  Calls Tryz.prog 49 #[.slice p l.length cap, .int .i64 v] w fun e w' => ∃ c : Bool, e = .returned (.bool c) ∧ (c = true ↔ v ∈ l) ∧ St w [] [] w' := by
 refine enter (C := Tryz.cx) (F := Tryz.fx49) (args := [_, _]) Tryz.func49 rfl rfl rfl Tryz.ok49 (St.start w []) ?_
 repeat' (conv => whnf); first | (refine VCall.isF 102 ?_; refine VCall.inl (F := Tryz.fx102) Tryz.func102 rfl rfl rfl Tryz.ok102 ?_) | (refine VSeq.go ?_)
 all_goals (conv => whnf)
 refine VLoop.mk (α := Nat) (fun j => j ≤ l.length ∧ v ∉ l.take j) (fun j => [(1000000, .tuple #[]), (0, .slice p l.length cap), (1, .int .i64 v), (4, .int .i64 0), (7, .int .i64 (l.length : Int)), (8, .int .i64 (j : Int))])
  (fun _ => []) (fun j => l.length - j) 0 ⟨by omega, by simp⟩ aE aH ?_
 rintro j ⟨hj, hn⟩
 rcases Nat.lt_or_ge j l.length with hlt | hge
 ·obtain ⟨x, hx⟩ := h1.get hlt
  have hm := List.mem_of_getElem? hx
  repeat' (conv => whnf); first | (refine VIx.is ?_; refine VIx.mk (h1.ptr (by omega)) (by omega) (by omega) ?_) | (refine VLd.is ?_; refine VLd.mk (Rd.cast (h1.rd0 (by simp) (fun _ => rfl) hx rfl) (by first | omega | (dsimp only; omega) | rfl)) ?_) | (refine VSeq.go ?_) | (refine VB.is ?_; refine VB.yes (by omega) fun _ => ?_) | (refine VB.split (fun _ => ?_) (fun _ => ?_)) | (refine VAr.is ?_; refine oA ?_)
  all_goals (conv => whnf)
  all_goals first
   | (have e : x = v := by omega
      rw [e] at hm
      exact ⟨fun w' hw' => ⟨true, rfl, by simp [hm], hw'.le .nil⟩⟩)
   | (refine VNext.mk (j + 1) ⟨by omega, ?_⟩ (by omega) aE aH
      rw [List.take_add_one, hx, Option.toList_some]
      intro h
      rcases List.mem_append.1 h with h | h
      ·exact hn h
      ·simp only [List.mem_singleton] at h
       omega)
 ·rw [List.take_of_length_le hge] at hn
  repeat' (conv => whnf); first | (refine VSeq.go ?_) | (refine VB.is ?_; refine VB.no (by omega) fun _ => ?_) | (refine VLd.is ?_; refine VLd.mk (.row aT (by rfl)) ?_)
  all_goals (conv => whnf)
  exact ⟨fun w' hw' => ⟨false, rfl, by simp [hn], hw'.le .nil⟩⟩

theorem contains_first (l : List Int) (m : Nat) (hm : m ≤ l.length) (hl : l.length ≤ 1152921504606846976) (v : Int) (p : Option Addr) (cap b o : Nat) (w : World) (h1 : Sl w intV 1 l p l.length b o) :
  Calls Tryz.prog 49 #[.slice p m cap, .int .i64 v] w fun e w' => ∃ c : Bool, e = .returned (.bool c) ∧ (c = true ↔ v ∈ l.take m) ∧ St w [] [] w' := by
 have e : (l.take m).length = m := by rw [List.length_take]; omega
 have h := contains_any (l.take m) (by omega) v p cap b o w (by rw [e]; exact h1.first (fun _ => rfl) m hm)
 rw [e] at h
 exact h

def chpC (C : Chp) (p : Option Addr) (c : Nat) : List Value := [.int .i64 C.mesh.wide, .int .i64 C.mesh.high, .int .i64 C.mesh.room, .int .i64 C.nr, .int .i64 C.sy, .int .i64 C.en, .int .i64 C.bits, .slice p C.dead.length c]

structure _root_.Go.Gm.Chp.wf (C : Chp) : Prop where
 mesh : C.mesh.wf
 nr : I64 C.nr
 sy : I64 C.sy
 en : I64 C.en
 bits : I64 C.bits
 dead : ∀ x ∈ C.dead, I64 x
 few : C.dead.length ≤ 1000000

theorem CheckChip_any (C : Chp) (hC : C.wf) (p : Option Addr) (c b o : Nat) (hcc : C.dead.length ≤ c) (w : World) (h1 : Sl w intV 1 C.dead p C.dead.length b o) :
  Calls Tryz.prog 16 #[.agg (chpC C p c).toArray] w fun e w' => e = .returned (.int .i64 (chipE C)) ∧ St w [] [] w' := by
 have hm := meshCheck_any C.mesh hC.mesh
 have h03 : meshE C.mesh = 0 ∨ meshE C.mesh = 3 := by unfold meshE; split <;> simp
 obtain ⟨_, c1, c2, c3, c4, c5, c6⟩ := hC
 unfold I64 at c1 c2 c3 c4
 unfold spcC at hm
 unfold chpC
 refine enter (C := Tryz.cx) (F := Tryz.fx16) (args := [_]) Tryz.func16 rfl rfl rfl Tryz.ok16 (St.start w []) ?_
 by_cases hme : meshE C.mesh ≠ 0
 ·repeat' (conv => whnf); first | (refine VCall.isF 46 ?_; (refine VCall.valR (fun w' _ => hm w') ?_)) | (refine VSeq.go ?_) | (refine VB.is ?_; refine VB.yes (by omega) fun _ => ?_) | (refine VLd.is ?_; refine VLd.mk (.row aT (by rfl)) ?_) | (refine VNew.mk fun _ => ?_)
  all_goals (conv => whnf)
  exact ⟨fun w' hw' => ⟨by unfold chipE; rw [if_pos hme, show meshE C.mesh = 3 by omega]; rfl, hw'.le .nil⟩⟩
 have hz : meshE C.mesh = 0 := Decidable.not_not.1 hme
 have hok := meshE_zero.1 hz
 have ha := area_ok hok
 rw [hz] at hm
 by_cases hin : ¬ chpIn C
 ·have he : chipE C = 3 := by unfold chipE; rw [if_neg hme, if_pos hin]
  unfold chpIn at hin
  rw [he]
  repeat' (conv => whnf); first | (refine VCall.isF 47 ?_; refine VCall.inl (F := Tryz.fx47) Tryz.func47 rfl rfl rfl Tryz.ok47 ?_) | (refine VCall.isF 46 ?_; (refine VCall.valR (fun w' _ => hm w') ?_)) | (refine VSeq.go ?_) | (refine VB.is ?_; refine VB.no (by omega) fun _ => ?_) | (refine VB.split (fun _ => ?_) (fun _ => ?_)) | (refine VLd.is ?_; refine VLd.mk (.row aT (by rfl)) ?_) | (refine VNew.mk fun _ => ?_)
  all_goals (conv => whnf)
  all_goals first
   | (exfalso; omega)
   | exact ⟨fun w' hw' => ⟨rfl, hw'.le .nil⟩⟩
 have hin := Decidable.not_not.1 hin
 obtain ⟨n, hn⟩ : ∃ n, C.mesh.wide * C.mesh.high = n := ⟨_, rfl⟩
 have he : chipE C = deadE n [] C.dead := by unfold chipE; rw [if_neg hme, if_neg (Decidable.not_not.2 hin), hn]
 rw [hn] at ha
 rw [he]
 unfold chpIn at hin
 obtain ⟨i1, i2, i3, i4⟩ := hin
 repeat' (conv => whnf); first | (refine VCall.isF 47 ?_; refine VCall.inl (F := Tryz.fx47) Tryz.func47 rfl rfl rfl Tryz.ok47 ?_) | (refine VCall.isF 46 ?_; (refine VCall.valR (fun w' _ => hm w') ?_)) | (refine VNew.mk fun b1 => ?_) | (refine VSeq.go ?_) | (refine VB.is ?_; refine VB.yes (by omega) fun _ => ?_) | (refine VB.is ?_; refine VB.no (by omega) fun _ => ?_) | (refine VLd.is ?_; refine VLd.mk (.row aT (by rfl)) ?_)
 all_goals (conv => whnf)
 refine VLoop.mk (α := Nat) (fun k => k ≤ C.dead.length ∧ deadE n [] C.dead = deadE n (C.dead.take k) (C.dead.drop k))
  (fun k => [(1000000, .tuple #[]), (1, .pointer (some ⟨b1, 0, none⟩)), (2, .int .i64 0), (35, .slice p C.dead.length c), (36, .int .i64 (C.dead.length : Int)), (37, .int .i64 (k : Int))])
  (fun _ => [.row b1 26 (chpC C p c)]) (fun k => C.dead.length - k) 0 ⟨by omega, rfl⟩ aE aH ?_
 rintro k ⟨hk1, hk2⟩
 rcases Nat.lt_or_ge k C.dead.length with hlt | hge
 ·obtain ⟨i, hi⟩ := h1.get hlt
  have hiw := c5 i (List.mem_of_getElem? hi)
  unfold I64 at hiw
  unfold chpC
  have hno : ∀ h : 0 ≤ i ∧ i ≤ n - 1, i ∉ C.dead.take k → deadE n [] C.dead = deadE n (C.dead.take (k + 1)) (C.dead.drop (k + 1)) := fun h h2 => hk2.trans (deadE_next hi h h2)
  have hbad : ¬ (0 ≤ i ∧ i ≤ n - 1) → deadE n [] C.dead = 3 := fun h => hk2.trans (deadE_bad hi h)
  have hhave : ∀ h : 0 ≤ i ∧ i ≤ n - 1, i ∈ C.dead.take k → deadE n [] C.dead = 5 := fun h h2 => hk2.trans (deadE_have hi h h2)
  clear hk2 i1 i2 i3 i4 c1 c2 c3 c4 he
  repeat' (conv => whnf); first | (refine VIx.is ?_; refine VIx.mk (h1.ptr (by omega)) (by omega) (by omega) ?_) | (refine VLd.is ?_; refine VLd.mk (Rd.cast (h1.rd0 (by simp) (fun _ => rfl) hi rfl) (by first | omega | (dsimp only; omega) | rfl)) ?_) | (refine VCall.isF 47 ?_; refine VCall.inl (F := Tryz.fx47) Tryz.func47 rfl rfl rfl Tryz.ok47 ?_) | (refine VCall.isF 48 ?_; refine VCall.inl (F := Tryz.fx48) Tryz.func48 rfl rfl rfl Tryz.ok48 ?_) | (refine VAr.is ?_; refine VAr.is ?_; refine VAr.mul hn (by omega) (by omega) ?_) | (refine VSl.is ?_; refine VSl.cut0 (by omega) ?_) | (refine VCall.isF 49 ?_; (refine VCall.genR (fun w' hw' => contains_first C.dead k (by omega) (by omega) i _ _ _ _ w' (h1.keep hw' (by simp))) ?_; intro c1 hc1; cases c1 <;> simp only [Bool.false_eq_true, false_iff, true_iff] at hc1)) | (refine VSeq.go ?_) | (refine VB.is ?_; refine VB.yes (by omega) fun _ => ?_) | (refine VB.split (fun _ => ?_) (fun _ => ?_)) | (refine VLd.is ?_; refine VLd.mk (.row aT (by rfl)) ?_) | (refine VNew.mk fun _ => ?_) | (refine VAr.is ?_; refine oA ?_)
  all_goals (conv => whnf)
  all_goals first
   | exact ⟨fun w' hw' => ⟨by rw [hbad (by omega)]; rfl, hw'.le .nil⟩⟩
   | exact ⟨fun w' hw' => ⟨by rw [hhave (by omega) hc1]; rfl, hw'.le .nil⟩⟩
   | exact VNext.mk (k + 1) ⟨by omega, hno (by omega) hc1⟩ (by omega) aE aH
 rw [deadE_end hge] at hk2
 repeat' (conv => whnf); first | (refine VSeq.go ?_) | (refine VB.is ?_; refine VB.no (by omega) fun _ => ?_) | (refine VLd.is ?_; refine VLd.mk (.row aT (by rfl)) ?_)
 all_goals (conv => whnf)
 exact ⟨fun w' hw' => ⟨by rw [hk2]; rfl, hw'.le .nil⟩⟩

end Go.Proofs
end
