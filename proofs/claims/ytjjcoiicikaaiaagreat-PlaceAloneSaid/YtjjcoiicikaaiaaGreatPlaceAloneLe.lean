import Derived.Test.YtjjcoiicikaaiaaGreatPlaceAlonePz
section
set_option linter.unusedVariables false

set_option linter.unusedSimpArgs false

namespace Go.Gm

end Go.Gm

namespace Go.Proofs

open Go Go.Vx Go.Gm

theorem Src.ownV {w0 : World} {M : List Nat} {H r : HP} {u : Ent → HP} {q : Option Addr} {cq e : Nat} {l : List Int} (hat : At H (.vec q l.length cq e 1 (flat intV l)) u r) (hq : 0 < l.length → ∃ g, q = some ⟨g, 0, none⟩) : Src w0 M H q l.length 1 (flat intV l) := by
  rcases Nat.eq_zero_or_pos l.length with h | h
  · have hl : l = [] := List.eq_nil_of_length_eq_zero h
    subst hl
    cases q with
    | none => exact .empty
    | some a => exact .none0
  · obtain ⟨g, rfl⟩ := hq h
    refine .at_ (.vec hat ?_)
    rw [sub_mk _ _ _ (by rw [flat_length (k := 1) fun _ => rfl]; omega), List.drop_zero, List.take_of_length_le (by rw [flat_length (k := 1) fun _ => rfl]; omega)]

end Go.Proofs
end

section
set_option linter.unusedVariables false

set_option linter.unusedSimpArgs false

namespace Go.Proofs

open Go Go.Vx Go.Gm

theorem equal7_any (l m : List Int) (hll : l.length ≤ 1000000) (p : Option Addr) (c b o : Nat) (q : Option Addr) (d b2 o2 : Nat) (w : World) (hl : ∀ k ∈ l, I64 k) (hm : ∀ k ∈ m, I64 k) (h1 : Sl w intV 1 l p l.length b o) (h2 : Sl w intV 1 m q m.length b2 o2) :
    Calls Tryz.prog 25 #[.slice p l.length c, .slice q m.length d] w fun e w' => ∃ r : Bool, e = .returned (.bool r) ∧ (r = true ↔ l = m) ∧ St w [] [] w' := by
  refine enter (C := Tryz.cx) (F := Tryz.fx25) (args := [_, _]) Tryz.func25 rfl rfl rfl Tryz.ok25 (St.start w []) ?_
  by_cases hlen : l.length ≠ m.length
  · repeat' (conv => whnf); first | (refine VSeq.go ?_) | (refine VB.is ?_; refine VB.yes (by omega) fun _ => ?_) | (refine VB.is ?_; refine VB.no (by omega) fun _ => ?_) | (refine VB.split (fun _ => ?_) (fun _ => ?_)) | (refine boolE_split (fun h => ?_) (fun h => ?_) <;> subst h) | (refine VLd.is ?_; refine VLd.mk (.row aT (by rfl)) ?_) | (refine VSt.is ?_; refine VSt.row aT (by rfl) (by first | rfl | assumption) ?_) | (refine VNew.mk fun _ => ?_) | (refine VAr.is ?_; refine oA ?_) | (refine VIx.is ?_; refine VIx.mk rfl (by omega) (by omega) ?_) | (refine VKeep.is ?_; refine VKeep.mk aH ?_) | (refine VHs.mk _ (.refl _) ?_) | (refine VQ.is ?_; refine oQ ?_) | (refine VM.is ?_; refine oM ?_) | (refine And.intro ?_ ?_)
    all_goals (conv => whnf)
    exact ⟨fun w' hw' => ⟨false, rfl, by simp only [Bool.false_eq_true, false_iff]; exact fun h => hlen (by rw [h]), hw'.le .nil⟩⟩
  have hlen := Decidable.not_not.1 hlen
  repeat' (conv => whnf); first | (refine VSeq.go ?_) | (refine VB.is ?_; refine VB.yes (by omega) fun _ => ?_) | (refine VB.is ?_; refine VB.no (by omega) fun _ => ?_) | (refine VB.split (fun _ => ?_) (fun _ => ?_)) | (refine boolE_split (fun h => ?_) (fun h => ?_) <;> subst h) | (refine VLd.is ?_; refine VLd.mk (.row aT (by rfl)) ?_) | (refine VSt.is ?_; refine VSt.row aT (by rfl) (by first | rfl | assumption) ?_) | (refine VNew.mk fun _ => ?_) | (refine VAr.is ?_; refine oA ?_) | (refine VIx.is ?_; refine VIx.mk rfl (by omega) (by omega) ?_) | (refine VKeep.is ?_; refine VKeep.mk aH ?_) | (refine VHs.mk _ (.refl _) ?_) | (refine VQ.is ?_; refine oQ ?_) | (refine VM.is ?_; refine oM ?_) | (refine And.intro ?_ ?_)
  all_goals (conv => whnf)
  refine VLoop.mk (α := Nat) (fun j => j ≤ l.length ∧ l.take j = m.take j) (fun j => [(1000000, .tuple #[]), (0, .slice p l.length c), (1, .slice q m.length d), (4, .bool false), (5, .int .i64 (j : Int))])
    (fun _ => []) (fun j => l.length - j) 0 ⟨Nat.zero_le _, by simp⟩ aE aH ?_
  rintro j ⟨hj, ht⟩
  rcases Nat.lt_or_ge j l.length with hlt | hge
  · obtain ⟨x, hx⟩ := h1.get hlt
    obtain ⟨y, hy⟩ := h2.get (by omega : j < m.length)
    have hxw := hl x (List.mem_of_getElem? hx)
    have hyw := hm y (List.mem_of_getElem? hy)
    unfold I64 at hxw hyw
    repeat' (conv => whnf); first | (refine VIx.is ?_; refine VIx.mk (h1.ptr (by omega)) (by omega) (by omega) ?_) | (refine VIx.is ?_; refine VIx.mk (h2.ptr (by omega)) (by omega) (by omega) ?_) | (refine VLd.is ?_; refine VLd.mk (Rd.cast (h1.rd0 (by simp) (fun _ => rfl) hx rfl) (by first | omega | (dsimp only; omega) | rfl)) ?_) | (refine VLd.is ?_; refine VLd.mk (Rd.cast (h2.rd0 (by simp) (fun _ => rfl) hy rfl) (by first | omega | (dsimp only; omega) | rfl)) ?_) | (refine VSeq.go ?_) | (refine VB.is ?_; refine VB.yes (by omega) fun _ => ?_) | (refine VB.is ?_; refine VB.no (by omega) fun _ => ?_) | (refine VB.split (fun _ => ?_) (fun _ => ?_)) | (refine boolE_split (fun h => ?_) (fun h => ?_) <;> subst h) | (refine VLd.is ?_; refine VLd.mk (.row aT (by rfl)) ?_) | (refine VSt.is ?_; refine VSt.row aT (by rfl) (by first | rfl | assumption) ?_) | (refine VNew.mk fun _ => ?_) | (refine VAr.is ?_; refine oA ?_) | (refine VIx.is ?_; refine VIx.mk rfl (by omega) (by omega) ?_) | (refine VKeep.is ?_; refine VKeep.mk aH ?_) | (refine VHs.mk _ (.refl _) ?_) | (refine VQ.is ?_; refine oQ ?_) | (refine VM.is ?_; refine oM ?_) | (refine And.intro ?_ ?_)
    all_goals (conv => whnf)
    all_goals first
      | (have e : x ≠ y := by omega
         exact ⟨fun w' hw' => ⟨false, rfl, by simp only [Bool.false_eq_true, false_iff]; exact fun h => e (by rw [h, hy] at hx; exact (Option.some.inj hx).symm), hw'.le .nil⟩⟩)
      | (have e : x = y := by omega
         refine VNext.mk (j + 1) ⟨by omega, ?_⟩ (by omega) aE aH
         rw [List.take_add_one, List.take_add_one, hx, hy, ht, e])
  rw [List.take_of_length_le hge, List.take_of_length_le (by omega)] at ht
  repeat' (conv => whnf); first | (refine VSeq.go ?_) | (refine VB.is ?_; refine VB.yes (by omega) fun _ => ?_) | (refine VB.is ?_; refine VB.no (by omega) fun _ => ?_) | (refine VB.split (fun _ => ?_) (fun _ => ?_)) | (refine boolE_split (fun h => ?_) (fun h => ?_) <;> subst h) | (refine VLd.is ?_; refine VLd.mk (.row aT (by rfl)) ?_) | (refine VSt.is ?_; refine VSt.row aT (by rfl) (by first | rfl | assumption) ?_) | (refine VNew.mk fun _ => ?_) | (refine VAr.is ?_; refine oA ?_) | (refine VIx.is ?_; refine VIx.mk rfl (by omega) (by omega) ?_) | (refine VKeep.is ?_; refine VKeep.mk aH ?_) | (refine VHs.mk _ (.refl _) ?_) | (refine VQ.is ?_; refine oQ ?_) | (refine VM.is ?_; refine oM ?_) | (refine And.intro ?_ ?_)
  all_goals (conv => whnf)
  exact ⟨fun w' hw' => ⟨true, rfl, by simp [ht], hw'.le .nil⟩⟩

theorem few7_any (X : PlnX) (w : World) :
    Calls Tryz.prog 19 #[.agg X.net.toArray, .agg (chpC X.C X.pd X.cd).toArray] w fun e w' => ∃ r : Bool, e = .returned (.bool r) ∧ (r = true ↔ (X.N.ps.length ≤ 24 ∨ (250 < X.N.ps.length ∧ X.N.ps.length ≤ 270 ∧ X.N.syns.length ≤ 10)) ∧ X.N.syns.length ≤ 80 ∧ X.C.dead.length ≤ 20) ∧ St w [] [] w' := by
  unfold PlnX.net chpC
  refine enter (C := Tryz.cx) (F := Tryz.fx19) (args := [_, _]) Tryz.func19 rfl rfl rfl Tryz.ok19 (St.start w []) ?_
  repeat' (conv => whnf); first | (refine VSeq.go ?_) | (refine VB.is ?_; refine VB.yes (by omega) fun _ => ?_) | (refine VB.is ?_; refine VB.no (by omega) fun _ => ?_) | (refine VB.split (fun _ => ?_) (fun _ => ?_)) | (refine boolE_split (fun h => ?_) (fun h => ?_) <;> subst h) | (refine VLd.is ?_; refine VLd.mk (.row aT (by rfl)) ?_) | (refine VSt.is ?_; refine VSt.row aT (by rfl) (by first | rfl | assumption) ?_) | (refine VNew.mk fun _ => ?_) | (refine VAr.is ?_; refine oA ?_) | (refine VIx.is ?_; refine VIx.mk rfl (by omega) (by omega) ?_) | (refine VKeep.is ?_; refine VKeep.mk aH ?_) | (refine VHs.mk _ (.refl _) ?_) | (refine VQ.is ?_; refine oQ ?_) | (refine VM.is ?_; refine oM ?_) | (refine And.intro ?_ ?_)
  all_goals (conv => whnf)
  all_goals first
    | exact ⟨fun w' hw' => ⟨true, rfl, by simp only [true_iff]; omega, hw'.le .nil⟩⟩
    | exact ⟨fun w' hw' => ⟨false, rfl, by simp only [Bool.false_eq_true, false_iff]; omega, hw'.le .nil⟩⟩

end Go.Proofs
end
