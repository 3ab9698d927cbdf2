/- Eq: equal and sameImage of the laws, walked. -/

import Derived.Test.YtbnipfgbfnhibaaNetKnownImg
import Derived.Test.YtbnipfgbfnhibaaNetKnownCc

set_option linter.unusedVariables false

set_option linter.unusedSimpArgs false

namespace Go.Proofs

open Go Go.Vx Go.Gm

theorem equal_any (l m : List Int) (p : Option Addr) (c b o : Nat) (q : Option Addr) (d b2 o2 : Nat) (w : World) (hl : ∀ k ∈ l, I64 k) (hm : ∀ k ∈ m, I64 k) (h1 : Sl w intV 1 l p l.length b o) (h2 : Sl w intV 1 m q m.length b2 o2) (hsz : l.length < 4611686018427387904) (hsz2 : m.length < 4611686018427387904) :
    Calls Try.prog 43 #[.slice p l.length c, .slice q m.length d] w fun e w' => ∃ r : Bool, e = .returned (.bool r) ∧ (r = true ↔ l = m) ∧ St w [] [] w' := by
  refine enter (C := Try.cx) (F := Try.fx43) (args := [_, _]) Try.func43 rfl rfl rfl Try.ok43 (St.start w []) ?_
  repeat' (conv => whnf); first | (refine VSeq.is ?_; refine VSeq.go ?_) | (refine VB.is ?_; refine VB.yes (by omega) fun _ => ?_) | (refine VB.is ?_; refine VB.no (by omega) fun _ => ?_) | (refine VB.is ?_; refine VB.split (fun _ => ?_) (fun _ => ?_)) | (refine boolE_split (fun h => ?_) (fun h => ?_) <;> subst h) | (refine VLd.is ?_; refine VLd.mk (.row aT (by rfl)) ?_) | (refine VSt.is ?_; refine VSt.row aT (by rfl) (by first | rfl | assumption) ?_) | (refine VNew.is ?_; refine VNew.mk fun _ => ?_) | (refine VAr.is ?_; refine VAr.i64 (by omega) (by omega) ?_) | (refine VIx.is ?_; refine VIx.mk rfl (by omega) (by omega) ?_) | (refine VKeep.is ?_; refine VKeep.mk aH ?_) | (refine VHs.is ?_; refine VHs.mk _ (HLe.refl _) ?_) | (refine VQ.is ?_; refine VQ.pos (by omega) (by omega) (by omega) ?_) | (refine VM.is ?_; refine VM.pos (by omega) (by omega) ?_) | (refine And.intro ?_ ?_)
  all_goals (conv => whnf)
  · exact ⟨fun w' hw' => ⟨_, rfl, ⟨fun h => by simp at h, fun h => by subst h; omega⟩, hw'.le .nil⟩⟩
  refine VLoop.mk (α := Nat) (fun i => i ≤ l.length ∧ l.take i = m.take i)
    (fun i => [(1000000, .tuple #[]), (0, .slice p l.length c), (1, .slice q m.length d), (4, .bool false), (5, .int .i64 (i : Int))])
    (fun _ => []) (fun i => l.length - i) 0 ⟨by omega, rfl⟩ aE aH ?_
  rintro i ⟨hi, ht⟩
  rcases Nat.lt_or_ge i l.length with hlt | hge
  · obtain ⟨x, hx⟩ := h1.get hlt
    obtain ⟨y, hy⟩ := h2.get (i := i) (by omega)
    have hxw := hl x (List.mem_of_getElem? hx)
    have hyw := hm y (List.mem_of_getElem? hy)
    unfold I64 at hxw hyw
    repeat' (conv => whnf); first | (refine VIx.is ?_; refine VIx.mk (h1.ptr (by omega)) (by omega) (by omega) ?_) | (refine VIx.is ?_; refine VIx.mk (h2.ptr (by omega)) (by omega) (by omega) ?_) | (refine VLd.is ?_; refine VLd.mk (Rd.cast (h1.rd0 (by simp) (fun _ => rfl) hx rfl) (by first | omega | (dsimp only; omega) | rfl)) ?_) | (refine VLd.is ?_; refine VLd.mk (Rd.cast (h2.rd0 (by simp) (fun _ => rfl) hy rfl) (by first | omega | (dsimp only; omega) | rfl)) ?_) | (refine VSeq.is ?_; refine VSeq.go ?_) | (refine VB.is ?_; refine VB.yes (by omega) fun _ => ?_) | (refine VB.is ?_; refine VB.no (by omega) fun _ => ?_) | (refine VB.is ?_; refine VB.split (fun _ => ?_) (fun _ => ?_)) | (refine boolE_split (fun h => ?_) (fun h => ?_) <;> subst h) | (refine VLd.is ?_; refine VLd.mk (.row aT (by rfl)) ?_) | (refine VSt.is ?_; refine VSt.row aT (by rfl) (by first | rfl | assumption) ?_) | (refine VNew.is ?_; refine VNew.mk fun _ => ?_) | (refine VAr.is ?_; refine VAr.i64 (by omega) (by omega) ?_) | (refine VIx.is ?_; refine VIx.mk rfl (by omega) (by omega) ?_) | (refine VKeep.is ?_; refine VKeep.mk aH ?_) | (refine VHs.is ?_; refine VHs.mk _ (HLe.refl _) ?_) | (refine VQ.is ?_; refine VQ.pos (by omega) (by omega) (by omega) ?_) | (refine VM.is ?_; refine VM.pos (by omega) (by omega) ?_) | (refine And.intro ?_ ?_)
    all_goals (conv => whnf)
    · exact ⟨fun w' hw' => ⟨_, rfl, ⟨fun h => by simp at h, fun h => by exfalso; subst h; rw [hx] at hy; cases hy; omega⟩, hw'.le .nil⟩⟩
    · have he : x = y := by omega
      refine VNext.mk (i + 1) ⟨by omega, ?_⟩ (by omega) aE aH
      rw [List.take_add_one, List.take_add_one, ht, hx, hy, he]
  · repeat' (conv => whnf); first | (refine VSeq.is ?_; refine VSeq.go ?_) | (refine VB.is ?_; refine VB.yes (by omega) fun _ => ?_) | (refine VB.is ?_; refine VB.no (by omega) fun _ => ?_) | (refine VB.is ?_; refine VB.split (fun _ => ?_) (fun _ => ?_)) | (refine boolE_split (fun h => ?_) (fun h => ?_) <;> subst h) | (refine VLd.is ?_; refine VLd.mk (.row aT (by rfl)) ?_) | (refine VSt.is ?_; refine VSt.row aT (by rfl) (by first | rfl | assumption) ?_) | (refine VNew.is ?_; refine VNew.mk fun _ => ?_) | (refine VAr.is ?_; refine VAr.i64 (by omega) (by omega) ?_) | (refine VIx.is ?_; refine VIx.mk rfl (by omega) (by omega) ?_) | (refine VKeep.is ?_; refine VKeep.mk aH ?_) | (refine VHs.is ?_; refine VHs.mk _ (HLe.refl _) ?_) | (refine VQ.is ?_; refine VQ.pos (by omega) (by omega) (by omega) ?_) | (refine VM.is ?_; refine VM.pos (by omega) (by omega) ?_) | (refine And.intro ?_ ?_)
    all_goals (conv => whnf)
    refine ⟨fun w' hw' => ⟨_, rfl, ⟨fun _ => ?_, fun _ => rfl⟩, hw'.le .nil⟩⟩
    rw [List.take_of_length_le (by omega), List.take_of_length_le (by omega)] at ht
    exact ht

end Go.Proofs
