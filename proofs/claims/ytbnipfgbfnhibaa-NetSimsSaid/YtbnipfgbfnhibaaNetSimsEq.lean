/- Eq: equal and sameImage of the laws, walked. -/

import Derived.Test.YtbnipfgbfnhibaaNetSimsImg
import Derived.Test.YtbnipfgbfnhibaaNetSimsCc

set_option linter.unusedVariables false

set_option linter.unusedSimpArgs false

namespace Go.Proofs

open Go Go.Vx Go.Gm

theorem equal_any (l m : List Int) (p : Option Addr) (c b o : Nat) (q : Option Addr) (d b2 o2 : Nat) (w : World) (hl : ∀ k ∈ l, I64 k) (hm : ∀ k ∈ m, I64 k) (h1 : Sl w intV 1 l p l.length b o) (h2 : Sl w intV 1 m q m.length b2 o2) (hsz : l.length < 4611686018427387904) (hsz2 : m.length < 4611686018427387904) :
    Calls Try.prog 43 #[.slice p l.length c, .slice q m.length d] w fun e w' => ∃ r : Bool, e = .returned (.bool r) ∧ (r = true ↔ l = m) ∧ St w [] [] w' := by
  refine enter (C := Try.cx) (F := Try.fx43) (args := [_, _]) Try.func43 rfl rfl rfl Try.ok43 (St.start w []) ?_
  repeat' (conv => whnf); first | (refine VSeq.is ?_; refine VSeq.go ?_) | (refine VB.is ?_; refine VB.yes (by omega) fun _ => ?_) | (refine VB.is ?_; refine VB.no (by omega) fun _ => ?_) | (refine VB.is ?_; refine VB.split (fun _ => ?_) (fun _ => ?_)) | (refine boolE_split (fun h => ?_) (fun h => ?_) <;> subst h) | (refine VLd.is ?_; refine VLd.mk (.row aT (by rfl)) ?_) | (refine VSt.is ?_; refine VSt.row aT (by rfl) (by first | rfl | assumption) ?_) | (refine VNew.is ?_; refine VNew.mk fun _ => ?_) | (refine VAr.is ?_; refine VAr.i64 (by omega) (by omega) ?_) | (refine VIx.is ?_; refine VIx.mk rfl (by omega) (by omega) ?_) | (refine VKeep.is ?_; refine VKeep.mk aH ?_) | (refine VHs.is ?_; refine VHs.mk _ (HLe.refl _) ?_) | (refine VQ.is ?_; refine VQ.pos (by omega) (by omega) (by omega) ?_) | (refine VM.is ?_; refine VM.pos (by omega) (by omega) ?_) | (refine And.intro ?_ ?_)
  all_goals (conv => whnf)
  · exact ⟨fun w' hw' => ⟨_, rfl, ⟨fun h => by simp at h, fun h => by subst h; omega⟩, hw'.le .nil⟩⟩
  refine VLoop.mk (α := Nat) (fun i => i ≤ l.length ∧ l.take i = m.take i)
    (fun i => [(1000000, .tuple #[]), (0, .slice p l.length c), (1, .slice q m.length d), (4, .bool false), (5, .int .i64 (i : Int))])
    (fun _ => []) (fun i => l.length - i) 0 ⟨by omega, rfl⟩ aE aH ?_
  rintro i ⟨hi, ht⟩
  rcases Nat.lt_or_ge i l.length with hlt | hge
  · obtain ⟨x, hx⟩ := h1.get hlt
    obtain ⟨y, hy⟩ := h2.get (i := i) (by omega)
    have hxw := hl x (List.mem_of_getElem? hx)
    have hyw := hm y (List.mem_of_getElem? hy)
    unfold I64 at hxw hyw
    repeat' (conv => whnf); first | (refine VIx.is ?_; refine VIx.mk (h1.ptr (by omega)) (by omega) (by omega) ?_) | (refine VIx.is ?_; refine VIx.mk (h2.ptr (by omega)) (by omega) (by omega) ?_) | (refine VLd.is ?_; refine VLd.mk (Rd.cast (h1.rd0 (by simp) (fun _ => rfl) hx rfl) (by first | omega | (dsimp only; omega) | rfl)) ?_) | (refine VLd.is ?_; refine VLd.mk (Rd.cast (h2.rd0 (by simp) (fun _ => rfl) hy rfl) (by first | omega | (dsimp only; omega) | rfl)) ?_) | (refine VSeq.is ?_; refine VSeq.go ?_) | (refine VB.is ?_; refine VB.yes (by omega) fun _ => ?_) | (refine VB.is ?_; refine VB.no (by omega) fun _ => ?_) | (refine VB.is ?_; refine VB.split (fun _ => ?_) (fun _ => ?_)) | (refine boolE_split (fun h => ?_) (fun h => ?_) <;> subst h) | (refine VLd.is ?_; refine VLd.mk (.row aT (by rfl)) ?_) | (refine VSt.is ?_; refine VSt.row aT (by rfl) (by first | rfl | assumption) ?_) | (refine VNew.is ?_; refine VNew.mk fun _ => ?_) | (refine VAr.is ?_; refine VAr.i64 (by omega) (by omega) ?_) | (refine VIx.is ?_; refine VIx.mk rfl (by omega) (by omega) ?_) | (refine VKeep.is ?_; refine VKeep.mk aH ?_) | (refine VHs.is ?_; refine VHs.mk _ (HLe.refl _) ?_) | (refine VQ.is ?_; refine VQ.pos (by omega) (by omega) (by omega) ?_) | (refine VM.is ?_; refine VM.pos (by omega) (by omega) ?_) | (refine And.intro ?_ ?_)
    all_goals (conv => whnf)
    · exact ⟨fun w' hw' => ⟨_, rfl, ⟨fun h => by simp at h, fun h => by exfalso; subst h; rw [hx] at hy; cases hy; omega⟩, hw'.le .nil⟩⟩
    · have he : x = y := by omega
      refine VNext.mk (i + 1) ⟨by omega, ?_⟩ (by omega) aE aH
      rw [List.take_add_one, List.take_add_one, ht, hx, hy, he]
  · repeat' (conv => whnf); first | (refine VSeq.is ?_; refine VSeq.go ?_) | (refine VB.is ?_; refine VB.yes (by omega) fun _ => ?_) | (refine VB.is ?_; refine VB.no (by omega) fun _ => ?_) | (refine VB.is ?_; refine VB.split (fun _ => ?_) (fun _ => ?_)) | (refine boolE_split (fun h => ?_) (fun h => ?_) <;> subst h) | (refine VLd.is ?_; refine VLd.mk (.row aT (by rfl)) ?_) | (refine VSt.is ?_; refine VSt.row aT (by rfl) (by first | rfl | assumption) ?_) | (refine VNew.is ?_; refine VNew.mk fun _ => ?_) | (refine VAr.is ?_; refine VAr.i64 (by omega) (by omega) ?_) | (refine VIx.is ?_; refine VIx.mk rfl (by omega) (by omega) ?_) | (refine VKeep.is ?_; refine VKeep.mk aH ?_) | (refine VHs.is ?_; refine VHs.mk _ (HLe.refl _) ?_) | (refine VQ.is ?_; refine VQ.pos (by omega) (by omega) (by omega) ?_) | (refine VM.is ?_; refine VM.pos (by omega) (by omega) ?_) | (refine And.intro ?_ ?_)
    all_goals (conv => whnf)
    refine ⟨fun w' hw' => ⟨_, rfl, ⟨fun _ => ?_, fun _ => rfl⟩, hw'.le .nil⟩⟩
    rw [List.take_of_length_le (by omega), List.take_of_length_le (by omega)] at ht
    exact ht

theorem sameImage_any (a b : Int) (ha : I64 a) (hb : I64 b) (s1 s2 : List Sta) (hs1 : ∀ s ∈ s1, s.wf) (hs2 : ∀ s ∈ s2, s.wf) (L1 L2 : List (SlD Int)) (hL1 : ∀ d ∈ L1, (∀ k ∈ d.l, I64 k) ∧ d.l.length < 4611686018427387904) (hL2 : ∀ d ∈ L2, (∀ k ∈ d.l, I64 k) ∧ d.l.length < 4611686018427387904)
    (hz : s1.length < 4611686018427387904 ∧ s2.length < 4611686018427387904 ∧ L1.length < 4611686018427387904 ∧ L2.length < 4611686018427387904)
    (p1 : Option Addr) (c1 b1 o1 : Nat) (p2 : Option Addr) (c2 b2 o2 : Nat) (q1 : Option Addr) (d1 e1 f1 : Nat) (q2 : Option Addr) (d2 e2 f2 : Nat) (w : World)
    (h1 : Sl w staV 2 s1 p1 s1.length b1 o1) (h2 : Sl w staV 2 s2 p2 s2.length b2 o2) (g1 : Sl w slVs 1 L1 q1 L1.length e1 f1) (g2 : Sl w slVs 1 L2 q2 L2.length e2 f2) (k1 : ∀ d ∈ L1, ∃ b off, Sl w intV 1 d.l d.p d.l.length b off) (k2 : ∀ d ∈ L2, ∃ b off, Sl w intV 1 d.l d.p d.l.length b off) :
    Calls Try.prog 44 #[.agg #[.int .i64 a, .slice p1 s1.length c1, .slice q1 L1.length d1], .agg #[.int .i64 b, .slice p2 s2.length c2, .slice q2 L2.length d2]] w fun e w' => ∃ r : Bool, e = .returned (.bool r) ∧ (r = true ↔ a = b ∧ s1 = s2 ∧ L1.map (·.l) = L2.map (·.l)) ∧ St w [] [] w' := by
  have hno : ∀ w' H, St w [] H w' → ¬ (a = b ∧ s1 = s2 ∧ L1.map (·.l) = L2.map (·.l)) → ∃ r : Bool, Ending.returned (.bool false) = .returned (.bool r) ∧ (r = true ↔ a = b ∧ s1 = s2 ∧ L1.map (·.l) = L2.map (·.l)) ∧ St w [] [] w' := by
    intro w' H hw' h
    exact ⟨false, rfl, ⟨fun e => by simp at e, fun e => absurd e h⟩, hw'.le .nil⟩
  unfold I64 at ha hb
  refine enter (C := Try.cx) (F := Try.fx44) (args := [_, _]) Try.func44 rfl rfl rfl Try.ok44 (St.start w []) ?_
  refine VSeq.go ?_
  repeat' (conv => whnf); first | (refine VB.is ?_; refine VB.yes (by omega) fun _ => ?_) | (refine VB.is ?_; refine VB.no (by omega) fun _ => ?_) | (refine VB.is ?_; refine VB.split (fun _ => ?_) (fun _ => ?_)) | (refine boolE_split (fun h => ?_) (fun h => ?_) <;> subst h) | (refine VLd.is ?_; refine VLd.mk (.row aT (by rfl)) ?_) | (refine VSt.is ?_; refine VSt.row aT (by rfl) (by first | rfl | assumption) ?_) | (refine VNew.is ?_; refine VNew.mk fun _ => ?_) | (refine VAr.is ?_; refine VAr.i64 (by omega) (by omega) ?_) | (refine VIx.is ?_; refine VIx.mk rfl (by omega) (by omega) ?_) | (refine VKeep.is ?_; refine VKeep.mk aH ?_) | (refine VHs.is ?_; refine VHs.mk _ (HLe.refl _) ?_) | (refine VQ.is ?_; refine VQ.pos (by omega) (by omega) (by omega) ?_) | (refine VM.is ?_; refine VM.pos (by omega) (by omega) ?_) | (refine And.intro ?_ ?_)
  all_goals (conv => whnf)
  rename_i x1 x2
  repeat' (conv => whnf); first | (refine VSeq.is ?_; refine VSeq.go ?_) | (refine VB.is ?_; refine VB.yes (by omega) fun _ => ?_) | (refine VB.is ?_; refine VB.no (by omega) fun _ => ?_) | (refine VB.is ?_; refine VB.split (fun _ => ?_) (fun _ => ?_)) | (refine boolE_split (fun h => ?_) (fun h => ?_) <;> subst h) | (refine VLd.is ?_; refine VLd.mk (.row aT (by rfl)) ?_) | (refine VSt.is ?_; refine VSt.row aT (by rfl) (by first | rfl | assumption) ?_) | (refine VNew.is ?_; refine VNew.mk fun _ => ?_) | (refine VAr.is ?_; refine VAr.i64 (by omega) (by omega) ?_) | (refine VIx.is ?_; refine VIx.mk rfl (by omega) (by omega) ?_) | (refine VKeep.is ?_; refine VKeep.mk aH ?_) | (refine VHs.is ?_; refine VHs.mk _ (HLe.refl _) ?_) | (refine VQ.is ?_; refine VQ.pos (by omega) (by omega) (by omega) ?_) | (refine VM.is ?_; refine VM.pos (by omega) (by omega) ?_) | (refine And.intro ?_ ?_)
  all_goals (conv => whnf)
  · exact ⟨fun w' hw' => hno w' _ hw' (fun h => by omega)⟩
  · exact ⟨fun w' hw' => hno w' _ hw' (fun h => by have := congrArg List.length h.2.1; omega)⟩
  · exact ⟨fun w' hw' => hno w' _ hw' (fun h => by have := congrArg List.length h.2.2; simp only [List.length_map] at this; omega)⟩
  refine VLoop.kr (α := Nat) [1000000, 2, 3, 4] rfl (fun i => i ≤ s1.length ∧ s1.take i = s2.take i) (fun i K => (5, .int .i64 (i : Int)) :: K)
    (fun _ => [.row x2 73 [.int .i64 b, .slice p2 s2.length c2, .slice q2 L2.length d2], .row x1 66 [.int .i64 a, .slice p1 s1.length c1, .slice q1 L1.length d1]]) (fun i => s1.length - i) 0 ⟨by omega, rfl⟩ aE aH ?_
  rintro i ⟨hi, ht⟩
  rcases Nat.lt_or_ge i s1.length with hlt | hge
  · obtain ⟨x, hx⟩ := h1.get hlt
    obtain ⟨y, hy⟩ := h2.get (i := i) (by omega)
    have hxw := hs1 x (List.mem_of_getElem? hx)
    have hyw := hs2 y (List.mem_of_getElem? hy)
    unfold Sta.wf I64 at hxw hyw
    repeat' (conv => whnf); first | (refine VIx.is ?_; refine VIx.mk (h1.ptr (by omega)) (by omega) (by omega) ?_) | (refine VIx.is ?_; refine VIx.mk (h2.ptr (by omega)) (by omega) (by omega) ?_) | (refine VLd.is ?_; refine VLd.mk (Rd.cast (h1.rd0 (by simp) (fun _ => rfl) hx rfl) (by first | omega | (dsimp only; omega) | rfl)) ?_) | (refine VLd.is ?_; refine VLd.mk (Rd.cast (h2.rd0 (by simp) (fun _ => rfl) hy rfl) (by first | omega | (dsimp only; omega) | rfl)) ?_) | (refine VSeq.is ?_; refine VSeq.go ?_) | (refine VB.is ?_; refine VB.yes (by omega) fun _ => ?_) | (refine VB.is ?_; refine VB.no (by omega) fun _ => ?_) | (refine VB.is ?_; refine VB.split (fun _ => ?_) (fun _ => ?_)) | (refine boolE_split (fun h => ?_) (fun h => ?_) <;> subst h) | (refine VLd.is ?_; refine VLd.mk (.row aT (by rfl)) ?_) | (refine VSt.is ?_; refine VSt.row aT (by rfl) (by first | rfl | assumption) ?_) | (refine VNew.is ?_; refine VNew.mk fun _ => ?_) | (refine VAr.is ?_; refine VAr.i64 (by omega) (by omega) ?_) | (refine VIx.is ?_; refine VIx.mk rfl (by omega) (by omega) ?_) | (refine VKeep.is ?_; refine VKeep.mk aH ?_) | (refine VHs.is ?_; refine VHs.mk _ (HLe.refl _) ?_) | (refine VQ.is ?_; refine VQ.pos (by omega) (by omega) (by omega) ?_) | (refine VM.is ?_; refine VM.pos (by omega) (by omega) ?_) | (refine And.intro ?_ ?_)
    all_goals (conv => whnf)
    · refine ⟨fun w' hw' => hno w' _ hw' (fun h => ?_)⟩
      have hxy : x = y := by rw [h.2.1, hy] at hx; cases hx; rfl
      exact ‹¬ (x.v = y.v ∧ x.rest = y.rest ∧ True)› ⟨by rw [hxy], by rw [hxy], trivial⟩
    · have he : x = y := by
        have h1 : x.v = y.v ∧ x.rest = y.rest := by simp only [and_true] at *; omega
        cases x; cases y; simp only [Sta.mk.injEq]; exact h1
      refine VNext.mk (i + 1) ⟨by omega, ?_⟩ (by omega) aE aH
      rw [List.take_add_one, List.take_add_one, ht, hx, hy, he]
  have hss : s1 = s2 := by
    rw [List.take_of_length_le hge, List.take_of_length_le (by omega)] at ht
    exact ht
  repeat' (conv => whnf); first | (refine VSeq.is ?_; refine VSeq.go ?_) | (refine VB.is ?_; refine VB.yes (by omega) fun _ => ?_) | (refine VB.is ?_; refine VB.no (by omega) fun _ => ?_) | (refine VB.is ?_; refine VB.split (fun _ => ?_) (fun _ => ?_)) | (refine boolE_split (fun h => ?_) (fun h => ?_) <;> subst h) | (refine VLd.is ?_; refine VLd.mk (.row aT (by rfl)) ?_) | (refine VSt.is ?_; refine VSt.row aT (by rfl) (by first | rfl | assumption) ?_) | (refine VNew.is ?_; refine VNew.mk fun _ => ?_) | (refine VAr.is ?_; refine VAr.i64 (by omega) (by omega) ?_) | (refine VIx.is ?_; refine VIx.mk rfl (by omega) (by omega) ?_) | (refine VKeep.is ?_; refine VKeep.mk aH ?_) | (refine VHs.is ?_; refine VHs.mk _ (HLe.refl _) ?_) | (refine VQ.is ?_; refine VQ.pos (by omega) (by omega) (by omega) ?_) | (refine VM.is ?_; refine VM.pos (by omega) (by omega) ?_) | (refine And.intro ?_ ?_)
  all_goals (conv => whnf)
  refine VLoop.kr (α := Nat) [1000000, 2, 3, 4] rfl (fun i => i ≤ L1.length ∧ (L1.map (·.l)).take i = (L2.map (·.l)).take i) (fun i K => (6, .int .i64 (i : Int)) :: K)
    (fun _ => [.row x2 73 [.int .i64 b, .slice p2 s2.length c2, .slice q2 L2.length d2], .row x1 66 [.int .i64 a, .slice p1 s1.length c1, .slice q1 L1.length d1]]) (fun i => L1.length - i) 0 ⟨by omega, rfl⟩ aE aH ?_
  rintro j ⟨hj, hu⟩
  rcases Nat.lt_or_ge j L1.length with hltj | hgej
  · obtain ⟨x, hx⟩ := g1.get hltj
    obtain ⟨y, hy⟩ := g2.get (i := j) (by omega)
    obtain ⟨m1, n1, hx1⟩ := k1 x (List.mem_of_getElem? hx)
    obtain ⟨m2, n2, hy1⟩ := k2 y (List.mem_of_getElem? hy)
    obtain ⟨hxi, hxl⟩ := hL1 x (List.mem_of_getElem? hx)
    obtain ⟨hyi, hyl⟩ := hL2 y (List.mem_of_getElem? hy)
    by_cases hxy : x.l = y.l
    · repeat' (conv => whnf); first | (refine VIx.is ?_; refine VIx.mk (g1.ptr (by omega)) (by omega) (by omega) ?_) | (refine VIx.is ?_; refine VIx.mk (g2.ptr (by omega)) (by omega) (by omega) ?_) | (refine VLd.is ?_; refine VLd.mk (Rd.cast (g1.rd0 (by simp) (fun _ => rfl) hx rfl) (by first | omega | (dsimp only; omega) | rfl)) ?_) | (refine VLd.is ?_; refine VLd.mk (Rd.cast (g2.rd0 (by simp) (fun _ => rfl) hy rfl) (by first | omega | (dsimp only; omega) | rfl)) ?_) | (refine VCall.isF 43 ?_; (refine VCall.genR (v := fun r => .bool r) (p := fun r => (r = true ↔ x.l = y.l)) (G := fun _ => []) (fun w' hw' => equal_any x.l y.l _ _ _ _ _ _ _ _ w' hxi hyi (hx1.keep hw' (by simp)) (hy1.keep hw' (by simp)) hxl hyl) ?_; intro r hr; have hr := hr.2 hxy; subst hr)) | (refine VSeq.is ?_; refine VSeq.go ?_) | (refine VB.is ?_; refine VB.yes (by omega) fun _ => ?_) | (refine VB.is ?_; refine VB.no (by omega) fun _ => ?_) | (refine VB.is ?_; refine VB.split (fun _ => ?_) (fun _ => ?_)) | (refine boolE_split (fun h => ?_) (fun h => ?_) <;> subst h) | (refine VLd.is ?_; refine VLd.mk (.row aT (by rfl)) ?_) | (refine VSt.is ?_; refine VSt.row aT (by rfl) (by first | rfl | assumption) ?_) | (refine VNew.is ?_; refine VNew.mk fun _ => ?_) | (refine VAr.is ?_; refine VAr.i64 (by omega) (by omega) ?_) | (refine VIx.is ?_; refine VIx.mk rfl (by omega) (by omega) ?_) | (refine VKeep.is ?_; refine VKeep.mk aH ?_) | (refine VHs.is ?_; refine VHs.mk _ (HLe.refl _) ?_) | (refine VQ.is ?_; refine VQ.pos (by omega) (by omega) (by omega) ?_) | (refine VM.is ?_; refine VM.pos (by omega) (by omega) ?_) | (refine And.intro ?_ ?_)
      all_goals (conv => whnf)
      refine VNext.mk (j + 1) ⟨by omega, ?_⟩ (by omega) aE aH
      rw [List.take_add_one, List.take_add_one, hu, List.getElem?_map, List.getElem?_map, hx, hy, Option.map_some, Option.map_some, hxy]
    · repeat' (conv => whnf); first | (refine VIx.is ?_; refine VIx.mk (g1.ptr (by omega)) (by omega) (by omega) ?_) | (refine VIx.is ?_; refine VIx.mk (g2.ptr (by omega)) (by omega) (by omega) ?_) | (refine VLd.is ?_; refine VLd.mk (Rd.cast (g1.rd0 (by simp) (fun _ => rfl) hx rfl) (by first | omega | (dsimp only; omega) | rfl)) ?_) | (refine VLd.is ?_; refine VLd.mk (Rd.cast (g2.rd0 (by simp) (fun _ => rfl) hy rfl) (by first | omega | (dsimp only; omega) | rfl)) ?_) | (refine VCall.isF 43 ?_; (refine VCall.genR (v := fun r => .bool r) (p := fun r => (r = true ↔ x.l = y.l)) (G := fun _ => []) (fun w' hw' => equal_any x.l y.l _ _ _ _ _ _ _ _ w' hxi hyi (hx1.keep hw' (by simp)) (hy1.keep hw' (by simp)) hxl hyl) ?_; intro r hr; obtain rfl : r = false := Bool.eq_false_iff.2 fun h => hxy (hr.1 h))) | (refine VSeq.is ?_; refine VSeq.go ?_) | (refine VB.is ?_; refine VB.yes (by omega) fun _ => ?_) | (refine VB.is ?_; refine VB.no (by omega) fun _ => ?_) | (refine VB.is ?_; refine VB.split (fun _ => ?_) (fun _ => ?_)) | (refine boolE_split (fun h => ?_) (fun h => ?_) <;> subst h) | (refine VLd.is ?_; refine VLd.mk (.row aT (by rfl)) ?_) | (refine VSt.is ?_; refine VSt.row aT (by rfl) (by first | rfl | assumption) ?_) | (refine VNew.is ?_; refine VNew.mk fun _ => ?_) | (refine VAr.is ?_; refine VAr.i64 (by omega) (by omega) ?_) | (refine VIx.is ?_; refine VIx.mk rfl (by omega) (by omega) ?_) | (refine VKeep.is ?_; refine VKeep.mk aH ?_) | (refine VHs.is ?_; refine VHs.mk _ (HLe.refl _) ?_) | (refine VQ.is ?_; refine VQ.pos (by omega) (by omega) (by omega) ?_) | (refine VM.is ?_; refine VM.pos (by omega) (by omega) ?_) | (refine And.intro ?_ ?_)
      all_goals (conv => whnf)
      refine ⟨fun w' hw' => hno w' _ hw' (fun h => hxy ?_)⟩
      have e1 := congrArg (fun l => l[j]?) h.2.2
      simp only [List.getElem?_map, hx, hy, Option.map_some, Option.some.injEq] at e1
      exact e1
  have hLL : L1.map (·.l) = L2.map (·.l) := by
    rw [List.take_of_length_le (by rw [List.length_map]; omega), List.take_of_length_le (by rw [List.length_map]; omega)] at hu
    exact hu
  repeat' (conv => whnf); first | (refine VSeq.is ?_; refine VSeq.go ?_) | (refine VB.is ?_; refine VB.yes (by omega) fun _ => ?_) | (refine VB.is ?_; refine VB.no (by omega) fun _ => ?_) | (refine VB.is ?_; refine VB.split (fun _ => ?_) (fun _ => ?_)) | (refine boolE_split (fun h => ?_) (fun h => ?_) <;> subst h) | (refine VLd.is ?_; refine VLd.mk (.row aT (by rfl)) ?_) | (refine VSt.is ?_; refine VSt.row aT (by rfl) (by first | rfl | assumption) ?_) | (refine VNew.is ?_; refine VNew.mk fun _ => ?_) | (refine VAr.is ?_; refine VAr.i64 (by omega) (by omega) ?_) | (refine VIx.is ?_; refine VIx.mk rfl (by omega) (by omega) ?_) | (refine VKeep.is ?_; refine VKeep.mk aH ?_) | (refine VHs.is ?_; refine VHs.mk _ (HLe.refl _) ?_) | (refine VQ.is ?_; refine VQ.pos (by omega) (by omega) (by omega) ?_) | (refine VM.is ?_; refine VM.pos (by omega) (by omega) ?_) | (refine And.intro ?_ ?_)
  all_goals (conv => whnf)
  exact ⟨fun w' hw' => ⟨true, rfl, ⟨fun _ => ⟨by omega, hss, hLL⟩, fun _ => rfl⟩, hw'.le .nil⟩⟩

end Go.Proofs
