import Derived.Test.YtjjcoiicikaaiaaGreatPlaceMapsMe
set_option linter.unusedVariables false
set_option linter.unusedSimpArgs false
set_option maxHeartbeats 4000000

namespace Go.Gm

theorem area_ok {s : Spc} (h : SpcOk s) : 1 ≤ s.wide * s.high ∧ s.wide * s.high ≤ 64 := by
 obtain ⟨w1, w2⟩ := h.wide
 obtain ⟨g1, g2⟩ := h.high
 have h1 : 1 * 1 ≤ s.wide * s.high := Int.mul_le_mul w1 g1 (by omega) (by omega)
 have h2 : s.wide * s.high ≤ 8 * 8 := Int.mul_le_mul w2 g2 (by omega) (by omega)
 omega

theorem dist_max {W r t x y a b : Int} (h1 : At2 W r x y) (h2 : At2 W t a b) : (distM W r t : Int) = max (x - a) (a - x) + max (y - b) (b - y) := by
 rw [dist_at h1 h2]
 omega

structure RteAt (W src t : Int) (k : Nat) (r : Int) : Prop where
 get : (rte W src t)[k]? = some r
 drop : (rte W src t).drop k = rte W r t

theorem RteAt.zero {W : Int} (hW : 0 < W) (src t : Int) : RteAt W src t 0 src := by
 obtain ⟨l, hl⟩ := rte_head (W := W) (r := src) (t := t) hW
 exact ⟨by rw [hl]; rfl, by rw [List.drop_zero]⟩

theorem RteAt.step {W src t : Int} {k : Nat} {r : Int} (hW : 0 < W) (h : RteAt W src t k r) (hne : r ≠ t) : RteAt W src t (k + 1) (nextM W r (turnM W r t)) := by
 have h1 := h.drop
 rw [rte_step hW hne] at h1
 have h2 : (rte W src t).drop (k + 1) = rte W (nextM W r (turnM W r t)) t := by
  rw [← List.drop_drop, h1]; rfl
 refine ⟨?_, h2⟩
 obtain ⟨l, hl⟩ := rte_head (W := W) (r := nextM W r (turnM W r t)) (t := t) hW
 have h3 := congrArg (fun L => L[0]?) h2
 rw [hl] at h3
 simpa using h3

theorem RteAt.last {W src t : Int} {k : Nat} (hW : 0 < W) (h : RteAt W src t k t) : (rte W src t).length = k + 1 := by
 have h1 := congrArg List.length h.drop
 rw [rte_self W t hW, List.length_drop] at h1
 have h2 := (List.getElem?_eq_some_iff.1 h.get).1
 simp at h1
 omega

theorem RteAt.range {W H src t : Int} {k : Nat} {r : Int} (hW : 0 < W) (hs : 0 ≤ src ∧ src < W * H) (ht : 0 ≤ t ∧ t < W * H) (h : RteAt W src t k r) : 0 ≤ r ∧ r < W * H :=
 rte_range hW ht _ src rfl hs r (List.mem_of_getElem? h.get)

theorem RteAt.lt {W src t : Int} {k : Nat} {r : Int} (h : RteAt W src t k r) : k < (rte W src t).length := (List.getElem?_eq_some_iff.1 h.get).1

end Go.Gm

namespace Go.Proofs

open Go Go.Vx Go.Gm

theorem known_any (s : Spc) (hs : s.wf) (l : List Int) (hlen : l.length ≤ 1000000) (hl : ∀ x ∈ l, I64 x) (p : Option Addr) (c b o : Nat) (w : World) (h1 : Sl w intV 1 l p l.length b o) : Calls Tryz.prog 151 #[.agg (spcC s).toArray, .slice p l.length c] w fun e w' => e = .returned (.int .i64 (knownE s l)) ∧ St w [] [] w' := by
 have hm := fun (w' : World) => meshCheck_any s hs w'
 unfold knownE
 refine enter (C := Tryz.cx) (F := Tryz.fx151) (args := [_, _]) Tryz.func151 rfl rfl rfl Tryz.ok151 (St.start w []) ?_
 have h03 : meshE s = 0 ∨ meshE s = 3 := by unfold meshE; split <;> simp
 unfold spcC at hm ⊢
 by_cases he : meshE s ≠ 0
 ·repeat' (conv => whnf); first | (refine VNew.mk fun b4 => ?_) | (refine VCall.isF 46 ?_; (refine VCall.valR (fun w' _ => hm w') ?_)) | (refine VSeq.go ?_) | (refine VB.is ?_; refine VB.yes (by omega) fun _ => ?_) | (refine VLd.is ?_; refine VLd.mk (.row aT (by rfl)) ?_)
  all_goals (conv => whnf)
  exact ⟨fun w' hw' => ⟨by rw [if_pos he, show meshE s = 3 by omega]; rfl, hw'.le .nil⟩⟩
 rw [if_neg he]
 have ha := area_ok (meshE_zero.1 (Decidable.not_not.1 he))
 obtain ⟨n, hn⟩ : ∃ n, s.wide * s.high = n := ⟨_, rfl⟩
 rw [hn] at ha ⊢
 repeat' (conv => whnf); first | (refine VNew.mk fun b4 => ?_) | (refine VCall.isF 46 ?_; (refine VCall.valR (fun w' _ => hm w') ?_)) | (refine VSeq.go ?_) | (refine VB.is ?_; refine VB.no (by omega) fun _ => ?_) | (refine VLd.is ?_; refine VLd.mk (.row aT (by rfl)) ?_)
 all_goals (conv => whnf)
 refine VLoop.kr (α := Nat) [1000000, 2, 4, 13, 14] rfl (fun i => i ≤ l.length ∧ ∀ r ∈ l.take i, 0 ≤ r ∧ r < n) (fun i K => (15, .int .i64 (i : Int)) :: K) (fun _ => [.row b4 23 [.int .i64 s.wide, .int .i64 s.high, .int .i64 s.room]]) (fun i => l.length - i) 0 ⟨by omega, by simp⟩ aE aH ?_
 rintro i ⟨hi, hall⟩
 rcases Nat.lt_or_ge i l.length with hlt | hge
 ·obtain ⟨x, hx⟩ := h1.get hlt
  have hxw := hl x (List.mem_of_getElem? hx)
  unfold I64 at hxw
  have hbad : ¬ (0 ≤ x ∧ x < n) → ¬ ∀ r ∈ l, 0 ≤ r ∧ r < n := fun h h2 => h (h2 x (List.mem_of_getElem? hx))
  repeat' (conv => whnf); first | (refine VIx.is ?_; refine VIx.mk (h1.ptr (by omega)) (by omega) (by omega) ?_) | (refine VLd.is ?_; refine VLd.mk (Rd.cast (h1.rd0 (by simp) (fun _ => rfl) hx rfl) (by first | omega | (dsimp only; omega) | rfl)) ?_) | (refine VAr.is ?_; refine VAr.is ?_; refine VAr.mul hn (by omega) (by omega) ?_) | (refine VSeq.go ?_) | (refine VB.is ?_; refine VB.yes (by omega) fun _ => ?_) | (refine VB.split (fun _ => ?_) (fun _ => ?_)) | (refine VLd.is ?_; refine VLd.mk (.row aT (by rfl)) ?_) | (refine VAr.is ?_; refine oA ?_)
  all_goals (conv => whnf)
  all_goals first
   | exact ⟨fun w' hw' => ⟨by rw [if_neg (hbad (by omega))]; rfl, hw'.le .nil⟩⟩
   | (refine VNext.mk (i + 1) ⟨by omega, fun r hr => ?_⟩ (by omega) aE aH
      rw [List.take_add_one, hx, Option.toList_some] at hr
      rcases List.mem_append.1 hr with hr | hr
      ·exact hall r hr
      ·rw [List.mem_singleton] at hr; subst hr; omega)
 ·rw [List.take_of_length_le hge] at hall
  repeat' (conv => whnf); first | (refine VSeq.go ?_) | (refine VB.is ?_; refine VB.no (by omega) fun _ => ?_) | (refine VB.split (fun _ => ?_) (fun _ => ?_)) | (refine VLd.is ?_; refine VLd.mk (.row aT (by rfl)) ?_) | (refine VNew.mk fun _ => ?_) | (refine VAr.is ?_; refine oA ?_)
  all_goals (conv => whnf)
  exact ⟨fun w' hw' => ⟨by rw [if_pos hall]; rfl, hw'.le .nil⟩⟩

def distR (s : Spc) (a b : Int) : Int × Int := if knownE s [a, b] ≠ 0 then (0, knownE s [a, b]) else ((distM s.wide a b : Int), 0)

theorem meshDistance_any (s : Spc) (hs : s.wf) (r t : Int) (hr : I64 r) (ht : I64 t) (w : World) : Calls Tryz.prog 112 #[.agg (spcC s).toArray, .int .i64 r, .int .i64 t] w fun e w' => e = .returned (.tuple #[.int .i64 (distR s r t).1, .int .i64 (distR s r t).2]) ∧ St w [] [] w' := by
 have hm := fun (w' : World) (p : Option Addr) c b o => known_any s hs [r, t] (by simp) (by simp [hr, ht]) p c b o w'
 refine enter (C := Tryz.cx) (F := Tryz.fx112) (args := [_, _, _]) Tryz.func112 rfl rfl rfl Tryz.ok112 (St.start w []) ?_
 unfold distR
 by_cases he : knownE s [r, t] ≠ 0
 ·rw [if_pos he]
  unfold spcC at hm ⊢
  repeat' (conv => whnf); first | (refine VCall.isF 151 ?_; (refine VCall.valR (fun w' hw' => hm w' _ _ _ _ (Sl.own' hw' (l := [r, t]) (f := intV) (k := 1) (by first | exact List.mem_cons_self) (fun _ => rfl) rfl)) ?_)) | (refine VSeq.go ?_) | (refine VB.is ?_; refine VB.yes (by omega) fun _ => ?_) | (refine VLd.is ?_; refine VLd.mk (.row aT (by rfl)) ?_) | (refine VNew.mk fun _ => ?_)
  all_goals (conv => whnf)
  exact ⟨fun w' hw' => ⟨rfl, hw'.le .nil⟩⟩
 rw [if_neg he]
 obtain ⟨hok, hrange⟩ := knownE_zero.1 (Decidable.not_not.1 he)
 have ha := area_ok hok
 have hwd := hok.wide
 have hrr := hrange r (by simp)
 have htr := hrange t (by simp)
 obtain ⟨x, y, h1⟩ := at2 (W := s.wide) (by omega) r
 obtain ⟨a, b, h2⟩ := at2 (W := s.wide) (by omega) t
 have hm1 := meshAt_any s (by omega) r (by omega)
 have hm2 := meshAt_any s (by omega) t (by omega)
 have hxr := (at2_range h1).1 hrr
 have har := (at2_range h2).1 htr
 have := h1.x0; have := h1.x1; have := h2.x0; have := h2.x1
 have hhi := hok.high
 rw [dist_max h1 h2]
 rw [h1.col, h1.row] at hm1
 rw [h2.col, h2.row] at hm2
 unfold spcC at hm hm1 hm2 ⊢
 repeat' (conv => whnf); first | (refine VCall.isF 151 ?_; (refine VCall.valR (fun w' hw' => hm w' _ _ _ _ (Sl.own' hw' (l := [r, t]) (f := intV) (k := 1) (by first | exact List.mem_cons_self) (fun _ => rfl) rfl)) ?_)) | (refine VCall.isF 152 ?_; (refine VCall.arg2 (.int .i64 r) ?_; refine VCall.valR (fun w' _ => hm1 w') ?_)) | (refine VCall.isF 152 ?_; (refine VCall.arg2 (.int .i64 t) ?_; refine VCall.valR (fun w' _ => hm2 w') ?_)) | (refine VSeq.is ?_; refine VSeq.isN 5 rfl ?_; refine VSeq.cut (at_ := 5) (α := Nat × Nat) (fun _ => True) (fun z => [(1000000, .tuple #[]), (9, .pointer (some ⟨z.1, 0, none⟩)), (10, .pointer (some ⟨z.2, 0, none⟩))]) (fun z => [.row z.1 261 [.int .i64 x, .int .i64 y], .row z.2 261 [.int .i64 a, .int .i64 b]]) ?_ ?_) | (refine VSeq.go ?_) | (refine VB.is ?_; refine VB.no (by omega) fun _ => ?_) | (refine VLd.is ?_; refine VLd.mk (.row aT (by rfl)) ?_) | (refine VSt.is ?_; refine VSt.row aT (by rfl) (by first | rfl | assumption) ?_) | (refine VNew.mk fun _ => ?_) | (refine VKeep.is ?_; refine VKeep.mk aH ?_) | (refine VHs.mk _ (.refl _) ?_) | (refine And.intro ?_ ?_)
 all_goals (conv => whnf)
 any_goals (rename_i u v; first | exact VMid.mk (u, v) trivial aE aH | exact VMid.mk (v, u) trivial aE aH)
 rintro ⟨b7, b8⟩ _
 dsimp only
 repeat' (conv => whnf); first | (refine VSeq.go ?_) | (refine VB.is ?_; refine VB.no (by omega) fun _ => ?_) | (refine VB.split (fun _ => ?_) (fun _ => ?_)) | (refine VLd.is ?_; refine VLd.mk (.row aT (by rfl)) ?_) | (refine VNew.mk fun _ => ?_) | (refine VAr.is ?_; refine oA ?_)
 all_goals (conv => whnf)
 exact ⟨fun w' hw' => ⟨rfl, hw'.le .nil⟩⟩

theorem refMeshCheck_any (s : Spc) (hs : s.wf) (w : World) : Calls Tryz.prog 50 #[.agg (spcC s).toArray] w fun e w' => e = .returned (.int .i64 (meshE s)) ∧ St w [] [] w' := by
 obtain ⟨h1, h2, h3⟩ := hs
 unfold I64 at h1 h2 h3
 unfold spcC
 refine enter (C := Tryz.cx) (F := Tryz.fx50) (args := [_]) Tryz.func50 rfl rfl rfl Tryz.ok50 (St.start w []) ?_
 repeat' (conv => whnf); first | (refine VSeq.go ?_) | (refine VB.is ?_; refine VB.no (by omega) fun _ => ?_) | (refine VB.split (fun _ => ?_) (fun _ => ?_)) | (refine VLd.is ?_; refine VLd.mk (.row aT (by rfl)) ?_) | (refine VNew.mk fun _ => ?_) | (refine VAr.is ?_; refine oA ?_)
 all_goals (conv => whnf)
 all_goals first
  | exact ⟨fun w' hw' => ⟨by unfold meshE; rw [if_pos (by omega)]; rfl, hw'.le .nil⟩⟩
  | exact ⟨fun w' hw' => ⟨by unfold meshE; rw [if_neg (by omega)]; rfl, hw'.le .nil⟩⟩

theorem refIs_any (s : Spc) (hok : SpcOk s) (r : Int) (hr : I64 r) (w : World) : Calls Tryz.prog 164 #[.agg (spcC s).toArray, .int .i64 r] w fun e w' => ∃ b : Bool, e = .returned (.bool b) ∧ (b = true ↔ 0 ≤ r ∧ r < s.wide * s.high) ∧ St w [] [] w' := by
 have ha := area_ok hok
 obtain ⟨n, hn⟩ : ∃ n, s.wide * s.high = n := ⟨_, rfl⟩
 rw [hn] at ha ⊢
 unfold spcC
 refine enter (C := Tryz.cx) (F := Tryz.fx164) (args := [_, _]) Tryz.func164 rfl rfl rfl Tryz.ok164 (St.start w []) ?_
 repeat' (conv => whnf); first | (refine VAr.is ?_; refine VAr.is ?_; refine VAr.mul hn (by omega) (by omega) ?_) | (refine VSeq.go ?_) | (refine VB.split (fun _ => ?_) (fun _ => ?_)) | (refine VLd.is ?_; refine VLd.mk (.row aT (by rfl)) ?_) | (refine VNew.mk fun _ => ?_)
 all_goals (conv => whnf)
 all_goals exact ⟨fun w' hw' => ⟨_, rfl, ⟨fun h => by first | omega | (cases h; done), fun h => by first | rfl | omega⟩, hw'.le .nil⟩⟩

theorem refTwo_any (s : Spc) (hs : s.wf) (r t : Int) (hr : I64 r) (ht : I64 t) (w : World) : Calls Tryz.prog 163 #[.agg (spcC s).toArray, .int .i64 r, .int .i64 t] w fun e w' => e = .returned (.int .i64 (knownE s [r, t])) ∧ St w [] [] w' := by
 have hm := fun (w' : World) => refMeshCheck_any s hs w'
 have h03 : meshE s = 0 ∨ meshE s = 3 := by unfold meshE; split <;> simp
 unfold knownE
 refine enter (C := Tryz.cx) (F := Tryz.fx163) (args := [_, _, _]) Tryz.func163 rfl rfl rfl Tryz.ok163 (St.start w []) ?_
 by_cases he : meshE s ≠ 0
 ·unfold spcC at hm ⊢
  repeat' (conv => whnf); first | (refine VCall.isF 50 ?_; (refine VCall.valR (fun w' _ => hm w') ?_)) | (refine VSeq.go ?_) | (refine VB.is ?_; refine VB.yes (by omega) fun _ => ?_) | (refine VLd.is ?_; refine VLd.mk (.row aT (by rfl)) ?_) | (refine VNew.mk fun _ => ?_)
  all_goals (conv => whnf)
  exact ⟨fun w' hw' => ⟨by rw [if_pos he, show meshE s = 3 by omega]; rfl, hw'.le .nil⟩⟩
 rw [if_neg he]
 have hok := meshE_zero.1 (Decidable.not_not.1 he)
 have hi1 := refIs_any s hok r hr
 have hi2 := refIs_any s hok t ht
 obtain ⟨n, hn⟩ : ∃ n, s.wide * s.high = n := ⟨_, rfl⟩
 rw [hn] at hi1 hi2 ⊢
 unfold spcC at hm hi1 hi2 ⊢
 repeat' (conv => whnf); first | (refine VCall.isF 50 ?_; (refine VCall.valR (fun w' _ => hm w') ?_)) | (refine VCall.isF 164 ?_; (refine VCall.arg2 (.int .i64 r) ?_; refine VCall.genR (fun w' _ => hi1 w') ?_; intro b1 hb1)) | (refine VCall.isF 164 ?_; (refine VCall.arg2 (.int .i64 t) ?_; refine VCall.genR (fun w' _ => hi2 w') ?_; intro b2 hb2)) | (refine VSeq.go ?_) | (refine VB.is ?_; refine VB.no (by omega) fun _ => ?_) | (refine boolE_split (fun h => ?_) (fun h => ?_) <;> subst h) | (refine VLd.is ?_; refine VLd.mk (.row aT (by rfl)) ?_) | (refine VNew.mk fun _ => ?_)
 all_goals (conv => whnf)
 all_goals first
  | exact ⟨fun w' hw' => ⟨by rw [if_pos (by intro q hq; simp only [List.mem_cons, List.not_mem_nil, or_false] at hq; rcases hq with rfl | rfl; exact hb1.1 rfl; exact hb2.1 rfl)]; rfl, hw'.le .nil⟩⟩
  | exact ⟨fun w' hw' => ⟨by rw [if_neg (fun h => Bool.noConfusion (show false = true from hb1.2 (h r (by simp))))]; rfl, hw'.le .nil⟩⟩
  | exact ⟨fun w' hw' => ⟨by rw [if_neg (fun h => Bool.noConfusion (show false = true from hb2.2 (h t (by simp))))]; rfl, hw'.le .nil⟩⟩

theorem refTowards_any (s : Spc) (hs : 1 ≤ s.wide ∧ s.wide ≤ 1000) (r t : Int) (hr : 0 ≤ r ∧ r ≤ 1000000) (ht : 0 ≤ t ∧ t ≤ 1000000) (w : World) : Calls Tryz.prog 166 #[.agg (spcC s).toArray, .int .i64 r, .int .i64 t] w fun e w' => e = .returned (.int .i64 (turnM s.wide r t)) ∧ St w [] [] w' := by
 obtain ⟨x, y, h1⟩ := at2 (W := s.wide) (by omega) r
 obtain ⟨a, b, h2⟩ := at2 (W := s.wide) (by omega) t
 rw [turn_at h1 h2]
 unfold spcC
 refine enter (C := Tryz.cx) (F := Tryz.fx166) (args := [_, _, _]) Tryz.func166 rfl rfl rfl Tryz.ok166 (St.start w []) ?_
 repeat' (conv => whnf); first | (refine VM.is ?_; refine VM.is ?_; refine oM ?_; first | rw [h1.col] | rw [h2.col]) | (refine VQ.is ?_; refine VQ.is ?_; refine oQ ?_; first | rw [h1.row] | rw [h2.row]) | (refine VSeq.go ?_) | (refine VB.split (fun _ => ?_) (fun _ => ?_)) | (refine VLd.is ?_; refine VLd.mk (.row aT (by rfl)) ?_) | (refine VNew.mk fun _ => ?_) | (refine VHs.mk _ (.refl _) ?_)
 all_goals (conv => whnf)
 all_goals exact ⟨fun w' hw' => ⟨by (repeat (first | rw [if_pos (by omega)] | rw [if_neg (by omega)])); rfl, hw'.le .nil⟩⟩

theorem refOver_any (s : Spc) (hs : 1 ≤ s.wide ∧ s.wide ≤ 1000) (hh : 0 ≤ s.high ∧ s.high ≤ 1000) (r o : Int) (hr : 0 ≤ r ∧ r < s.wide * s.high) (ho : isOut o) (w : World) : Calls Tryz.prog 187 #[.agg (spcC s).toArray, .int .i64 r, .int .i64 o] w fun e w' => e = .returned (.int .i64 (if o ≠ 16 ∧ leadM s.wide s.high r o then nextM s.wide r o else -1)) ∧ St w [] [] w' := by
 have hwh : s.wide * s.high ≤ 1000 * 1000 := Int.mul_le_mul hs.2 hh.2 (by omega) (by omega)
 obtain ⟨x, y, h1⟩ := at2 (W := s.wide) (by omega) r
 have hyr := (at2_range h1).1 hr
 have hx0 := h1.x0
 have hx1 := h1.x1
 have hcase : ∃ (p : Prop) (v : Int), (leadM s.wide s.high r o ↔ p) ∧ nextM s.wide r o = v ∧ ((o = 1 ∧ v = r + 1 ∧ p = (x + 1 < s.wide)) ∨ (o = 2 ∧ v = r + s.wide ∧ p = (y + 1 < s.high)) ∨ (o = 4 ∧ v = r - 1 ∧ p = (0 < x)) ∨ (o = 8 ∧ v = r - s.wide ∧ p = (0 < y)) ∨ (o = 16 ∧ v = r ∧ p = True)) := by
  unfold nextM leadM
  unfold isOut at ho
  rw [h1.col, h1.row]
  rcases ho with rfl | rfl | rfl | rfl | rfl
  ·exact ⟨_, _, Iff.rfl, rfl, .inl ⟨rfl, by simp, by simp⟩⟩
  ·exact ⟨_, _, Iff.rfl, rfl, .inr (.inl ⟨rfl, by simp, by simp⟩)⟩
  ·exact ⟨_, _, Iff.rfl, rfl, .inr (.inr (.inl ⟨rfl, by simp, by simp⟩))⟩
  ·exact ⟨_, _, Iff.rfl, rfl, .inr (.inr (.inr (.inl ⟨rfl, by simp, by simp⟩)))⟩
  ·exact ⟨_, _, Iff.rfl, rfl, .inr (.inr (.inr (.inr ⟨rfl, by simp, by simp⟩)))⟩
 obtain ⟨pr, v, hpr, hv, hor⟩ := hcase
 rw [hv]
 have hyes : ∀ (w' : World) (H : HP), St w [] H w' → pr → o ≠ 16 → Ending.returned (.int .i64 v) = .returned (.int .i64 (if o ≠ 16 ∧ leadM s.wide s.high r o then v else -1)) ∧ St w [] [] w' := fun w' H hw' hp h16 => ⟨by rw [if_pos ⟨h16, hpr.2 hp⟩], hw'.le .nil⟩
 have hno : ∀ (w' : World) (H : HP), St w [] H w' → (¬ pr ∨ o = 16) → Ending.returned (.int .i64 (-1)) = .returned (.int .i64 (if o ≠ 16 ∧ leadM s.wide s.high r o then v else -1)) ∧ St w [] [] w' := fun w' H hw' hp => ⟨by rw [if_neg (fun h => hp.elim (fun h2 => h2 (hpr.1 h.2)) h.1)], hw'.le .nil⟩
 unfold spcC
 refine enter (C := Tryz.cx) (F := Tryz.fx187) (args := [_, _, _]) Tryz.func187 rfl rfl rfl Tryz.ok187 (St.start w []) ?_
 clear hv hpr ho
 rcases hor with ⟨rfl, rfl, rfl⟩ | ⟨rfl, rfl, rfl⟩ | ⟨rfl, rfl, rfl⟩ | ⟨rfl, rfl, rfl⟩ | ⟨rfl, rfl, rfl⟩
 all_goals
  repeat' (conv => whnf); first | (refine VM.is ?_; refine VM.is ?_; refine oM ?_; rw [h1.col]) | (refine VQ.is ?_; refine VQ.is ?_; refine oQ ?_; rw [h1.row]) | (refine VSeq.go ?_) | (refine VB.is ?_; refine VB.yes (by omega) fun _ => ?_) | (refine VB.is ?_; refine VB.no (by omega) fun _ => ?_) | (refine VB.split (fun _ => ?_) (fun _ => ?_)) | (refine VLd.is ?_; refine VLd.mk (.row aT (by rfl)) ?_) | (refine VNew.mk fun _ => ?_) | (refine VAr.is ?_; refine oA ?_) | (refine VHs.mk _ (.refl _) ?_)
  all_goals (conv => whnf)
  all_goals first
   | exact ⟨fun w' hw' => hyes w' _ hw' (by omega) (by omega)⟩
   | exact ⟨fun w' hw' => hno w' _ hw' (by first | omega | exact .inr rfl)⟩
   | (exfalso; omega)

end Go.Proofs
