import Derived.Test.YtjjcoiicikaaiaaGreatPlaceRowsNb
import Derived.Test.YtjjcoiicikaaiaaGreatPlaceRowsPm
set_option linter.unusedVariables false
set_option linter.unusedSimpArgs false
set_option maxHeartbeats 4000000

namespace Go.Gm

def Spc.wf (s : Spc) : Prop := I64 s.wide ∧ I64 s.high ∧ I64 s.room

def leadM (W H r o : Int) : Prop := if o = 1 then r % W + 1 < W else if o = 2 then r / W + 1 < H else if o = 4 then 0 < r % W else if o = 8 then 0 < r / W else True

instance (W H r o : Int) : Decidable (leadM W H r o) := by unfold leadM; infer_instance

def knownE (s : Spc) (l : List Int) : Int := if meshE s ≠ 0 then 3 else if ∀ r ∈ l, 0 ≤ r ∧ r < s.wide * s.high then 0 else 4

theorem knownE_zero {s : Spc} {l : List Int} : knownE s l = 0 ↔ SpcOk s ∧ ∀ r ∈ l, 0 ≤ r ∧ r < s.wide * s.high := by
 unfold knownE
 rw [← meshE_zero]
 constructor
 ·intro h
  split at h
  ·cases h
  ·split at h
   ·exact ⟨by omega, by assumption⟩
   ·cases h
 ·rintro ⟨h1, h2⟩
  rw [if_neg (by omega), if_pos h2]

end Go.Gm

namespace Go.Proofs

open Go Go.Vx Go.Gm

theorem _root_.Go.Vx.VCall.arg2 (y : Value) {P : Program} {w0 : World} {M : List Nat} {H : HP} {f : Nat} {x : Value} {zs : List Value} {K : Value → HP → Prop} (hh : VCall P w0 M H f (x :: y :: zs) K) : VCall P w0 M H f (x :: y :: zs) K := hh

def spcC (s : Spc) : List Value := [.int .i64 s.wide, .int .i64 s.high, .int .i64 s.room]

theorem meshCheck_any (s : Spc) (hs : s.wf) (w : World) : Calls Tryz.prog 46 #[.agg (spcC s).toArray] w fun e w' => e = .returned (.int .i64 (meshE s)) ∧ St w [] [] w' := by
 obtain ⟨h1, h2, h3⟩ := hs
 unfold I64 at h1 h2 h3
 unfold spcC
 refine enter (C := Tryz.cx) (F := Tryz.fx46) (args := [_]) Tryz.func46 rfl rfl rfl Tryz.ok46 (St.start w []) ?_
 repeat' (conv => whnf); first | (refine VSeq.go ?_) | (refine VB.split (fun _ => ?_) (fun _ => ?_)) | (refine VLd.is ?_; refine VLd.mk (.row aT (by rfl)) ?_) | (refine VNew.mk fun _ => ?_)
 all_goals (conv => whnf)
 all_goals first
  | exact ⟨fun w' hw' => ⟨by unfold meshE; rw [if_pos (by omega)]; rfl, hw'.le .nil⟩⟩
  | exact ⟨fun w' hw' => ⟨by unfold meshE; rw [if_neg (by omega)]; rfl, hw'.le .nil⟩⟩

theorem meshAt_any (s : Spc) (hs : 1 ≤ s.wide ∧ s.wide ≤ 1000) (r : Int) (hr : 0 ≤ r ∧ r ≤ 1000000) (w : World) : Calls Tryz.prog 152 #[.agg (spcC s).toArray, .int .i64 r] w fun e w' => e = .returned (.agg #[.int .i64 (r % s.wide), .int .i64 (r / s.wide)]) ∧ St w [] [] w' := by
 unfold spcC
 refine enter (C := Tryz.cx) (F := Tryz.fx152) (args := [_, _]) Tryz.func152 rfl rfl rfl Tryz.ok152 (St.start w []) ?_
 repeat' (conv => whnf); first | (refine VNew.mk fun b4 => ?_) | (refine VHs.is ?_; refine VHs.is ?_; refine VHs.mk [.row _ 23 [.int .i64 s.wide, .int .i64 s.high, .int .i64 s.room]] aH ?_) | (refine VSeq.go ?_) | (refine VLd.is ?_; refine VLd.mk (.row aT (by rfl)) ?_) | (refine VSt.is ?_; refine VSt.row aT (by rfl) (by first | rfl | assumption) ?_) | (refine VQ.is ?_; refine oQ ?_) | (refine VM.is ?_; refine oM ?_)
 all_goals (conv => whnf)
 all_goals exact ⟨fun w' hw' => ⟨rfl, hw'.le .nil⟩⟩

theorem meshTurn_any (s : Spc) (hs : 1 ≤ s.wide ∧ s.wide ≤ 1000) (r t : Int) (hr : 0 ≤ r ∧ r ≤ 1000000) (ht : 0 ≤ t ∧ t ≤ 1000000) (w : World) : Calls Tryz.prog 154 #[.agg (spcC s).toArray, .int .i64 r, .int .i64 t] w fun e w' => e = .returned (.int .i64 (turnM s.wide r t)) ∧ St w [] [] w' := by
 refine enter (C := Tryz.cx) (F := Tryz.fx154) (args := [_, _, _]) Tryz.func154 rfl rfl rfl Tryz.ok154 (St.start w []) ?_
 have hm1 := meshAt_any s hs r hr
 have hm2 := meshAt_any s hs t ht
 obtain ⟨x, y, h1⟩ := at2 (W := s.wide) (by omega) r
 obtain ⟨a, b, h2⟩ := at2 (W := s.wide) (by omega) t
 rw [turn_at h1 h2]
 rw [h1.col, h1.row] at hm1
 rw [h2.col, h2.row] at hm2
 unfold spcC at hm1 hm2 ⊢
 repeat' (conv => whnf); first | (refine VCall.isF 152 ?_; (refine VCall.arg2 (.int .i64 r) ?_; refine VCall.valR (fun w' _ => hm1 w') ?_)) | (refine VCall.isF 152 ?_; (refine VCall.arg2 (.int .i64 t) ?_; refine VCall.valR (fun w' _ => hm2 w') ?_)) | (refine VSeq.is ?_; refine VSeq.isN 2 rfl ?_; refine VSeq.cut (at_ := 2) (α := Nat × Nat) (fun _ => True) (fun z => [(1000000, .tuple #[]), (6, .int .i64 0), (7, .pointer (some ⟨z.1, 0, none⟩)), (8, .pointer (some ⟨z.2, 0, none⟩))]) (fun z => [.row z.1 261 [.int .i64 x, .int .i64 y], .row z.2 261 [.int .i64 a, .int .i64 b]]) ?_ ?_) | (refine VSeq.go ?_) | (refine VLd.is ?_; refine VLd.mk (.row aT (by rfl)) ?_) | (refine VSt.is ?_; refine VSt.row aT (by rfl) (by first | rfl | assumption) ?_) | (refine VNew.mk fun _ => ?_) | (refine VKeep.is ?_; refine VKeep.mk aH ?_) | (refine VHs.mk _ (.refl _) ?_) | (refine And.intro ?_ ?_)
 all_goals (conv => whnf)
 any_goals (rename_i u v z; first | exact VMid.mk (v, z) trivial aE aH | exact VMid.mk (z, v) trivial aE aH)
 rintro ⟨b7, b8⟩ _
 dsimp only
 repeat' (conv => whnf); first | (refine VSeq.go ?_) | (refine VB.split (fun _ => ?_) (fun _ => ?_)) | (refine VLd.is ?_; refine VLd.mk (.row aT (by rfl)) ?_) | (refine VNew.mk fun _ => ?_)
 all_goals (conv => whnf)
 all_goals exact ⟨fun w' hw' => ⟨by (repeat (first | rw [if_pos (by omega)] | rw [if_neg (by omega)])); rfl, hw'.le .nil⟩⟩

theorem meshNext_any (s : Spc) (hs : 1 ≤ s.wide ∧ s.wide ≤ 1000) (hh : 0 ≤ s.high ∧ s.high ≤ 1000) (r o : Int) (hr : 0 ≤ r ∧ r < s.wide * s.high) (ho : isOut o) (w : World) : Calls Tryz.prog 139 #[.agg (spcC s).toArray, .int .i64 r, .int .i64 o] w fun e w' => ∃ b : Bool, e = .returned (.tuple #[.int .i64 (nextM s.wide r o), .bool b]) ∧ (b = true ↔ leadM s.wide s.high r o) ∧ St w [] [] w' := by
 have hm := fun (w' : World) => meshAt_any s hs
 have hwh : s.wide * s.high ≤ 1000 * 1000 := Int.mul_le_mul hs.2 hh.2 (by omega) (by omega)
 obtain ⟨x, y, hxy⟩ := at2 (W := s.wide) (by omega) r
 have hyr := (at2_range hxy).1 hr
 have hx0 := hxy.x0
 have hx1 := hxy.x1
 have hreq := hxy.eq
 refine enter (C := Tryz.cx) (F := Tryz.fx139) (args := [_, _, _]) Tryz.func139 rfl rfl rfl Tryz.ok139 (St.start w []) ?_
 unfold spcC at hm ⊢
 have hp : ∀ d : Int, (y + d) * s.wide = s.wide * y + d * s.wide := fun d => by rw [Int.add_mul, Int.mul_comm y]
 have hp0 : y * s.wide = s.wide * y := Int.mul_comm _ _
 have hp1 : (y + 1) * s.wide = s.wide * y + s.wide := by rw [hp, Int.one_mul]
 have hp2 : (y - 1) * s.wide = s.wide * y - s.wide := by rw [Int.sub_mul, Int.mul_comm y, Int.one_mul]
 have hb0 : 0 ≤ s.wide * y := Int.mul_nonneg (by omega) hyr.1
 obtain ⟨m, hmm⟩ : ∃ m, s.wide * y = m := ⟨_, rfl⟩
 rw [hmm] at hp0 hp1 hp2 hb0 hreq
 unfold isOut at ho
 have hm2 : ∀ w' : World, Calls Tryz.prog 152 #[.agg #[.int .i64 s.wide, .int .i64 s.high, .int .i64 s.room], .int .i64 r] w' fun e w'' => e = .returned (.agg #[.int .i64 x, .int .i64 y]) ∧ St w' [] [] w'' := fun w' => by
  have := hm w' r (by omega) w'
  rw [hxy.col, hxy.row] at this
  exact this
 have hcase : ∃ (v : Int) (p : Prop), nextM s.wide r o = v ∧ (leadM s.wide s.high r o ↔ p) ∧ ((o = 1 ∧ v = m + (x + 1) ∧ p = (x + 1 < s.wide)) ∨ (o = 2 ∧ v = m + s.wide + x ∧ p = (y + 1 < s.high)) ∨ (o = 4 ∧ v = m + (x - 1) ∧ p = (0 < x)) ∨ (o = 8 ∧ v = m - s.wide + x ∧ p = (0 < y)) ∨ (o = 16 ∧ v = m + x ∧ p = True)) := by
  unfold nextM leadM
  rw [hxy.col, hxy.row]
  rcases ho with rfl | rfl | rfl | rfl | rfl
  ·exact ⟨_, _, rfl, Iff.rfl, .inl ⟨rfl, by simp; omega, by simp⟩⟩
  ·exact ⟨_, _, rfl, Iff.rfl, .inr (.inl ⟨rfl, by simp; omega, by simp⟩)⟩
  ·exact ⟨_, _, rfl, Iff.rfl, .inr (.inr (.inl ⟨rfl, by simp; omega, by simp⟩))⟩
  ·exact ⟨_, _, rfl, Iff.rfl, .inr (.inr (.inr (.inl ⟨rfl, by simp; omega, by simp⟩)))⟩
  ·exact ⟨_, _, rfl, Iff.rfl, .inr (.inr (.inr (.inr ⟨rfl, by simp; omega, by simp⟩)))⟩
 obtain ⟨v, pr, hv, hpr, hor⟩ := hcase
 rw [hv]
 have hfin : ∀ (w' : World) (H : HP), St w [] H w' → ∀ b : Bool, (b = true ↔ pr) → ∃ b' : Bool, Ending.returned (.tuple #[.int .i64 v, .bool b]) = .returned (.tuple #[.int .i64 v, .bool b']) ∧ (b' = true ↔ leadM s.wide s.high r o) ∧ St w [] [] w' := fun w' H hw' b hb => ⟨b, rfl, hb.trans hpr.symm, hw'.le .nil⟩
 clear hv hpr hm ho
 rcases hor with ⟨rfl, rfl, rfl⟩ | ⟨rfl, rfl, rfl⟩ | ⟨rfl, rfl, rfl⟩ | ⟨rfl, rfl, rfl⟩ | ⟨rfl, rfl, rfl⟩
 all_goals
  repeat' (conv => whnf); first | (refine VNew.mk fun b4 => ?_) | (refine VCall.isF 152 ?_; (refine VCall.valR (fun w' _ => hm2 w') ?_)) | (refine VAr.is ?_; refine VAr.is ?_; refine VAr.mul hp0 (by omega) (by omega) ?_) | (refine VAr.is ?_; refine VAr.is ?_; refine VAr.mul hp1 (by omega) (by omega) ?_) | (refine VAr.is ?_; refine VAr.is ?_; refine VAr.mul hp2 (by omega) (by omega) ?_) | (refine VSeq.go ?_) | (refine VB.is ?_; refine VB.yes (by omega) fun _ => ?_) | (refine VB.is ?_; refine VB.no (by omega) fun _ => ?_) | (refine VB.split (fun _ => ?_) (fun _ => ?_)) | (refine VLd.is ?_; refine VLd.mk (.row aT (by rfl)) ?_) | (refine VSt.is ?_; refine VSt.row aT (by rfl) (by first | rfl | assumption) ?_) | (refine VAr.is ?_; refine oA ?_) | (refine VHs.mk _ (.refl _) ?_)
  all_goals (conv => whnf)
  all_goals first
   | exact ⟨fun w' hw' => hfin w' _ hw' true ⟨fun _ => by first | trivial | omega, fun _ => rfl⟩⟩
   | exact ⟨fun w' hw' => hfin w' _ hw' false ⟨fun h => (by cases h), fun h => by omega⟩⟩
   | (exfalso; omega)
   | trace_state

end Go.Proofs
