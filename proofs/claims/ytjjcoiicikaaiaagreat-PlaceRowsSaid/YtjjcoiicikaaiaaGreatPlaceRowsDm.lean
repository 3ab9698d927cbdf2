import Derived.Test.YtjjcoiicikaaiaaGreatPlaceRowsMe
import Derived.Test.YtjjcoiicikaaiaaGreatPlaceRowsVb
set_option linter.unusedVariables false
set_option linter.unusedSimpArgs false
set_option maxHeartbeats 4000000
section

namespace Go.Gm

theorem area_ok {s : Spc} (h : SpcOk s) : 1 ≤ s.wide * s.high ∧ s.wide * s.high ≤ 64 := by
 obtain ⟨w1, w2⟩ := h.wide
 obtain ⟨g1, g2⟩ := h.high
 have h1 : 1 * 1 ≤ s.wide * s.high := Int.mul_le_mul w1 g1 (by omega) (by omega)
 have h2 : s.wide * s.high ≤ 8 * 8 := Int.mul_le_mul w2 g2 (by omega) (by omega)
 omega

theorem dist_max {W r t x y a b : Int} (h1 : At2 W r x y) (h2 : At2 W t a b) : (distM W r t : Int) = max (x - a) (a - x) + max (y - b) (b - y) := by
 rw [dist_at h1 h2]
 omega

structure RteAt (W src t : Int) (k : Nat) (r : Int) : Prop where
 get : (rte W src t)[k]? = some r
 drop : (rte W src t).drop k = rte W r t

theorem RteAt.zero {W : Int} (hW : 0 < W) (src t : Int) : RteAt W src t 0 src := by
 obtain ⟨l, hl⟩ := rte_head (W := W) (r := src) (t := t) hW
 exact ⟨by rw [hl]; rfl, by rw [List.drop_zero]⟩

theorem RteAt.step {W src t : Int} {k : Nat} {r : Int} (hW : 0 < W) (h : RteAt W src t k r) (hne : r ≠ t) : RteAt W src t (k + 1) (nextM W r (turnM W r t)) := by
 have h1 := h.drop
 rw [rte_step hW hne] at h1
 have h2 : (rte W src t).drop (k + 1) = rte W (nextM W r (turnM W r t)) t := by
  rw [← List.drop_drop, h1]; rfl
 refine ⟨?_, h2⟩
 obtain ⟨l, hl⟩ := rte_head (W := W) (r := nextM W r (turnM W r t)) (t := t) hW
 have h3 := congrArg (fun L => L[0]?) h2
 rw [hl] at h3
 simpa using h3

theorem RteAt.last {W src t : Int} {k : Nat} (hW : 0 < W) (h : RteAt W src t k t) : (rte W src t).length = k + 1 := by
 have h1 := congrArg List.length h.drop
 rw [rte_self W t hW, List.length_drop] at h1
 have h2 := (List.getElem?_eq_some_iff.1 h.get).1
 simp at h1
 omega

theorem RteAt.range {W H src t : Int} {k : Nat} {r : Int} (hW : 0 < W) (hs : 0 ≤ src ∧ src < W * H) (ht : 0 ≤ t ∧ t < W * H) (h : RteAt W src t k r) : 0 ≤ r ∧ r < W * H :=
 rte_range hW ht _ src rfl hs r (List.mem_of_getElem? h.get)

theorem RteAt.lt {W src t : Int} {k : Nat} {r : Int} (h : RteAt W src t k r) : k < (rte W src t).length := (List.getElem?_eq_some_iff.1 h.get).1

end Go.Gm

namespace Go.Proofs

open Go Go.Vx Go.Gm

theorem known_any (s : Spc) (hs : s.wf) (l : List Int) (hlen : l.length ≤ 1000000) (hl : ∀ x ∈ l, I64 x) (p : Option Addr) (c b o : Nat) (w : World) (h1 : Sl w intV 1 l p l.length b o) : Calls Tryz.prog 151 #[.agg (spcC s).toArray, .slice p l.length c] w fun e w' => e = .returned (.int .i64 (knownE s l)) ∧ St w [] [] w' := by
 have hm := fun (w' : World) => meshCheck_any s hs w'
 unfold knownE
 refine enter (C := Tryz.cx) (F := Tryz.fx151) (args := [_, _]) Tryz.func151 rfl rfl rfl Tryz.ok151 (St.start w []) ?_
 have h03 : meshE s = 0 ∨ meshE s = 3 := by unfold meshE; split <;> simp
 unfold spcC at hm ⊢
 by_cases he : meshE s ≠ 0
 ·repeat' (conv => whnf); first | (refine VNew.mk fun b4 => ?_) | (refine VCall.isF 46 ?_; (refine VCall.valR (fun w' _ => hm w') ?_)) | (refine VSeq.go ?_) | (refine VB.is ?_; refine VB.yes (by omega) fun _ => ?_) | (refine VLd.is ?_; refine VLd.mk (.row aT (by rfl)) ?_)
  all_goals (conv => whnf)
  exact ⟨fun w' hw' => ⟨by rw [if_pos he, show meshE s = 3 by omega]; rfl, hw'.le .nil⟩⟩
 rw [if_neg he]
 have ha := area_ok (meshE_zero.1 (Decidable.not_not.1 he))
 obtain ⟨n, hn⟩ : ∃ n, s.wide * s.high = n := ⟨_, rfl⟩
 rw [hn] at ha ⊢
 repeat' (conv => whnf); first | (refine VNew.mk fun b4 => ?_) | (refine VCall.isF 46 ?_; (refine VCall.valR (fun w' _ => hm w') ?_)) | (refine VSeq.go ?_) | (refine VB.is ?_; refine VB.no (by omega) fun _ => ?_) | (refine VLd.is ?_; refine VLd.mk (.row aT (by rfl)) ?_)
 all_goals (conv => whnf)
 refine VLoop.kr (α := Nat) [1000000, 2, 4, 13, 14] rfl (fun i => i ≤ l.length ∧ ∀ r ∈ l.take i, 0 ≤ r ∧ r < n) (fun i K => (15, .int .i64 (i : Int)) :: K) (fun _ => [.row b4 23 [.int .i64 s.wide, .int .i64 s.high, .int .i64 s.room]]) (fun i => l.length - i) 0 ⟨by omega, by simp⟩ aE aH ?_
 rintro i ⟨hi, hall⟩
 rcases Nat.lt_or_ge i l.length with hlt | hge
 ·obtain ⟨x, hx⟩ := h1.get hlt
  have hxw := hl x (List.mem_of_getElem? hx)
  unfold I64 at hxw
  have hbad : ¬ (0 ≤ x ∧ x < n) → ¬ ∀ r ∈ l, 0 ≤ r ∧ r < n := fun h h2 => h (h2 x (List.mem_of_getElem? hx))
  repeat' (conv => whnf); first | (refine VIx.is ?_; refine VIx.mk (h1.ptr (by omega)) (by omega) (by omega) ?_) | (refine VLd.is ?_; refine VLd.mk (Rd.cast (h1.rd0 (by simp) (fun _ => rfl) hx rfl) (by first | omega | (dsimp only; omega) | rfl)) ?_) | (refine VAr.is ?_; refine VAr.is ?_; refine VAr.mul hn (by omega) (by omega) ?_) | (refine VSeq.go ?_) | (refine VB.is ?_; refine VB.yes (by omega) fun _ => ?_) | (refine VB.split (fun _ => ?_) (fun _ => ?_)) | (refine VLd.is ?_; refine VLd.mk (.row aT (by rfl)) ?_) | (refine VAr.is ?_; refine oA ?_)
  all_goals (conv => whnf)
  all_goals first
   | exact ⟨fun w' hw' => ⟨by rw [if_neg (hbad (by omega))]; rfl, hw'.le .nil⟩⟩
   | (refine VNext.mk (i + 1) ⟨by omega, fun r hr => ?_⟩ (by omega) aE aH
      rw [List.take_add_one, hx, Option.toList_some] at hr
      rcases List.mem_append.1 hr with hr | hr
      ·exact hall r hr
      ·rw [List.mem_singleton] at hr; subst hr; omega)
 ·rw [List.take_of_length_le hge] at hall
  repeat' (conv => whnf); first | (refine VSeq.go ?_) | (refine VB.is ?_; refine VB.no (by omega) fun _ => ?_) | (refine VB.split (fun _ => ?_) (fun _ => ?_)) | (refine VLd.is ?_; refine VLd.mk (.row aT (by rfl)) ?_) | (refine VNew.mk fun _ => ?_) | (refine VAr.is ?_; refine oA ?_)
  all_goals (conv => whnf)
  exact ⟨fun w' hw' => ⟨by rw [if_pos hall]; rfl, hw'.le .nil⟩⟩

def distR (s : Spc) (a b : Int) : Int × Int := if knownE s [a, b] ≠ 0 then (0, knownE s [a, b]) else ((distM s.wide a b : Int), 0)

theorem meshDistance_any (s : Spc) (hs : s.wf) (r t : Int) (hr : I64 r) (ht : I64 t) (w : World) : Calls Tryz.prog 112 #[.agg (spcC s).toArray, .int .i64 r, .int .i64 t] w fun e w' => e = .returned (.tuple #[.int .i64 (distR s r t).1, .int .i64 (distR s r t).2]) ∧ St w [] [] w' := by
 have hm := fun (w' : World) (p : Option Addr) c b o => known_any s hs [r, t] (by simp) (by simp [hr, ht]) p c b o w'
 refine enter (C := Tryz.cx) (F := Tryz.fx112) (args := [_, _, _]) Tryz.func112 rfl rfl rfl Tryz.ok112 (St.start w []) ?_
 unfold distR
 by_cases he : knownE s [r, t] ≠ 0
 ·rw [if_pos he]
  unfold spcC at hm ⊢
  repeat' (conv => whnf); first | (refine VCall.isF 151 ?_; (refine VCall.valR (fun w' hw' => hm w' _ _ _ _ (Sl.own' hw' (l := [r, t]) (f := intV) (k := 1) (by first | exact List.mem_cons_self) (fun _ => rfl) rfl)) ?_)) | (refine VSeq.go ?_) | (refine VB.is ?_; refine VB.yes (by omega) fun _ => ?_) | (refine VLd.is ?_; refine VLd.mk (.row aT (by rfl)) ?_) | (refine VNew.mk fun _ => ?_)
  all_goals (conv => whnf)
  exact ⟨fun w' hw' => ⟨rfl, hw'.le .nil⟩⟩
 rw [if_neg he]
 obtain ⟨hok, hrange⟩ := knownE_zero.1 (Decidable.not_not.1 he)
 have ha := area_ok hok
 have hwd := hok.wide
 have hrr := hrange r (by simp)
 have htr := hrange t (by simp)
 obtain ⟨x, y, h1⟩ := at2 (W := s.wide) (by omega) r
 obtain ⟨a, b, h2⟩ := at2 (W := s.wide) (by omega) t
 have hm1 := meshAt_any s (by omega) r (by omega)
 have hm2 := meshAt_any s (by omega) t (by omega)
 have hxr := (at2_range h1).1 hrr
 have har := (at2_range h2).1 htr
 have := h1.x0; have := h1.x1; have := h2.x0; have := h2.x1
 have hhi := hok.high
 rw [dist_max h1 h2]
 rw [h1.col, h1.row] at hm1
 rw [h2.col, h2.row] at hm2
 unfold spcC at hm hm1 hm2 ⊢
 repeat' (conv => whnf); first | (refine VCall.isF 151 ?_; (refine VCall.valR (fun w' hw' => hm w' _ _ _ _ (Sl.own' hw' (l := [r, t]) (f := intV) (k := 1) (by first | exact List.mem_cons_self) (fun _ => rfl) rfl)) ?_)) | (refine VCall.isF 152 ?_; (refine VCall.arg2 (.int .i64 r) ?_; refine VCall.valR (fun w' _ => hm1 w') ?_)) | (refine VCall.isF 152 ?_; (refine VCall.arg2 (.int .i64 t) ?_; refine VCall.valR (fun w' _ => hm2 w') ?_)) | (refine VSeq.is ?_; refine VSeq.isN 5 rfl ?_; refine VSeq.cut (at_ := 5) (α := Nat × Nat) (fun _ => True) (fun z => [(1000000, .tuple #[]), (9, .pointer (some ⟨z.1, 0, none⟩)), (10, .pointer (some ⟨z.2, 0, none⟩))]) (fun z => [.row z.1 261 [.int .i64 x, .int .i64 y], .row z.2 261 [.int .i64 a, .int .i64 b]]) ?_ ?_) | (refine VSeq.go ?_) | (refine VB.is ?_; refine VB.no (by omega) fun _ => ?_) | (refine VLd.is ?_; refine VLd.mk (.row aT (by rfl)) ?_) | (refine VSt.is ?_; refine VSt.row aT (by rfl) (by first | rfl | assumption) ?_) | (refine VNew.mk fun _ => ?_) | (refine VKeep.is ?_; refine VKeep.mk aH ?_) | (refine VHs.mk _ (.refl _) ?_) | (refine And.intro ?_ ?_)
 all_goals (conv => whnf)
 any_goals (rename_i u v; first | exact VMid.mk (u, v) trivial aE aH | exact VMid.mk (v, u) trivial aE aH)
 rintro ⟨b7, b8⟩ _
 dsimp only
 repeat' (conv => whnf); first | (refine VSeq.go ?_) | (refine VB.is ?_; refine VB.no (by omega) fun _ => ?_) | (refine VB.split (fun _ => ?_) (fun _ => ?_)) | (refine VLd.is ?_; refine VLd.mk (.row aT (by rfl)) ?_) | (refine VNew.mk fun _ => ?_) | (refine VAr.is ?_; refine oA ?_)
 all_goals (conv => whnf)
 exact ⟨fun w' hw' => ⟨rfl, hw'.le .nil⟩⟩

end Go.Proofs
end

section

namespace Go.Gm

open Go Go.Vx

def defE (d : Nat) : Ent := .obj d (.deferred (some []))

theorem _root_.Go.Vx.AtS.nil_eq {H S : HP} {Z : HP → HP} (h : AtS H S Z) : S = [] → H = Z [] := by
 induction h with
 | here => intro e; subst e; rfl
 | last => intro e; subst e; rfl
 | there h ih => intro e; show _ :: _ = _ :: _; rw [ih e]
 | app h ih => intro e; show _ ++ _ = _ ++ _; rw [ih e]

theorem _root_.Go.Vx.AtS.uncons {H X : HP} {Z : HP → HP} (h : AtS H X Z) : ∀ {x : Ent} {S : HP}, X = x :: S → ∃ u r Z', At H x u r ∧ AtS r S Z' ∧ Z' [] = Z [] := by
 induction h with
 | @here S' R => intro x S e; subst e; exact ⟨_, S ++ R, fun S' => S' ++ R, .here, .here, rfl⟩
 | last => intro x S e; subst e; exact ⟨_, S, fun S' => S', .here, .last, rfl⟩
 | @there H0 S' Z0 z h ih =>
  intro x S e
  obtain ⟨u, r, Z', h1, h2, h3⟩ := ih e
  exact ⟨_, z :: r, fun S' => z :: Z' S', .there h1, .there h2, by show z :: Z' [] = z :: Z0 []; rw [h3]⟩
 | @app H0 S' Z0 A h ih =>
  intro x S e
  obtain ⟨u, r, Z', h1, h2, h3⟩ := ih e
  exact ⟨_, A ++ r, fun S' => A ++ Z' S', At.app A h1, .app h2, by show A ++ Z' [] = A ++ Z0 []; rw [h3]⟩

theorem unE_is {DD : List Nat} {H : HP} {k : HP → Prop} (h : unE (DD.map markV) H k) : unE (DD.map markV) H k := h

theorem unE_marks : ∀ {DD : List Nat} {H : HP} {Z : HP → HP} {k : HP → Prop}, AtS H (DD.map defE) Z → k (Z []) → unE (DD.map markV) H k
 | [], H, Z, k, h, hk => by
  rw [← h.nil_eq rfl] at hk
  exact hk
 | d :: DD, H, Z, k, h, hk => by
  obtain ⟨u, r, Z', h1, h2, h3⟩ := h.uncons rfl
  show VUn H d _
  refine .mk h1 ?_
  rw [← h3] at hk
  exact unE_marks h2 hk

theorem _root_.Go.Vx.VCall.le {P : Program} {w0 : World} {M : List Nat} {H H' : HP} {f : Nat} {args : List Value} {K : Value → HP → Prop} (hl : HLe H' H) (h : VCall P w0 M H' f args K) : VCall P w0 M H f args K := by
 cases h with
 | mk h => exact .mk fun w hw => h w (hw.le hl)

theorem _root_.Go.Vx.VYield.weak {P : Program} {w0 : World} {M : List Nat} {H H' : HP} {l : Nat} {args : List Value} {K : Value → HP → Prop} (hl : HLe H' H) (h : VYield P w0 M H' l args K) : VYield P w0 M H l args K := by
 cases h with
 | mk h => exact .mk fun w hw => h w (hw.le hl)

theorem _root_.Go.Vx.VYield.mono {P : Program} {w0 : World} {M : List Nat} {H : HP} {l : Nat} {args : List Value} {K K' : Value → HP → Prop} (h : VYield P w0 M H l args K) (hk : ∀ r H', K r H' → K' r H') : VYield P w0 M H l args K' := by
 cases h with
 | mk h =>
  refine .mk fun w hw => ?_
  obtain ⟨fn, tmps, asg, bd, h1, h2⟩ := h w hw
  exact ⟨fn, tmps, asg, bd, h1, h2.mono fun e w' ⟨v, H', g1, g2, g3⟩ => ⟨v, H', g1, g2, hk v H' g3⟩⟩

theorem _root_.Go.Vx.VYield.hle {P : Program} {w0 : World} {M : List Nat} {H : HP} {l : Nat} {args : List Value} {K : Value → HP → Prop} (h : VYield P w0 M H l args fun v H' => ∃ H'', HLe H'' H' ∧ K v H'') : VYield P w0 M H l args K := by
 cases h with
 | mk h =>
  refine .mk fun w hw => ?_
  obtain ⟨fn, tmps, asg, bd, h1, h2⟩ := h w hw
  exact ⟨fn, tmps, asg, bd, h1, h2.mono fun e w' ⟨v, H', g1, g2, H'', g3, g4⟩ => ⟨v, H'', g1, g2.le g3, g4⟩⟩

theorem _root_.Go.Vx.VCall.hle {P : Program} {w0 : World} {M : List Nat} {H : HP} {f : Nat} {args : List Value} {K : Value → HP → Prop} (h : VCall P w0 M H f args fun v H' => ∃ H'', HLe H'' H' ∧ K v H'') : VCall P w0 M H f args K := by
 obtain ⟨h⟩ := h
 exact .mk fun w hw => (h w hw).mono fun e w' ⟨v, H', he, hw', H'', hl, hk⟩ => ⟨v, H'', he, hw'.le hl, hk⟩

theorem bits_or {a b : Nat} (ha : a < 2 ^ 63) (hb : b < 2 ^ 63) : bitsI .or .i64 (a : Int) (b : Int) = ((a ||| b : Nat) : Int) := by
 unfold bitsI
 dsimp only
 have hbb : IntKind.i64.bits = 64 := rfl
 have h1 : (BitVec.ofInt IntKind.i64.bits (a : Int) ||| BitVec.ofInt IntKind.i64.bits (b : Int)).toNat = a ||| b := by
  rw [BitVec.toNat_or]
  have e1 : (BitVec.ofInt IntKind.i64.bits (a : Int)).toNat = a := by rw [BitVec.toNat_ofInt, hbb]; omega
  have e2 : (BitVec.ofInt IntKind.i64.bits (b : Int)).toNat = b := by rw [BitVec.toNat_ofInt, hbb]; omega
  rw [e1, e2]
 have h2 : a ||| b < 2 ^ 63 := Nat.or_lt_two_pow ha hb
 rw [h1, wrap_i64 (by omega) (by omega)]

theorem _root_.Go.Vx.VBit.or {a b : Int} {k : Int → Prop} (ha : 0 ≤ a ∧ a ≤ 4611686018427387904) (hb : 0 ≤ b ∧ b ≤ 4611686018427387904) (hk : k ((a.toNat ||| b.toNat : Nat) : Int)) : VBit .or .i64 a b k := by
 refine .mk ?_
 have := bits_or (a := a.toNat) (b := b.toNat) (by omega) (by omega)
 rw [Int.toNat_of_nonneg ha.1, Int.toNat_of_nonneg hb.1] at this
 rw [this]
 exact hk

end Go.Gm
end
