import Derived.Test.YtjjcoiicikaaiaaGreatPlaceAloneVImproves
set_option linter.unusedVariables false

set_option linter.unusedSimpArgs false

namespace Go.Proofs

open Go Go.Vx Go.Gm

theorem _root_.Go.Vx.VCall.third (z : Value) {P : Program} {w0 : World} {M : List Nat} {H : HP} {f : Nat} {x y : Value} {zs : List Value} {K : Value → HP → Prop} (hh : VCall P w0 M H f (x :: y :: z :: zs) K) : VCall P w0 M H f (x :: y :: z :: zs) K := hh

theorem plan_of {N : Net} {C : Chp} {cores : List Int} (h : asgE N C cores = 0) : Gm.planE N C = 0 := Decidable.byContradiction fun hn => by
  unfold asgE at h
  rw [if_pos hn] at h
  exact hn h

theorem asg_zero {N : Net} {C : Chp} {cores : List Int} (hp : Gm.planE N C = 0) (h : AsgOk N C cores) : asgE N C cores = 0 := by
  unfold asgE
  rw [if_neg (by rw [hp]; simp), if_neg (by rw [h.len]; simp), if_neg (by rw [coreE_zero.2 h.core]; simp), if_neg (fun hn => hn h.fits)]

theorem asg_i64 {N : Net} {C : Chp} {cores : List Int} (h : AsgOk N C cores) : (∀ k ∈ cores, I64 k) ∧ cores.length ≤ 1024 := by
  have ha := area_ok h.plan.chip.mesh
  refine ⟨fun k hk => ?_, ?_⟩
  · have := (h.core k hk).1
    unfold I64; omega
  · have h1 := h.len
    have h2 := h.plan.net.few
    omega

set_option maxHeartbeats 4000000 in
theorem PlaceAlone_any (X : PlnX) (cores : List Int) (hcw : ∀ k ∈ cores, I64 k) (p : Option Addr) (c b o : Nat) (w : World) (hX : PlnRi X w) (h1 : Sl w intV 1 cores p cores.length b o) :
    Calls Tryz.prog 11 #[.agg X.net.toArray, .agg (chpC X.C X.pd X.cd).toArray, .slice p cores.length c] w fun e w' => e = .returned (.bool true) ∧ St w [] [] w' := by
  have hf := fun (w' : World) => few7_any X w'
  have g1 := fun hl (w' : World) h => placeImprove_any X w' h cores hcw hl 2 (by simp [I64]) p c b o
  have g2 := fun hl (w' : World) h => placeCheck_any X w' h cores hcw hl p c b o
  have har : asgE X.N X.C cores = 0 → 1 ≤ X.C.mesh.wide * X.C.mesh.high ∧ X.C.mesh.wide * X.C.mesh.high ≤ 64 := fun h => area_ok (asgE_zero h).plan.chip.mesh
  obtain ⟨pr, hpr⟩ : ∃ pr, X.C.mesh.wide * X.C.mesh.high = pr := ⟨_, rfl⟩
  rw [hpr] at har
  by_cases hA0 : asgE X.N X.C cores ≠ 0
  · obtain ⟨E, hE⟩ : ∃ E, asgE X.N X.C cores = E := ⟨_, rfl⟩
    rw [hE] at g2 hA0
    unfold PlnX.net chpC at hf g2
    unfold PlnX.net chpC
    refine enter (C := Tryz.cx) (F := Tryz.fx11) (args := [_, _, _]) Tryz.func11 rfl rfl rfl Tryz.ok11 (St.start w []) ?_
    repeat' (conv => whnf); first | (refine VCall.isF 15 ?_; (refine VCall.valR (fun w' _ => works7_any w') ?_)) | (refine VCall.isF 19 ?_; (refine VCall.genR (fun w' hw' => hf w') ?_; rintro r hrr)) | (refine VCall.isF 37 ?_; (refine VCall.valR (fun w' hw' => g2 (by omega) w' (hX.rd hw' (by have := hrr.1 rfl; omega)) (h1.keep hw' (by simp))) ?_)) | (refine VSeq.go ?_) | (refine VB.is ?_; refine VB.yes (by omega) fun _ => ?_) | (refine VB.is ?_; refine VB.no (by omega) fun _ => ?_) | (refine VB.split (fun _ => ?_) (fun _ => ?_)) | (refine boolE_split (fun h => ?_) (fun h => ?_) <;> subst h) | (refine VLd.is ?_; refine VLd.mk (.row aT (by rfl)) ?_) | (refine VSt.is ?_; refine VSt.row aT (by rfl) (by first | rfl | assumption) ?_) | (refine VNew.mk fun _ => ?_) | (refine VAr.is ?_; refine oA ?_) | (refine VIx.is ?_; refine VIx.mk rfl (by omega) (by omega) ?_) | (refine VKeep.is ?_; refine VKeep.mk aH ?_) | (refine VHs.mk _ (.refl _) ?_) | (refine VQ.is ?_; refine oQ ?_) | (refine VM.is ?_; refine oM ?_) | (refine And.intro ?_ ?_)
    all_goals (conv => whnf)
    all_goals exact ⟨fun w' hw' => ⟨rfl, hw'.le .nil⟩⟩
  have hA0 := Decidable.not_not.1 hA0
  have hA := asgE_zero hA0
  have hir : impR X.N X.C cores 2 = (impM X.N X.C 2 cores, 0) := by unfold impR; rw [if_neg (by rw [hA0]; simp), if_neg (by omega)]; rfl
  rw [hir] at g1
  rw [hA0] at g2
  have hL := (impM_ok 2 hA).1
  obtain ⟨L, hLe⟩ : ∃ L, impM X.N X.C 2 cores = L := ⟨_, rfl⟩
  rw [hLe] at g1 hL
  obtain ⟨hLw, hLl⟩ := asg_i64 hL
  have hLz : asgE X.N X.C L = 0 := asg_zero (plan_of hA0) hL
  have g3 := fun (w' : World) h p c b => placeImprove_any X w' h L hLw (by omega) 1 (by simp [I64]) p c b 0
  have hir2 : impR X.N X.C L 1 = (impM X.N X.C 1 L, 0) := by unfold impR; rw [if_neg (by rw [hLz]; simp), if_neg (by omega)]; rfl
  rw [hir2] at g3
  have hM := (impM_ok 1 hL).1
  have hround : impM X.N X.C 1 L = impRound X.N X.C L := rfl
  obtain ⟨M, hMe⟩ : ∃ M, impM X.N X.C 1 L = M := ⟨_, rfl⟩
  rw [hMe] at g3 hM hround
  obtain ⟨hMw, hMl⟩ := asg_i64 hM
  have hLn := hL.len
  have g4 := fun (w' : World) h p c b => placeCost_any X w' h L hLw (by omega) p c b 0
  have hcL : costR X.N X.C L = ((costM X.N X.C L : Int), 0) := by unfold costR; rw [if_neg (by rw [hLz]; simp)]
  rw [hcL] at g4
  have hcb : costM X.N X.C L ≤ 65536 := by
    have := costK_le (N := X.N) hL.plan.chip L (nSrc X.N)
    rw [costK_all] at this
    have h2 := hL.plan.few
    have h3 := hL.plan.net.inputs
    unfold nSrc at this
    omega
  obtain ⟨cL, hcLe⟩ : ∃ cL, costM X.N X.C L = cL := ⟨_, rfl⟩
  rw [hcLe] at g4 hcb
  have g5 := fun (T : List Int) hT hl (w' : World) h p c b => placeCost_any X w' h T hT hl p c b 0
  dsimp only at g1 g3 g4
  unfold PlnX.net chpC at hf g1 g2 g3 g4 g5
  unfold PlnX.net chpC
  refine enter (C := Tryz.cx) (F := Tryz.fx11) (args := [_, _, _]) Tryz.func11 rfl rfl rfl Tryz.ok11 (St.start w []) ?_
  repeat' (conv => whnf); first | (refine VCall.isF 15 ?_; (refine VCall.valR (fun w' _ => works7_any w') ?_)) | (refine VCall.isF 19 ?_; (refine VCall.genR (fun w' hw' => hf w') ?_; rintro r hrr)) | (refine VCall.isF 37 ?_; (refine VCall.valR (fun w' hw' => g2 (by omega) w' (hX.rd hw' (by have := hrr.1 rfl; omega)) (h1.keep hw' (by simp))) ?_)) | (refine VAr.is ?_; refine VAr.is ?_; refine VAr.mul hpr (by omega) (by omega) ?_) | (refine VCall.is ?_; refine VCall.isF 39 ?_; refine VCall.third (.slice p cores.length c) ?_; refine VCall.genR (fun w' hw' => g1 (by omega) w' (hX.rd hw' (by have := hrr.1 rfl; omega)) (h1.keep hw' (by simp))) ?_; rintro ⟨p1, c1⟩ hp1; dsimp only at hp1 ⊢) | (refine VCall.is ?_; refine VCall.isF 39 ?_; refine VCall.genR (fun w' hw' => Exists.elim (Sl.own (f := intV) (l := L) (p := p1) (cap := c1) (k := 1) hw' aT (fun _ => rfl) rfl) fun b1 hb1 => g3 w' (hX.rd hw' (by have := hrr.1 rfl; omega)) _ _ b1 hb1) ?_; rintro ⟨p2, c2⟩ hp2; dsimp only at hp2 ⊢) | (refine VCall.isF 25 ?_; (refine VCall.genR (fun w' hw' => Exists.elim (Sl.own (f := intV) (l := L) (p := p1) (cap := c1) (k := 1) hw' aT (fun _ => rfl) rfl) fun b1 hb1 => Exists.elim (Sl.own (f := intV) (l := M) (p := p2) (cap := c2) (k := 1) hw' aT (fun _ => rfl) rfl) fun b2 hb2 => equal7_any L M (by omega) _ _ b1 0 _ _ b2 0 w' hLw hMw hb1 hb2) ?_; rintro e hee)) | (refine VCall.isF 33 ?_; (refine VCall.valR (fun w' hw' => Exists.elim (Sl.own (f := intV) (l := L) (p := p1) (cap := c1) (k := 1) hw' aT (fun _ => rfl) rfl) fun b1 hb1 => g4 w' (hX.rd hw' (by have := hrr.1 rfl; omega)) _ _ b1 hb1) ?_)) | (refine VSeq.go ?_) | (refine VB.is ?_; refine VB.yes (by omega) fun _ => ?_) | (refine VB.is ?_; refine VB.no (by omega) fun _ => ?_) | (refine VB.split (fun _ => ?_) (fun _ => ?_)) | (refine boolE_split (fun h => ?_) (fun h => ?_) <;> subst h) | (refine VLd.is ?_; refine VLd.mk (.row aT (by rfl)) ?_) | (refine VSt.is ?_; refine VSt.row aT (by rfl) (by first | rfl | assumption) ?_) | (refine VNew.mk fun _ => ?_) | (refine VAr.is ?_; refine oA ?_) | (refine VIx.is ?_; refine VIx.mk rfl (by omega) (by omega) ?_) | (refine VKeep.is ?_; refine VKeep.mk aH ?_) | (refine VHs.mk _ (.refl _) ?_) | (refine VQ.is ?_; refine oQ ?_) | (refine VM.is ?_; refine oM ?_) | (refine And.intro ?_ ?_)
  all_goals (conv => whnf)
  all_goals first
    | exact ⟨fun w' hw' => ⟨rfl, hw'.le .nil⟩⟩
    | skip
  rename_i b3 b4 _ _ _ _ _ _ _ _
  have hLM : L = M := hee.1 rfl
  have hsame : impRound X.N X.C L = L := by rw [← hround, ← hLM]
  have harp := har hA0
  refine VLoop.mk (α := Nat) (fun i => i ≤ L.length) (fun i => [(1000000, .tuple #[]), (3, .pointer (some ⟨b3, 0, none⟩)), (4, .pointer (some ⟨b4, 0, none⟩)), (6, .bool false), (7, .slice p1 L.length c1), (11, .int .i64 (cL : Int)), (12, .int .i64 (i : Int))])
    (fun _ => [.vec p1 L.length c1 3 1 (flat intV L), .row b4 26 [.int .i64 X.C.mesh.wide, .int .i64 X.C.mesh.high, .int .i64 X.C.mesh.room, .int .i64 X.C.nr, .int .i64 X.C.sy, .int .i64 X.C.en, .int .i64 X.C.bits, .slice X.pd X.C.dead.length X.cd], .row b3 39 [.slice X.pn X.N.ps.length X.cn, .int .i64 X.N.inputs, .slice X.qs X.N.syns.length X.cs]]) (fun i => L.length - i) 0 (Nat.zero_le _) aE aH ?_
  rintro i hi
  rcases Nat.lt_or_ge i L.length with hlt | hge
  · obtain ⟨li, hli⟩ : ∃ x, L[i]? = some x := ⟨_, List.getElem?_eq_getElem hlt⟩
    repeat' (conv => whnf); first | (refine VSeq.go ?_) | (refine VB.is ?_; refine VB.yes (by omega) fun _ => ?_) | (refine VB.is ?_; refine VB.no (by omega) fun _ => ?_) | (refine VB.split (fun _ => ?_) (fun _ => ?_)) | (refine boolE_split (fun h => ?_) (fun h => ?_) <;> subst h) | (refine VLd.is ?_; refine VLd.mk (.row aT (by rfl)) ?_) | (refine VSt.is ?_; refine VSt.row aT (by rfl) (by first | rfl | assumption) ?_) | (refine VNew.mk fun _ => ?_) | (refine VAr.is ?_; refine oA ?_) | (refine VIx.is ?_; refine VIx.mk rfl (by omega) (by omega) ?_) | (refine VKeep.is ?_; refine VKeep.mk aH ?_) | (refine VHs.mk _ (.refl _) ?_) | (refine VQ.is ?_; refine oQ ?_) | (refine VM.is ?_; refine oM ?_) | (refine And.intro ?_ ?_)
    all_goals (conv => whnf)
    refine VLoop.mk (α := Nat) (fun k => (k : Int) ≤ pr) (fun k => [(1000000, .tuple #[]), (3, .pointer (some ⟨b3, 0, none⟩)), (4, .pointer (some ⟨b4, 0, none⟩)), (6, .bool false), (7, .slice p1 L.length c1), (11, .int .i64 (cL : Int)), (12, .int .i64 (i : Int)), (13, .int .i64 (k : Int))])
      (fun _ => [.vec p1 L.length c1 3 1 (flat intV L), .row b4 26 [.int .i64 X.C.mesh.wide, .int .i64 X.C.mesh.high, .int .i64 X.C.mesh.room, .int .i64 X.C.nr, .int .i64 X.C.sy, .int .i64 X.C.en, .int .i64 X.C.bits, .slice X.pd X.C.dead.length X.cd], .row b3 39 [.slice X.pn X.N.ps.length X.cn, .int .i64 X.N.inputs, .slice X.qs X.N.syns.length X.cs]]) (fun k => (pr - k).toNat) 0 (by omega) aE aH ?_
    rintro k hk
    by_cases hkl : (k : Int) < pr
    · have hTw : ∀ x ∈ L.set i (k : Int), I64 x := fun x hx => by
        rcases List.mem_or_eq_of_mem_set hx with h | rfl
        · exact hLw x h
        · unfold I64; omega
      have hTl : (L.set i (k : Int)).length = L.length := List.length_set ..
      have g6 := g5 (L.set i (k : Int)) hTw (by omega)
      have hcmp : (costR X.N X.C (L.set i (k : Int))).2 = 0 → (cL : Int) ≤ (costR X.N X.C (L.set i (k : Int))).1 := by
        unfold costR
        split
        · rename_i h; intro h0; exact absurd h0 h
        · rename_i h
          intro _
          have := round_alone hL hsame (i := i) (k := (k : Int)) (by omega) (asgE_zero (Decidable.not_not.1 h))
          dsimp only
          omega
      obtain ⟨⟨ct, er⟩, hCT⟩ : ∃ A, costR X.N X.C (L.set i (k : Int)) = A := ⟨_, rfl⟩
      rw [hCT] at g6 hcmp
      obtain ⟨T, hTe⟩ : ∃ T, L.set i (k : Int) = T := ⟨_, rfl⟩
      rw [hTe] at g6 hTl
      dsimp only at g6 hcmp
      simp only [hTl] at g6
      repeat' (conv => whnf); first | (refine VAr.is ?_; refine VAr.is ?_; refine VAr.mul hpr (by omega) (by omega) ?_) | (refine VNew.mk fun bn => ?_) | (refine VAp.is ?_; refine VAp.own aT (Src.ownV (l := L) aT hp1) (flat_one_cell (by simp [intV, Value.oneCell'])) (by (try dsimp only); omega) (by simp only [maxLen]; omega) (fun p3 c3 hp3 => ?_); simp only [Nat.zero_add, List.nil_append]; obtain ⟨g3, rfl⟩ := hp3 (by omega)) | (refine VIx.is ?_; refine VIx.mk rfl (by omega) (by omega) ?_) | (refine VSt.is ?_; refine VSt.is ?_; refine VSt.cast (off' := i * 1) (by first | omega | (dsimp only; omega) | rfl) (VSt.vec aT (upd_flat0 (f := intV) (k := 1) (y := (k : Int)) (fun _ => rfl) hli rfl) rfl ?_); rw [hTe]) | (refine VCall.isF 33 ?_; (refine VCall.valR (fun w' hw' => g6 w' (hX.rd hw' (by have := hrr.1 rfl; omega)) _ _ _ (Sl.ownT hw' (l := T) (f := intV) (k := 1) aT (fun _ => rfl) hTl)) ?_)) | (refine VSeq.go ?_) | (refine VB.is ?_; refine VB.yes (by omega) fun _ => ?_) | (refine VB.is ?_; refine VB.no (by omega) fun _ => ?_) | (refine VB.split (fun _ => ?_) (fun _ => ?_)) | (refine boolE_split (fun h => ?_) (fun h => ?_) <;> subst h) | (refine VLd.is ?_; refine VLd.mk (.row aT (by rfl)) ?_) | (refine VSt.is ?_; refine VSt.row aT (by rfl) (by first | rfl | assumption) ?_) | (refine VNew.mk fun _ => ?_) | (refine VAr.is ?_; refine oA ?_) | (refine VIx.is ?_; refine VIx.mk rfl (by omega) (by omega) ?_) | (refine VKeep.is ?_; refine VKeep.mk aH ?_) | (refine VHs.mk _ (.refl _) ?_) | (refine VQ.is ?_; refine oQ ?_) | (refine VM.is ?_; refine oM ?_) | (refine And.intro ?_ ?_)
      all_goals (conv => whnf)
      all_goals first
        | (exfalso; omega)
        | exact VNext.mk (k + 1) (by omega) (by omega) aE aH
        | trace_state
    · repeat' (conv => whnf); first | (refine VAr.is ?_; refine VAr.is ?_; refine VAr.mul hpr (by omega) (by omega) ?_) | (refine VSeq.go ?_) | (refine VB.is ?_; refine VB.yes (by omega) fun _ => ?_) | (refine VB.is ?_; refine VB.no (by omega) fun _ => ?_) | (refine VB.split (fun _ => ?_) (fun _ => ?_)) | (refine boolE_split (fun h => ?_) (fun h => ?_) <;> subst h) | (refine VLd.is ?_; refine VLd.mk (.row aT (by rfl)) ?_) | (refine VSt.is ?_; refine VSt.row aT (by rfl) (by first | rfl | assumption) ?_) | (refine VNew.mk fun _ => ?_) | (refine VAr.is ?_; refine oA ?_) | (refine VIx.is ?_; refine VIx.mk rfl (by omega) (by omega) ?_) | (refine VKeep.is ?_; refine VKeep.mk aH ?_) | (refine VHs.mk _ (.refl _) ?_) | (refine VQ.is ?_; refine oQ ?_) | (refine VM.is ?_; refine oM ?_) | (refine And.intro ?_ ?_)
      all_goals (conv => whnf)
      refine VNext.mk (i + 1) (by omega) (by omega) aE aH
  repeat' (conv => whnf); first | (refine VCall.isF 15 ?_; (refine VCall.valR (fun w' _ => works7_any w') ?_)) | (refine VSeq.go ?_) | (refine VB.is ?_; refine VB.yes (by omega) fun _ => ?_) | (refine VB.is ?_; refine VB.no (by omega) fun _ => ?_) | (refine VB.split (fun _ => ?_) (fun _ => ?_)) | (refine boolE_split (fun h => ?_) (fun h => ?_) <;> subst h) | (refine VLd.is ?_; refine VLd.mk (.row aT (by rfl)) ?_) | (refine VSt.is ?_; refine VSt.row aT (by rfl) (by first | rfl | assumption) ?_) | (refine VNew.mk fun _ => ?_) | (refine VAr.is ?_; refine oA ?_) | (refine VIx.is ?_; refine VIx.mk rfl (by omega) (by omega) ?_) | (refine VKeep.is ?_; refine VKeep.mk aH ?_) | (refine VHs.mk _ (.refl _) ?_) | (refine VQ.is ?_; refine oQ ?_) | (refine VM.is ?_; refine oM ?_) | (refine And.intro ?_ ?_)
  all_goals (conv => whnf)
  exact ⟨fun w' hw' => ⟨rfl, hw'.le .nil⟩⟩

end Go.Proofs
