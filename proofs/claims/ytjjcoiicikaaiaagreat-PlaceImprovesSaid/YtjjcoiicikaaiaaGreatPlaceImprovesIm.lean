import Derived.Test.YtjjcoiicikaaiaaGreatPlaceImprovesAr
import Derived.Test.YtjjcoiicikaaiaaGreatPlaceImprovesPd
set_option linter.unusedVariables false

set_option linter.unusedSimpArgs false

namespace Go.Gm

theorem asg_set {N : Net} {C : Chp} {cores : List Int} (h : AsgOk N C cores) {i : Nat} (hi : i < N.ps.length) {k : Int} (hk : 0 ≤ k ∧ k < nCores C) (hs : spaceP C N.syns cores i k) : AsgOk N C (cores.set i k) := by
  have hl : i < cores.length := by rw [h.len]; exact hi
  have hg : cores[i]? = some (cores[i]'hl) := List.getElem?_eq_getElem hl
  by_cases e : k = cores[i]'hl
  · rw [e, set_self hg]; exact h
  · refine asg_of h.plan (by rw [List.length_set]; exact h.len) (soFar_of (fun x hx => ?_) ((fits_set h.soFar hg hk e).2 hs))
    rcases List.mem_or_eq_of_mem_set hx with hx | rfl
    · exact (h.soFar.core x hx).1
    · exact hk

def impOut (L : List Int) (i : Nat) (a0 : Int) : Option (Int × Int) → List Int
  | some (bb, mm) => if mm < a0 then L.set i bb else L
  | none => L

theorem impStep_first {N : Net} {C : Chp} {L : List Int} {i : Nat} {acc : Option (Int × Int)} (h : acc = firstL (fun k => (aroundM N C (L.set i k) i : Int)) (spacesM C N.syns L i)) : impStep N C L i = impOut L i (aroundM N C L i) acc := by
  unfold impStep pickL
  rw [← h]
  cases acc with
  | none => rfl
  | some q =>
    obtain ⟨bb, mm⟩ := q
    unfold impOut
    dsimp only
    by_cases hm : mm < (aroundM N C L i : Int)
    · rw [if_pos hm, if_pos hm]
    · rw [if_neg hm, if_neg hm]

end Go.Gm

namespace Go.Proofs

open Go Go.Vx Go.Gm

theorem improve_good (X : PlnX) (w : World) (hX : PlnRd X w) (he : Gm.planE X.N X.C = 0) (cores : List Int) (hcw : ∀ k ∈ cores, I64 k) (hlc : cores.length ≤ 1000000) (hc0 : chkA X.N X.C cores = 0) (R : Nat) (hR : R ≤ 16) (p : Option Addr) (c b o : Nat) (h1 : Sl w intV 1 cores p cores.length b o) :
    Calls Tryz.prog 39 #[.agg X.net.toArray, .agg (chpC X.C X.pd X.cd).toArray, .slice p cores.length c, .int .i64 (R : Int)] w fun e w' => ∃ z : Nat × Nat, e = .returned (.tuple #[.slice (some ⟨z.1, 0, none⟩) (impM X.N X.C R cores).length z.2, .int .i64 0]) ∧ True ∧ St w [] [.vec (some ⟨z.1, 0, none⟩) (impM X.N X.C R cores).length z.2 3 1 (flat intV (impM X.N X.C R cores))] w' := by
  have hg := fun (w' : World) h h1 => planned_any X w' h he cores hcw hlc p c b o h1
  rw [hc0] at hg
  have hok := planE_zero he
  have hA0 : AsgOk X.N X.C cores := asgE_zero (by rw [asgE_chk, if_neg (by rw [he]; simp)]; exact hc0)
  have hkeep := fun (w' : World) (H : HP) (hw' : St w [] H w') => hX.keep hw'
  have hfn := hok.net.few
  have hps := hok.net.some
  have hlen := hA0.len
  have hnc := nCores_ok hok.chip
  have hcl := fun (w' : World) h => cloneInt_any cores p c b o w' h (by omega)
  unfold PlnX.net chpC at hg ⊢
  refine enter (C := Tryz.cx) (F := Tryz.fx39) (args := [_, _, _, _]) Tryz.func39 rfl rfl rfl Tryz.ok39 (St.start w []) ?_
  obtain ⟨n, hn⟩ : ∃ n, X.N.ps.length = n := ⟨_, rfl⟩
  repeat' (conv => whnf); first | (refine VNew.mk fun bc => ?_) | (refine VCall.isF 47 ?_; refine VCall.inl (F := Tryz.fx47) Tryz.func47 rfl rfl rfl Tryz.ok47 ?_) | (refine VCall.isF 68 ?_; (refine VCall.genR (fun w' hw' => hg w' (hkeep w' _ hw') (h1.keep hw' (by simp))) ?_; rintro x hup)) | (refine VCall.isF 69 ?_; (refine VCall.genR (fun w' hw' => hcl w' (h1.keep hw' (by simp))) ?_; rintro ⟨q, cq⟩ hq; dsimp only at hq ⊢; obtain ⟨gq, rfl⟩ := hq (by omega))) | (refine VSeq.go ?_) | (refine VB.is ?_; refine VB.yes (by omega) fun _ => ?_) | (refine VB.is ?_; refine VB.no (by omega) fun _ => ?_) | (refine VB.split (fun _ => ?_) (fun _ => ?_)) | (refine boolE_split (fun h => ?_) (fun h => ?_) <;> subst h) | (refine VLd.is ?_; refine VLd.mk (.row aT (by rfl)) ?_) | (refine VSt.is ?_; refine VSt.row aT (by rfl) (by first | rfl | assumption) ?_) | (refine VNew.mk fun _ => ?_) | (refine VAr.is ?_; refine oA ?_) | (refine VIx.is ?_; refine VIx.mk rfl (by omega) (by omega) ?_) | (refine VKeep.is ?_; refine VKeep.mk aH ?_) | (refine VHs.mk _ (.refl _) ?_) | (refine VQ.is ?_; refine oQ ?_) | (refine VM.is ?_; refine oM ?_) | (refine And.intro ?_ ?_)
  all_goals (conv => whnf)
  rename_i b5 bp q0 q1 q2
  rw [hn] at hlen
  rw [hlen]
  refine VLoop.mk (α := Nat × List Int) (fun z => z.1 ≤ R ∧ AsgOk X.N X.C z.2 ∧ impM X.N X.C R cores = impM X.N X.C (R - z.1) z.2) (fun z => [(1000000, .tuple #[]), (8, .slice none 0 0), (9, .int .i64 0), (10, .pointer (some ⟨bp, 0, none⟩)), (12, .pointer (some ⟨bc, 0, none⟩)), (37, .int .i64 (R : Int)), (38, .int .i64 (z.1 : Int))])
    (fun z => .row bp 123 [.pointer (some ⟨x.b, 0, none⟩)] :: .row bc 24 [.slice (some ⟨gq, 0, none⟩) n cq] :: .vec (some ⟨gq, 0, none⟩) n cq 3 1 (flat intV z.2) :: plnH X x) (fun z => R - z.1) (0, cores) ⟨Nat.zero_le _, hA0, rfl⟩ aE aH ?_
  rintro ⟨r, cur⟩ ⟨hr, hAr, hir⟩
  dsimp only at hr hAr hir ⊢
  rcases Nat.lt_or_ge r R with hlr | hgr
  · repeat' (conv => whnf); first | (refine VSeq.go ?_) | (refine VB.is ?_; refine VB.yes (by omega) fun _ => ?_) | (refine VB.is ?_; refine VB.no (by omega) fun _ => ?_) | (refine VB.split (fun _ => ?_) (fun _ => ?_)) | (refine boolE_split (fun h => ?_) (fun h => ?_) <;> subst h) | (refine VLd.is ?_; refine VLd.mk (.row aT (by rfl)) ?_) | (refine VSt.is ?_; refine VSt.row aT (by rfl) (by first | rfl | assumption) ?_) | (refine VNew.mk fun _ => ?_) | (refine VAr.is ?_; refine oA ?_) | (refine VIx.is ?_; refine VIx.mk rfl (by omega) (by omega) ?_) | (refine VKeep.is ?_; refine VKeep.mk aH ?_) | (refine VHs.mk _ (.refl _) ?_) | (refine VQ.is ?_; refine oQ ?_) | (refine VM.is ?_; refine oM ?_) | (refine And.intro ?_ ?_)
    all_goals (conv => whnf)
    refine VLoop.mk (α := Nat × List Int) (fun z => z.1 ≤ n ∧ AsgOk X.N X.C z.2 ∧ z.2 = (List.range z.1).foldl (impStep X.N X.C) cur) (fun z => [(1000000, .tuple #[]), (8, .slice none 0 0), (9, .int .i64 0), (10, .pointer (some ⟨bp, 0, none⟩)), (12, .pointer (some ⟨bc, 0, none⟩)), (37, .int .i64 (R : Int)), (38, .int .i64 (r : Int)), (41, .int .i64 (n : Int)), (42, .int .i64 (z.1 : Int))])
      (fun z => .row bp 123 [.pointer (some ⟨x.b, 0, none⟩)] :: .row bc 24 [.slice (some ⟨gq, 0, none⟩) n cq] :: .vec (some ⟨gq, 0, none⟩) n cq 3 1 (flat intV z.2) :: plnH X x) (fun z => n - z.1) (0, cur) ⟨Nat.zero_le _, hAr, rfl⟩ aE aH ?_
    rintro ⟨i, L⟩ ⟨hi, hL, hLf⟩
    dsimp only at hi hL hLf ⊢
    rcases Nat.lt_or_ge i n with hli | hgi
    · have hin : i < X.N.ps.length := by omega
      have hLl : L.length = n := by rw [hL.len]; exact hn
      obtain ⟨home, hhome⟩ : ∃ h, L[i]? = some h := ⟨_, List.getElem?_eq_getElem (by omega)⟩
      have har := fun (w' : World) hx p c b o h => paround_any X x L hL i hin p c b o w' hx h
      have hus := used_any X x L (by omega) (fun k hk => (hL.core k hk).1)
      rw [hLl] at har hus
      have hset : ∀ v, (L.set i v).length = n := fun v => by rw [List.length_set, hLl]
      clear hg hcl
      repeat' (conv => whnf); first | (refine VNew.mk fun b7 => ?_) | (refine VHs.is ?_; refine VHs.is ?_; refine VHs.mk (.row b7 3 [.int .i64 (i : Int)] :: .row bc 24 [.slice (some ⟨gq, 0, none⟩) n cq] :: .vec (some ⟨gq, 0, none⟩) n cq 3 1 (flat intV L) :: [.row bp 123 [.pointer (some ⟨x.b, 0, none⟩)]]) aH ?_) | (refine VIx.is ?_; refine VIx.mk rfl (by omega) (by omega) ?_) | (refine VLd.is ?_; refine VLd.mk (Rd.cast (.vec aT (sub_flat0 (f := intV) (k := 1) (fun _ => rfl) hhome rfl)) (by first | omega | (dsimp only; omega) | rfl)) ?_) | (refine VCall.isF 92 ?_; (refine VCall.valR (fun w' hw' => Exists.elim (Sl.own (f := intV) (l := L) (k := 1) hw' aT (fun _ => rfl) hLl) fun b1 hb1 => har w' (PlnAt.of hok hup (hkeep w' _ hw') hw' aH) _ _ b1 0 hb1) ?_)) | (refine VCall.isF 63 ?_; (refine VCall.genR (fun w' hw' => Exists.elim (Sl.own (f := intV) (l := L) (k := 1) hw' aT (fun _ => rfl) hLl) fun b1 hb1 => hus _ _ b1 0 w' (PlnAt.of hok hup (hkeep w' _ hw') hw' aH) hb1) ?_; rintro gu _)) | (refine VCall.isF 62 ?_; refine VCall.inl (F := Tryz.fx62) Tryz.func62 rfl rfl rfl Tryz.ok62 ?_) | (refine VCall.isF 61 ?_; refine VCall.inl (F := Tryz.fx61) Tryz.func61 rfl rfl rfl Tryz.ok61 ?_) | (refine VRange.go (ms := []) rfl fun hokx hoky l d Lp hLp => ?_) | (refine VSeq.go ?_) | (refine VB.is ?_; refine VB.yes (by omega) fun _ => ?_) | (refine VB.is ?_; refine VB.no (by omega) fun _ => ?_) | (refine VB.split (fun _ => ?_) (fun _ => ?_)) | (refine boolE_split (fun h => ?_) (fun h => ?_) <;> subst h) | (refine VLd.is ?_; refine VLd.mk (.row aT (by rfl)) ?_) | (refine VSt.is ?_; refine VSt.row aT (by rfl) (by first | rfl | assumption) ?_) | (refine VNew.mk fun _ => ?_) | (refine VAr.is ?_; refine oA ?_) | (refine VIx.is ?_; refine VIx.mk rfl (by omega) (by omega) ?_) | (refine VKeep.is ?_; refine VKeep.mk aH ?_) | (refine VHs.mk _ (.refl _) ?_) | (refine VQ.is ?_; refine oQ ?_) | (refine VM.is ?_; refine oM ?_) | (refine And.intro ?_ ?_)
      all_goals (conv => whnf)
      rename_i bi qt bP bU bI bF bV bW
      have hsetU : ∀ (v k : Int), (L.set i v)[i]? = some v := fun v _ => List.getElem?_set_self (by omega)
      have hss : ∀ v k : Int, (L.set i v).set i k = L.set i k := fun v k => List.set_set ..
      refine spaces_iter X x L (by omega) i hin hok (plnH X x) (fun w' hw' => PlnAt.of hok hup (hkeep w' _ hw') hw' (HLe.refl _)) gu l bU bP bI (α := Option (Int × Int) × Int) (fun k z => z.1 = firstL (fun k => (aroundM X.N X.C (L.set i k) i : Int)) (spK X.C X.N.syns L i k)) (fun z => Lp .ready none :: .obj d (.deferred (some [])) :: .row b7 4 [.bool z.1.isSome] :: .row bW 3 [.int .i64 (z.1.getD (0, 0)).2] :: .row bV 3 [.int .i64 (z.1.getD (0, 0)).1] :: .row bF 122 [.func (.func 93) #[] #[.pointer (some ⟨bc, 0, none⟩), .pointer (some ⟨bi, 0, none⟩), .pointer (some ⟨bp, 0, none⟩)]] :: .row bi 3 [.int .i64 (i : Int)] :: .row bp 123 [.pointer (some ⟨x.b, 0, none⟩)] :: .row bc 24 [.slice (some ⟨gq, 0, none⟩) n cq] :: .vec (some ⟨gq, 0, none⟩) n cq 3 1 (flat intV (L.set i z.2)) :: plnH X x) (fun z => by exact aH) (none, home) rfl (by rw [set_self hhome]; exact aH) ?_ ?_ ?_
      · rintro k ⟨acc, v0⟩ hkn hsp hacc
        dsimp only at hacc ⊢
        have hfy := first_yes (v := fun k => (aroundM X.N X.C (L.set i k) i : Int)) hsp
        rw [← hacc] at hfy
        have hLk := asg_set hL hin (k := (k : Int)) (by omega) hsp
        have har2 := fun (w' : World) hx p c b o h => paround_any X x (L.set i (k : Int)) hLk i hin p c b o w' hx h
        rw [hset] at har2
        have hfN : flStep (fun k => (aroundM X.N X.C (L.set i k) i : Int)) none (k : Int) = some ((k : Int), (aroundM X.N X.C (L.set i (k : Int)) i : Int)) := rfl
        have hfS : ∀ bb mm : Int, flStep (fun k => (aroundM X.N X.C (L.set i k) i : Int)) (some (bb, mm)) (k : Int) = if (aroundM X.N X.C (L.set i (k : Int)) i : Int) < mm then some ((k : Int), (aroundM X.N X.C (L.set i (k : Int)) i : Int)) else some (bb, mm) := fun _ _ => rfl
        obtain ⟨F2, hF2⟩ : ∃ F, firstL (fun k => (aroundM X.N X.C (L.set i k) i : Int)) (spK X.C X.N.syns L i (k + 1)) = F := ⟨_, rfl⟩
        obtain ⟨aN, haN⟩ : ∃ a, aroundM X.N X.C (L.set i (k : Int)) i = a := ⟨_, rfl⟩
        rw [hF2] at hfy
        rw [haN] at hfN hfS har2
        have hup1 : upd (flat intV (L.set i v0)) (i * 1) [.int .i64 (k : Int)] = some (flat intV (L.set i (k : Int))) := by
          rw [← hss v0 (k : Int)]
          exact upd_flat0 (f := intV) (k := 1) (y := (k : Int)) (fun _ => rfl) (hsetU v0 0) rfl
        have hsl := hset (k : Int)
        rw [hF2]
        clear hacc hF2 haN har hus hLf hir
        refine VYield.go hLp hokx hoky aT rfl ?_
        rcases acc with _ | ⟨bb, mm⟩
        · rw [hfN] at hfy
          subst hfy
          dsimp only [Option.isSome, Option.getD]
          repeat' (conv => whnf); first | (refine VBegin.is ?_; refine VBegin.mk aT ?_) | (refine VCall.isF 93 ?_; refine VCall.inl (F := Tryz.fx93) Tryz.func93 rfl rfl rfl Tryz.ok93 ?_) | (refine VIx.is ?_; refine VIx.mk rfl (by omega) (by omega) ?_) | (refine VSt.is ?_; refine VSt.is ?_; refine VSt.cast (off' := i * 1) (by first | omega | (dsimp only; omega) | rfl) (VSt.vec aT hup1 rfl ?_)) | (refine VCall.isF 92 ?_; (refine VCall.valR (fun w' hw' => Exists.elim (Sl.own (f := intV) (l := L.set i (k : Int)) (k := 1) hw' aT (fun _ => rfl) hsl) fun b1 hb1 => har2 w' (PlnAt.of hok hup (hkeep w' _ hw') hw' aH) _ _ b1 0 hb1) ?_)) | (refine VSeq.go ?_) | (refine VB.is ?_; refine VB.yes (by omega) fun _ => ?_) | (refine VB.is ?_; refine VB.no (by omega) fun _ => ?_) | (refine VB.split (fun _ => ?_) (fun _ => ?_)) | (refine boolE_split (fun h => ?_) (fun h => ?_) <;> subst h) | (refine VLd.is ?_; refine VLd.mk (.row aT (by rfl)) ?_) | (refine VSt.is ?_; refine VSt.row aT (by rfl) (by first | rfl | assumption) ?_) | (refine VNew.mk fun _ => ?_) | (refine VAr.is ?_; refine oA ?_) | (refine VIx.is ?_; refine VIx.mk rfl (by omega) (by omega) ?_) | (refine VKeep.is ?_; refine VKeep.mk aH ?_) | (refine VHs.mk _ (.refl _) ?_) | (refine VQ.is ?_; refine oQ ?_) | (refine VM.is ?_; refine oM ?_) | (refine And.intro ?_ ?_)
          all_goals (conv => whnf)
          refine VRound.mk aT ?_
          exact .inl ⟨rfl, (_, (k : Int)), rfl, by exact aH⟩
        · rw [hfS] at hfy
          dsimp only [Option.isSome, Option.getD]
          repeat' (conv => whnf); first | (refine VBegin.is ?_; refine VBegin.mk aT ?_) | (refine VCall.isF 93 ?_; refine VCall.inl (F := Tryz.fx93) Tryz.func93 rfl rfl rfl Tryz.ok93 ?_) | (refine VIx.is ?_; refine VIx.mk rfl (by omega) (by omega) ?_) | (refine VSt.is ?_; refine VSt.is ?_; refine VSt.cast (off' := i * 1) (by first | omega | (dsimp only; omega) | rfl) (VSt.vec aT hup1 rfl ?_)) | (refine VCall.isF 92 ?_; (refine VCall.valR (fun w' hw' => Exists.elim (Sl.own (f := intV) (l := L.set i (k : Int)) (k := 1) hw' aT (fun _ => rfl) hsl) fun b1 hb1 => har2 w' (PlnAt.of hok hup (hkeep w' _ hw') hw' aH) _ _ b1 0 hb1) ?_)) | (refine VSeq.go ?_) | (refine VB.is ?_; refine VB.yes (by omega) fun _ => ?_) | (refine VB.is ?_; refine VB.no (by omega) fun _ => ?_) | (refine VB.split (fun _ => ?_) (fun _ => ?_)) | (refine boolE_split (fun h => ?_) (fun h => ?_) <;> subst h) | (refine VLd.is ?_; refine VLd.mk (.row aT (by rfl)) ?_) | (refine VSt.is ?_; refine VSt.row aT (by rfl) (by first | rfl | assumption) ?_) | (refine VNew.mk fun _ => ?_) | (refine VAr.is ?_; refine oA ?_) | (refine VIx.is ?_; refine VIx.mk rfl (by omega) (by omega) ?_) | (refine VKeep.is ?_; refine VKeep.mk aH ?_) | (refine VHs.mk _ (.refl _) ?_) | (refine VQ.is ?_; refine oQ ?_) | (refine VM.is ?_; refine oM ?_) | (refine And.intro ?_ ?_)
          all_goals (conv => whnf)
          · rw [if_pos (by omega)] at hfy
            subst hfy
            refine VRound.mk aT ?_
            exact .inl ⟨rfl, (_, (k : Int)), rfl, by exact aH⟩
          · rw [if_neg (by omega)] at hfy
            subst hfy
            refine VRound.mk aT ?_
            exact .inl ⟨rfl, (_, (k : Int)), rfl, by exact aH⟩
      · rintro k z hkn hsp hz
        rw [first_no hsp]
        exact hz
      · rintro ⟨acc, v0⟩ hacc
        dsimp only at hacc ⊢
        rw [spK_all] at hacc
        have hstep := impStep_first hacc
        have hokI := (impStep_ok hL hin).1
        have hLf2 : impStep X.N X.C L i = (List.range (i + 1)).foldl (impStep X.N X.C) cur := by
          rw [List.range_succ, List.foldl_append, ← hLf]; rfl
        have hup0 : upd (flat intV (L.set i v0)) (i * 1) [.int .i64 home] = some (flat intV L) := by
          have h2 := upd_flat0 (f := intV) (k := 1) (y := home) (vs := [.int .i64 home]) (fun _ => rfl) (hsetU v0 0) rfl
          rw [hss, set_self hhome] at h2
          exact h2
        have hupB : ∀ bb : Int, upd (flat intV L) (i * 1) [.int .i64 bb] = some (flat intV (L.set i bb)) := fun bb => upd_flat0 (f := intV) (k := 1) (y := bb) (fun _ => rfl) hhome rfl
        obtain ⟨a0, ha0⟩ : ∃ a, aroundM X.N X.C L i = a := ⟨_, rfl⟩
        rw [ha0] at hstep ⊢
        clear hacc har hus hir ha0
        rcases acc with _ | ⟨bb, mm⟩
        · dsimp only [Option.isSome, Option.getD]
          have hstep : impStep X.N X.C L i = L := hstep
          rw [hstep] at hokI hLf2
          repeat' (conv => whnf); first | (refine VEnd.is ?_; refine VEnd.mk aT (by simp) ?_) | (refine VUn.is ?_; refine VUn.mk aT ?_) | (refine VIx.is ?_; refine VIx.mk rfl (by omega) (by omega) ?_) | (refine VSt.is ?_; refine VSt.is ?_; refine VSt.cast (off' := i * 1) (by first | omega | (dsimp only; omega) | rfl) (VSt.vec aT hup0 rfl ?_)) | (refine VSeq.go ?_) | (refine VB.is ?_; refine VB.yes (by omega) fun _ => ?_) | (refine VB.is ?_; refine VB.no (by omega) fun _ => ?_) | (refine VB.split (fun _ => ?_) (fun _ => ?_)) | (refine boolE_split (fun h => ?_) (fun h => ?_) <;> subst h) | (refine VLd.is ?_; refine VLd.mk (.row aT (by rfl)) ?_) | (refine VSt.is ?_; refine VSt.row aT (by rfl) (by first | rfl | assumption) ?_) | (refine VNew.mk fun _ => ?_) | (refine VAr.is ?_; refine oA ?_) | (refine VIx.is ?_; refine VIx.mk rfl (by omega) (by omega) ?_) | (refine VKeep.is ?_; refine VKeep.mk aH ?_) | (refine VHs.mk _ (.refl _) ?_) | (refine VQ.is ?_; refine oQ ?_) | (refine VM.is ?_; refine oM ?_) | (refine And.intro ?_ ?_)
          all_goals (conv => whnf)
          exact VNext.mk (i + 1, L) ⟨by dsimp only; omega, hokI, hLf2⟩ (by dsimp only; omega) aE aH
        · dsimp only [Option.isSome, Option.getD]
          have hstep : impStep X.N X.C L i = if mm < (a0 : Int) then L.set i bb else L := hstep
          repeat' (conv => whnf); first | (refine VEnd.is ?_; refine VEnd.mk aT (by simp) ?_) | (refine VUn.is ?_; refine VUn.mk aT ?_) | (refine VIx.is ?_; refine VIx.mk rfl (by omega) (by omega) ?_) | (refine VSt.is ?_; refine VSt.is ?_; refine VSt.cast (off' := i * 1) (by first | omega | (dsimp only; omega) | rfl) (VSt.vec aT hup0 rfl ?_)) | (refine VSt.is ?_; refine VSt.is ?_; refine VSt.cast (off' := i * 1) (by first | omega | (dsimp only; omega) | rfl) (VSt.vec aT (hupB bb) rfl ?_)) | (refine VSeq.go ?_) | (refine VB.is ?_; refine VB.yes (by omega) fun _ => ?_) | (refine VB.is ?_; refine VB.no (by omega) fun _ => ?_) | (refine VB.split (fun _ => ?_) (fun _ => ?_)) | (refine boolE_split (fun h => ?_) (fun h => ?_) <;> subst h) | (refine VLd.is ?_; refine VLd.mk (.row aT (by rfl)) ?_) | (refine VSt.is ?_; refine VSt.row aT (by rfl) (by first | rfl | assumption) ?_) | (refine VNew.mk fun _ => ?_) | (refine VAr.is ?_; refine oA ?_) | (refine VIx.is ?_; refine VIx.mk rfl (by omega) (by omega) ?_) | (refine VKeep.is ?_; refine VKeep.mk aH ?_) | (refine VHs.mk _ (.refl _) ?_) | (refine VQ.is ?_; refine oQ ?_) | (refine VM.is ?_; refine oM ?_) | (refine And.intro ?_ ?_)
          all_goals (conv => whnf)
          · rw [if_pos (by omega)] at hstep
            rw [hstep] at hokI hLf2
            exact VNext.mk (i + 1, L.set i bb) ⟨by dsimp only; omega, hokI, hLf2⟩ (by dsimp only; omega) aE aH
          · rw [if_neg (by omega)] at hstep
            rw [hstep] at hokI hLf2
            exact VNext.mk (i + 1, L) ⟨by dsimp only; omega, hokI, hLf2⟩ (by dsimp only; omega) aE aH
    · have hin : i = n := by omega
      subst hin
      have hrd : L = impRound X.N X.C cur := by rw [hLf]; unfold impRound; rw [hn]
      obtain ⟨e, he2⟩ : ∃ e, R - r = e + 1 := ⟨R - r - 1, by omega⟩
      have hir2 : impM X.N X.C R cores = impM X.N X.C (R - (r + 1)) L := by
        rw [hir, he2, impM, hrd, show R - (r + 1) = e by omega]
      clear hg hcl
      repeat' (conv => whnf); first | (refine VSeq.go ?_) | (refine VB.is ?_; refine VB.yes (by omega) fun _ => ?_) | (refine VB.is ?_; refine VB.no (by omega) fun _ => ?_) | (refine VB.split (fun _ => ?_) (fun _ => ?_)) | (refine boolE_split (fun h => ?_) (fun h => ?_) <;> subst h) | (refine VLd.is ?_; refine VLd.mk (.row aT (by rfl)) ?_) | (refine VSt.is ?_; refine VSt.row aT (by rfl) (by first | rfl | assumption) ?_) | (refine VNew.mk fun _ => ?_) | (refine VAr.is ?_; refine oA ?_) | (refine VIx.is ?_; refine VIx.mk rfl (by omega) (by omega) ?_) | (refine VKeep.is ?_; refine VKeep.mk aH ?_) | (refine VHs.mk _ (.refl _) ?_) | (refine VQ.is ?_; refine oQ ?_) | (refine VM.is ?_; refine oM ?_) | (refine And.intro ?_ ?_)
      all_goals (conv => whnf)
      exact VNext.mk (r + 1, L) ⟨by dsimp only; omega, hL, hir2⟩ (by dsimp only; omega) aE aH
  · have hrR : r = R := by omega
    subst hrR
    rw [Nat.sub_self, impM] at hir
    rw [hir]
    have hcl2 : cur.length = n := by rw [hAr.len]; exact hn
    rw [hcl2]
    clear hg hcl
    repeat' (conv => whnf); first | (refine VSeq.go ?_) | (refine VB.is ?_; refine VB.yes (by omega) fun _ => ?_) | (refine VB.is ?_; refine VB.no (by omega) fun _ => ?_) | (refine VB.split (fun _ => ?_) (fun _ => ?_)) | (refine boolE_split (fun h => ?_) (fun h => ?_) <;> subst h) | (refine VLd.is ?_; refine VLd.mk (.row aT (by rfl)) ?_) | (refine VSt.is ?_; refine VSt.row aT (by rfl) (by first | rfl | assumption) ?_) | (refine VNew.mk fun _ => ?_) | (refine VAr.is ?_; refine oA ?_) | (refine VIx.is ?_; refine VIx.mk rfl (by omega) (by omega) ?_) | (refine VKeep.is ?_; refine VKeep.mk aH ?_) | (refine VHs.mk _ (.refl _) ?_) | (refine VQ.is ?_; refine oQ ?_) | (refine VM.is ?_; refine oM ?_) | (refine And.intro ?_ ?_)
    all_goals (conv => whnf)
    exact ⟨fun w' hw' => ⟨(gq, cq), rfl, trivial, hw'.le aH⟩⟩

end Go.Proofs
