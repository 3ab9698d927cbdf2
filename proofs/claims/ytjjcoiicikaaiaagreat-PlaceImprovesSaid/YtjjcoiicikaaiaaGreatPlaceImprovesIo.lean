import Derived.Test.YtjjcoiicikaaiaaGreatPlaceImprovesIm
section
set_option linter.unusedVariables false

set_option linter.unusedSimpArgs false

namespace Go.Proofs

open Go Go.Vx Go.Gm

theorem placeImprove_any (X : PlnX) (w : World) (hX : PlnRd X w) (cores : List Int) (hcw : ∀ k ∈ cores, I64 k) (hlc : cores.length ≤ 1000000) (rounds : Int) (hrw : I64 rounds) (p : Option Addr) (c b o : Nat) (h1 : Sl w intV 1 cores p cores.length b o) :
    Calls Tryz.prog 39 #[.agg X.net.toArray, .agg (chpC X.C X.pd X.cd).toArray, .slice p cores.length c, .int .i64 rounds] w fun e w' => ∃ z : Option Addr × Nat, e = .returned (.tuple #[.slice z.1 (impR X.N X.C cores rounds).1.length z.2, .int .i64 (impR X.N X.C cores rounds).2]) ∧ (0 < (impR X.N X.C cores rounds).1.length → ∃ g, z.1 = some ⟨g, 0, none⟩) ∧ St w [] [.vec z.1 (impR X.N X.C cores rounds).1.length z.2 3 1 (flat intV (impR X.N X.C cores rounds).1)] w' := by
  have hasg := asgE_chk X.N X.C cores
  have hb := fun he (w' : World) h => planned_bad X w' h he (.slice p cores.length c) rfl
  have hg := fun he (w' : World) h h1 => planned_any X w' h he cores hcw hlc p c b o h1
  unfold I64 at hrw
  unfold impR
  by_cases he : Gm.planE X.N X.C ≠ 0
  · have hb := hb he
    rw [if_pos he] at hasg
    rw [hasg, if_pos he]
    obtain ⟨E, hE⟩ : ∃ E, Gm.planE X.N X.C = E := ⟨_, rfl⟩
    rw [hE] at hb he ⊢
    unfold PlnX.net chpC at hb ⊢
    refine enter (C := Tryz.cx) (F := Tryz.fx39) (args := [_, _, _, _]) Tryz.func39 rfl rfl rfl Tryz.ok39 (St.start w []) ?_
    repeat' (conv => whnf); first | (refine VCall.isF 68 ?_; (refine VCall.valR (fun w' hw' => hb w' (hX.keep hw')) ?_)) | (refine VSeq.go ?_) | (refine VB.is ?_; refine VB.yes (by omega) fun _ => ?_) | (refine VB.is ?_; refine VB.no (by omega) fun _ => ?_) | (refine VB.split (fun _ => ?_) (fun _ => ?_)) | (refine boolE_split (fun h => ?_) (fun h => ?_) <;> subst h) | (refine VLd.is ?_; refine VLd.mk (.row aT (by rfl)) ?_) | (refine VSt.is ?_; refine VSt.row aT (by rfl) (by first | rfl | assumption) ?_) | (refine VNew.mk fun _ => ?_) | (refine VAr.is ?_; refine oA ?_) | (refine VIx.is ?_; refine VIx.mk rfl (by omega) (by omega) ?_) | (refine VKeep.is ?_; refine VKeep.mk aH ?_) | (refine VHs.mk _ (.refl _) ?_) | (refine VQ.is ?_; refine oQ ?_) | (refine VM.is ?_; refine oM ?_) | (refine And.intro ?_ ?_)
    all_goals (conv => whnf)
    all_goals first
      | exact ⟨fun w' hw' => ⟨(none, 0), rfl, (fun h => by cases h), hw'.le (HLe.nilv .nil)⟩⟩
      | (exfalso; omega)
  have hp0 := Decidable.not_not.1 he
  have hg := hg hp0
  rw [if_neg he] at hasg
  by_cases hc : chkA X.N X.C cores ≠ 0
  · rw [hasg, if_pos hc]
    obtain ⟨E, hE⟩ : ∃ E, chkA X.N X.C cores = E := ⟨_, rfl⟩
    rw [hE] at hg hc ⊢
    unfold PlnX.net chpC at hg ⊢
    refine enter (C := Tryz.cx) (F := Tryz.fx39) (args := [_, _, _, _]) Tryz.func39 rfl rfl rfl Tryz.ok39 (St.start w []) ?_
    repeat' (conv => whnf); first | (refine VCall.isF 68 ?_; (refine VCall.genR (fun w' hw' => hg w' (hX.keep hw') (h1.keep hw' (by simp))) ?_; rintro x hup)) | (refine VSeq.go ?_) | (refine VB.is ?_; refine VB.yes (by omega) fun _ => ?_) | (refine VB.is ?_; refine VB.no (by omega) fun _ => ?_) | (refine VB.split (fun _ => ?_) (fun _ => ?_)) | (refine boolE_split (fun h => ?_) (fun h => ?_) <;> subst h) | (refine VLd.is ?_; refine VLd.mk (.row aT (by rfl)) ?_) | (refine VSt.is ?_; refine VSt.row aT (by rfl) (by first | rfl | assumption) ?_) | (refine VNew.mk fun _ => ?_) | (refine VAr.is ?_; refine oA ?_) | (refine VIx.is ?_; refine VIx.mk rfl (by omega) (by omega) ?_) | (refine VKeep.is ?_; refine VKeep.mk aH ?_) | (refine VHs.mk _ (.refl _) ?_) | (refine VQ.is ?_; refine oQ ?_) | (refine VM.is ?_; refine oM ?_) | (refine And.intro ?_ ?_)
    all_goals (conv => whnf)
    all_goals first
      | exact ⟨fun w' hw' => ⟨(none, 0), rfl, (fun h => by cases h), hw'.le (HLe.nilv .nil)⟩⟩
      | (exfalso; omega)
  have hc0 := Decidable.not_not.1 hc
  rw [hasg, if_neg hc]
  by_cases hr : ¬ (0 ≤ rounds ∧ rounds ≤ 16)
  · rw [if_pos hr]
    rw [hc0] at hg
    unfold PlnX.net chpC at hg ⊢
    refine enter (C := Tryz.cx) (F := Tryz.fx39) (args := [_, _, _, _]) Tryz.func39 rfl rfl rfl Tryz.ok39 (St.start w []) ?_
    repeat' (conv => whnf); first | (refine VCall.isF 47 ?_; refine VCall.inl (F := Tryz.fx47) Tryz.func47 rfl rfl rfl Tryz.ok47 ?_) | (refine VCall.isF 68 ?_; (refine VCall.genR (fun w' hw' => hg w' (hX.keep hw') (h1.keep hw' (by simp))) ?_; rintro x hup)) | (refine VSeq.go ?_) | (refine VB.is ?_; refine VB.yes (by omega) fun _ => ?_) | (refine VB.is ?_; refine VB.no (by omega) fun _ => ?_) | (refine VB.split (fun _ => ?_) (fun _ => ?_)) | (refine boolE_split (fun h => ?_) (fun h => ?_) <;> subst h) | (refine VLd.is ?_; refine VLd.mk (.row aT (by rfl)) ?_) | (refine VSt.is ?_; refine VSt.row aT (by rfl) (by first | rfl | assumption) ?_) | (refine VNew.mk fun _ => ?_) | (refine VAr.is ?_; refine oA ?_) | (refine VIx.is ?_; refine VIx.mk rfl (by omega) (by omega) ?_) | (refine VKeep.is ?_; refine VKeep.mk aH ?_) | (refine VHs.mk _ (.refl _) ?_) | (refine VQ.is ?_; refine oQ ?_) | (refine VM.is ?_; refine oM ?_) | (refine And.intro ?_ ?_)
    all_goals (conv => whnf)
    all_goals first
      | exact ⟨fun w' hw' => ⟨(none, 0), rfl, (fun h => by cases h), hw'.le (HLe.nilv .nil)⟩⟩
      | (exfalso; omega)
  rw [if_neg hr]
  obtain ⟨R, rfl⟩ : ∃ R : Nat, rounds = (R : Int) := ⟨rounds.toNat, by omega⟩
  have := improve_good X w hX hp0 cores hcw hlc hc0 R (by omega) p c b o h1
  refine this.mono fun e w' ⟨z, h2, _, h4⟩ => ⟨(some ⟨z.1, 0, none⟩, z.2), h2, fun _ => ⟨_, rfl⟩, h4⟩

end Go.Proofs
end

section
set_option linter.unusedVariables false

set_option linter.unusedSimpArgs false

namespace Go.Gm

def riK (N : Net) (C : Chp) (L : List Int) (i : Nat) (home : Int) (k : Nat) : Int × Int := ((List.range k).map fun (j : Nat) => (j : Int)).foldl (rfStep (fun k => decide (Gm.fitsR C N.syns (L.set i k))) (fun k => (costM N C (L.set i k) : Int))) (home, (costM N C L : Int))

theorem riK_next (N : Net) (C : Chp) (L : List Int) (i : Nat) (home : Int) (k : Nat) : riK N C L i home (k + 1) = if Gm.fitsR C N.syns (L.set i (k : Int)) ∧ (costM N C (L.set i (k : Int)) : Int) < (riK N C L i home k).2 then ((k : Int), (costM N C (L.set i (k : Int)) : Int)) else riK N C L i home k := by
  unfold riK
  rw [List.range_succ, List.map_append, List.foldl_append]
  simp only [List.map_cons, List.map_nil, List.foldl_cons, List.foldl_nil]
  generalize ((List.range k).map fun (j : Nat) => (j : Int)).foldl _ _ = acc
  unfold rfStep
  simp only [decide_eq_true_eq]

theorem riK_all {N : Net} {C : Chp} {L : List Int} (h : AsgOk N C L) {i : Nat} (hi : i < N.ps.length) {home : Int} (hh : L[i]? = some home) : L.set i (riK N C L i home (nCores C)).1 = impStep N C L i := impStep_ref h hi hh

theorem asg_fits {N : Net} {C : Chp} {L : List Int} (h : AsgOk N C L) {i : Nat} {k : Int} (hk : 0 ≤ k ∧ k < nCores C) (hf : Gm.fitsR C N.syns (L.set i k)) : AsgOk N C (L.set i k) :=
  asg_of h.plan (by rw [List.length_set]; exact h.len) (soFar_of (fun x hx => by
    rcases List.mem_or_eq_of_mem_set hx with hx | rfl
    · exact (h.soFar.core x hx).1
    · exact hk) hf)

theorem costM_le {N : Net} {C : Chp} (h : PlanOk N C) (cores : List Int) : costM N C cores ≤ 65536 := by
  have h1 := costK_le (N := N) h.chip cores (nSrc N)
  rw [costK_all] at h1
  have h2 : nSrc N ≤ 256 := by
    have := h.few
    have := h.net.inputs
    unfold nSrc; omega
  omega

end Go.Gm

namespace Go.Proofs

open Go Go.Vx Go.Gm

theorem refImprove_good (X : PlnX) (w : World) (hX : PlnRd X w) (cores : List Int) (hcw : ∀ k ∈ cores, I64 k) (hlc : cores.length ≤ 1000000) (hA0 : AsgOk X.N X.C cores) (hz : asgE X.N X.C cores = 0) (R : Nat) (hR : R ≤ 16) (p : Option Addr) (c b o : Nat) (h1 : Sl w intV 1 cores p cores.length b o) :
    Calls Tryz.prog 40 #[.agg X.net.toArray, .agg (chpC X.C X.pd X.cd).toArray, .slice p cores.length c, .int .i64 (R : Int)] w fun e w' => ∃ z : Nat × Nat, e = .returned (.tuple #[.slice (some ⟨z.1, 0, none⟩) (impM X.N X.C R cores).length z.2, .int .i64 0]) ∧ True ∧ St w [] [.vec (some ⟨z.1, 0, none⟩) (impM X.N X.C R cores).length z.2 3 1 (flat intV (impM X.N X.C R cores))] w' := by
  have hck := fun (w' : World) h => rCheck_any X w' h cores hcw hlc p c b o
  rw [hz] at hck
  have hok := hA0.plan
  have hkeep := fun (w' : World) (H : HP) (hw' : St w [] H w') => hX.keep hw'
  have hco := fun (L : List Int) hA (w' : World) h p c b o => rcost_any X w' h L hA p c b o
  have hfi := fun (w' : World) h L hcr hl p c b o => rfits_any X w' h hok L hcr hl p c b o
  have hfn := hok.net.few
  have hps := hok.net.some
  have hlen := hA0.len
  obtain ⟨hnc, hn1, hn2⟩ := nCores_ok hok.chip
  have hcle := fun L => costM_le hok L
  unfold PlnX.net chpC at hck hco hfi ⊢
  refine enter (C := Tryz.cx) (F := Tryz.fx40) (args := [_, _, _, _]) Tryz.func40 rfl rfl rfl Tryz.ok40 (St.start w []) ?_
  repeat' (conv => whnf); first | (refine VNew.mk fun b5 => ?_) | (refine VCall.isF 51 ?_; refine VCall.inl (F := Tryz.fx51) Tryz.func51 rfl rfl rfl Tryz.ok51 ?_) | (refine VCall.isF 38 ?_; (refine VCall.valR (fun w' hw' => hck w' (hkeep w' _ hw') (h1.keep hw' (by simp))) ?_)) | (refine VAp.is ?_; refine VAp.own aT (h1.src (by simp) (fun _ => rfl)) (flat_one_cell (by simp [intV, Value.oneCell'])) (by (try dsimp only); omega) (by simp only [maxLen]; omega) fun p1 cq hp1 => ?_; obtain ⟨gq, rfl⟩ := hp1 (by omega)) | (refine VSeq.go ?_) | (refine VB.is ?_; refine VB.yes (by omega) fun _ => ?_) | (refine VB.is ?_; refine VB.no (by omega) fun _ => ?_) | (refine VB.split (fun _ => ?_) (fun _ => ?_)) | (refine boolE_split (fun h => ?_) (fun h => ?_) <;> subst h) | (refine VLd.is ?_; refine VLd.mk (.row aT (by rfl)) ?_) | (refine VSt.is ?_; refine VSt.row aT (by rfl) (by first | rfl | assumption) ?_) | (refine VNew.mk fun _ => ?_) | (refine VAr.is ?_; refine oA ?_) | (refine VIx.is ?_; refine VIx.mk rfl (by omega) (by omega) ?_) | (refine VKeep.is ?_; refine VKeep.mk aH ?_) | (refine VHs.mk _ (.refl _) ?_) | (refine VQ.is ?_; refine oQ ?_) | (refine VM.is ?_; refine oM ?_) | (refine And.intro ?_ ?_)
  all_goals (conv => whnf)
  obtain ⟨n, hn⟩ : ∃ n, 0 + cores.length = n := ⟨_, rfl⟩
  rw [hn]
  rename_i b4 bh q1 q2 q3
  refine VLoop.mk (α := Nat × List Int) (fun z => z.1 ≤ R ∧ AsgOk X.N X.C z.2 ∧ impM X.N X.C R cores = impM X.N X.C (R - z.1) z.2) (fun z => [(1000000, .tuple #[]), (3, .int .i64 (R : Int)), (4, .pointer (some ⟨b4, 0, none⟩)), (5, .pointer (some ⟨bh, 0, none⟩)), (8, .slice none 0 0), (9, .int .i64 0), (11, .slice (some ⟨gq, 0, none⟩) n cq), (12, .int .i64 (z.1 : Int))])
    (fun z => .vec (some ⟨gq, 0, none⟩) n cq 3 1 (flat intV z.2) :: .row b4 39 [.slice X.pn X.N.ps.length X.cn, .int .i64 X.N.inputs, .slice X.qs X.N.syns.length X.cs] :: .row bh 33 [.int .i64 X.C.mesh.wide, .int .i64 X.C.mesh.high, .int .i64 X.C.mesh.room, .int .i64 X.C.nr, .int .i64 X.C.sy, .int .i64 X.C.en, .int .i64 X.C.bits, .slice X.pd X.C.dead.length X.cd] :: []) (fun z => R - z.1) (0, cores) ⟨Nat.zero_le _, hA0, rfl⟩ aE aH ?_
  rintro ⟨r, cur⟩ ⟨hr, hAr, hir⟩
  dsimp only at hr hAr hir ⊢
  rcases Nat.lt_or_ge r R with hlr | hgr
  · repeat' (conv => whnf); first | (refine VSeq.go ?_) | (refine VB.is ?_; refine VB.yes (by omega) fun _ => ?_) | (refine VB.is ?_; refine VB.no (by omega) fun _ => ?_) | (refine VB.split (fun _ => ?_) (fun _ => ?_)) | (refine boolE_split (fun h => ?_) (fun h => ?_) <;> subst h) | (refine VLd.is ?_; refine VLd.mk (.row aT (by rfl)) ?_) | (refine VSt.is ?_; refine VSt.row aT (by rfl) (by first | rfl | assumption) ?_) | (refine VNew.mk fun _ => ?_) | (refine VAr.is ?_; refine oA ?_) | (refine VIx.is ?_; refine VIx.mk rfl (by omega) (by omega) ?_) | (refine VKeep.is ?_; refine VKeep.mk aH ?_) | (refine VHs.mk _ (.refl _) ?_) | (refine VQ.is ?_; refine oQ ?_) | (refine VM.is ?_; refine oM ?_) | (refine And.intro ?_ ?_)
    all_goals (conv => whnf)
    refine VLoop.mk (α := Nat × List Int) (fun z => z.1 ≤ n ∧ AsgOk X.N X.C z.2 ∧ z.2 = (List.range z.1).foldl (impStep X.N X.C) cur) (fun z => [(1000000, .tuple #[]), (3, .int .i64 (R : Int)), (4, .pointer (some ⟨b4, 0, none⟩)), (5, .pointer (some ⟨bh, 0, none⟩)), (8, .slice none 0 0), (9, .int .i64 0), (11, .slice (some ⟨gq, 0, none⟩) n cq), (12, .int .i64 (r : Int)), (13, .int .i64 (z.1 : Int))])
      (fun z => .vec (some ⟨gq, 0, none⟩) n cq 3 1 (flat intV z.2) :: .row b4 39 [.slice X.pn X.N.ps.length X.cn, .int .i64 X.N.inputs, .slice X.qs X.N.syns.length X.cs] :: .row bh 33 [.int .i64 X.C.mesh.wide, .int .i64 X.C.mesh.high, .int .i64 X.C.mesh.room, .int .i64 X.C.nr, .int .i64 X.C.sy, .int .i64 X.C.en, .int .i64 X.C.bits, .slice X.pd X.C.dead.length X.cd] :: []) (fun z => n - z.1) (0, cur) ⟨Nat.zero_le _, hAr, rfl⟩ aE aH ?_
    rintro ⟨i, L⟩ ⟨hi, hL, hLf⟩
    dsimp only at hi hL hLf ⊢
    rcases Nat.lt_or_ge i n with hli | hgi
    · have hin : i < X.N.ps.length := by omega
      have hLl : L.length = n := by rw [hL.len]; omega
      obtain ⟨home, hhome⟩ : ∃ h, L[i]? = some h := ⟨_, List.getElem?_eq_getElem (by omega)⟩
      have hcoL := fun (w' : World) h p c b o => hco L hL w' h p c b o
      have hall := riK_all hL hin hhome
      have hnx := riK_next X.N X.C L i home
      have hcL := hcle L
      rw [hLl] at hcoL
      have h0r : riK X.N X.C L i home 0 = (home, (costM X.N X.C L : Int)) := rfl
      obtain ⟨c0, hc0⟩ : ∃ c, costM X.N X.C L = c := ⟨_, rfl⟩
      rw [hc0] at hcoL hcL h0r
      obtain ⟨m, hm⟩ : ∃ m, nCores X.C = m := ⟨_, rfl⟩
      rw [hm] at hall hnc hn1 hn2
      clear hck
      repeat' (conv => whnf); first | (refine VHs.is ?_; refine VHs.is ?_; refine VHs.mk (.vec (some ⟨gq, 0, none⟩) n cq 3 1 (flat intV L) :: .row b4 39 [.slice X.pn X.N.ps.length X.cn, .int .i64 X.N.inputs, .slice X.qs X.N.syns.length X.cs] :: .row bh 33 [.int .i64 X.C.mesh.wide, .int .i64 X.C.mesh.high, .int .i64 X.C.mesh.room, .int .i64 X.C.nr, .int .i64 X.C.sy, .int .i64 X.C.en, .int .i64 X.C.bits, .slice X.pd X.C.dead.length X.cd] :: []) aH ?_) | (refine VIx.is ?_; refine VIx.mk rfl (by omega) (by omega) ?_) | (refine VLd.is ?_; refine VLd.mk (Rd.cast (.vec aT (sub_flat0 (f := intV) (k := 1) (fun _ => rfl) hhome rfl)) (by first | omega | (dsimp only; omega) | rfl)) ?_) | (refine VCall.isF 87 ?_; (refine VCall.valR (fun w' hw' => Exists.elim (Sl.own (f := intV) (l := L) (k := 1) hw' aT (fun _ => rfl) hLl) fun b1 hb1 => hcoL w' (hkeep w' _ hw') _ _ b1 0 hb1) ?_)) | (refine VSeq.go ?_) | (refine VB.is ?_; refine VB.yes (by omega) fun _ => ?_) | (refine VB.is ?_; refine VB.no (by omega) fun _ => ?_) | (refine VB.split (fun _ => ?_) (fun _ => ?_)) | (refine boolE_split (fun h => ?_) (fun h => ?_) <;> subst h) | (refine VLd.is ?_; refine VLd.mk (.row aT (by rfl)) ?_) | (refine VSt.is ?_; refine VSt.row aT (by rfl) (by first | rfl | assumption) ?_) | (refine VNew.mk fun _ => ?_) | (refine VAr.is ?_; refine oA ?_) | (refine VIx.is ?_; refine VIx.mk rfl (by omega) (by omega) ?_) | (refine VKeep.is ?_; refine VKeep.mk aH ?_) | (refine VHs.mk _ (.refl _) ?_) | (refine VQ.is ?_; refine oQ ?_) | (refine VM.is ?_; refine oM ?_) | (refine And.intro ?_ ?_)
      all_goals (conv => whnf)
      refine VLoop.mk (α := Nat × Int × Int) (fun z => z.1 ≤ m ∧ riK X.N X.C L i home z.1 = (z.2.1, z.2.2) ∧ 0 ≤ z.2.2 ∧ z.2.2 ≤ 65536) (fun z => [(1000000, .tuple #[]), (3, .int .i64 (R : Int)), (4, .pointer (some ⟨b4, 0, none⟩)), (5, .pointer (some ⟨bh, 0, none⟩)), (8, .slice none 0 0), (9, .int .i64 0), (11, .slice (some ⟨gq, 0, none⟩) n cq), (12, .int .i64 (r : Int)), (13, .int .i64 (i : Int)), (14, .int .i64 z.2.1), (15, .int .i64 z.2.2), (16, .int .i64 (z.1 : Int))])
        (fun z => .vec (some ⟨gq, 0, none⟩) n cq 3 1 (flat intV L) :: .row b4 39 [.slice X.pn X.N.ps.length X.cn, .int .i64 X.N.inputs, .slice X.qs X.N.syns.length X.cs] :: .row bh 33 [.int .i64 X.C.mesh.wide, .int .i64 X.C.mesh.high, .int .i64 X.C.mesh.room, .int .i64 X.C.nr, .int .i64 X.C.sy, .int .i64 X.C.en, .int .i64 X.C.bits, .slice X.pd X.C.dead.length X.cd] :: []) (fun z => m - z.1) (0, home, (c0 : Int)) ⟨Nat.zero_le _, h0r, by dsimp only; omega, by dsimp only; omega⟩ aE aH ?_
      rintro ⟨k, t1, t2⟩ ⟨hk, hrf, hb1, hb2⟩
      dsimp only at hk hrf hb1 hb2 ⊢
      rcases Nat.lt_or_ge k m with hlk | hgk
      · have hnx := hnx k
        rw [hrf] at hnx
        have hcr1 : ∀ x ∈ L.set i (k : Int), 0 ≤ x ∧ x < X.C.mesh.wide * X.C.mesh.high := fun x hx => by
          rcases List.mem_or_eq_of_mem_set hx with h | rfl
          · exact (hL.core x h).1
          · omega
        have hiff := rfit_fitsR (l := X.N.syns) (by rw [hm]; exact hnc) hcr1
        have e1 : (L.set i (k : Int)).length = 0 + n := by rw [List.length_set]; omega
        have hfi2 := fun (w' : World) h p c b o => hfi w' h (L.set i (k : Int)) hcr1 (by rw [List.length_set]; omega) p c b o
        have hcoK := fun hf (w' : World) h p c b o => hco (L.set i (k : Int)) (asg_fits hL (k := (k : Int)) (by omega) hf) w' h p c b o
        have hcK := hcle (L.set i (k : Int))
        rw [e1, hiff] at hfi2
        rw [e1] at hcoK
        obtain ⟨ck, hckE⟩ : ∃ c, costM X.N X.C (L.set i (k : Int)) = c := ⟨_, rfl⟩
        rw [hckE] at hnx hcoK hcK
        have hup1 : upd (flat intV L) (i * 1) [.int .i64 (k : Int)] = some (flat intV (L.set i (k : Int))) := upd_flat0 (f := intV) (k := 1) (y := (k : Int)) (fun _ => rfl) hhome rfl
        have hq : 0 < L.length → ∃ g, (some ⟨gq, 0, none⟩ : Option Addr) = some ⟨g, 0, none⟩ := fun _ => ⟨_, rfl⟩
        have hsrc := fun {H r : HP} {u : Ent → HP} (hat : At H (.vec (some ⟨gq, 0, none⟩) n cq 3 1 (flat intV L)) u r) => Src.ownV (w0 := w) (M := []) (l := L) (by rw [hLl]; exact hat) hq
        rw [hLl] at hsrc
        clear hco hfi hcle hLf hir hall hcoL hrf
        repeat' (conv => whnf); first | (refine VAr.is ?_; refine VAr.is ?_; refine VAr.mul hnc.symm (by omega) (by omega) ?_) | (refine VNew.mk fun bn => ?_) | (refine VAp.is ?_; refine VAp.own aT (hsrc aT) (flat_one_cell (by simp [intV, Value.oneCell'])) (by (try dsimp only); omega) (by simp only [maxLen]; omega) fun p1 c1 hp1 => ?_; obtain ⟨g1, rfl⟩ := hp1 (by omega)) | (refine VIx.is ?_; refine VIx.mk rfl (by omega) (by omega) ?_) | (refine VSt.is ?_; refine VSt.is ?_; refine VSt.cast (off' := i * 1) (by first | omega | (dsimp only; omega) | rfl) (VSt.vec aT hup1 rfl ?_)) | (refine VCall.isF 67 ?_; (refine VCall.genR (fun w' hw' => Exists.elim (Sl.own (f := intV) (l := L.set i (k : Int)) (k := 1) hw' aT (fun _ => rfl) e1) fun b1 hb1 => hfi2 w' (hkeep w' _ hw') _ _ b1 0 hb1) ?_; intro rr hrr; cases rr <;> simp only [Bool.false_eq_true, false_iff, true_iff] at hrr)) | (refine VCall.isF 87 ?_; (refine VCall.valR (fun w' hw' => Exists.elim (Sl.own (f := intV) (l := L.set i (k : Int)) (k := 1) hw' aT (fun _ => rfl) e1) fun b1 hb1 => hcoK hrr w' (hkeep w' _ hw') _ _ b1 0 hb1) ?_)) | (refine VSeq.go ?_) | (refine VB.is ?_; refine VB.yes (by omega) fun _ => ?_) | (refine VB.is ?_; refine VB.no (by omega) fun _ => ?_) | (refine VB.split (fun _ => ?_) (fun _ => ?_)) | (refine boolE_split (fun h => ?_) (fun h => ?_) <;> subst h) | (refine VLd.is ?_; refine VLd.mk (.row aT (by rfl)) ?_) | (refine VSt.is ?_; refine VSt.row aT (by rfl) (by first | rfl | assumption) ?_) | (refine VNew.mk fun _ => ?_) | (refine VAr.is ?_; refine oA ?_) | (refine VIx.is ?_; refine VIx.mk rfl (by omega) (by omega) ?_) | (refine VKeep.is ?_; refine VKeep.mk aH ?_) | (refine VHs.mk _ (.refl _) ?_) | (refine VQ.is ?_; refine oQ ?_) | (refine VM.is ?_; refine oM ?_) | (refine And.intro ?_ ?_)
        all_goals (conv => whnf)
        all_goals first
          | exact VNext.mk (k + 1, (k : Int), (ck : Int)) ⟨by dsimp only; omega, by dsimp only; rw [hnx, if_pos ⟨hrr, by dsimp only; omega⟩], by dsimp only; omega, by dsimp only; omega⟩ (by dsimp only; omega) aE aH
          | exact VNext.mk (k + 1, t1, t2) ⟨by dsimp only; omega, by dsimp only; rw [hnx, if_neg (fun h => by first | exact hrr h.1 | (have h2 := h.2; dsimp only at h2; omega))], by dsimp only; omega, by dsimp only; omega⟩ (by dsimp only; omega) aE aH
          | trace_state
      · have hkm : k = m := by omega
        subst hkm
        rw [hrf] at hall
        dsimp only at hall
        have hokI := (impStep_ok hL hin).1
        have hLf2 : impStep X.N X.C L i = (List.range (i + 1)).foldl (impStep X.N X.C) cur := by
          rw [List.range_succ, List.foldl_append, ← hLf]; rfl
        rw [← hall] at hokI hLf2
        have hupB : upd (flat intV L) (i * 1) [.int .i64 t1] = some (flat intV (L.set i t1)) := upd_flat0 (f := intV) (k := 1) (y := t1) (fun _ => rfl) hhome rfl
        clear hco hfi hcle hLf hir hall hcoL hrf hnx
        repeat' (conv => whnf); first | (refine VAr.is ?_; refine VAr.is ?_; refine VAr.mul hnc.symm (by omega) (by omega) ?_) | (refine VIx.is ?_; refine VIx.mk rfl (by omega) (by omega) ?_) | (refine VSt.is ?_; refine VSt.is ?_; refine VSt.cast (off' := i * 1) (by first | omega | (dsimp only; omega) | rfl) (VSt.vec aT hupB rfl ?_)) | (refine VSeq.go ?_) | (refine VB.is ?_; refine VB.yes (by omega) fun _ => ?_) | (refine VB.is ?_; refine VB.no (by omega) fun _ => ?_) | (refine VB.split (fun _ => ?_) (fun _ => ?_)) | (refine boolE_split (fun h => ?_) (fun h => ?_) <;> subst h) | (refine VLd.is ?_; refine VLd.mk (.row aT (by rfl)) ?_) | (refine VSt.is ?_; refine VSt.row aT (by rfl) (by first | rfl | assumption) ?_) | (refine VNew.mk fun _ => ?_) | (refine VAr.is ?_; refine oA ?_) | (refine VIx.is ?_; refine VIx.mk rfl (by omega) (by omega) ?_) | (refine VKeep.is ?_; refine VKeep.mk aH ?_) | (refine VHs.mk _ (.refl _) ?_) | (refine VQ.is ?_; refine oQ ?_) | (refine VM.is ?_; refine oM ?_) | (refine And.intro ?_ ?_)
        all_goals (conv => whnf)
        exact VNext.mk (i + 1, L.set i t1) ⟨by dsimp only; omega, hokI, hLf2⟩ (by dsimp only; omega) aE aH
    · have hin : i = n := by omega
      subst hin
      have hrd : L = impRound X.N X.C cur := by rw [hLf]; unfold impRound; congr 2; omega
      obtain ⟨e, he2⟩ : ∃ e, R - r = e + 1 := ⟨R - r - 1, by omega⟩
      have hir2 : impM X.N X.C R cores = impM X.N X.C (R - (r + 1)) L := by
        rw [hir, he2, impM, hrd, show R - (r + 1) = e by omega]
      clear hck hco hfi hcle
      repeat' (conv => whnf); first | (refine VSeq.go ?_) | (refine VB.is ?_; refine VB.yes (by omega) fun _ => ?_) | (refine VB.is ?_; refine VB.no (by omega) fun _ => ?_) | (refine VB.split (fun _ => ?_) (fun _ => ?_)) | (refine boolE_split (fun h => ?_) (fun h => ?_) <;> subst h) | (refine VLd.is ?_; refine VLd.mk (.row aT (by rfl)) ?_) | (refine VSt.is ?_; refine VSt.row aT (by rfl) (by first | rfl | assumption) ?_) | (refine VNew.mk fun _ => ?_) | (refine VAr.is ?_; refine oA ?_) | (refine VIx.is ?_; refine VIx.mk rfl (by omega) (by omega) ?_) | (refine VKeep.is ?_; refine VKeep.mk aH ?_) | (refine VHs.mk _ (.refl _) ?_) | (refine VQ.is ?_; refine oQ ?_) | (refine VM.is ?_; refine oM ?_) | (refine And.intro ?_ ?_)
      all_goals (conv => whnf)
      exact VNext.mk (r + 1, L) ⟨by dsimp only; omega, hL, hir2⟩ (by dsimp only; omega) aE aH
  · have hrR : r = R := by omega
    subst hrR
    rw [Nat.sub_self, impM] at hir
    rw [hir]
    have hcl2 : cur.length = n := by rw [hAr.len]; omega
    rw [hcl2]
    clear hck hco hfi hcle
    repeat' (conv => whnf); first | (refine VSeq.go ?_) | (refine VB.is ?_; refine VB.yes (by omega) fun _ => ?_) | (refine VB.is ?_; refine VB.no (by omega) fun _ => ?_) | (refine VB.split (fun _ => ?_) (fun _ => ?_)) | (refine boolE_split (fun h => ?_) (fun h => ?_) <;> subst h) | (refine VLd.is ?_; refine VLd.mk (.row aT (by rfl)) ?_) | (refine VSt.is ?_; refine VSt.row aT (by rfl) (by first | rfl | assumption) ?_) | (refine VNew.mk fun _ => ?_) | (refine VAr.is ?_; refine oA ?_) | (refine VIx.is ?_; refine VIx.mk rfl (by omega) (by omega) ?_) | (refine VKeep.is ?_; refine VKeep.mk aH ?_) | (refine VHs.mk _ (.refl _) ?_) | (refine VQ.is ?_; refine oQ ?_) | (refine VM.is ?_; refine oM ?_) | (refine And.intro ?_ ?_)
    all_goals (conv => whnf)
    exact ⟨fun w' hw' => ⟨(gq, cq), rfl, trivial, hw'.le aH⟩⟩

end Go.Proofs
end
