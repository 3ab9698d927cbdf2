import Derived.Test.YtjjcoiicikaaiaaGreatPlacePlacesPz
set_option linter.unusedVariables false

set_option linter.unusedSimpArgs false

namespace Go.Gm

theorem rfit_fitsR {C : Chp} {l : List Syn} {cores : List Int} (hn : (nCores C : Int) = C.mesh.wide * C.mesh.high) (hcr : ∀ k ∈ cores, 0 ≤ k ∧ k < C.mesh.wide * C.mesh.high) : rfitA C l cores ↔ Gm.fitsR C l cores := by
  rw [rfitA_iff hn hcr]
  unfold Gm.fitsR
  constructor
  · intro h k hk
    obtain ⟨⟨h1, h2⟩, h3⟩ := h k hk
    exact ⟨h1, h2, h3⟩
  · intro h k hk
    obtain ⟨h1, h2, h3⟩ := h k hk
    exact ⟨⟨h1, h2⟩, h3⟩

def rfK (C : Chp) (l : List Syn) (cores : List Int) (k : Nat) : Int × Int := ((List.range k).map fun (j : Nat) => (j : Int)).foldl (rfStep (fun k => decide (Gm.fitsR C l (cores ++ [k]))) (fun k => -(affM l cores.length cores k : Int))) (-1, 1)

theorem rfK_next (C : Chp) (l : List Syn) (cores : List Int) (k : Nat) : rfK C l cores (k + 1) = if Gm.fitsR C l (cores ++ [(k : Int)]) ∧ -(affM l cores.length cores (k : Int) : Int) < (rfK C l cores k).2 then ((k : Int), -(affM l cores.length cores (k : Int) : Int)) else rfK C l cores k := by
  unfold rfK
  rw [List.range_succ, List.map_append, List.foldl_append]
  simp only [List.map_cons, List.map_nil, List.foldl_cons, List.foldl_nil]
  generalize ((List.range k).map fun (j : Nat) => (j : Int)).foldl _ _ = acc
  unfold rfStep
  simp only [decide_eq_true_eq]

theorem rfK_all {C : Chp} {l : List Syn} {cores : List Int} (h : SoFar C l cores) : rfK C l cores (nCores C) = match stepP C l cores with
      | some (k, m) => (k, m)
      | none => (-1, 1) := stepP_ref h

end Go.Gm

namespace Go.Proofs

open Go Go.Vx Go.Gm

theorem Src.ownV {w0 : World} {M : List Nat} {H r : HP} {u : Ent → HP} {q : Option Addr} {cq e : Nat} {l : List Int} (hat : At H (.vec q l.length cq e 1 (flat intV l)) u r) (hq : 0 < l.length → ∃ g, q = some ⟨g, 0, none⟩) : Src w0 M H q l.length 1 (flat intV l) := by
  rcases Nat.eq_zero_or_pos l.length with h | h
  · have hl : l = [] := List.eq_nil_of_length_eq_zero h
    subst hl
    cases q with
    | none => exact .empty
    | some a => exact .none0
  · obtain ⟨g, rfl⟩ := hq h
    refine .at_ (.vec hat ?_)
    rw [sub_mk _ _ _ (by rw [flat_length (k := 1) fun _ => rfl]; omega), List.drop_zero, List.take_of_length_le (by rw [flat_length (k := 1) fun _ => rfl]; omega)]

theorem raff_any (X : PlnX) (w : World) (hX : PlnRd X w) (hok : PlanOk X.N X.C) (cores : List Int) (hcr : ∀ k ∈ cores, I64 k) (hlen : cores.length ≤ X.N.ps.length) (k : Int) (hk : I64 k) (p : Option Addr) (c b o : Nat) (h1 : Sl w intV 1 cores p cores.length b o) :
    Calls Tryz.prog 66 #[.agg X.net.toArray, .slice p cores.length c, .int .i64 (cores.length : Int), .int .i64 k] w fun e w' => e = .returned (.int .i64 (affM X.N.syns (cores.length : Int) cores k : Int)) ∧ St w [] [] w' := by
  have hfs := hok.net.fewS
  have hfn := hok.net.few
  obtain ⟨bs, os, hs⟩ := hX.syns
  have hto : ∀ s ∈ X.N.syns, 0 ≤ s.to ∧ s.to.toNat < X.N.ps.length := fun s h => by have := (hok.net.syns s h).2.1; omega
  have hwf : ∀ s ∈ X.N.syns, I64 s.frm := fun s h => (hX.net.syns s h).1
  unfold I64 at hk
  unfold PlnX.net
  refine enter (C := Tryz.cx) (F := Tryz.fx66) (args := [_, _, _, _]) Tryz.func66 rfl rfl rfl Tryz.ok66 (St.start w []) ?_
  repeat' (conv => whnf); first | (refine VNew.mk fun b4 => ?_) | (refine VSeq.go ?_) | (refine VB.is ?_; refine VB.yes (by omega) fun _ => ?_) | (refine VB.is ?_; refine VB.no (by omega) fun _ => ?_) | (refine VB.split (fun _ => ?_) (fun _ => ?_)) | (refine boolE_split (fun h => ?_) (fun h => ?_) <;> subst h) | (refine VLd.is ?_; refine VLd.mk (.row aT (by rfl)) ?_) | (refine VSt.is ?_; refine VSt.row aT (by rfl) (by first | rfl | assumption) ?_) | (refine VNew.mk fun _ => ?_) | (refine VAr.is ?_; refine oA ?_) | (refine VIx.is ?_; refine VIx.mk rfl (by omega) (by omega) ?_) | (refine VKeep.is ?_; refine VKeep.mk aH ?_) | (refine VHs.mk _ (.refl _) ?_) | (refine VQ.is ?_; refine oQ ?_) | (refine VM.is ?_; refine oM ?_) | (refine And.intro ?_ ?_)
  all_goals (conv => whnf)
  obtain ⟨ic, hic⟩ : ∃ ic, cores.length = ic := ⟨_, rfl⟩
  rw [hic] at hlen h1 ⊢
  refine VLoop.mk (α := Nat) (fun j => j ≤ X.N.syns.length) (fun j => [(1000000, .tuple #[]), (1, .slice p ic c), (2, .int .i64 (ic : Int)), (3, .int .i64 k), (4, .pointer (some ⟨b4, 0, none⟩)), (8, .int .i64 0), (9, .int .i64 (affM (X.N.syns.take j) (ic : Int) cores k : Int)), (10, .int .i64 (j : Int))])
    (fun _ => [.row b4 39 [.slice X.pn X.N.ps.length X.cn, .int .i64 X.N.inputs, .slice X.qs X.N.syns.length X.cs]]) (fun j => X.N.syns.length - j) 0 (Nat.zero_le _) aE aH ?_
  intro j hj
  rcases Nat.lt_or_ge j X.N.syns.length with hlj | hgj
  · obtain ⟨s, hsj⟩ := hs.get hlj
    have hsm := List.mem_of_getElem? hsj
    obtain ⟨ht0, ht1⟩ := hto s hsm
    have hfw := hwf s hsm
    unfold I64 at hfw
    have hnx := affM_next hsj (ic : Int) cores k
    have hsx : sub (synV s) 0 4 = some [.int .i64 s.frm, .int .i64 s.to, .int .i64 s.wt, .int .i64 s.dl] := rfl
    have hbd : affM (X.N.syns.take j) (ic : Int) cores k ≤ j := by
      have h2 := List.countP_le_length (p := fun s => decide (near1 (ic : Int) cores k s)) (l := X.N.syns.take j)
      rw [List.length_take] at h2
      unfold affM; omega
    have hot := near_other (cores := cores) (s := s) ht0 k
    rw [hic] at hot
    obtain ⟨f, hf⟩ : ∃ f, affM (X.N.syns.take j) (ic : Int) cores k = f := ⟨_, rfl⟩
    rw [hf] at hnx hbd ⊢
    by_cases hA : (s.frm = (ic : Int) ∧ s.to < (ic : Int)) ∨ (s.to = (ic : Int) ∧ 0 ≤ s.frm ∧ s.frm < (ic : Int))
    · obtain ⟨e, he1, he2⟩ : ∃ e : Nat, e < cores.length ∧ ((s.frm = (ic : Int) ∧ s.to = (e : Int) ∧ e < ic) ∨ (s.to = (ic : Int) ∧ s.frm = (e : Int) ∧ e < ic)) := by
        rcases hA with h | h
        · exact ⟨s.to.toNat, by omega, .inl ⟨h.1, by omega, by omega⟩⟩
        · exact ⟨s.frm.toNat, by omega, .inr ⟨h.1, by omega, by omega⟩⟩
      obtain ⟨u, hu⟩ : ∃ u, cores[e]? = some u := ⟨_, List.getElem?_eq_getElem he1⟩
      have huw := hcr u (List.mem_of_getElem? hu)
      unfold I64 at huw
      have hok2 : otherK cores s = some u := by
        unfold otherK
        rw [hic]
        rcases he2 with ⟨h1, h2, h3⟩ | ⟨h1, h2, h3⟩
        · rw [if_pos ⟨h1, by omega⟩, h2, Int.toNat_natCast, hu]
        · rw [if_neg (fun h => by omega), if_pos ⟨h1, by omega, by omega⟩, h2, Int.toNat_natCast, hu]
      have hyes : u = k → affM (X.N.syns.take (j + 1)) (ic : Int) cores k = f + 1 := fun e2 => by
        rw [hnx, if_pos (hot.2 (by rw [hok2, e2]))]
      have hno : u ≠ k → affM (X.N.syns.take (j + 1)) (ic : Int) cores k = f := fun e2 => by
        rw [hnx, if_neg (fun h => e2 (by have := hot.1 h; rw [hok2] at this; exact Option.some.inj this))]
        rfl
      clear hnx hot hok2 hf hto hwf hA
      rcases he2 with ⟨h1', h2, h3⟩ | ⟨h1', h2, h3⟩
      all_goals
        repeat' (conv => whnf); first | (refine VNew.mk fun b12 => ?_) | (refine VIx.is ?_; refine VIx.mk (hs.ptr (by omega)) (by omega) (by omega) ?_) | (refine VLd.is ?_; refine VLd.mk (Rd.cast (hs.rd0 (by simp) (fun _ => rfl) hsj hsx) (by first | omega | (dsimp only; omega) | rfl)) ?_) | (refine VIx.is ?_; refine VIx.mk (h1.ptr (by omega)) (by omega) (by omega) ?_) | (refine VLd.is ?_; refine VLd.mk (Rd.cast (h1.rd0 (by simp) (fun _ => rfl) hu rfl) (by first | omega | (dsimp only; omega) | rfl)) ?_) | (refine VSeq.go ?_) | (refine VB.is ?_; refine VB.yes (by omega) fun _ => ?_) | (refine VB.is ?_; refine VB.no (by omega) fun _ => ?_) | (refine VB.split (fun _ => ?_) (fun _ => ?_)) | (refine boolE_split (fun h => ?_) (fun h => ?_) <;> subst h) | (refine VLd.is ?_; refine VLd.mk (.row aT (by rfl)) ?_) | (refine VSt.is ?_; refine VSt.row aT (by rfl) (by first | rfl | assumption) ?_) | (refine VNew.mk fun _ => ?_) | (refine VAr.is ?_; refine oA ?_) | (refine VIx.is ?_; refine VIx.mk rfl (by omega) (by omega) ?_) | (refine VKeep.is ?_; refine VKeep.mk aH ?_) | (refine VHs.mk _ (.refl _) ?_) | (refine VQ.is ?_; refine oQ ?_) | (refine VM.is ?_; refine oM ?_) | (refine And.intro ?_ ?_)
        all_goals (conv => whnf)
        all_goals first
          | (have hh := hyes (by omega)
             refine VNext.mk (j + 1) (by omega) (by omega) ?_ aH
             rw [hh, show ((f + 1 : Nat) : Int) = (f : Int) + 1 by omega]
             exact aE)
          | (have hh := hno (by omega)
             refine VNext.mk (j + 1) (by omega) (by omega) ?_ aH
             rw [hh]
             exact aE)
    · have hok2 : otherK cores s = none := by
        unfold otherK
        rw [hic, if_neg (fun h => hA (.inl h)), if_neg (fun h => hA (.inr h))]
      have hh : affM (X.N.syns.take (j + 1)) (ic : Int) cores k = f := by
        rw [hnx, if_neg (fun h => by have := hot.1 h; rw [hok2] at this; cases this)]
        rfl
      clear hnx hot hok2 hf hto hwf
      repeat' (conv => whnf); first | (refine VNew.mk fun b12 => ?_) | (refine VIx.is ?_; refine VIx.mk (hs.ptr (by omega)) (by omega) (by omega) ?_) | (refine VLd.is ?_; refine VLd.mk (Rd.cast (hs.rd0 (by simp) (fun _ => rfl) hsj hsx) (by first | omega | (dsimp only; omega) | rfl)) ?_) | (refine VSeq.go ?_) | (refine VB.is ?_; refine VB.yes (by omega) fun _ => ?_) | (refine VB.is ?_; refine VB.no (by omega) fun _ => ?_) | (refine VB.split (fun _ => ?_) (fun _ => ?_)) | (refine boolE_split (fun h => ?_) (fun h => ?_) <;> subst h) | (refine VLd.is ?_; refine VLd.mk (.row aT (by rfl)) ?_) | (refine VSt.is ?_; refine VSt.row aT (by rfl) (by first | rfl | assumption) ?_) | (refine VNew.mk fun _ => ?_) | (refine VAr.is ?_; refine oA ?_) | (refine VIx.is ?_; refine VIx.mk rfl (by omega) (by omega) ?_) | (refine VKeep.is ?_; refine VKeep.mk aH ?_) | (refine VHs.mk _ (.refl _) ?_) | (refine VQ.is ?_; refine oQ ?_) | (refine VM.is ?_; refine oM ?_) | (refine And.intro ?_ ?_)
      all_goals (conv => whnf)
      all_goals
        refine VNext.mk (j + 1) (by omega) (by omega) ?_ aH
        rw [hh]
        exact aE
  rw [List.take_of_length_le hgj]
  repeat' (conv => whnf); first | (refine VSeq.go ?_) | (refine VB.is ?_; refine VB.yes (by omega) fun _ => ?_) | (refine VB.is ?_; refine VB.no (by omega) fun _ => ?_) | (refine VB.split (fun _ => ?_) (fun _ => ?_)) | (refine boolE_split (fun h => ?_) (fun h => ?_) <;> subst h) | (refine VLd.is ?_; refine VLd.mk (.row aT (by rfl)) ?_) | (refine VSt.is ?_; refine VSt.row aT (by rfl) (by first | rfl | assumption) ?_) | (refine VNew.mk fun _ => ?_) | (refine VAr.is ?_; refine oA ?_) | (refine VIx.is ?_; refine VIx.mk rfl (by omega) (by omega) ?_) | (refine VKeep.is ?_; refine VKeep.mk aH ?_) | (refine VHs.mk _ (.refl _) ?_) | (refine VQ.is ?_; refine oQ ?_) | (refine VM.is ?_; refine oM ?_) | (refine And.intro ?_ ?_)
  all_goals (conv => whnf)
  exact ⟨fun w' hw' => ⟨rfl, hw'.le .nil⟩⟩

theorem refPlace_any (X : PlnX) (w : World) (hX : PlnRd X w) (he : Gm.planE X.N X.C = 0) :
    Calls Tryz.prog 24 #[.agg X.net.toArray, .agg (chpC X.C X.pd X.cd).toArray] w fun e w' => ∃ z : Option Addr × Nat, e = .returned (.tuple #[.slice z.1 (placeR X.N X.C).1.length z.2, .int .i64 (placeR X.N X.C).2]) ∧ (0 < (placeR X.N X.C).1.length → ∃ g, z.1 = some ⟨g, 0, none⟩) ∧ St w [] [.vec z.1 (placeR X.N X.C).1.length z.2 3 1 (flat intV (placeR X.N X.C).1)] w' := by
  have hbo := fun (w' : World) h => both_any X w' h
  rw [he] at hbo
  have hok := planE_zero he
  obtain ⟨hnet, hchip, hfew⟩ := planE_zero he
  have hfs := hnet.fewS
  have hfn := hnet.few
  obtain ⟨hnc, hn1, hn2⟩ := nCores_ok hchip
  have hkeep := fun (w' : World) (H : HP) (hw' : St w [] H w') => hX.keep hw'
  have hfi := fun (w' : World) h cores hcr hl p c b o => rfits_any X w' h hok cores hcr hl p c b o
  have haf := fun (w' : World) h cores hcr hl k hk p c b o => raff_any X w' h hok cores hcr hl k hk p c b o
  unfold placeR
  rw [if_neg (by rw [he]; simp)]
  unfold PlnX.net chpC at hbo hfi
  unfold PlnX.net at haf
  unfold PlnX.net chpC
  refine enter (C := Tryz.cx) (F := Tryz.fx24) (args := [_, _]) Tryz.func24 rfl rfl rfl Tryz.ok24 (St.start w []) ?_
  repeat' (conv => whnf); first | (refine VNew.mk fun b3 => ?_) | (refine VCall.isF 65 ?_; (refine VCall.valR (fun w' hw' => hbo w' (hkeep w' _ hw')) ?_)) | (refine VSeq.go ?_) | (refine VB.is ?_; refine VB.yes (by omega) fun _ => ?_) | (refine VB.is ?_; refine VB.no (by omega) fun _ => ?_) | (refine VB.split (fun _ => ?_) (fun _ => ?_)) | (refine boolE_split (fun h => ?_) (fun h => ?_) <;> subst h) | (refine VLd.is ?_; refine VLd.mk (.row aT (by rfl)) ?_) | (refine VSt.is ?_; refine VSt.row aT (by rfl) (by first | rfl | assumption) ?_) | (refine VNew.mk fun _ => ?_) | (refine VAr.is ?_; refine oA ?_) | (refine VIx.is ?_; refine VIx.mk rfl (by omega) (by omega) ?_) | (refine VKeep.is ?_; refine VKeep.mk aH ?_) | (refine VHs.mk _ (.refl _) ?_) | (refine VQ.is ?_; refine oQ ?_) | (refine VM.is ?_; refine oM ?_) | (refine And.intro ?_ ?_)
  all_goals (conv => whnf)
  rename_i b2 q1
  refine VLoop.mk (α := Nat × List Int × Option Addr × Nat) (fun z => (z.2.1.length = z.1 ∧ z.1 ≤ X.N.ps.length) ∧ SoFar X.C X.N.syns z.2.1 ∧ placeF X.C X.N.syns X.N.ps.length [] = placeF X.C X.N.syns (X.N.ps.length - z.1) z.2.1 ∧ (0 < z.2.1.length → ∃ g, z.2.2.1 = some ⟨g, 0, none⟩))
    (fun z => [(1000000, .tuple #[]), (2, .pointer (some ⟨b2, 0, none⟩)), (3, .pointer (some ⟨b3, 0, none⟩)), (4, .slice none 0 0), (5, .int .i64 0), (7, .slice z.2.2.1 z.2.1.length z.2.2.2), (8, .int .i64 (z.1 : Int))])
    (fun z => .vec z.2.2.1 z.2.1.length z.2.2.2 3 1 (flat intV z.2.1) :: .row b2 39 [.slice X.pn X.N.ps.length X.cn, .int .i64 X.N.inputs, .slice X.qs X.N.syns.length X.cs] :: .row b3 33 [.int .i64 X.C.mesh.wide, .int .i64 X.C.mesh.high, .int .i64 X.C.mesh.room, .int .i64 X.C.nr, .int .i64 X.C.sy, .int .i64 X.C.en, .int .i64 X.C.bits, .slice X.pd X.C.dead.length X.cd] :: []) (fun z => X.N.ps.length - z.1) (0, [], none, 0) ⟨⟨rfl, Nat.zero_le _⟩, SoFar.nil hchip, rfl, fun h => by cases h⟩ aE (HLe.nilv aH) ?_
  rintro ⟨i, cores, q, cq⟩ ⟨⟨hci, hi⟩, hso, hpf, hq⟩
  dsimp only at hci hi hso hpf hq ⊢
  subst hci
  rcases Nat.lt_or_ge cores.length X.N.ps.length with hlt | hge
  · have hst := placeF_take (C := X.C) (l := X.N.syns) (cores := cores) hlt
    rw [← hpf] at hst
    have hall := rfK_all hso
    have hnx := rfK_next X.C X.N.syns cores
    have hcr0 : ∀ k ∈ cores, 0 ≤ k ∧ k < X.C.mesh.wide * X.C.mesh.high := fun k hk => by have := (hso.core k hk).1; omega
    have hcw : ∀ k ∈ cores, I64 k := fun k hk => by have := hcr0 k hk; unfold I64; omega
    have hbA : ∀ k, affM X.N.syns (cores.length : Int) cores k ≤ 8192 := fun k => Nat.le_trans List.countP_le_length hfs
    obtain ⟨n, hn⟩ : ∃ n, nCores X.C = n := ⟨_, rfl⟩
    rw [hn] at hnc hn1 hn2 hall
    repeat' (conv => whnf); first | (refine VSeq.go ?_) | (refine VB.is ?_; refine VB.yes (by omega) fun _ => ?_) | (refine VB.is ?_; refine VB.no (by omega) fun _ => ?_) | (refine VB.split (fun _ => ?_) (fun _ => ?_)) | (refine boolE_split (fun h => ?_) (fun h => ?_) <;> subst h) | (refine VLd.is ?_; refine VLd.mk (.row aT (by rfl)) ?_) | (refine VSt.is ?_; refine VSt.row aT (by rfl) (by first | rfl | assumption) ?_) | (refine VNew.mk fun _ => ?_) | (refine VAr.is ?_; refine oA ?_) | (refine VIx.is ?_; refine VIx.mk rfl (by omega) (by omega) ?_) | (refine VKeep.is ?_; refine VKeep.mk aH ?_) | (refine VHs.mk _ (.refl _) ?_) | (refine VQ.is ?_; refine oQ ?_) | (refine VM.is ?_; refine oM ?_) | (refine And.intro ?_ ?_)
    all_goals (conv => whnf)
    refine VLoop.mk (α := Nat × Int × Int) (fun z => z.1 ≤ n ∧ rfK X.C X.N.syns cores z.1 = (z.2.1, -z.2.2) ∧ -1 ≤ z.2.2 ∧ z.2.2 ≤ 8192)
      (fun z => [(1000000, .tuple #[]), (2, .pointer (some ⟨b2, 0, none⟩)), (3, .pointer (some ⟨b3, 0, none⟩)), (4, .slice none 0 0), (5, .int .i64 0), (7, .slice q cores.length cq), (8, .int .i64 (cores.length : Int)), (9, .int .i64 z.2.1), (10, .int .i64 z.2.2), (11, .int .i64 (z.1 : Int))])
      (fun z => .vec q cores.length cq 3 1 (flat intV cores) :: .row b2 39 [.slice X.pn X.N.ps.length X.cn, .int .i64 X.N.inputs, .slice X.qs X.N.syns.length X.cs] :: .row b3 33 [.int .i64 X.C.mesh.wide, .int .i64 X.C.mesh.high, .int .i64 X.C.mesh.room, .int .i64 X.C.nr, .int .i64 X.C.sy, .int .i64 X.C.en, .int .i64 X.C.bits, .slice X.pd X.C.dead.length X.cd] :: []) (fun z => n - z.1) (0, -1, -1) ⟨Nat.zero_le _, rfl, by dsimp only; omega, by dsimp only; omega⟩ aE aH ?_
    rintro ⟨k, t1, t2⟩ ⟨hk, hrf, hb1, hb2⟩
    dsimp only at hk hrf hb1 hb2 ⊢
    rcases Nat.lt_or_ge k n with hlk | hgk
    · have hnx := hnx k
      rw [hrf] at hnx
      have hcr1 : ∀ x ∈ cores ++ [(k : Int)], 0 ≤ x ∧ x < X.C.mesh.wide * X.C.mesh.high := fun x hx => by
        rcases List.mem_append.1 hx with h | h
        · exact hcr0 x h
        · rw [List.mem_singleton] at h; subst h; omega
      have hiff := rfit_fitsR (l := X.N.syns) (by rw [hn]; exact hnc) hcr1
      have hfi2 := fun (w' : World) h p c b o => hfi w' h (cores ++ [(k : Int)]) hcr1 (by rw [List.length_append]; simp; omega) p c b o
      have haf2 := fun (w' : World) h p c b o => haf w' h cores hcw (by omega) (k : Int) (by unfold I64; omega) p c b o
      have e1 : (cores ++ [(k : Int)]).length = 0 + cores.length + 1 := by rw [List.length_append, List.length_singleton]; omega
      have hfl : flat intV (cores ++ [(k : Int)]) = flat intV cores ++ [.int .i64 (k : Int)] := by rw [flat_append]; rfl
      have hbk := hbA (k : Int)
      rw [e1, hiff] at hfi2
      obtain ⟨aN, haN⟩ : ∃ a, affM X.N.syns (cores.length : Int) cores (k : Int) = a := ⟨_, rfl⟩
      rw [haN] at hnx haf2 hbk
      clear hst hpf hall hbo hfi haf hiff
      repeat' (conv => whnf); first | (refine VAr.is ?_; refine VAr.is ?_; refine VAr.mul hnc.symm (by omega) (by omega) ?_) | (refine VCall.isF 66 ?_; (refine VCall.valR (fun w' hw' => Exists.elim (Sl.own (f := intV) (l := cores) (k := 1) hw' aT (fun _ => rfl) rfl) fun b1 hb1 => haf2 w' (hkeep w' _ hw') _ _ b1 0 hb1) ?_)) | (refine VNew.mk fun bn => ?_) | (refine VAp.is ?_; refine VAp.own aT (Src.ownV (l := cores) aT hq) (flat_one_cell (by simp [intV, Value.oneCell'])) (by (try dsimp only); omega) (by simp only [maxLen]; omega) fun p1 c1 hp1 => ?_) | (refine VAp.is ?_; refine VAp.own aT (.at_ (.vec aT rfl)) (by simp [Value.oneCell']) (by (try dsimp only); omega) (by simp only [maxLen]; omega) fun p2 c2 hp2 => ?_) | (refine VCall.isF 67 ?_; (refine VCall.genR (fun w' hw' => Exists.elim (Sl.own (f := intV) (l := cores ++ [(k : Int)]) (k := 1) hw' (by rw [hfl]; exact aT) (fun _ => rfl) e1) fun b1 hb1 => hfi2 w' (hkeep w' _ hw') _ _ b1 0 hb1) ?_; intro rr hrr; cases rr <;> simp only [Bool.false_eq_true, false_iff, true_iff] at hrr)) | (refine VSeq.go ?_) | (refine VB.is ?_; refine VB.yes (by omega) fun _ => ?_) | (refine VB.is ?_; refine VB.no (by omega) fun _ => ?_) | (refine VB.split (fun _ => ?_) (fun _ => ?_)) | (refine boolE_split (fun h => ?_) (fun h => ?_) <;> subst h) | (refine VLd.is ?_; refine VLd.mk (.row aT (by rfl)) ?_) | (refine VSt.is ?_; refine VSt.row aT (by rfl) (by first | rfl | assumption) ?_) | (refine VNew.mk fun _ => ?_) | (refine VAr.is ?_; refine oA ?_) | (refine VIx.is ?_; refine VIx.mk rfl (by omega) (by omega) ?_) | (refine VKeep.is ?_; refine VKeep.mk aH ?_) | (refine VHs.mk _ (.refl _) ?_) | (refine VQ.is ?_; refine oQ ?_) | (refine VM.is ?_; refine oM ?_) | (refine And.intro ?_ ?_)
      all_goals (conv => whnf)
      all_goals first
        | exact VNext.mk (k + 1, (k : Int), (aN : Int)) ⟨by dsimp only; omega, by dsimp only; rw [hnx, if_pos ⟨hrr, by dsimp only; omega⟩], by dsimp only; omega, by dsimp only; omega⟩ (by dsimp only; omega) aE aH
        | exact VNext.mk (k + 1, t1, t2) ⟨by dsimp only; omega, by dsimp only; rw [hnx, if_neg (fun h => by first | exact hrr h.1 | (have h2 := h.2; dsimp only at h2; omega))], by dsimp only; omega, by dsimp only; omega⟩ (by dsimp only; omega) aE aH
    · have hkn : k = n := by omega
      subst hkn
      rw [hall] at hrf
      have hspc := fun bb mm (h : stepP X.C X.N.syns cores = some (bb, mm)) => stepP_space h
      clear hbo hfi haf hall hnx
      cases hs : stepP X.C X.N.syns cores with
      | none =>
        rw [hs] at hst hrf
        dsimp only at hst hrf
        have ht1 : t1 = -1 := by have := congrArg Prod.fst hrf; dsimp only at this; omega
        subst ht1
        rw [hst]
        repeat' (conv => whnf); first | (refine VAr.is ?_; refine VAr.is ?_; refine VAr.mul hnc.symm (by omega) (by omega) ?_) | (refine VSeq.go ?_) | (refine VB.is ?_; refine VB.yes (by omega) fun _ => ?_) | (refine VB.is ?_; refine VB.no (by omega) fun _ => ?_) | (refine VB.split (fun _ => ?_) (fun _ => ?_)) | (refine boolE_split (fun h => ?_) (fun h => ?_) <;> subst h) | (refine VLd.is ?_; refine VLd.mk (.row aT (by rfl)) ?_) | (refine VSt.is ?_; refine VSt.row aT (by rfl) (by first | rfl | assumption) ?_) | (refine VNew.mk fun _ => ?_) | (refine VAr.is ?_; refine oA ?_) | (refine VIx.is ?_; refine VIx.mk rfl (by omega) (by omega) ?_) | (refine VKeep.is ?_; refine VKeep.mk aH ?_) | (refine VHs.mk _ (.refl _) ?_) | (refine VQ.is ?_; refine oQ ?_) | (refine VM.is ?_; refine oM ?_) | (refine And.intro ?_ ?_)
        all_goals (conv => whnf)
        exact ⟨fun w' hw' => ⟨(none, 0), rfl, (fun h => by cases h), hw'.le (HLe.nilv .nil)⟩⟩
      | some p =>
        obtain ⟨bb, mm⟩ := p
        rw [hs] at hst hrf
        dsimp only at hst hrf
        have ht1 : t1 = bb := by have := congrArg Prod.fst hrf; dsimp only at this; omega
        subst ht1
        obtain ⟨g1, g2⟩ := hspc t1 mm hs
        have hso2 := hso.snoc g1 g2
        have e2 : (cores ++ [t1]).length = cores.length + 1 := by rw [List.length_append]; rfl
        clear hs hspc hrf hso hpf hcr0 hcw
        repeat' (conv => whnf); first | (refine VAr.is ?_; refine VAr.is ?_; refine VAr.mul hnc.symm (by omega) (by omega) ?_) | (refine VNew.mk fun bn => ?_) | (refine VAp.is ?_; refine VAp.own aT (.at_ (.vec aT rfl)) (by simp [Value.oneCell']) (by (try dsimp only); omega) (by simp only [maxLen]; omega) fun p2 c2 hp2 => ?_) | (refine VSeq.go ?_) | (refine VB.is ?_; refine VB.yes (by omega) fun _ => ?_) | (refine VB.is ?_; refine VB.no (by omega) fun _ => ?_) | (refine VB.split (fun _ => ?_) (fun _ => ?_)) | (refine boolE_split (fun h => ?_) (fun h => ?_) <;> subst h) | (refine VLd.is ?_; refine VLd.mk (.row aT (by rfl)) ?_) | (refine VSt.is ?_; refine VSt.row aT (by rfl) (by first | rfl | assumption) ?_) | (refine VNew.mk fun _ => ?_) | (refine VAr.is ?_; refine oA ?_) | (refine VIx.is ?_; refine VIx.mk rfl (by omega) (by omega) ?_) | (refine VKeep.is ?_; refine VKeep.mk aH ?_) | (refine VHs.mk _ (.refl _) ?_) | (refine VQ.is ?_; refine oQ ?_) | (refine VM.is ?_; refine oM ?_) | (refine And.intro ?_ ?_)
        all_goals (conv => whnf)
        refine VNext.mk (cores.length + 1, cores ++ [t1], p2, c2) ⟨⟨e2, by dsimp only; omega⟩, hso2, hst, fun _ => hp2 (by omega)⟩ (by dsimp only; omega) ?_ ?_
        · dsimp only
          rw [e2]
          exact aE
        · dsimp only
          rw [e2, flat_append]
          exact aH
  · have hcl : cores.length = X.N.ps.length := by omega
    rw [hcl, Nat.sub_self, placeF] at hpf
    rw [hpf]
    repeat' (conv => whnf); first | (refine VSeq.go ?_) | (refine VB.is ?_; refine VB.yes (by omega) fun _ => ?_) | (refine VB.is ?_; refine VB.no (by omega) fun _ => ?_) | (refine VB.split (fun _ => ?_) (fun _ => ?_)) | (refine boolE_split (fun h => ?_) (fun h => ?_) <;> subst h) | (refine VLd.is ?_; refine VLd.mk (.row aT (by rfl)) ?_) | (refine VSt.is ?_; refine VSt.row aT (by rfl) (by first | rfl | assumption) ?_) | (refine VNew.mk fun _ => ?_) | (refine VAr.is ?_; refine oA ?_) | (refine VIx.is ?_; refine VIx.mk rfl (by omega) (by omega) ?_) | (refine VKeep.is ?_; refine VKeep.mk aH ?_) | (refine VHs.mk _ (.refl _) ?_) | (refine VQ.is ?_; refine oQ ?_) | (refine VM.is ?_; refine oM ?_) | (refine And.intro ?_ ?_)
    all_goals (conv => whnf)
    exact ⟨fun w' hw' => ⟨(q, cq), rfl, hq, hw'.le aH⟩⟩

theorem refPlace_bad (X : PlnX) (w : World) (hX : PlnRd X w) (he : Gm.planE X.N X.C ≠ 0) :
    Calls Tryz.prog 24 #[.agg X.net.toArray, .agg (chpC X.C X.pd X.cd).toArray] w fun e w' => e = .returned (.tuple #[.slice none 0 0, .int .i64 (Gm.planE X.N X.C)]) ∧ St w [] [] w' := by
  have hbo := fun (w' : World) h => both_any X w' h
  obtain ⟨E, hE⟩ : ∃ E, Gm.planE X.N X.C = E := ⟨_, rfl⟩
  rw [hE] at hbo he ⊢
  unfold PlnX.net chpC at hbo ⊢
  refine enter (C := Tryz.cx) (F := Tryz.fx24) (args := [_, _]) Tryz.func24 rfl rfl rfl Tryz.ok24 (St.start w []) ?_
  repeat' (conv => whnf); first | (refine VCall.isF 65 ?_; (refine VCall.valR (fun w' hw' => hbo w' (hX.keep hw')) ?_)) | (refine VSeq.go ?_) | (refine VB.is ?_; refine VB.yes (by omega) fun _ => ?_) | (refine VB.is ?_; refine VB.no (by omega) fun _ => ?_) | (refine VB.split (fun _ => ?_) (fun _ => ?_)) | (refine boolE_split (fun h => ?_) (fun h => ?_) <;> subst h) | (refine VLd.is ?_; refine VLd.mk (.row aT (by rfl)) ?_) | (refine VSt.is ?_; refine VSt.row aT (by rfl) (by first | rfl | assumption) ?_) | (refine VNew.mk fun _ => ?_) | (refine VAr.is ?_; refine oA ?_) | (refine VIx.is ?_; refine VIx.mk rfl (by omega) (by omega) ?_) | (refine VKeep.is ?_; refine VKeep.mk aH ?_) | (refine VHs.mk _ (.refl _) ?_) | (refine VQ.is ?_; refine oQ ?_) | (refine VM.is ?_; refine oM ?_) | (refine And.intro ?_ ?_)
  all_goals (conv => whnf)
  all_goals first
    | exact ⟨fun w' hw' => ⟨rfl, hw'.le .nil⟩⟩
    | (exfalso; omega)

end Go.Proofs
