import Derived.Test.YtjjcoiicikaaiaaGreatPlaceWaysMk
set_option linter.unusedVariables false
set_option linter.unusedSimpArgs false
set_option maxHeartbeats 4000000

namespace Go.Gm

theorem affM_next {l : List Syn} {j : Nat} {s : Syn} (h : l[j]? = some s) (i : Int) (cores : List Int) (k : Int) : affM (l.take (j + 1)) i cores k = affM (l.take j) i cores k + if near1 i cores k s then 1 else 0 := by
 unfold affM
 rw [List.take_add_one, h, Option.toList_some, List.countP_append]
 by_cases hk : near1 i cores k s <;> simp [hk]

def spK (C : Chp) (l : List Syn) (cores : List Int) (i k : Nat) : List Int := ((List.range k).map fun (j : Nat) => (j : Int)).filter fun j => decide (spaceP C l cores i j)

theorem spK_all (C : Chp) (l : List Syn) (cores : List Int) (i : Nat) : spK C l cores i (nCores C) = spacesM C l cores i := rfl

theorem spK_next (C : Chp) (l : List Syn) (cores : List Int) (i k : Nat) : spK C l cores i (k + 1) = spK C l cores i k ++ if spaceP C l cores i (k : Int) then [(k : Int)] else [] := by
 unfold spK
 rw [List.range_succ, List.map_append, List.filter_append]
 congr 1
 by_cases h : spaceP C l cores i (k : Int) <;> simp [h]

theorem first_yes {v : Int → Int} {C : Chp} {l : List Syn} {cores : List Int} {i k : Nat} (h : spaceP C l cores i (k : Int)) : firstL v (spK C l cores i (k + 1)) = flStep v (firstL v (spK C l cores i k)) (k : Int) := by
 rw [spK_next, if_pos h, firstL_snoc]

theorem first_no {v : Int → Int} {C : Chp} {l : List Syn} {cores : List Int} {i k : Nat} (h : ¬ spaceP C l cores i (k : Int)) : firstL v (spK C l cores i (k + 1)) = firstL v (spK C l cores i k) := by
 rw [spK_next, if_neg h, List.append_nil]

def otherK (cores : List Int) (s : Syn) : Option Int :=
 if s.frm = cores.length ∧ s.to < cores.length then cores[s.to.toNat]? else if s.to = cores.length ∧ 0 ≤ s.frm ∧ s.frm < cores.length then cores[s.frm.toNat]? else none

theorem near_other {cores : List Int} {s : Syn} (ht : 0 ≤ s.to) (k : Int) : near1 cores.length cores k s ↔ otherK cores s = some k := by
 unfold near1 otherK
 constructor
 ·rintro (⟨h1, h2, h3⟩ | ⟨h1, h2, h3⟩)
  ·rw [if_pos ⟨h1, h2.2⟩]; exact h3
  ·rw [if_neg (fun h => by omega), if_pos ⟨h1, h2⟩]; exact h3
 ·intro h
  split at h
  ·rename_i h1
   exact .inl ⟨h1.1, ⟨ht, h1.2⟩, h⟩
  ·split at h
   ·rename_i h1 h2
    exact .inr ⟨h2.1, h2.2, h⟩
   ·cases h

end Go.Gm

namespace Go.Proofs

open Go Go.Vx Go.Gm

def CntIs (m : List (Int × Value)) (f : Int → Nat) : Prop := ∀ k, mfind m k = if f k = 0 then none else some (.int .i64 (f k : Int))

theorem CntIs.add {m : List (Int × Value)} {f g : Int → Nat} (h : CntIs m f) (j : Int) (hg : ∀ k, g k = f k + if j = k then 1 else 0) : CntIs (mset m j (.int .i64 ((f j : Int) + 1))) g := by
 intro k
 rw [mfind_mset, h k, hg k]
 by_cases e : j = k
 ·subst e
  rw [if_pos rfl, if_pos rfl, if_neg (by omega)]
  rfl
 ·rw [if_neg e, if_neg e]; rfl

theorem CntIs.look {m : List (Int × Value)} {f : Int → Nat} (h : CntIs m f) (j : Int) : (mfind m j = none ∧ f j = 0) ∨ (mfind m j = some (.int .i64 (f j : Int)) ∧ f j ≠ 0) := by
 have := h j
 by_cases e : f j = 0
 ·rw [if_pos e] at this; exact .inl ⟨this, e⟩
 ·rw [if_neg e] at this; exact .inr ⟨this, e⟩

theorem placeF_take {C : Chp} {l : List Syn} {n : Nat} {cores : List Int} {i : Nat} (h : i < n) : placeF C l (n - i) cores = match stepP C l cores with
  | none => none
  | some (k, _) => placeF C l (n - (i + 1)) (cores ++ [k]) := by
 obtain ⟨m, hm⟩ : ∃ m, n - i = m + 1 := ⟨n - i - 1, by omega⟩
 rw [hm, placeF, show n - (i + 1) = m by omega]
 cases stepP C l cores <;> rfl

theorem placePlace_any (X : PlnX) (w : World) (hX : PlnRd X w) (he : Gm.planE X.N X.C = 0) :
  Calls Tryz.prog 23 #[.agg X.net.toArray, .agg (chpC X.C X.pd X.cd).toArray] w fun e w' => ∃ z : Option Addr × Nat, e = .returned (.tuple #[.slice z.1 (placeR X.N X.C).1.length z.2, .int .i64 (placeR X.N X.C).2]) ∧ (0 < (placeR X.N X.C).1.length → ∃ g, z.1 = some ⟨g, 0, none⟩) ∧ St w [] [.vec z.1 (placeR X.N X.C).1.length z.2 3 1 (flat intV (placeR X.N X.C).1)] w' := by
 have hg := fun (w' : World) h => newPlanner_any X w' h he
 have hok := planE_zero he
 obtain ⟨hnet, hchip, hfew⟩ := planE_zero he
 have hfs := hnet.fewS
 have hfn := hnet.few
 have hkeep := fun (w' : World) (H : HP) (hw' : St w [] H w') => hX.keep hw'
 obtain ⟨bs, os, hs⟩ := hX.syns
 have hto : ∀ s ∈ X.N.syns, 0 ≤ s.to ∧ s.to.toNat < X.N.ps.length := fun s h => by have := (hnet.syns s h).2.1; omega
 have hwf : ∀ s ∈ X.N.syns, I64 s.frm := fun s h => (hX.net.syns s h).1
 unfold placeR
 rw [if_neg (by rw [he]; simp)]
 unfold PlnX.net chpC at hg ⊢
 refine enter (C := Tryz.cx) (F := Tryz.fx23) (args := [_, _]) Tryz.func23 rfl rfl rfl Tryz.ok23 (St.start w []) ?_
 repeat' (conv => whnf); first | (refine VNew.mk fun b3 => ?_) | (refine VCall.isF 60 ?_; (refine VCall.genR (fun w' hw' => hg w' (hkeep w' _ hw')) ?_; rintro x hup)) | (refine VSeq.go ?_) | (refine VB.is ?_; refine VB.no (by omega) fun _ => ?_) | (refine VLd.is ?_; refine VLd.mk (.row aT (by rfl)) ?_)
 all_goals (conv => whnf)
 rename_i b2 q1
 obtain ⟨n, hn⟩ : ∃ n, X.N.ps.length = n := ⟨_, rfl⟩
 refine VLoop.mk (α := Nat × List Int × Option Addr × Nat) (fun z => (z.2.1.length = z.1 ∧ z.1 ≤ X.N.ps.length) ∧ SoFar X.C X.N.syns z.2.1 ∧ placeF X.C X.N.syns X.N.ps.length [] = placeF X.C X.N.syns (X.N.ps.length - z.1) z.2.1 ∧ (0 < z.2.1.length → ∃ g, z.2.2.1 = some ⟨g, 0, none⟩))
  (fun z => [(1000000, .tuple #[]), (2, .pointer (some ⟨b2, 0, none⟩)), (4, .slice none 0 0), (5, .int .i64 0), (6, .pointer (some ⟨x.b, 0, none⟩)), (8, .slice z.2.2.1 z.2.1.length z.2.2.2), (27, .int .i64 (X.N.ps.length : Int)), (28, .int .i64 (z.1 : Int))])
  (fun z => .vec z.2.2.1 z.2.1.length z.2.2.2 3 1 (flat intV z.2.1) :: .row b2 39 [.slice X.pn X.N.ps.length X.cn, .int .i64 X.N.inputs, .slice X.qs X.N.syns.length X.cs] :: plnH X x) (fun z => X.N.ps.length - z.1) (0, [], none, 0) ⟨⟨rfl, Nat.zero_le _⟩, SoFar.nil hchip, rfl, fun h => by cases h⟩ aE (HLe.nilv aH) ?_
 rintro ⟨i, cores, q, cq⟩ ⟨⟨hci, hi⟩, hso, hpf, hq⟩
 dsimp only at hci hi hso hpf hq ⊢
 subst hci
 rcases Nat.lt_or_ge cores.length X.N.ps.length with hlt | hge
 ·have hst := placeF_take (C := X.C) (l := X.N.syns) (cores := cores) hlt
  rw [← hpf] at hst
  repeat' (conv => whnf); first | (refine VNew.mk fun b10 => ?_) | (refine VSeq.go ?_) | (refine VB.is ?_; refine VB.yes (by omega) fun _ => ?_) | (refine VLd.is ?_; refine VLd.mk (.row aT (by rfl)) ?_) | (refine VSt.is ?_; refine VSt.row aT (by rfl) (by first | rfl | assumption) ?_)
  all_goals (conv => whnf)
  rename_i bm
  obtain ⟨ic, hic⟩ : ∃ ic, cores.length = ic := ⟨_, rfl⟩
  rw [hic] at hlt hq ⊢
  refine VLoop.mk (α := Nat × List (Int × Value)) (fun z => z.1 ≤ X.N.syns.length ∧ CntIs z.2 (affM (X.N.syns.take z.1) (ic : Int) cores))
   (fun z => [(1000000, .tuple #[]), (2, .pointer (some ⟨b2, 0, none⟩)), (4, .slice none 0 0), (5, .int .i64 0), (6, .pointer (some ⟨x.b, 0, none⟩)), (8, .slice q ic cq), (9, .int .i64 (ic : Int)), (10, .pointer (some ⟨b10, 0, none⟩)), (27, .int .i64 (X.N.ps.length : Int)), (28, .int .i64 (ic : Int)), (33, .slice X.qs X.N.syns.length X.cs), (34, .int .i64 (X.N.syns.length : Int)), (35, .int .i64 (z.1 : Int))])
   (fun z => .row b10 126 [.map (some bm)] :: .map bm z.2 :: .vec q ic cq 3 1 (flat intV cores) :: .row b2 39 [.slice X.pn X.N.ps.length X.cn, .int .i64 X.N.inputs, .slice X.qs X.N.syns.length X.cs] :: plnH X x) (fun z => X.N.syns.length - z.1) (0, []) ⟨Nat.zero_le _, fun k => rfl⟩ aE aH ?_
  rintro ⟨j, m⟩ ⟨hj, hm⟩
  dsimp only at hj hm ⊢
  rcases Nat.lt_or_ge j X.N.syns.length with hlj | hgj
  ·obtain ⟨s, hsj⟩ := hs.get hlj
   have hsm := List.mem_of_getElem? hsj
   obtain ⟨ht0, ht1⟩ := hto s hsm
   have hfw := hwf s hsm
   unfold I64 at hfw
   have hnx := affM_next hsj (ic : Int) cores
   have hot := fun k => near_other (cores := cores) (s := s) ht0 k
   rw [hic] at hot
   have hsx : sub (synV s) 0 4 = some [.int .i64 s.frm, .int .i64 s.to, .int .i64 s.wt, .int .i64 s.dl] := rfl
   have hbound : ∀ k, affM (X.N.syns.take j) (ic : Int) cores k ≤ 8192 := fun k => by
    have h2 := List.countP_le_length (p := fun s => decide (near1 (ic : Int) cores k s)) (l := X.N.syns.take j)
    rw [List.length_take] at h2
    unfold affM; omega
   obtain ⟨f, hf⟩ : ∃ f, affM (X.N.syns.take j) (ic : Int) cores = f := ⟨_, rfl⟩
   rw [hf] at hm hnx hbound
   by_cases hA : (s.frm = (ic : Int) ∧ s.to < (ic : Int)) ∨ (s.to = (ic : Int) ∧ 0 ≤ s.frm ∧ s.frm < (ic : Int))
   ·obtain ⟨gq, rfl⟩ := hq (by omega)
    obtain ⟨e, he1, he2⟩ : ∃ e : Nat, e < cores.length ∧ ((s.frm = (ic : Int) ∧ s.to = (e : Int) ∧ e < ic) ∨ (s.to = (ic : Int) ∧ s.frm = (e : Int) ∧ e < ic)) := by
     rcases hA with h | h
     ·exact ⟨s.to.toNat, by omega, .inl ⟨h.1, by omega, by omega⟩⟩
     ·exact ⟨s.frm.toNat, by omega, .inr ⟨h.1, by omega, by omega⟩⟩
    obtain ⟨u, hu⟩ : ∃ u, cores[e]? = some u := ⟨_, List.getElem?_eq_getElem he1⟩
    have hok2 : otherK cores s = some u := by
     unfold otherK
     rw [hic]
     rcases he2 with ⟨h1, h2, h3⟩ | ⟨h1, h2, h3⟩
     ·rw [if_pos ⟨h1, by omega⟩, h2, Int.toNat_natCast, hu]
     ·rw [if_neg (fun h => by omega), if_pos ⟨h1, by omega, by omega⟩, h2, Int.toNat_natCast, hu]
    have hgn : ∀ k, affM (X.N.syns.take (j + 1)) (ic : Int) cores k = f k + if u = k then 1 else 0 := fun k => by
     rw [hnx k]
     congr 1
     by_cases e2 : u = k
     ·rw [if_pos e2, if_pos ((hot k).2 (by rw [hok2, e2]))]
     ·rw [if_neg e2, if_neg (fun h => e2 (by have := (hot k).1 h; rw [hok2] at this; exact Option.some.inj this))]
    have hadd := hm.add u hgn
    have hfu := hbound u
    clear hnx hot hok2 hgn hf hbound hpf hst hso hto hwf hg
    rcases hm.look u with ⟨hl, h0⟩ | ⟨hl, h0⟩
    ·rw [h0] at hadd
     clear hm
     rcases he2 with ⟨h1, h2, h3⟩ | ⟨h1, h2, h3⟩
     all_goals
      repeat' (conv => whnf); first | (refine VNew.mk fun b12 => ?_) | (refine VIx.is ?_; refine VIx.mk (hs.ptr (by omega)) (by omega) (by omega) ?_) | (refine VLd.is ?_; refine VLd.mk (Rd.cast (hs.rd0 (by simp) (fun _ => rfl) hsj hsx) (by first | omega | (dsimp only; omega) | rfl)) ?_) | (refine VIx.is ?_; refine VIx.mk rfl (by omega) (by omega) ?_) | (refine VLd.is ?_; refine VLd.mk (Rd.cast (.vec aT (sub_flat0 (f := intV) (k := 1) (fun _ => rfl) hu rfl)) (by first | omega | (dsimp only; omega) | rfl)) ?_) | (refine VMp.is ?_; refine VMp.mk aT ?_) | (refine VLk.is ?_; refine VLk.lacks hl ?_) | (refine VMpU.is ?_; refine VMpU.mk aT ?_) | (refine VSeq.go ?_) | (refine VB.is ?_; refine VB.yes (by omega) fun _ => ?_) | (refine VB.is ?_; refine VB.no (by omega) fun _ => ?_) | (refine VLd.is ?_; refine VLd.mk (.row aT (by rfl)) ?_) | (refine VSt.is ?_; refine VSt.row aT (by rfl) (by first | rfl | assumption) ?_) | (refine VAr.is ?_; refine oA ?_) | (refine VHs.mk _ (.refl _) ?_)
      all_goals (conv => whnf)
      exact VNext.mk (j + 1, mset m u (.int .i64 (((0 : Nat) : Int) + 1))) ⟨by dsimp only; omega, hadd⟩ (by dsimp only; omega) aE aH
    ·obtain ⟨n0, hn0⟩ : ∃ n, f u = n := ⟨_, rfl⟩
     rw [hn0] at hadd hl hfu
     clear hm h0 hn0
     rcases he2 with ⟨h1, h2, h3⟩ | ⟨h1, h2, h3⟩
     all_goals
      repeat' (conv => whnf); first | (refine VNew.mk fun b12 => ?_) | (refine VIx.is ?_; refine VIx.mk (hs.ptr (by omega)) (by omega) (by omega) ?_) | (refine VLd.is ?_; refine VLd.mk (Rd.cast (hs.rd0 (by simp) (fun _ => rfl) hsj hsx) (by first | omega | (dsimp only; omega) | rfl)) ?_) | (refine VIx.is ?_; refine VIx.mk rfl (by omega) (by omega) ?_) | (refine VLd.is ?_; refine VLd.mk (Rd.cast (.vec aT (sub_flat0 (f := intV) (k := 1) (fun _ => rfl) hu rfl)) (by first | omega | (dsimp only; omega) | rfl)) ?_) | (refine VMp.is ?_; refine VMp.mk aT ?_) | (refine VLk.is ?_; refine VLk.has hl ?_) | (refine VMpU.is ?_; refine VMpU.mk aT ?_) | (refine VSeq.go ?_) | (refine VB.is ?_; refine VB.yes (by omega) fun _ => ?_) | (refine VB.is ?_; refine VB.no (by omega) fun _ => ?_) | (refine VLd.is ?_; refine VLd.mk (.row aT (by rfl)) ?_) | (refine VSt.is ?_; refine VSt.row aT (by rfl) (by first | rfl | assumption) ?_) | (refine VAr.is ?_; refine oA ?_) | (refine VHs.mk _ (.refl _) ?_)
      all_goals (conv => whnf)
      exact VNext.mk (j + 1, mset m u (.int .i64 ((n0 : Int) + 1))) ⟨by dsimp only; omega, hadd⟩ (by dsimp only; omega) aE aH
   ·have hok2 : otherK cores s = none := by
     unfold otherK
     rw [hic, if_neg (fun h => hA (.inl h)), if_neg (fun h => hA (.inr h))]
    have hgn : affM (X.N.syns.take (j + 1)) (ic : Int) cores = f := by
     funext k
     rw [hnx k, if_neg (fun h => by have := (hot k).1 h; rw [hok2] at this; cases this)]
     rfl
    clear hnx hot hok2 hf hbound hpf hst hso hto hwf hg
    repeat' (conv => whnf); first | (refine VNew.mk fun b12 => ?_) | (refine VIx.is ?_; refine VIx.mk (hs.ptr (by omega)) (by omega) (by omega) ?_) | (refine VLd.is ?_; refine VLd.mk (Rd.cast (hs.rd0 (by simp) (fun _ => rfl) hsj hsx) (by first | omega | (dsimp only; omega) | rfl)) ?_) | (refine VSeq.go ?_) | (refine VB.is ?_; refine VB.yes (by omega) fun _ => ?_) | (refine VB.is ?_; refine VB.no (by omega) fun _ => ?_) | (refine VB.split (fun _ => ?_) (fun _ => ?_)) | (refine VLd.is ?_; refine VLd.mk (.row aT (by rfl)) ?_) | (refine VSt.is ?_; refine VSt.row aT (by rfl) (by first | rfl | assumption) ?_) | (refine VAr.is ?_; refine oA ?_)
    all_goals (conv => whnf)
    all_goals exact VNext.mk (j + 1, m) ⟨by dsimp only; omega, by dsimp only; rw [hgn]; exact hm⟩ (by dsimp only; omega) aE aH
  rw [List.take_of_length_le hgj] at hm
  have hus := used_any X x cores (by omega) (fun k hk => by have := (hso.core k hk).1; have := (nCores_ok hchip).1; omega)
  rw [hic] at hus
  clear hg
  repeat' (conv => whnf); first | (refine VNew.mk fun b7 => ?_) | (refine VCall.isF 63 ?_; (refine VCall.genR (fun w' hw' => Exists.elim (Sl.own (f := intV) (l := cores) (k := 1) hw' aT (fun _ => rfl) hic) fun b1 hb1 => hus _ _ b1 0 w' (PlnAt.of hok hup (hkeep w' _ hw') hw' aH) hb1) ?_; rintro gu _)) | (refine VCall.isF 62 ?_; refine VCall.inl (F := Tryz.fx62) Tryz.func62 rfl rfl rfl Tryz.ok62 ?_) | (refine VCall.isF 61 ?_; refine VCall.inl (F := Tryz.fx61) Tryz.func61 rfl rfl rfl Tryz.ok61 ?_) | (refine VRange.go (ms := []) rfl fun hokx hoky l d L hL => ?_) | (refine VSeq.go ?_) | (refine VB.is ?_; refine VB.no (by omega) fun _ => ?_) | (refine VSt.is ?_; refine VSt.row aT (by rfl) (by first | rfl | assumption) ?_)
  all_goals (conv => whnf)
  rename_i bP bU bI bF bV bW
  have hbound : ∀ k, affM X.N.syns (ic : Int) cores k ≤ 8192 := fun k => Nat.le_trans List.countP_le_length hfs
  refine spaces_iter X x cores (by omega) ic hlt hok (plnH X x) (fun w' hw' => PlnAt.of hok hup (hkeep w' _ hw') hw' (HLe.refl _)) gu l bU bP bI (α := Option (Int × Int)) (fun k acc => acc = firstL (fun k => -(affM X.N.syns (ic : Int) cores k : Int)) (spK X.C X.N.syns cores ic k)) (fun acc => L .ready none :: .obj d (.deferred (some [])) :: .row b7 4 [.bool acc.isSome] :: .row bW 3 [.int .i64 (acc.getD (0, 0)).2] :: .row bV 3 [.int .i64 (acc.getD (0, 0)).1] :: .row bF 122 [.func (.func 64) #[] #[.pointer (some ⟨b10, 0, none⟩)]] :: .row b10 126 [.map (some bm)] :: .map bm m :: .vec q ic cq 3 1 (flat intV cores) :: .row b2 39 [.slice X.pn X.N.ps.length X.cn, .int .i64 X.N.inputs, .slice X.qs X.N.syns.length X.cs] :: plnH X x) (fun acc => by exact aH) none rfl aH ?_ ?_ ?_
  ·rintro k acc hkn hsp hacc
   have hfy := first_yes (v := fun k => -(affM X.N.syns (ic : Int) cores k : Int)) hsp
   rw [← hacc] at hfy
   have hbk := hbound (k : Int)
   have hfN : flStep (fun k => -(affM X.N.syns (ic : Int) cores k : Int)) none (k : Int) = some ((k : Int), -(affM X.N.syns (ic : Int) cores (k : Int) : Int)) := rfl
   have hfS : ∀ bb mm : Int, flStep (fun k => -(affM X.N.syns (ic : Int) cores k : Int)) (some (bb, mm)) (k : Int) = if -(affM X.N.syns (ic : Int) cores (k : Int) : Int) < mm then some ((k : Int), -(affM X.N.syns (ic : Int) cores (k : Int) : Int)) else some (bb, mm) := fun _ _ => rfl
   obtain ⟨F2, hF2⟩ : ∃ F, firstL (fun k => -(affM X.N.syns (ic : Int) cores k : Int)) (spK X.C X.N.syns cores ic (k + 1)) = F := ⟨_, rfl⟩
   have hlk := hm.look (k : Int)
   obtain ⟨aN, haN⟩ : ∃ a, affM X.N.syns (ic : Int) cores (k : Int) = a := ⟨_, rfl⟩
   rw [hF2] at hfy ⊢
   rw [haN] at hlk hbk hfN hfS
   clear hacc hpf hst hso hus hm hF2 haN hbound
   refine VYield.go hL hokx hoky aT rfl ?_
   rcases acc with _ | ⟨bb, mm⟩
   ·rw [hfN] at hfy
    subst hfy
    dsimp only [Option.isSome, Option.getD]
    rcases hlk with ⟨hl, h0⟩ | ⟨hl, h0⟩
    ·subst h0
     repeat' (conv => whnf); first | (refine VBegin.is ?_; refine VBegin.mk aT ?_) | (refine VCall.isF 64 ?_; refine VCall.inl (F := Tryz.fx64) Tryz.func64 rfl rfl rfl Tryz.ok64 ?_) | (refine VMp.is ?_; refine VMp.mk aT ?_) | (refine VLk.is ?_; refine VLk.lacks hl ?_) | (refine VSeq.go ?_) | (refine VB.split (fun _ => ?_) (fun _ => ?_)) | (refine VLd.is ?_; refine VLd.mk (.row aT (by rfl)) ?_) | (refine VSt.is ?_; refine VSt.row aT (by rfl) (by first | rfl | assumption) ?_) | (refine VAr.is ?_; refine oA ?_)
     all_goals (conv => whnf)
     refine VRound.mk aT ?_
     exact .inl ⟨rfl, _, rfl, by exact aH⟩
    ·repeat' (conv => whnf); first | (refine VBegin.is ?_; refine VBegin.mk aT ?_) | (refine VCall.isF 64 ?_; refine VCall.inl (F := Tryz.fx64) Tryz.func64 rfl rfl rfl Tryz.ok64 ?_) | (refine VMp.is ?_; refine VMp.mk aT ?_) | (refine VLk.is ?_; refine VLk.has hl ?_) | (refine VSeq.go ?_) | (refine VB.split (fun _ => ?_) (fun _ => ?_)) | (refine VLd.is ?_; refine VLd.mk (.row aT (by rfl)) ?_) | (refine VSt.is ?_; refine VSt.row aT (by rfl) (by first | rfl | assumption) ?_) | (refine VAr.is ?_; refine oA ?_)
     all_goals (conv => whnf)
     refine VRound.mk aT ?_
     refine .inl ⟨rfl, _, rfl, ?_⟩
     dsimp only [Option.isSome, Option.getD]
     rw [← Int.zero_sub (aN : Int)]
     exact aH
   ·rw [hfS] at hfy
    dsimp only [Option.isSome, Option.getD]
    rcases hlk with ⟨hl, h0⟩ | ⟨hl, h0⟩
    ·subst h0
     repeat' (conv => whnf); first | (refine VBegin.is ?_; refine VBegin.mk aT ?_) | (refine VCall.isF 64 ?_; refine VCall.inl (F := Tryz.fx64) Tryz.func64 rfl rfl rfl Tryz.ok64 ?_) | (refine VMp.is ?_; refine VMp.mk aT ?_) | (refine VLk.is ?_; refine VLk.lacks hl ?_) | (refine VSeq.go ?_) | (refine VB.split (fun _ => ?_) (fun _ => ?_)) | (refine VLd.is ?_; refine VLd.mk (.row aT (by rfl)) ?_) | (refine VSt.is ?_; refine VSt.row aT (by rfl) (by first | rfl | assumption) ?_) | (refine VAr.is ?_; refine oA ?_)
     all_goals (conv => whnf)
     ·rw [if_pos (by omega)] at hfy
      subst hfy
      refine VRound.mk aT ?_
      exact .inl ⟨rfl, _, rfl, by exact aH⟩
     ·rw [if_neg (by omega)] at hfy
      subst hfy
      refine VRound.mk aT ?_
      exact .inl ⟨rfl, _, rfl, by exact aH⟩
    ·repeat' (conv => whnf); first | (refine VBegin.is ?_; refine VBegin.mk aT ?_) | (refine VCall.isF 64 ?_; refine VCall.inl (F := Tryz.fx64) Tryz.func64 rfl rfl rfl Tryz.ok64 ?_) | (refine VMp.is ?_; refine VMp.mk aT ?_) | (refine VLk.is ?_; refine VLk.has hl ?_) | (refine VSeq.go ?_) | (refine VB.split (fun _ => ?_) (fun _ => ?_)) | (refine VLd.is ?_; refine VLd.mk (.row aT (by rfl)) ?_) | (refine VSt.is ?_; refine VSt.row aT (by rfl) (by first | rfl | assumption) ?_) | (refine VAr.is ?_; refine oA ?_)
     all_goals (conv => whnf)
     ·rw [if_pos (by omega)] at hfy
      subst hfy
      refine VRound.mk aT ?_
      refine .inl ⟨rfl, _, rfl, ?_⟩
      dsimp only [Option.isSome, Option.getD]
      rw [← Int.zero_sub (aN : Int)]
      exact aH
     ·rw [if_neg (by omega)] at hfy
      subst hfy
      refine VRound.mk aT ?_
      exact .inl ⟨rfl, _, rfl, by exact aH⟩
  ·rintro k acc hkn hsp hacc
   rw [first_no hsp]
   exact hacc
  ·rintro acc hacc
   have hstep : stepP X.C X.N.syns cores = acc := by rw [hacc]; unfold stepP; rw [hic, spK_all]
   rw [hstep] at hst
   have hspc := fun bb mm (h : acc = some (bb, mm)) => stepP_space (hstep.trans h)
   clear hacc hus hbound hm hpf
   rcases acc with _ | ⟨bb, mm⟩
   ·dsimp only at hst
    rw [hst]
    dsimp only [Option.isSome, Option.getD]
    repeat' (conv => whnf); first | (refine VEnd.is ?_; refine VEnd.mk aT (by simp) ?_) | (refine VUn.is ?_; refine VUn.mk aT ?_) | (refine VSeq.go ?_) | (refine VLd.is ?_; refine VLd.mk (.row aT (by rfl)) ?_) | (refine VHs.mk _ (.refl _) ?_)
    all_goals (conv => whnf)
    exact ⟨fun w' hw' => ⟨(none, 0), rfl, (fun h => by cases h), hw'.le (HLe.nilv .nil)⟩⟩
   ·dsimp only at hst
    obtain ⟨g1, g2⟩ := hspc bb mm rfl
    have hso2 := hso.snoc g1 g2
    dsimp only [Option.isSome, Option.getD]
    repeat' (conv => whnf); first | (refine VEnd.is ?_; refine VEnd.mk aT (by simp) ?_) | (refine VUn.is ?_; refine VUn.mk aT ?_) | (refine VNew.mk fun bn => ?_) | (refine VAp.is ?_; refine VAp.own aT (.at_ (.vec aT rfl)) (by simp [Value.oneCell']) (by (try dsimp only); omega) (by simp only [maxLen]; omega) fun p' cap' hp' => ?_) | (refine VSeq.go ?_) | (refine VLd.is ?_; refine VLd.mk (.row aT (by rfl)) ?_) | (refine VAr.is ?_; refine oA ?_) | (refine VHs.mk _ (.refl _) ?_)
    all_goals (conv => whnf)
    refine VNext.mk (ic + 1, cores ++ [bb], p', cap') ⟨⟨by dsimp only; rw [List.length_append, hic]; rfl, by dsimp only; omega⟩, hso2, by dsimp only; rw [hst, hic], fun _ => hp' (by omega)⟩ (by dsimp only; omega) ?_ ?_
    ·dsimp only
     rw [List.length_append, hic]
     exact aE
    ·dsimp only
     rw [List.length_append, hic, flat_append]
     exact aH
 ·have hcl : cores.length = X.N.ps.length := by omega
  rw [hcl, Nat.sub_self, placeF] at hpf
  rw [hpf]
  repeat' (conv => whnf); first | (refine VSeq.go ?_) | (refine VB.is ?_; refine VB.no (by omega) fun _ => ?_)
  all_goals (conv => whnf)
  exact ⟨fun w' hw' => ⟨(q, cq), rfl, hq, hw'.le aH⟩⟩

end Go.Proofs
