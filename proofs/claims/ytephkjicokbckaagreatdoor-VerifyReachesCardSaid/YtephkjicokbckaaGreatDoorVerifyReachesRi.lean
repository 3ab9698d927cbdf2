import Derived.Test.YtephkjicokbckaaGreatDoorVerifyReachesRh
set_option linter.unusedVariables false

set_option linter.unusedSimpArgs false

namespace Go.Proofs

open Go Go.Vx Go.Gm

def AgreeAt (X Y : RSim) (i : Nat) : Prop := X.sts[i]? = Y.sts[i]? ∧ ∀ d : Nat, d < 16 → ((X.D[d]?.map (·.l)).getD [])[i]? = ((Y.D[d]?.map (·.l)).getD [])[i]?

theorem agree_all {X Y : RSim} (hX : RSimOk X) (hY : RSimOk Y) (hN : Y.N = X.N) (h : ∀ i, i < X.N.ps.length → AgreeAt X Y i) : smR X = smR Y := by
  have h1 := hX.sts
  have h2 := hY.sts
  rw [hN] at h2
  have e1 : X.sts = Y.sts := by
    apply List.ext_getElem?
    intro i
    by_cases hi : i < X.N.ps.length
    · exact (h i hi).1
    · rw [List.getElem?_eq_none (by omega), List.getElem?_eq_none (by omega)]
  have e2 : X.D.map (·.l) = Y.D.map (·.l) := by
    have g1 := hX.due
    have g2 := hY.due
    apply List.ext_getElem?
    intro d
    by_cases hd : d < 16
    · obtain ⟨x, hx⟩ : ∃ x, X.D[d]? = some x := ⟨X.D[d]'(by omega), List.getElem?_eq_getElem _⟩
      obtain ⟨y, hy⟩ : ∃ y, Y.D[d]? = some y := ⟨Y.D[d]'(by omega), List.getElem?_eq_getElem _⟩
      rw [List.getElem?_map, List.getElem?_map, hx, hy, Option.map_some, Option.map_some]
      congr 1
      have l1 := hX.cells x (List.mem_of_getElem? hx)
      have l2 := hY.cells y (List.mem_of_getElem? hy)
      rw [hN] at l2
      apply List.ext_getElem?
      intro i
      by_cases hi : i < X.N.ps.length
      · have := (h i hi).2 d hd
        rw [hx, hy] at this
        exact this
      · rw [List.getElem?_eq_none (by omega), List.getElem?_eq_none (by omega)]
    · rw [List.getElem?_eq_none (by rw [List.length_map]; omega), List.getElem?_eq_none (by rw [List.length_map]; omega)]
  unfold smR
  rw [e1, e2]

theorem agree_of {X Y : RSim} (h : smR X = smR Y) (i : Nat) : AgreeAt X Y i := by
  unfold smR at h
  simp only [Sm.mk.injEq] at h
  refine ⟨by rw [h.1], fun d _ => ?_⟩
  rw [← List.getElem?_map, ← List.getElem?_map, h.2]

set_option maxHeartbeats 3200000 in
theorem rsame_any (x y : RNd) (hx : RRun x.sim) (hy : RRun y.sim) (hN : y.sim.N = x.sim.N) (hsh : y.shown.l.length = x.shown.l.length) (h8 : x.shown.l.length ≤ 1000) (w : World) (rx : RNdRd w x) (ry : RNdRd w y) :
    Calls Tryz.prog 74 #[.agg (rndV x).toArray, .agg (rndV y).toArray] w fun e w' => ∃ c : Bool, e = .returned (.bool c) ∧ (c = true ↔ x.left = y.left ∧ x.shown.l = y.shown.l ∧ smR x.sim = smR y.sim) ∧ St w [] [] w' := by
  obtain ⟨⟨hcx, hsx, ⟨bdx, odx, hdx⟩, hux⟩, ⟨b1, o1, hshx⟩, _⟩ := rx
  obtain ⟨⟨hcy, hsy, ⟨bdy, ody, hdy⟩, huy⟩, ⟨b2, o2, hshy⟩, _⟩ := ry
  obtain ⟨X, l1, ⟨p1, c1, S1⟩, ⟨p2, c2, R1⟩⟩ := x
  obtain ⟨Y, l2, ⟨p3, c3, S2⟩, ⟨p4, c4, R2⟩⟩ := y
  dsimp only at *
  rw [show rndV ⟨X, l1, ⟨p1, c1, S1⟩, ⟨p2, c2, R1⟩⟩ = [.pointer (some ⟨X.b, 0, none⟩), .int .i64 l1, .slice p1 S1.length c1, .slice p2 R1.length c2] from rfl]
  rw [show rndV ⟨Y, l2, ⟨p3, c3, S2⟩, ⟨p4, c4, R2⟩⟩ = [.pointer (some ⟨Y.b, 0, none⟩), .int .i64 l2, .slice p3 S2.length c3, .slice p4 R2.length c4] from rfl]
  obtain ⟨n, hn⟩ : ∃ n, X.N.ps.length = n := ⟨_, rfl⟩
  have hfew := hx.ok.net.few
  have h1 := hx.ok.sts
  have h2 := hy.ok.sts
  have h3 := hx.ok.due
  have h4 := hy.ok.due
  have hcellx := hx.ok.cells
  have hcelly := hy.ok.cells
  rw [hN] at h2 hcelly
  rw [hn] at h1 h2 hcellx hcelly hfew
  have k4x : sub (rsimC X) 4 1 = some [.slice (some ⟨X.sb, 0, none⟩) X.sts.length X.sc] := rfl
  have k5x : sub (rsimC X) 5 1 = some [.slice X.dp X.D.length X.dc] := rfl
  have k4y : sub (rsimC Y) 4 1 = some [.slice (some ⟨Y.sb, 0, none⟩) Y.sts.length Y.sc] := rfl
  have k5y : sub (rsimC Y) 5 1 = some [.slice Y.dp Y.D.length Y.dc] := rfl
  rw [h1] at k4x hsx
  rw [h2] at k4y hsy
  rw [h3] at k5x hdx
  rw [h4] at k5y hdy
  rw [hsh] at hshy ⊢
  obtain ⟨CX, hCX⟩ : ∃ c, rsimC X = c := ⟨_, rfl⟩
  obtain ⟨CY, hCY⟩ : ∃ c, rsimC Y = c := ⟨_, rfl⟩
  rw [hCX] at hcx k4x k5x
  rw [hCY] at hcy k4y k5y
  have hfin : ∀ w' H, St w [] H w' → ¬ (l1 = l2 ∧ S1 = S2 ∧ smR X = smR Y) → ∃ c : Bool, Ending.returned (.bool false) = .returned (.bool c) ∧ (c = true ↔ l1 = l2 ∧ S1 = S2 ∧ smR X = smR Y) ∧ St w [] [] w' := by
    intro w' H hw' hne
    exact ⟨false, rfl, ⟨fun h => (by cases h), fun h => absurd h hne⟩, hw'.le .nil⟩
  refine enter (C := Tryz.cx) (F := Tryz.fx74) (args := [_, _]) Tryz.func74 rfl rfl rfl Tryz.ok74 (St.start w []) ?_
  repeat' (conv => whnf); first | (refine VNew.mk fun bb => ?_) | (refine VSeq.go ?_) | (refine VB.split (fun _ => ?_) (fun _ => ?_)) | (refine VLd.is ?_; refine VLd.mk (.row aT (by rfl)) ?_)
  all_goals (conv => whnf)
  · exact ⟨fun w' hw' => hfin w' _ hw' fun h => by omega⟩
  have hl : l1 = l2 := by omega
  rename_i ba _
  refine VLoop.mk (α := Nat) (fun k => k ≤ S1.length ∧ S1.take k = S2.take k) (fun k => [(1000000, .tuple #[]), (2, .pointer (some ⟨ba, 0, none⟩)), (3, .pointer (some ⟨bb, 0, none⟩)), (4, .bool false), (5, .int .i64 (k : Int))])
    (fun _ => [.row ba 121 [.pointer (some ⟨X.b, 0, none⟩), .int .i64 l1, .slice p1 S1.length c1, .slice p2 R1.length c2], .row bb 121 [.pointer (some ⟨Y.b, 0, none⟩), .int .i64 l2, .slice p3 S1.length c3, .slice p4 R2.length c4]]) (fun k => S1.length - k) 0 ⟨by omega, rfl⟩ aE aH ?_
  rintro k ⟨hk, htk⟩
  rcases Nat.lt_or_ge k S1.length with hlt | hge
  · obtain ⟨a, ha⟩ := hshx.get hlt
    obtain ⟨b, hb⟩ := hshy.get hlt
    repeat' (conv => whnf); first | (refine VIx.is ?_; refine VIx.mk (hshx.ptr (by omega)) (by omega) (by omega) ?_) | (refine VIx.is ?_; refine VIx.mk (hshy.ptr (by omega)) (by omega) (by omega) ?_) | (refine VLd.is ?_; refine VLd.mk (Rd.cast (hshx.rd0 (by simp) (fun _ => rfl) ha rfl) (by first | omega | (dsimp only; omega) | rfl)) ?_) | (refine VLd.is ?_; refine VLd.mk (Rd.cast (hshy.rd0 (by simp) (fun _ => rfl) hb rfl) (by first | omega | (dsimp only; omega) | rfl)) ?_) | (refine VSeq.go ?_) | (refine VB.is ?_; refine VB.yes (by omega) fun _ => ?_) | (refine VB.split (fun _ => ?_) (fun _ => ?_)) | (refine VLd.is ?_; refine VLd.mk (.row aT (by rfl)) ?_) | (refine VAr.is ?_; refine oA ?_) | (refine VHs.mk _ (.refl _) ?_)
    all_goals (conv => whnf)
    all_goals first
      | (refine VNext.mk (k + 1) ⟨by omega, ?_⟩ (by omega) aE aH
         have hab : a = b := by cases a <;> cases b <;> simp_all
         rw [List.take_add_one, List.take_add_one, ha, hb, htk, hab])
      | (refine ⟨fun w' hw' => hfin w' _ hw' fun h => ?_⟩
         have h2 := h.2.1
         subst h2
         rw [ha, Option.some.injEq] at hb
         subst hb
         simp_all)
  have hkS : k = S1.length := by omega
  subst hkS
  have hSS : S1 = S2 := by rwa [List.take_length, List.take_of_length_le (by omega)] at htk
  repeat' (conv => whnf); first | (refine VSeq.go ?_) | (refine VB.is ?_; refine VB.no (by omega) fun _ => ?_) | (refine VLd.is ?_; refine VLd.mk (.row aT (by rfl)) ?_)
  all_goals (conv => whnf)
  refine VLoop.mk (α := Nat) (fun i => i ≤ n ∧ ∀ j, j < i → AgreeAt X Y j) (fun i => [(1000000, .tuple #[]), (2, .pointer (some ⟨ba, 0, none⟩)), (3, .pointer (some ⟨bb, 0, none⟩)), (4, .bool false), (6, .int .i64 (i : Int))])
    (fun _ => [.row ba 121 [.pointer (some ⟨X.b, 0, none⟩), .int .i64 l1, .slice p1 S1.length c1, .slice p2 R1.length c2], .row bb 121 [.pointer (some ⟨Y.b, 0, none⟩), .int .i64 l2, .slice p3 S1.length c3, .slice p4 R2.length c4]]) (fun i => n - i) 0 ⟨by omega, fun j hj => by omega⟩ aE aH ?_
  rintro i ⟨hi, hag⟩
  rcases Nat.lt_or_ge i n with hin | hin
  rotate_left
  · have hni : i = n := by omega
    subst hni
    have hsm := agree_all hx.ok hy.ok hN fun j hj => hag j (by omega)
    repeat' (conv => whnf); first | (refine VLd.is ?_; refine VLd.mk (Rd.cast (.old (hcx.part k4x) rfl (by simp)) (by first | omega | (dsimp only; omega) | rfl)) ?_) | (refine VSeq.go ?_) | (refine VB.is ?_; refine VB.no (by omega) fun _ => ?_) | (refine VLd.is ?_; refine VLd.mk (.row aT (by rfl)) ?_)
    all_goals (conv => whnf)
    exact ⟨fun w' hw' => ⟨true, rfl, ⟨fun _ => ⟨hl, hSS, hsm⟩, fun _ => rfl⟩, hw'.le .nil⟩⟩
  obtain ⟨sx, hsxi⟩ := hsx.get hin
  obtain ⟨sy, hsyi⟩ := hsy.get hin
  repeat' (conv => whnf); first | (refine VLd.is ?_; refine VLd.mk (Rd.cast (.old (hcx.part k4x) rfl (by simp)) (by first | omega | (dsimp only; omega) | rfl)) ?_) | (refine VLd.is ?_; refine VLd.mk (Rd.cast (.old (hcy.part k4y) rfl (by simp)) (by first | omega | (dsimp only; omega) | rfl)) ?_) | (refine VIx.is ?_; refine VIx.mk rfl (by omega) (by omega) ?_) | (refine VLd.is ?_; refine VLd.mk (Rd.cast (hsx.rd0 (by simp) (fun _ => rfl) hsxi rfl) (by first | omega | (dsimp only; omega) | rfl)) ?_) | (refine VLd.is ?_; refine VLd.mk (Rd.cast (hsy.rd0 (by simp) (fun _ => rfl) hsyi rfl) (by first | omega | (dsimp only; omega) | rfl)) ?_) | (refine VSeq.go ?_) | (refine VB.is ?_; refine VB.yes (by omega) fun _ => ?_) | (refine VB.split (fun _ => ?_) (fun _ => ?_)) | (refine VLd.is ?_; refine VLd.mk (.row aT (by rfl)) ?_) | (refine VHs.mk _ (.refl _) ?_)
  all_goals (conv => whnf)
  · refine ⟨fun w' hw' => hfin w' _ hw' fun h => ?_⟩
    have h3 := (agree_of h.2.2 i).1
    rw [hsxi, hsyi, Option.some.injEq] at h3
    subst h3
    exact absurd ⟨rfl, rfl, trivial⟩ ‹¬ (sx.v = sx.v ∧ sx.rest = sx.rest ∧ True)›
  have hss : sx = sy := by
    have h1 : sx.v = sy.v ∧ sx.rest = sy.rest := by simp only [and_true] at *; omega
    cases sx; cases sy; simp only [Sta.mk.injEq]; exact h1
  refine VLoop.mk (α := Nat) (fun d => d ≤ 16 ∧ ∀ e, e < d → ((X.D[e]?.map (·.l)).getD [])[i]? = ((Y.D[e]?.map (·.l)).getD [])[i]?) (fun d => [(1000000, .tuple #[]), (2, .pointer (some ⟨ba, 0, none⟩)), (3, .pointer (some ⟨bb, 0, none⟩)), (4, .bool false), (6, .int .i64 (i : Int)), (7, .int .i64 (d : Int))])
    (fun _ => [.row ba 121 [.pointer (some ⟨X.b, 0, none⟩), .int .i64 l1, .slice p1 S1.length c1, .slice p2 R1.length c2], .row bb 121 [.pointer (some ⟨Y.b, 0, none⟩), .int .i64 l2, .slice p3 S1.length c3, .slice p4 R2.length c4]]) (fun d => 16 - d) 0 ⟨by omega, fun j hj => by omega⟩ aE aH ?_
  rintro d ⟨hd, hdd⟩
  rcases Nat.lt_or_ge d 16 with hd16 | hd16
  rotate_left
  · have : d = 16 := by omega
    subst this
    repeat' (conv => whnf); first | (refine VLd.is ?_; refine VLd.mk (Rd.cast (.old (hcx.part k5x) rfl (by simp)) (by first | omega | (dsimp only; omega) | rfl)) ?_) | (refine VSeq.go ?_) | (refine VB.is ?_; refine VB.no (by omega) fun _ => ?_) | (refine VLd.is ?_; refine VLd.mk (.row aT (by rfl)) ?_) | (refine VAr.is ?_; refine oA ?_)
    all_goals (conv => whnf)
    refine VNext.mk (i + 1) ⟨by omega, fun j hj => ?_⟩ (by omega) aE aH
    by_cases hji : j = i
    · subst hji
      exact ⟨by rw [hsxi, hsyi, hss], hdd⟩
    · exact hag j (by omega)
  obtain ⟨dx, hdxi⟩ : ∃ x, X.D[d]? = some x := ⟨X.D[d]'(by omega), List.getElem?_eq_getElem _⟩
  obtain ⟨dy, hdyi⟩ : ∃ x, Y.D[d]? = some x := ⟨Y.D[d]'(by omega), List.getElem?_eq_getElem _⟩
  have hmx := List.mem_of_getElem? hdxi
  have hmy := List.mem_of_getElem? hdyi
  have hlx := hcellx dx hmx
  have hly := hcelly dy hmy
  have hrx := hux dx hmx
  have hry := huy dy hmy
  obtain ⟨u, hu⟩ := hrx.get (i := i) (by omega)
  obtain ⟨v, hv⟩ := hry.get (i := i) (by omega)
  have hgx : (X.D.map fun d => (⟨some ⟨d.g, 0, none⟩, d.cap, d.l⟩ : SlD Int))[d]? = some ⟨some ⟨dx.g, 0, none⟩, dx.cap, dx.l⟩ := by rw [List.getElem?_map, hdxi]; rfl
  have hgy : (Y.D.map fun d => (⟨some ⟨d.g, 0, none⟩, d.cap, d.l⟩ : SlD Int))[d]? = some ⟨some ⟨dy.g, 0, none⟩, dy.cap, dy.l⟩ := by rw [List.getElem?_map, hdyi]; rfl
  have vgx : sub (slVs (⟨some ⟨dx.g, 0, none⟩, dx.cap, dx.l⟩ : SlD Int)) 0 1 = some [.slice (some ⟨dx.g, 0, none⟩) n dx.cap] := by rw [← hlx]; rfl
  have vgy : sub (slVs (⟨some ⟨dy.g, 0, none⟩, dy.cap, dy.l⟩ : SlD Int)) 0 1 = some [.slice (some ⟨dy.g, 0, none⟩) n dy.cap] := by rw [← hly]; rfl
  repeat' (conv => whnf); first | (refine VLd.is ?_; refine VLd.mk (Rd.cast (.old (hcx.part k5x) rfl (by simp)) (by first | omega | (dsimp only; omega) | rfl)) ?_) | (refine VLd.is ?_; refine VLd.mk (Rd.cast (.old (hcy.part k5y) rfl (by simp)) (by first | omega | (dsimp only; omega) | rfl)) ?_) | (refine VIx.is ?_; refine VIx.mk (hdx.ptr (by omega)) (by omega) (by omega) ?_) | (refine VIx.is ?_; refine VIx.mk (hdy.ptr (by omega)) (by omega) (by omega) ?_) | (refine VIx.is ?_; refine VIx.mk rfl (by omega) (by omega) ?_) | (refine VLd.is ?_; refine VLd.mk (Rd.cast (hdx.rd0 (by simp) (fun _ => rfl) hgx vgx) (by first | omega | (dsimp only; omega) | rfl)) ?_) | (refine VLd.is ?_; refine VLd.mk (Rd.cast (hdy.rd0 (by simp) (fun _ => rfl) hgy vgy) (by first | omega | (dsimp only; omega) | rfl)) ?_) | (refine VLd.is ?_; refine VLd.mk (Rd.cast (hrx.rd0 (by simp) (fun _ => rfl) hu rfl) (by first | omega | (dsimp only; omega) | rfl)) ?_) | (refine VLd.is ?_; refine VLd.mk (Rd.cast (hry.rd0 (by simp) (fun _ => rfl) hv rfl) (by first | omega | (dsimp only; omega) | rfl)) ?_) | (refine VSeq.go ?_) | (refine VB.is ?_; refine VB.yes (by omega) fun _ => ?_) | (refine VB.split (fun _ => ?_) (fun _ => ?_)) | (refine VLd.is ?_; refine VLd.mk (.row aT (by rfl)) ?_) | (refine VAr.is ?_; refine oA ?_) | (refine VHs.mk _ (.refl _) ?_)
  all_goals (conv => whnf)
  · refine ⟨fun w' hw' => hfin w' _ hw' fun h => ?_⟩
    have h3 := (agree_of h.2.2 i).2 d hd16
    rw [hdxi, hdyi] at h3
    have h4 : dx.l[i]? = dy.l[i]? := h3
    rw [hu, hv, Option.some.injEq] at h4
    omega
  · refine VNext.mk (d + 1) ⟨by omega, fun e he => ?_⟩ (by omega) aE aH
    by_cases hed : e = d
    · subst hed
      rw [hdxi, hdyi]
      show dx.l[i]? = dy.l[i]?
      rw [hu, hv]
      congr 1
      omega
    · exact hdd e (by omega)

end Go.Proofs
