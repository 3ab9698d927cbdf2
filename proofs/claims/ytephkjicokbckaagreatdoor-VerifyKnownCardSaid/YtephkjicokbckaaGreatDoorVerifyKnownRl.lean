import Derived.Test.YtephkjicokbckaaGreatDoorVerifyKnownRk
import Derived.Test.YtephkjicokbckaaGreatDoorVerifyKnownEb
import Derived.Test.YtephkjicokbckaaGreatDoorVerifyKnownStp
set_option linter.unusedVariables false

set_option linter.unusedSimpArgs false

namespace Go.Proofs

open Go Go.Vx Go.Gm

set_option maxHeartbeats 16000000 in
theorem vReach_any (N : Net) (hN : N.wf) (v : Sur) (hfw : ∀ x ∈ v.fixed, x.wf) (hmo : I64 v.most) (Ls : List MomD) (ticks : Int) (hti : I64 ticks) (pn : Option Addr) (cn bn on : Nat) (qs : Option Addr) (cs bs os : Nat) (pf : Option Addr) (cf bf of : Nat) (px : Option Addr) (cx bx ox : Nat) (pl : Option Addr) (cl bl ol : Nat) (w : World)
    (h1 : Sl w parV 8 N.ps pn N.ps.length bn on) (h2 : Sl w synV 4 N.syns qs N.syns.length bs os) (h3 : Sl w intV 1 v.free pf v.free.length bf of) (h4 : Sl w evtV 2 v.fixed px v.fixed.length bx ox) (hcx : v.fixed.length ≤ cx) (h5 : Sl w momV 2 Ls pl Ls.length bl ol) (h6 : ∀ x ∈ Ls, MomOk w x) (hnl : N.ps.length ≤ 1000000000) (htab : PowTab w) :
    Calls Tryz.prog 18 #[.agg #[.slice pn N.ps.length cn, .int .i64 N.inputs, .slice qs N.syns.length cs], .agg (envC pf cf px cx v).toArray, .slice pl Ls.length cl, .int .i64 ticks] w fun e w' => ∃ y : Option Addr × Nat,
      e = .returned (.tuple #[.slice y.1 (rchRes N v (Ls.map (·.mom)) ticks).1.length y.2, .int .i64 (rchRes N v (Ls.map (·.mom)) ticks).2.1, .bool (rchRes N v (Ls.map (·.mom)) ticks).2.2.1, .int .i64 (rchRes N v (Ls.map (·.mom)) ticks).2.2.2]) ∧
      (0 < (rchRes N v (Ls.map (·.mom)) ticks).1.length → ∃ g, y.1 = some ⟨g, 0, none⟩) ∧ St w [] [.vec y.1 (rchRes N v (Ls.map (·.mom)) ticks).1.length y.2 64 2 (flat evtV (rchRes N v (Ls.map (·.mom)) ticks).1)] w' := by
  unfold I64 at hti
  have hlm : (Ls.map (·.mom)).length = Ls.length := List.length_map ..
  obtain ⟨pat, hpat⟩ : ∃ pat, Ls.map (·.mom) = pat := ⟨_, rfl⟩
  have hVP := fun w' => vpat_any N.ps.length hnl Ls pn cn (.int .i64 N.inputs) (.slice qs N.syns.length cs) rfl pl cl bl ol w'
  rw [hpat] at hlm hVP ⊢
  have hfin : ∀ w' H, St w [] H w' → ∀ E, rchRes N v pat ticks = ([], 0, false, E) → ∃ y : Option Addr × Nat, Ending.returned (.tuple #[.slice none 0 0, .int .i64 0, .bool false, .int .i64 E]) = .returned (.tuple #[.slice y.1 (rchRes N v pat ticks).1.length y.2, .int .i64 (rchRes N v pat ticks).2.1, .bool (rchRes N v pat ticks).2.2.1, .int .i64 (rchRes N v pat ticks).2.2.2]) ∧
      (0 < (rchRes N v pat ticks).1.length → ∃ g, y.1 = some ⟨g, 0, none⟩) ∧ St w [] [.vec y.1 (rchRes N v pat ticks).1.length y.2 64 2 (flat evtV (rchRes N v pat ticks).1)] w' := by
    intro w' H hw' E hE
    rw [hE]
    exact ⟨(none, 0), rfl, by simp, hw'.le (HLe.nilv .nil)⟩
  obtain ⟨envc, henvc⟩ : ∃ e, envC pf cf px cx v = e := ⟨_, rfl⟩
  refine enter (C := Tryz.cx) (F := Tryz.fx18) (args := [_, _, _, _]) Tryz.func18 rfl rfl rfl Tryz.ok18 (St.start w []) ?_
  repeat' (conv => whnf); first | (refine VCall.isF 54 ?_; refine VCall.inl (F := Tryz.fx54) Tryz.func54 rfl rfl rfl Tryz.ok54 ?_) | (refine VCall.isF 47 ?_; refine VCall.inl (F := Tryz.fx47) Tryz.func47 rfl rfl rfl Tryz.ok47 ?_) | (refine VSeq.go ?_) | (refine VNew.mk fun _ => ?_)
  all_goals (conv => whnf)
  rename_i b4 b5 b6 b8 b9 b10 b11 b7 gf
  have hone : oneAll [.slice pn N.ps.length cn, .int .i64 N.inputs, .slice qs N.syns.length cs] = true := rfl
  refine VLoop.mk (α := Nat) (fun i => i ≤ 4 ∧ (1 ≤ i → netchk N = 0) ∧ (2 ≤ i → surErr N v = 0) ∧ (3 ≤ i → patErr N.ps.length pat = 0) ∧ (4 ≤ i → tmE ticks = 0))
    (fun i => [(1000000, .tuple #[]), (2, .int .i64 0), (6, .slice (some ⟨gf, 0, none⟩) 4 4), (7, .int .i64 4), (8, .int .i64 (i : Int))])
    (fun _ => [.vec (some ⟨gf, 0, none⟩) 4 4 93 1 [.func (.func 48) #[] #[.pointer (some ⟨b4, 0, none⟩)], .func (.func 50) #[] #[.pointer (some ⟨b5, 0, none⟩), .pointer (some ⟨b4, 0, none⟩)], .func (.func 52) #[] #[.pointer (some ⟨b4, 0, none⟩), .pointer (some ⟨b6, 0, none⟩)], .func (.func 121) #[] #[.pointer (some ⟨b7, 0, none⟩)]],
      .row b4 25 [.slice pn N.ps.length cn, .int .i64 N.inputs, .slice qs N.syns.length cs], .row b7 3 [.int .i64 ticks], .row b5 29 (envC pf cf px cx v), .row b6 30 [.slice pl Ls.length cl], .row b8 27 [.slice none 0 0], .row b9 3 [.int .i64 0], .row b10 4 [.bool false], .row b11 34 [.int .i64 0]]) (fun i => 4 - i) 0 (by omega) aE aH ?_
  rintro i ⟨hi, f1, f2, f3, f4⟩
  have hi5 : i = 0 ∨ i = 1 ∨ i = 2 ∨ i = 3 ∨ i = 4 := by omega
  rcases hi5 with rfl | rfl | rfl | rfl | rfl
  · repeat' (conv => whnf); first | (refine VLd.is ?_; refine VLd.mk (.vec aT rfl) ?_) | (refine VCall.isF 48 ?_; refine VCall.inl (F := Tryz.fx48) Tryz.func48 rfl rfl rfl Tryz.ok48 ?_) | (refine VCall.isF 49 ?_; refine VCall.valR (fun w' hw' => Check_any N hN _ _ _ _ _ _ _ _ _ (h1.keep hw' (by simp)) (h2.keep hw' (by simp))) ?_) | (refine VSeq.go ?_) | (refine VB.is ?_; refine VB.yes (by omega) fun _ => ?_) | (refine VB.split (fun _ => ?_) (fun _ => ?_)) | (refine VLd.is ?_; refine VLd.mk (.row aT (by rfl)) ?_) | (refine VSt.is ?_; refine VSt.row aT (by rfl) (by first | rfl | assumption) ?_) | (refine VAr.is ?_; refine oA ?_) | (refine VIx.is ?_; refine VIx.mk rfl (by omega) (by omega) ?_)
    all_goals (conv => whnf)
    all_goals first
      | exact VNext.mk 1 (by omega) (by omega) aE aH
      | (have he : rchErr N v pat ticks = netchk N := by unfold rchErr; rw [if_pos (by omega)]
         exact ⟨fun w' hw' => hfin w' _ hw' _ (by unfold rchRes; rw [if_pos (by omega), he])⟩)
  · have hi0 := (netchk_zero.1 (f1 (by omega))).inputs.1
    repeat' (conv => whnf); first | (refine VLd.is ?_; refine VLd.mk (.vec aT rfl) ?_) | (refine VCall.isF 50 ?_; refine VCall.inl (F := Tryz.fx50) Tryz.func50 rfl rfl rfl Tryz.ok50 ?_) | (refine VCall.isF 51 ?_; refine VCall.valR (fun w' hw' => vsur_any N hN v hfw hmo hi0 _ _ hone _ _ _ _ _ _ _ _ _ (h3.keep hw' (by simp)) (h4.keep hw' (by simp)) hcx) ?_) | (refine VSeq.go ?_) | (refine VB.is ?_; refine VB.yes (by omega) fun _ => ?_) | (refine VB.split (fun _ => ?_) (fun _ => ?_)) | (refine VLd.is ?_; refine VLd.mk (.row aT (by rfl)) ?_) | (refine VSt.is ?_; refine VSt.row aT (by rfl) (by first | rfl | assumption) ?_) | (refine VAr.is ?_; refine oA ?_) | (refine VIx.is ?_; refine VIx.mk rfl (by omega) (by omega) ?_)
    all_goals (conv => whnf)
    all_goals first
      | exact VNext.mk 2 (by omega) (by omega) aE aH
      | (have he : rchErr N v pat ticks = surErr N v := by unfold rchErr; rw [if_neg (by omega), if_pos (by omega)]
         exact ⟨fun w' hw' => hfin w' _ hw' _ (by unfold rchRes; rw [if_pos (by omega), he])⟩)
  · repeat' (conv => whnf); first | (refine VLd.is ?_; refine VLd.mk (.vec aT rfl) ?_) | (refine VCall.isF 52 ?_; refine VCall.inl (F := Tryz.fx52) Tryz.func52 rfl rfl rfl Tryz.ok52 ?_) | (refine VCall.isF 53 ?_; refine VCall.valR (fun w' hw' => hVP w' (h5.keep hw' (by simp)) (fun x hx => (h6 x hx).keep hw')) ?_) | (refine VSeq.go ?_) | (refine VB.is ?_; refine VB.yes (by omega) fun _ => ?_) | (refine VB.split (fun _ => ?_) (fun _ => ?_)) | (refine VLd.is ?_; refine VLd.mk (.row aT (by rfl)) ?_) | (refine VSt.is ?_; refine VSt.row aT (by rfl) (by first | rfl | assumption) ?_) | (refine VAr.is ?_; refine oA ?_) | (refine VIx.is ?_; refine VIx.mk rfl (by omega) (by omega) ?_)
    all_goals (conv => whnf)
    all_goals first
      | exact VNext.mk 3 (by omega) (by omega) aE aH
      | (have he : rchErr N v pat ticks = patErr N.ps.length pat := by unfold rchErr; rw [if_neg (by omega), if_neg (by omega), if_pos (by omega)]
         exact ⟨fun w' hw' => hfin w' _ hw' _ (by unfold rchRes; rw [if_pos (by omega), he])⟩)
  · have htm : tmE ticks = if 0 ≤ ticks ∧ ticks ≤ 10000 then 0 else 3 := rfl
    repeat' (conv => whnf); first | (refine VLd.is ?_; refine VLd.mk (.vec aT rfl) ?_) | (refine VCall.isF 121 ?_; refine VCall.inl (F := Tryz.fx121) Tryz.func121 rfl rfl rfl Tryz.ok121 ?_) | (refine VCall.isF 90 ?_; refine VCall.inl (F := Tryz.fx90) Tryz.func90 rfl rfl rfl Tryz.ok90 ?_) | (refine VCall.isF 86 ?_; refine VCall.inl (F := Tryz.fx86) Tryz.func86 rfl rfl rfl Tryz.ok86 ?_) | (refine VSeq.go ?_) | (refine VB.is ?_; refine VB.yes (by omega) fun _ => ?_) | (refine VB.is ?_; refine VB.no (by omega) fun _ => ?_) | (refine VB.split (fun _ => ?_) (fun _ => ?_)) | (refine VLd.is ?_; refine VLd.mk (.row aT (by rfl)) ?_) | (refine VSt.is ?_; refine VSt.row aT (by rfl) (by first | rfl | assumption) ?_) | (refine VAr.is ?_; refine oA ?_) | (refine VIx.is ?_; refine VIx.mk rfl (by omega) (by omega) ?_)
    all_goals (conv => whnf)
    all_goals first
      | (rw [if_pos (by omega)] at htm; exact VNext.mk 4 ⟨by omega, by omega, by omega, by omega, fun _ => htm⟩ (by omega) aE aH)
      | (rw [if_neg (by omega)] at htm
         have he : rchErr N v pat ticks = 3 := by unfold rchErr; rw [if_neg (by omega), if_neg (by omega), if_neg (by omega)]; exact htm
         exact ⟨fun w' hw' => hfin w' _ hw' _ (by unfold rchRes; rw [if_pos (by omega), he])⟩)
  have hz : rchErr N v pat ticks = 0 := by unfold rchErr; rw [if_neg (by omega), if_neg (by omega), if_neg (by omega)]; exact f4 (by omega)
  have htm : 0 ≤ ticks ∧ ticks ≤ 10000 := by
    have h := f4 (by omega)
    unfold tmE at h
    split at h
    · assumption
    · cases h
  have hNok : NetOk N := netchk_zero.1 (f1 (by omega))
  have hnz := f1 (by omega)
  have hv := surErr_zero (f2 (by omega))
  have hp0 := f3 (by omega)
  have hm8 : 1 ≤ Ls.length ∧ Ls.length ≤ 8 := by
    unfold patErr at hp0
    split at hp0
    · omega
    · split at hp0
      · omega
      · omega
  have hres : rchRes N v pat ticks = search N v pat ticks.toNat 0 [sit0 N v pat] := by unfold rchRes; rw [if_neg (by omega)]
  obtain ⟨T, hT⟩ : ∃ T : Nat, ticks = T := ⟨ticks.toNat, by omega⟩
  subst hT
  rw [Int.toNat_natCast] at hres
  have hres0 := hres
  have hmost := hv.most
  unfold I64 at hmo
  clear hi f1 f2 f3 f4 hz hVP hp0
  obtain ⟨L0, hL0⟩ : ∃ L0, true :: List.replicate (Ls.length - 1) false = L0 := ⟨_, rfl⟩
  have hL0l : L0.length = Ls.length := by rw [← hL0]; simp; omega
  have hup : upd (repL [.bool false] ((Ls.length : Int)).toNat) 0 [.bool true] = some (flat boolV L0) := by
    rw [Int.toNat_natCast, show repL [Value.bool false] Ls.length = flat boolV (List.replicate Ls.length false) from flat_rep (f := boolV) (x := false) Ls.length, ← hL0, ← rep_set Ls.length (by omega)]
    exact upd_flat0 (i := 0) (f := boolV) (k := 1) (y := true) (fun _ => rfl) (show (List.replicate Ls.length false)[0]? = some false by rw [List.getElem?_replicate, if_pos (by omega)]) rfl
  repeat' (conv => whnf); first | (refine VCall.isF 55 ?_; refine VCall.inl (F := Tryz.fx55) Tryz.func55 rfl rfl rfl Tryz.ok55 ?_) | (refine VCall.isF 49 ?_; refine VCall.valR (fun w' hw' => Check_any N hN _ _ _ _ _ _ _ _ _ (h1.keep hw' (by simp)) (h2.keep hw' (by simp))) ?_) | (refine VCall.is ?_; refine VCall.isF 97 ?_; refine VCall.genR (fun w' hw' => start_any N hNok _ _ _ _ _ _ _ _ _ (h1.keep hw' (by simp)) (h2.keep hw' (by simp))) ?_; rintro x ⟨hx, hxN, hxt, hxs, hxD⟩) | (refine VMk.is ?_; refine VMk.mk (by omega) (by omega) (by (try dsimp only); omega) (by omega) fun g => ?_) | (refine VIx.is ?_; refine VIx.mk rfl (by omega) (by omega) ?_) | (refine VSt.is ?_; refine VSt.cast (off' := 0) (by first | omega | (dsimp only; omega) | rfl) (VSt.vec aT hup rfl ?_)) | (refine VSeq.go ?_) | (refine VB.is ?_; refine VB.no (by omega) fun _ => ?_) | (refine VLd.is ?_; refine VLd.mk (.row aT (by rfl)) ?_) | (refine VSt.is ?_; refine VSt.row aT (by rfl) (by first | rfl | assumption) ?_) | (refine VNew.mk fun _ => ?_) | (refine VAr.is ?_; refine oA ?_) | (refine VKeep.is ?_; refine VKeep.mk aH ?_) | (refine VHs.mk _ (.refl _) ?_)
  all_goals (conv => whnf)
  rename_i bnd b16 g2
  obtain ⟨S0, hS0⟩ : ∃ S0, shrH x = S0 := ⟨_, rfl⟩
  obtain ⟨x0, hx0⟩ : ∃ x0 : RNode, x0 = ⟨bnd, x, v.most, ⟨some ⟨g, 0, none⟩, Ls.length, L0⟩, none, ⟨none, 0, []⟩, []⟩ := ⟨_, rfl⟩
  have hxrun : SimRun x := ⟨hx, by rw [hxN, hxs]; exact (sm0_ok hNok).ok, by omega⟩
  have hT0 : smT x = smRot 0 (sm0 N) := by
    unfold smT smRot smOf
    rw [hxt, hxs, hxD]
    rfl
  have hr0 : rot 0 (sm0 N).D = (sm0 N).D := rot0 (by simp [sm0])
  have hsm0 : smT x = sm0 N := by rw [hT0]; unfold smRot; rw [hr0]
  have hok0 : NdOk N S0 Ls.length x0 := by
    subst hx0
    refine ⟨hxrun, hxN, hS0, ?_, ⟨hmost, hmo.2⟩, hL0l, ⟨g, rfl⟩⟩
    dsimp only
    rw [hsm0]
    intro r hr u hu
    simp only [sm0] at hr
    rw [(List.mem_replicate.1 hr).2] at hu
    rw [(List.mem_replicate.1 hu).2]
    unfold I64; omega
  have hsit0 : x0.sit = sit0 N v pat := by
    subst hx0
    unfold RNode.sit sit0
    dsimp only
    rw [hsm0, ← hL0, hlm]
  have hch0 : Chain [x0] 0 x0 := .root (by simp) (by rw [hx0]) (by rw [hx0]) (by rw [hx0])
  refine VLoop.kr (α := Nat × List RNode × List RNode × (Option Addr × Nat) × List Nat) [5, 6, 8, 9, 10, 11, 16, 69] rfl
    (fun z => (z.1 ≤ T ∧ z.2.1.length ≤ 5000) ∧ (∀ s ∈ z.2.1, NdOk N S0 Ls.length s ∧ s.sim.tick = z.1 ∧ Chain z.2.2.1 z.1 s) ∧ search N v pat T 0 [sit0 N v pat] = search N v pat (T - z.1) z.1 (z.2.1.map RNode.sit) ∧ (0 < z.2.1.length → ∃ g, z.2.2.2.1.1 = some ⟨g, 0, none⟩))
    (fun z K => (1000000, .tuple (z.2.2.2.2.map markV).toArray) :: (70, .int .i64 (z.1 : Int)) :: (17, .slice z.2.2.2.1.1 z.2.1.length z.2.2.2.1.2) :: K)
    (fun z => .vec z.2.2.2.1.1 z.2.1.length z.2.2.2.1.2 99 1 (flat ptrV z.2.1) :: .row b5 29 (envC pf cf px cx v) :: .row b6 30 [.slice pl Ls.length cl] :: .row b8 27 [.slice none 0 0] :: .row b9 3 [.int .i64 0] :: .row b10 4 [.bool false] :: .row b11 34 [.int .i64 0] :: .row b16 3 [.int .i64 ((Ls.length : Int) - 1)] :: (z.2.2.2.2.map defE ++ (z.2.2.1.flatMap rnE ++ S0))) (fun z => T - z.1) (0, [x0], [x0], (some ⟨g2, 0, none⟩, 1), [])
    ⟨⟨by dsimp only; omega, by simp⟩, ?_, ?_, fun _ => ⟨_, rfl⟩⟩ aE ?_ ?_
  · intro s hs
    rw [List.mem_singleton.1 hs]
    exact ⟨hok0, by rw [hx0]; exact hxt, hch0⟩
  · dsimp only
    rw [List.map_cons, List.map_nil, hsit0]; rfl
  · dsimp only
    rw [List.map_nil, List.nil_append, List.flatMap_cons, List.flatMap_nil, List.append_nil, rnE_of (x := x0) (m := Ls.length) (n := 0) (by rw [hx0]; exact hL0l) (by rw [hx0]; rfl), hx0, ← hS0]
    unfold simH
    exact aH
  rintro ⟨t, S, A, ⟨p, cap⟩, DD⟩ ⟨⟨htT, hSl⟩, hS, hsr, hp⟩
  dsimp only at htT hSl hS hsr hp ⊢
  rw [hsr] at hres
  clear hsr hok0 hsit0 hch0 hx0 hup hL0 hL0l hsm0 hr0 hT0 hxrun
  rcases Nat.lt_or_ge t T with hlt | hge
  rotate_left
  · have htT' : T - t = 0 := by omega
    rw [htT'] at hres
    repeat' (conv => whnf); first | (refine unE_is ?_; refine unE_marks aS ?_) | (refine VSeq.go ?_) | (refine VB.is ?_; refine VB.no (by omega) fun _ => ?_) | (refine VLd.is ?_; refine VLd.mk (.row aT (by rfl)) ?_) | (refine VSt.is ?_; refine VSt.row aT (by rfl) (by first | rfl | assumption) ?_)
    all_goals (conv => whnf)
    exact ⟨fun w' hw' => hfin w' _ hw' _ hres⟩
  obtain ⟨n, hn⟩ : ∃ n, T - t = n + 1 := ⟨T - t - 1, by omega⟩
  rw [hn] at hres
  repeat' (conv => whnf); first | (refine VSeq.go ?_) | (refine VB.is ?_; refine VB.yes (by omega) fun _ => ?_) | (refine VB.is ?_; refine VB.no (by omega) fun _ => ?_) | (refine VLd.is ?_; refine VLd.mk (.row aT (by rfl)) ?_) | (refine VSt.is ?_; refine VSt.row aT (by rfl) (by first | rfl | assumption) ?_) | (refine VNew.mk fun _ => ?_) | (refine VAr.is ?_; refine oA ?_)
  all_goals (conv => whnf)
  rename_i b18
  have hinp := hNok.inputs
  have hfew := hNok.few
  refine VLoop.kr (α := Nat) [1000000, 5, 6, 8, 9, 10, 11, 16, 17, 18, 69, 70, 73, 74] rfl (fun k => k ≤ S.length ∧ ∀ s ∈ (S.map RNode.sit).take k, goal N pat s = false) (fun k K => (75, .int .i64 (k : Int)) :: K)
    (fun _ => .row b18 3 [.int .i64 (t : Int)] :: .vec p S.length cap 99 1 (flat ptrV S) :: .row b5 29 (envC pf cf px cx v) :: .row b6 30 [.slice pl Ls.length cl] :: .row b8 27 [.slice none 0 0] :: .row b9 3 [.int .i64 0] :: .row b10 4 [.bool false] :: .row b11 34 [.int .i64 0] :: .row b16 3 [.int .i64 ((Ls.length : Int) - 1)] :: (DD.map defE ++ (A.flatMap rnE ++ S0))) (fun k => S.length - k) 0 ⟨by omega, by simp⟩ aE aH ?_
  rintro k ⟨hk, hno⟩
  rcases Nat.lt_or_ge k S.length with hks | hks
  · obtain ⟨s, hs⟩ : ∃ s, S[k]? = some s := ⟨S[k], List.getElem?_eq_getElem _⟩
    obtain ⟨hsok, hst, hsch⟩ := hS s (List.mem_of_getElem? hs)
    have hsA := hsch.mem
    have hsn := hsok.net
    obtain ⟨gp, rfl⟩ := hp (by omega)
    obtain ⟨gs, hgs⟩ := hsok.sp
    have hsl := hsok.shown
    have n0 : sub (nodeC s.nd) 0 1 = some [.pointer (some ⟨s.sim.b, 0, none⟩)] := rfl
    have n1 : sub (nodeC s.nd) 1 1 = some [.int .i64 s.left] := rfl
    have n2 : sub (nodeC s.nd) 2 1 = some [.slice (some ⟨gs, 0, none⟩) Ls.length s.shown.c] := by
      rw [← hgs, ← hsl]; rfl
    have hm1 := rn_mem hsA (y := rnRow s) (by simp [rnE]) S0
    unfold rnRow at hm1
    have hm2 : Ent.vec (some ⟨gs, 0, none⟩) Ls.length s.shown.c 4 1 (flat boolV s.shown.l) ∈ A.flatMap rnE ++ S0 := by
      have := rn_mem hsA (y := rnS s) (by simp [rnE]) S0
      unfold rnS at this
      rw [hgs, hsl] at this
      exact this
    obtain ⟨b, hb⟩ : ∃ b, s.shown.l[Ls.length - 1]? = some b := ⟨s.shown.l[Ls.length - 1]'(by omega), List.getElem?_eq_getElem _⟩
    obtain ⟨mo, hmo2⟩ := h5.get (i := Ls.length - 1) (by omega)
    have hmom := List.mem_of_getElem? hmo2
    obtain ⟨sp, hsp⟩ : ∃ sp, rSpk N (smT s.sim) = sp := ⟨_, rfl⟩
    have hspl : sp.length ≤ 1024 := by
      rw [← hsp]
      unfold rSpk spk
      have h1 := spkFrom_length (fire N.ps (smT s.sim).sts (((smT s.sim).D[0]?).getD [])) 0
      have h2 := fire_le N.ps (smT s.sim).sts (((smT s.sim).D[0]?).getD [])
      omega
    have hgoal : goal N pat s.sit = (b && decide (Shown mo.mom sp)) := by
      unfold goal shownAt
      rw [show s.sit.sm = smT s.sim from rfl, show s.sit.shown = s.shown.l from rfl, hsp, hlm, hb, ← hpat, List.getElem?_map, hmo2]
      rfl
    have hown : HLe (ownH s.sim) (A.flatMap rnE) := (HLe.of_sub [rnRow s, rnS s, rnN s] (by show ([rnRow s, rnS s, rnN s] ++ ownH s.sim).Perm _; exact List.perm_append_comm)).trans (HLe.mem_flat hsA)
    have hshr := hsok.shr
    have htick := hsok.run.tick
    repeat' (conv => whnf); first | (refine VIx.is ?_; refine VIx.mk rfl (by omega) (by omega) ?_) | (refine VLd.is ?_; refine VLd.mk (Rd.cast (.vec aT (sub_flat0 (f := ptrV) (k := 1) (fun _ => rfl) hs rfl)) (by first | omega | (dsimp only; omega) | rfl)) ?_) | (refine VLd.is ?_; refine VLd.isB s.b ?_; refine VLd.mk (Rd.cast (Rd.memRow (by (repeat (first | exact hm1 | apply List.mem_cons_of_mem | apply List.mem_append_right)); first | done | fail) n0) (by first | omega | (dsimp only; omega) | rfl)) ?_) | (refine VLd.is ?_; refine VLd.isB s.b ?_; refine VLd.mk (Rd.cast (Rd.memRow (by (repeat (first | exact hm1 | apply List.mem_cons_of_mem | apply List.mem_append_right)); first | done | fail) n2) (by first | omega | (dsimp only; omega) | rfl)) ?_) | (refine VLd.is ?_; refine VLd.isB gs ?_; refine VLd.mk (Rd.cast (Rd.memVec (by (repeat (first | exact hm2 | apply List.mem_cons_of_mem | apply List.mem_append_right)); first | done | fail) (sub_flat0 (f := boolV) (k := 1) (fun _ => rfl) hb rfl)) (by first | omega | (dsimp only; omega) | rfl)) ?_) | (refine VIx.is ?_; refine VIx.mk (h5.ptr (by omega)) (by omega) (by omega) ?_) | (refine VLd.is ?_; refine VLd.mk (Rd.cast (h5.rd0 (i := Ls.length - 1) (by simp) (fun _ => rfl) hmo2 rfl) (by first | omega | (dsimp only; omega) | rfl)) ?_) | (refine VCall.isF 56 ?_; (refine VCall.genR (fun w' hw' => Copy_any s.sim hsok.run w' (SimRd.of hw' (hown.trans aH))) ?_; rintro y ⟨hy1, hyN, hyt, hys, hyD, hyS⟩)) | (refine VCall.isF 57 ?_; (refine Step_nd y hy1 (by omega) sp (by rw [hyN, hsn, smT_copy hyt hys hyD]; exact hsp) [] rfl (by simp) _ _ _ rfl aS (by rw [hyS, hshr]; exact aH) (fun w hw => nil_inN hw aH) ?_; intro q cq hq; generalize ownH (simStep y []) = Y2)) | (refine VCall.isF 58 ?_; (refine VCall.genR (fun w' hw' => Exists.elim (Sl.own (f := intV) (l := sp) (cap := cq) (e := 3) (p := q) (k := 1) hw' aT (fun _ => rfl) rfl) fun bq hbq => shown_any mo sp (by omega) q cq bq 0 w' ((h6 mo hmom).keep hw') hbq) ?_; intro c hc)) | (refine VSeq.go ?_) | (refine VB.is ?_; refine VB.yes (by omega) fun _ => ?_) | (refine boolE_split (fun h => ?_) (fun h => ?_) <;> subst h) | (refine VLd.is ?_; refine VLd.mk (.row aT (by rfl)) ?_) | (refine VAr.is ?_; refine oA ?_) | (refine VHs.mk _ (.refl _) ?_)
    all_goals (conv => whnf)
    rotate_left
    · have hg : goal N pat s.sit = false := by
        rw [hgoal, Bool.true_and, decide_eq_false_iff_not]
        exact fun h => by have := hc.2 h; cases this
      exact VNext.mk (k + 1) ⟨by omega, take_no hno (by rw [List.getElem?_map, hs]; rfl) hg⟩ (by omega) aE aH
    · have hg : goal N pat s.sit = false := by rw [hgoal]; rfl
      exact VNext.mk (k + 1) ⟨by omega, take_no hno (by rw [List.getElem?_map, hs]; rfl) hg⟩ (by omega) aE aH
    have hgt : goal N pat s.sit = true := by rw [hgoal, Bool.true_and, decide_eq_true_eq]; exact hc.1 rfl
    have hfind : (S.map RNode.sit).find? (goal N pat) = some s.sit := find_at hno (by rw [List.getElem?_map, hs]; rfl) hgt
    have hFl : (fixedL v.fixed (t : Int)).length ≤ 65536 := Nat.le_trans (fixedL_len _ _) hv.fixed.few
    have hfm := fixed_merged hv hinp.1 (t : Int)
    obtain ⟨F, hF⟩ : ∃ F, fixedL v.fixed (t : Int) = F := ⟨_, rfl⟩
    have hout : rchRes N v pat (T : Int) = (s.run ++ atL (t : Int) F, (t : Int), true, 0) := by rw [hres]; unfold search; rw [hfind, ← hF]; rfl
    have hrl := hsch.len
    rw [hF] at hFl hfm
    have hAl : (atL (t : Int) F).length = F.length := List.length_map ..
    clear hfin hres hres0 hS hno hgoal hgt hfind hc hown hmo2 hb
    repeat' (conv => whnf); first | (refine VCall.isF 59 ?_; (refine VCall.genR (fun w' hw' => ndrun_any hsch (by omega) w' (fun y hy => RunRd.of hw' ((HLe.mem_flat hy).trans aH))) ?_; rintro ⟨p1, c1⟩ hp1; dsimp only at hp1 ⊢)) | (refine VNew.mk fun b23 => ?_) | (refine VCall.isF 60 ?_; refine VCall.inl (F := Tryz.fx60) Tryz.func60 rfl rfl rfl Tryz.ok60 ?_) | (refine VRange.go (ms := DD.map markV) rfl fun hokx hoky l d L hL => ?_) | (refine VSeq.go ?_) | (refine VLd.is ?_; refine VLd.mk (.row aT (by rfl)) ?_) | (refine VSt.is ?_; refine VSt.row aT (by rfl) (by first | rfl | assumption) ?_)
    all_goals (conv => whnf)
    rename_i b23 _ _
    refine choices_iter N ⟨[], v.fixed, 0⟩ hv.plain (t : Int) 0 (by omega) none 0 0 0 px cx bx ox l _ _ _ (Sl.nil (.inl rfl)) h4 (α := Option Addr × Nat × List Evt) (fun c z => z.2.2 = (if c = 0 then s.run else s.run ++ atL (t : Int) F) ∧ (0 < z.2.2.length → ∃ g, z.1 = some ⟨g, 0, none⟩))
      (fun z => L .ready none :: .obj d (.deferred (some [])) :: .row _ 27 [.slice z.1 z.2.2.length z.2.1] :: .vec z.1 z.2.2.length z.2.1 64 2 (flat evtV z.2.2) :: .row b18 3 [.int .i64 (t : Int)] :: .row b5 29 (envC pf cf px cx v) :: .row b6 30 [.slice pl Ls.length cl] :: .row b8 27 [.slice none 0 0] :: .row b9 3 [.int .i64 0] :: .row b10 4 [.bool false] :: .row b11 34 [.int .i64 0] :: .row b16 3 [.int .i64 ((Ls.length : Int) - 1)] :: (DD.map defE ++ [])) (p1, c1, s.run) ⟨by rw [if_pos rfl], hp1⟩ aH ?_ ?_ ?_
    · rintro c ⟨z1, z2, zl⟩ pb nb cb xs pi ci hc ⟨hI, hzp⟩ hle hpi
      have hc0 : c = 0 := by
        have h20 : 2 ^ ([] : List Int).length = 1 := rfl
        dsimp only at hc
        omega
      subst hc0
      dsimp only at hI hzp hpi ⊢
      rw [if_pos rfl] at hI
      subst hI
      rw [hfm] at hpi ⊢
      refine VYield.go hL hokx hoky aT rfl ?_
      repeat' (conv => whnf); first | (refine VBegin.is ?_; refine VBegin.mk aT ?_) | (refine VRound.is ?_; refine VRound.mk aT ?_) | (refine VCall.isF 61 ?_; (refine VCall.genR (fun w' hw' => Exists.elim (Sl.own (f := intV) (l := F) (cap := ci) (e := 3) (p := pi) (k := 1) hw' aT (fun _ => rfl) rfl) fun bq hbq => vat_any (t : Int) F (by omega) pi ci bq 0 w' hbq) ?_; rintro ⟨q1, e1⟩ hq1; dsimp only at hq1 ⊢)) | (refine VAp.is ?_; refine VAp.own (q := _) aT (Src.own aT hq1 (by rw [flat_length (k := 2) (fun _ => rfl), hAl])) (flat_one_cell (by simp [evtV, Value.oneCell'])) (by (try dsimp only); omega) (by simp only [maxLen]; omega) fun p' cap' hp' => ?_) | (refine VLd.is ?_; refine VLd.mk (.row aT (by rfl)) ?_) | (refine VSt.is ?_; refine VSt.row aT (by rfl) (by first | rfl | assumption) ?_) | (refine VKeep.is ?_; refine VKeep.mk aH ?_) | (refine VHs.mk _ (.refl _) ?_)
      all_goals (conv => whnf)
      refine .inl ⟨rfl, (p', cap', s.run ++ atL (t : Int) F), ⟨by rw [if_neg (by omega)], ?_⟩, ?_⟩
      · rw [List.length_append, hAl]; exact hp'
      · dsimp only
        rw [List.length_append, hAl, flat_append]
        exact aH
    · intro c z hc hI hle
      have := chosenT_len ([] : List Int) c 0
      unfold chosen at hle
      dsimp only [List.length_nil] at hle this
      omega
    rintro ⟨z1, z2, zl⟩ pb nb cb xs ⟨hI, hzp⟩
    have h20 : 2 ^ ([] : List Int).length = 1 := rfl
    dsimp only at hI hzp ⊢
    rw [h20, if_neg (by omega)] at hI
    subst hI
    repeat' (conv => whnf); first | (refine VEnd.is ?_; refine VEnd.mk aT (by simp) ?_) | (refine VUn.is ?_; refine VUn.mk aT ?_) | (refine unE_is ?_; refine unE_marks aS ?_) | (refine VHs.is ?_; refine VHs.is ?_; refine VHs.mk [.row _ 27 [.slice z1 (s.run ++ atL (t : Int) F).length z2], .row b18 3 [.int .i64 (t : Int)]] aH ?_) | (refine VSeq.go ?_) | (refine VLd.is ?_; refine VLd.mk (.row aT (by rfl)) ?_) | (refine VSt.is ?_; refine VSt.row aT (by rfl) (by first | rfl | assumption) ?_) | (refine VKeep.is ?_; refine VKeep.mk aH ?_)
    all_goals (conv => whnf)
    rw [hout]
    exact ⟨fun w' hw' => ⟨(z1, z2), rfl, hzp, hw'.le aH⟩⟩
  have hkS : k = S.length := by omega
  subst hkS
  rw [List.take_of_length_le (by rw [List.length_map]; exact Nat.le_refl _)] at hno
  have hfind : (S.map RNode.sit).find? (goal N pat) = none := find_not hno
  have hsr : search N v pat (n + 1) t (S.map RNode.sit) = match grow [] ((S.map RNode.sit).flatMap (succs N v pat (t : Int))) with
      | none => ([], 0, false, 15)
      | some m => search N v pat n (t + 1) m := by
    rw [search, hfind]; rfl
  rw [hsr] at hres
  clear hno hfind hsr
  repeat' (conv => whnf); first | (refine VSeq.go ?_) | (refine VB.is ?_; refine VB.yes (by omega) fun _ => ?_) | (refine VB.is ?_; refine VB.no (by omega) fun _ => ?_) | (refine VLd.is ?_; refine VLd.mk (.row aT (by rfl)) ?_) | (refine VSt.is ?_; refine VSt.row aT (by rfl) (by first | rfl | assumption) ?_) | (refine VNew.mk fun _ => ?_) | (refine VAr.is ?_; refine oA ?_)
  all_goals (conv => whnf)
  rename_i bm b25 b26
  obtain ⟨f, hf⟩ : ∃ f, succs N v pat (t : Int) = f := ⟨_, rfl⟩
  have hT2 : T ≤ 10000 := by omega
  refine VLoop.kr (α := Nat × List RNode × (Option Addr × Nat) × List Nat) [5, 6, 8, 9, 10, 11, 16, 17, 18, 25, 26, 69, 70, 121, 122] rfl
    (fun z => (z.1 ≤ S.length ∧ z.2.1.length ≤ 5000) ∧ NxOk N S0 Ls.length (t + 1) A z.2.1 ∧ grow [] (fromK (succs N v pat (t : Int)) S z.1) = some (z.2.1.map RNode.sit) ∧ (0 < z.2.1.length → ∃ g, z.2.2.1.1 = some ⟨g, 0, none⟩)) (fun z K => (1000000, .tuple (z.2.2.2.map markV).toArray) :: (123, .int .i64 (z.1 : Int)) :: K)
    (fun z => .row b25 113 [.map (some bm)] :: .mapk bm (metM z.2.1) :: .row b26 103 [.slice z.2.2.1.1 z.2.1.length z.2.2.1.2] :: .vec z.2.2.1.1 z.2.1.length z.2.2.1.2 99 1 (flat ptrV z.2.1) :: .row b18 3 [.int .i64 (t : Int)] :: .vec p S.length cap 99 1 (flat ptrV S) :: .row b5 29 (envC pf cf px cx v) :: .row b6 30 [.slice pl Ls.length cl] :: .row b8 27 [.slice none 0 0] :: .row b9 3 [.int .i64 0] :: .row b10 4 [.bool false] :: .row b11 34 [.int .i64 0] :: .row b16 3 [.int .i64 ((Ls.length : Int) - 1)] :: (z.2.2.2.map defE ++ (z.2.1.flatMap rnE ++ (A.flatMap rnE ++ S0)))) (fun z => S.length - z.1) (0, [], (none, 0), DD)
    ⟨⟨by dsimp only; omega, by simp⟩, fun x hx => by simp at hx, by rw [fromK_zero]; rfl, by simp⟩ aE ?_ ?_
  · dsimp only
    rw [List.flatMap_nil, List.nil_append, show metM [] = [] from rfl]
    refine HLe.cons aT (HLe.cons aT (HLe.cons aT (HLe.nilv ?_)))
    exact aH
  rintro ⟨k, nx0, ⟨q0, cq0⟩, DD2⟩ ⟨⟨hk, hnl0⟩, hnx0, hgr0, hq0⟩
  dsimp only at hk hnl0 hnx0 hgr0 hq0 ⊢
  rcases Nat.lt_or_ge k S.length with hks | hks
  rotate_left
  · have hkS : k = S.length := by omega
    subst hkS
    rw [fromK_all] at hgr0
    rw [hgr0] at hres
    repeat' (conv => whnf); first | (refine VSeq.go ?_) | (refine VB.is ?_; refine VB.yes (by omega) fun _ => ?_) | (refine VB.is ?_; refine VB.no (by omega) fun _ => ?_) | (refine VLd.is ?_; refine VLd.mk (.row aT (by rfl)) ?_) | (refine VSt.is ?_; refine VSt.row aT (by rfl) (by first | rfl | assumption) ?_) | (refine VNew.mk fun _ => ?_) | (refine VAr.is ?_; refine oA ?_)
    all_goals (conv => whnf)
    refine VNext.mk (t + 1, nx0, nx0 ++ A, (q0, cq0), DD2) ⟨⟨by dsimp only; omega, hnl0⟩, hnx0, ?_, hq0⟩ (by dsimp only; omega) aE ?_
    · dsimp only
      rw [show T - (t + 1) = n by omega, ← hres0]
      exact hres
    · dsimp only
      rw [List.flatMap_append, List.append_assoc]
      exact aH
  obtain ⟨s, hs⟩ : ∃ s, S[k]? = some s := ⟨S[k], List.getElem?_eq_getElem _⟩
  obtain ⟨hsok, hst, hsch⟩ := hS s (List.mem_of_getElem? hs)
  have hsA := hsch.mem
  have hsn := hsok.net
  obtain ⟨gp, rfl⟩ := hp (by omega)
  obtain ⟨gs, hgs⟩ := hsok.sp
  have hsl := hsok.shown
  have n0 : sub (nodeC s.nd) 0 1 = some [.pointer (some ⟨s.sim.b, 0, none⟩)] := rfl
  have n1 : sub (nodeC s.nd) 1 1 = some [.int .i64 s.left] := rfl
  have n2 : sub (nodeC s.nd) 2 1 = some [.slice (some ⟨gs, 0, none⟩) Ls.length s.shown.c] := by
    rw [← hgs, ← hsl]; rfl
  have hm1 := rn_mem hsA (y := rnRow s) (by simp [rnE]) S0
  unfold rnRow at hm1
  have hm2 : Ent.vec (some ⟨gs, 0, none⟩) Ls.length s.shown.c 4 1 (flat boolV s.shown.l) ∈ A.flatMap rnE ++ S0 := by
    have := rn_mem hsA (y := rnS s) (by simp [rnE]) S0
    unfold rnS at this
    rw [hgs, hsl] at this
    exact this
  obtain ⟨sp, hsp⟩ : ∃ sp, rSpk N (smT s.sim) = sp := ⟨_, rfl⟩
  have hspl : sp.length ≤ 1024 := by
    rw [← hsp]
    unfold rSpk spk
    have h1 := spkFrom_length (fire N.ps (smT s.sim).sts (((smT s.sim).D[0]?).getD [])) 0
    have h2 := fire_le N.ps (smT s.sim).sts (((smT s.sim).D[0]?).getD [])
    omega
  have hown : HLe (ownH s.sim) (A.flatMap rnE) := (HLe.of_sub [rnRow s, rnS s, rnN s] (by show ([rnRow s, rnS s, rnN s] ++ ownH s.sim).Perm _; exact List.perm_append_comm)).trans (HLe.mem_flat hsA)
  have hshr := hsok.shr
  have htick := hsok.run.tick
  have hleft := hsok.left
  have hrl := hsch.len
  repeat' (conv => whnf); first | (refine VIx.is ?_; refine VIx.mk rfl (by omega) (by omega) ?_) | (refine VLd.is ?_; refine VLd.mk (Rd.cast (.vec aT (sub_flat0 (f := ptrV) (k := 1) (fun _ => rfl) hs rfl)) (by first | omega | (dsimp only; omega) | rfl)) ?_) | (refine VLd.is ?_; refine VLd.isB s.b ?_; refine VLd.mk (Rd.cast (Rd.memRow (by (repeat (first | exact hm1 | apply List.mem_cons_of_mem | apply List.mem_append_right)); first | done | fail) n1) (by first | omega | (dsimp only; omega) | rfl)) ?_) | (refine VCall.isF 60 ?_; refine VCall.inl (F := Tryz.fx60) Tryz.func60 rfl rfl rfl Tryz.ok60 ?_) | (refine VRange.go (ms := DD2.map markV) rfl fun hokx hoky l d L hL => ?_) | (refine VSeq.go ?_) | (refine VB.is ?_; refine VB.yes (by omega) fun _ => ?_) | (refine VLd.is ?_; refine VLd.mk (.row aT (by rfl)) ?_) | (refine VSt.is ?_; refine VSt.row aT (by rfl) (by first | rfl | assumption) ?_) | (refine VNew.mk fun _ => ?_) | (refine VHs.mk _ (.refl _) ?_)
  all_goals (conv => whnf)
  rename_i b28 c3 c4 c5
  refine choices_iter N v hv (t : Int) s.left (by omega) pf cf bf of px cx bx ox l _ _ _ h3 h4 (α := List RNode × Option Addr × Nat)
    (fun c z => z.1.length ≤ 5000 ∧ NxOk N S0 Ls.length (t + 1) A z.1 ∧ grow [] (fromK (succs N v pat (t : Int)) S k ++ succsT N v pat (t : Int) s.sit c) = some (z.1.map RNode.sit) ∧ (0 < z.1.length → ∃ g, z.2.1 = some ⟨g, 0, none⟩))
    (fun z => L .ready none :: .obj d (.deferred (some [])) :: .row b28 99 [.pointer (some ⟨s.b, 0, none⟩)] :: .row b25 113 [.map (some bm)] :: .mapk bm (metM z.1) :: .row b26 103 [.slice z.2.1 z.1.length z.2.2] :: .vec z.2.1 z.1.length z.2.2 99 1 (flat ptrV z.1) :: .row b18 3 [.int .i64 (t : Int)] :: .vec (some ⟨gp, 0, none⟩) S.length cap 99 1 (flat ptrV S) :: .row b5 29 (envC pf cf px cx v) :: .row b6 30 [.slice pl Ls.length cl] :: .row b8 27 [.slice none 0 0] :: .row b9 3 [.int .i64 0] :: .row b10 4 [.bool false] :: .row b11 34 [.int .i64 0] :: .row b16 3 [.int .i64 ((Ls.length : Int) - 1)] :: (DD2.map defE ++ (z.1.flatMap rnE ++ (A.flatMap rnE ++ S0))))
    (nx0, q0, cq0) ⟨hnl0, hnx0, by rw [succsT_zero, List.append_nil]; exact hgr0, hq0⟩ aH ?_ ?_ ?_
  · rintro c ⟨nx, q, cq⟩ pb nb cb xs pi ci hc ⟨i1, i2, i3, i4⟩ hle hpi
    dsimp only at i1 i2 i3 i4 ⊢
    have hIasc := insC_asc N v (t : Int) c
    have hIr := insC_range hinp.1 v (t : Int) c
    have hIe := insC_err hinp.1 v (t : Int) c
    have hIl := insC_len hinp.1 hinp.2 v (t : Int) c
    have hnxt : nextSit N v pat (t : Int) s.sit c = ⟨refStep N (smT s.sim) (insC N v (t : Int) c), s.left - ((chosen v.free c).length : Int), nextShown pat s.shown.l (rSpk N (smT s.sim)), s.run ++ atL (t : Int) (insC N v (t : Int) c)⟩ := rfl
    have hsucc : succsT N v pat (t : Int) s.sit (c + 1) = succsT N v pat (t : Int) s.sit c ++ [nextSit N v pat (t : Int) s.sit c] := by
      rw [succsT_succ]
      congr 1
      unfold succC
      exact if_neg (by show ¬ (s.left < _); omega)
    have hover : grow [] (fromK (succs N v pat (t : Int)) S k ++ succsT N v pat (t : Int) s.sit (c + 1)) = none → rchRes N v pat (T : Int) = ([], 0, false, 15) := fun h => by
      rw [hres, over_none hs hc h]
    have hmore : grow [] (fromK (succs N v pat (t : Int)) S k ++ succsT N v pat (t : Int) s.sit (c + 1)) = if 5000 < (put (nx.map RNode.sit) (nextSit N v pat (t : Int) s.sit c)).length then none else some (put (nx.map RNode.sit) (nextSit N v pat (t : Int) s.sit c)) := by
      rw [hsucc, ← List.append_assoc, grow_some i3, grow_one]
    rw [hsp] at hnxt
    obtain ⟨I, hI⟩ : ∃ I, insC N v (t : Int) c = I := ⟨_, rfl⟩
    obtain ⟨m, hm⟩ : ∃ m, (chosen v.free c).length = m := ⟨_, rfl⟩
    obtain ⟨NX, hNX⟩ : ∃ NX, nextSit N v pat (t : Int) s.sit c = NX := ⟨_, rfl⟩
    obtain ⟨NS, hNS⟩ : ∃ NS, nextShown pat s.shown.l sp = NS := ⟨_, rfl⟩
    have hNSl : NS.length = Ls.length := by rw [← hNS, nextShown_len, hlm]
    rw [hI, hm, hNX, hNS] at hnxt
    rw [hNX] at hmore
    rw [hI] at hIasc hIr hIe hIl hpi ⊢
    rw [hm] at hle ⊢
    have hI0 : ∀ k ∈ I, 0 ≤ k := fun k hk => (hIr k hk).1
    have hrep := flat_rep (f := boolV) (x := false) Ls.length
    have hAl : (atL (t : Int) I).length = I.length := List.length_map ..
    clear hIr hsucc hgr0 hnx0 hq0 hnl0 hS hres0
    refine VYield.go hL hokx hoky aT rfl ?_
    repeat' (conv => whnf); first | (refine VBegin.is ?_; refine VBegin.mk aT ?_) | (refine VLd.is ?_; refine VLd.isB s.b ?_; refine VLd.mk (Rd.cast (Rd.memRow (by (repeat (first | exact hm1 | apply List.mem_cons_of_mem | apply List.mem_append_right)); first | done | fail) n0) (by first | omega | (dsimp only; omega) | rfl)) ?_) | (refine VLd.is ?_; refine VLd.isB s.b ?_; refine VLd.mk (Rd.cast (Rd.memRow (by (repeat (first | exact hm1 | apply List.mem_cons_of_mem | apply List.mem_append_right)); first | done | fail) n1) (by first | omega | (dsimp only; omega) | rfl)) ?_) | (refine VNew.mk fun b31 => ?_) | (refine VSeq.is ?_; refine VSeq.isA 32 rfl ?_; refine VSeq.cut (at_ := 32) (α := SimM × Nat × (Option Addr × Nat) × Nat) (fun z => SimRun z.1 ∧ z.1.N = N ∧ z.1.tick = t ∧ smT z.1 = smT s.sim ∧ shrH z.1 = S0 ∧ (0 < I.length → ∃ g, z.2.2.1.1 = some ⟨g, 0, none⟩)) (fun z => [(1000000, .tuple #[]), (6, .pointer (some ⟨b6, 0, none⟩)), (8, .pointer (some ⟨b8, 0, none⟩)), (9, .pointer (some ⟨b9, 0, none⟩)), (10, .pointer (some ⟨b10, 0, none⟩)), (11, .pointer (some ⟨b11, 0, none⟩)), (16, .pointer (some ⟨b16, 0, none⟩)), (18, .pointer (some ⟨b18, 0, none⟩)), (25, .pointer (some ⟨b25, 0, none⟩)), (26, .pointer (some ⟨b26, 0, none⟩)), (28, .pointer (some ⟨b28, 0, none⟩)), (29, .slice pi I.length ci), (31, .pointer (some ⟨z.2.2.2, 0, none⟩))]) (fun z => .row z.2.2.2 102 [.pointer (some ⟨z.1.b, 0, none⟩), .int .i64 (s.left - (m : Int)), .slice (some ⟨z.2.1, 0, none⟩) Ls.length Ls.length, .pointer (some ⟨s.b, 0, none⟩), .slice z.2.2.1.1 I.length z.2.2.1.2] :: .vec (some ⟨z.2.1, 0, none⟩) Ls.length Ls.length 4 1 (flat boolV (List.replicate Ls.length false)) :: .vec z.2.2.1.1 I.length z.2.2.1.2 64 2 (flat evtV (atL (t : Int) I)) :: (ownH z.1 ++ (.vec pi I.length ci 3 1 (flat intV I) :: L .busy none :: .vec pb nb cb 3 1 xs :: .row c3 29 (envC pf cf px cx v) :: .row c4 3 [.int .i64 (t : Int)] :: .row c5 3 [.int .i64 s.left] :: .obj d (.deferred (some [])) :: .row b28 99 [.pointer (some ⟨s.b, 0, none⟩)] :: .row b25 113 [.map (some bm)] :: .mapk bm (metM nx) :: .row b26 103 [.slice q nx.length cq] :: .vec q nx.length cq 99 1 (flat ptrV nx) :: .row b18 3 [.int .i64 (t : Int)] :: .vec (some ⟨gp, 0, none⟩) S.length cap 99 1 (flat ptrV S) :: .row b5 29 (envC pf cf px cx v) :: .row b6 30 [.slice pl Ls.length cl] :: .row b8 27 [.slice none 0 0] :: .row b9 3 [.int .i64 0] :: .row b10 4 [.bool false] :: .row b11 34 [.int .i64 0] :: .row b16 3 [.int .i64 ((Ls.length : Int) - 1)] :: (DD2.map defE ++ (nx.flatMap rnE ++ (A.flatMap rnE ++ S0)))))) ?_ ?_) | (refine VMk.is ?_; refine VMk.mk (by omega) (by omega) (by (try dsimp only); omega) (by omega) fun g => ?_) | (refine VCall.isF 56 ?_; (refine VCall.genR (fun w' hw' => Copy_any s.sim hsok.run w' (SimRd.of hw' (hown.trans aH))) ?_; rintro y ⟨hy1, hyN, hyt, hys, hyD, hyS⟩)) | (refine VCall.isF 61 ?_; (refine VCall.genR (fun w' hw' => Exists.elim (Sl.own (f := intV) (l := I) (cap := ci) (e := 3) (p := pi) (k := 1) hw' aT (fun _ => rfl) rfl) fun bq hbq => vat_any (t : Int) I (by omega) pi ci bq 0 w' hbq) ?_; rintro ⟨q1, e1⟩ hq1; dsimp only at hq1 ⊢)) | (refine VSeq.go ?_) | (refine VLd.is ?_; refine VLd.mk (.row aT (by rfl)) ?_) | (refine VAr.is ?_; refine oA ?_) | (refine VKeep.is ?_; refine VKeep.mk aH ?_) | (refine VHs.mk _ (.refl _) ?_) | (refine And.intro ?_ ?_)
    all_goals (conv => whnf)
    any_goals (refine VMid.mk (y, g, (q1, e1), b31) ⟨hy1, hyN.trans hsn, by show y.tick = t; omega, smT_copy hyt hys hyD, hyS.trans hshr, hq1⟩ aE ?_; dsimp only; rw [← hrep]; exact aH)
    clear hown hleft hm1 n0 n1 htick
    rintro ⟨y, g, ⟨q1, e1⟩, b31⟩ ⟨hy1, hyN, hyt, hyT, hyS, hq1⟩
    dsimp only at hy1 hyN hyt hyT hyS hq1 ⊢
    have hleft := hsok.left
    have hm1 := rn_mem hsA (y := rnRow s) (by simp [rnE]) S0
    unfold rnRow at hm1
    have n0 : sub (nodeC s.nd) 0 1 = some [.pointer (some ⟨s.sim.b, 0, none⟩)] := rfl
    have n1 : sub (nodeC s.nd) 1 1 = some [.int .i64 s.left] := rfl
    have hns : stepErr y I = 0 := by unfold stepErr; rw [if_neg (by omega), hyN]; exact hIe
    have hYrun : SimRun (simStep y I) := by
      have h := hy1.step I
      unfold stepSim at h
      rwa [if_pos hns] at h
    have hYT : smT (simStep y I) = refStep N (smT s.sim) I := by rw [smT_step hy1 hI0 (asc_nodup hIasc), hyN, hyT]
    have hYt : (simStep y I).tick = t + 1 := by show y.tick + 1 = t + 1; omega
    have hYN : (simStep y I).N = N := hyN
    have hYS : shrH (simStep y I) = S0 := hyS
    obtain ⟨Y, hY⟩ : ∃ Y, simStep y I = Y := ⟨_, rfl⟩
    have hYb : Y.b = y.b := by rw [← hY]; rfl
    rw [hY] at hYrun hYT hYt hYN hYS
    have hup0 : upd (flat boolV (List.replicate Ls.length false)) 0 [.bool true] = some (flat boolV (shPart NS 0)) := by
      have h1 := shPart_zero (pat := pat) (by omega) s.shown.l sp
      rw [hNS, hlm] at h1
      rw [h1, ← rep_set Ls.length (by omega)]
      exact upd_flat0 (i := 0) (f := boolV) (k := 1) (y := true) (fun _ => rfl) (show (List.replicate Ls.length false)[0]? = some false by rw [List.getElem?_replicate, if_pos (by omega)]) rfl
    repeat' (conv => whnf); first | (refine VCall.isF 57 ?_; (refine Step_nd y hy1 (by omega) sp (by rw [hyN, hyT]; exact hsp) I (by rw [hyN]; exact hIe) (by omega) _ _ _ rfl aS (by rw [hyS]; exact aH) (fun w hw => Exists.elim (Sl.vecOut (f := intV) (l := I) (k := 1) (p := pi) (n := I.length) (cap := ci) (e := 3) (S := ownH y) hw aH (fun _ => rfl) rfl) fun b hb => ⟨b, 0, hb.1, hb.2⟩) ?_; intro qs2 cs2 hq2; rw [hY])) | (refine VIx.is ?_; refine VIx.mk rfl (by omega) (by omega) ?_) | (refine VSt.is ?_; refine VSt.cast (off' := 0) (by first | omega | (dsimp only; omega) | rfl) (VSt.vec aT hup0 rfl ?_)) | (refine VSeq.go ?_) | (refine VLd.is ?_; refine VLd.mk (.row aT (by rfl)) ?_)
    all_goals (conv => whnf)
    refine VLoop.kr (α := Nat) [1000000, 6, 8, 9, 10, 11, 16, 18, 25, 26, 28, 31, 32, 170] rfl (fun j => j + 1 ≤ Ls.length) (fun j K => (171, .int .i64 (j : Int)) :: K)
      (fun j => .row b31 102 [.pointer (some ⟨y.b, 0, none⟩), .int .i64 (s.left - (m : Int)), .slice (some ⟨g, 0, none⟩) Ls.length Ls.length, .pointer (some ⟨s.b, 0, none⟩), .slice q1 I.length e1] :: .vec (some ⟨g, 0, none⟩) Ls.length Ls.length 4 1 (flat boolV (shPart NS j)) :: .vec q1 I.length e1 64 2 (flat evtV (atL (t : Int) I)) :: (ownH Y ++ (.vec qs2 sp.length cs2 3 1 (flat intV sp) :: L .busy none :: .vec pb nb cb 3 1 xs :: .row c3 29 (envC pf cf px cx v) :: .row c4 3 [.int .i64 (t : Int)] :: .row c5 3 [.int .i64 s.left] :: .obj d (.deferred (some [])) :: .row b28 99 [.pointer (some ⟨s.b, 0, none⟩)] :: .row b25 113 [.map (some bm)] :: .mapk bm (metM nx) :: .row b26 103 [.slice q nx.length cq] :: .vec q nx.length cq 99 1 (flat ptrV nx) :: .row b18 3 [.int .i64 (t : Int)] :: .vec (some ⟨gp, 0, none⟩) S.length cap 99 1 (flat ptrV S) :: .row b5 29 (envC pf cf px cx v) :: .row b6 30 [.slice pl Ls.length cl] :: .row b8 27 [.slice none 0 0] :: .row b9 3 [.int .i64 0] :: .row b10 4 [.bool false] :: .row b11 34 [.int .i64 0] :: .row b16 3 [.int .i64 ((Ls.length : Int) - 1)] :: (DD2.map defE ++ (nx.flatMap rnE ++ (A.flatMap rnE ++ S0)))))) (fun j => Ls.length - j) 0 (by omega) aE aH ?_
    intro j hj
    rcases Nat.lt_or_ge (j + 1) Ls.length with hjl | hjl
    · obtain ⟨b, hb⟩ : ∃ b, s.shown.l[j]? = some b := ⟨s.shown.l[j]'(by omega), List.getElem?_eq_getElem _⟩
      obtain ⟨mo, hmo2⟩ := h5.get (i := j) (by omega)
      have hmom := List.mem_of_getElem? hmo2
      have hnx : NS[j + 1]? = some (b && decide (Shown mo.mom sp)) := by
        rw [← hNS, nextShown_succ (by omega)]
        unfold shownAt
        rw [hb, ← hpat, List.getElem?_map, hmo2]
        rfl
      have hset := shPart_set hnx
      obtain ⟨b0, hb0⟩ : ∃ b0, (shPart NS j)[j + 1]? = some b0 := ⟨(shPart NS j)[j + 1]'(by rw [shPart_len (by omega)]; omega), List.getElem?_eq_getElem _⟩
      repeat' (conv => whnf); first | (refine VIx.is ?_; refine VIx.mk rfl (by omega) (by omega) ?_) | (refine VLd.is ?_; refine VLd.isB s.b ?_; refine VLd.mk (Rd.cast (Rd.memRow (by (repeat (first | exact hm1 | apply List.mem_cons_of_mem | apply List.mem_append_right)); first | done | fail) n2) (by first | omega | (dsimp only; omega) | rfl)) ?_) | (refine VLd.is ?_; refine VLd.isB gs ?_; refine VLd.mk (Rd.cast (Rd.memVec (by (repeat (first | exact hm2 | apply List.mem_cons_of_mem | apply List.mem_append_right)); first | done | fail) (sub_flat0 (f := boolV) (k := 1) (fun _ => rfl) hb rfl)) (by first | omega | (dsimp only; omega) | rfl)) ?_) | (refine VIx.is ?_; refine VIx.mk (h5.ptr (by omega)) (by omega) (by omega) ?_) | (refine VLd.is ?_; refine VLd.mk (Rd.cast (h5.rd0 (i := j) (by simp) (fun _ => rfl) hmo2 rfl) (by first | omega | (dsimp only; omega) | rfl)) ?_) | (refine VCall.isF 58 ?_; (refine VCall.genR (fun w' hw' => Exists.elim (Sl.own (f := intV) (l := sp) (cap := cs2) (e := 3) (p := qs2) (k := 1) hw' aT (fun _ => rfl) rfl) fun bq hbq => shown_any mo sp (by omega) qs2 cs2 bq 0 w' ((h6 mo hmom).keep hw') hbq) ?_; intro c' hc')) | (refine VSt.is ?_; refine VSt.cast (off' := (j + 1) * 1) (by first | omega | (dsimp only; omega) | rfl) (VSt.vec aT (upd_flat0 (f := boolV) (k := 1) (y := _) (fun _ => rfl) hb0 rfl) rfl ?_)) | (refine VSeq.go ?_) | (refine VB.is ?_; refine VB.yes (by omega) fun _ => ?_) | (refine boolE_split (fun h => ?_) (fun h => ?_) <;> subst h) | (refine VLd.is ?_; refine VLd.mk (.row aT (by rfl)) ?_) | (refine VAr.is ?_; refine oA ?_) | (refine VKeep.is ?_; refine VKeep.mk aH ?_) | (refine VHs.mk _ (.refl _) ?_)
      all_goals (conv => whnf)
      · refine VNext.mk (j + 1) (by omega) (by omega) aE ?_
        have hcd : (true && decide (Shown mo.mom sp)) = c' := by
          cases c'
          · simp only [Bool.true_and, decide_eq_false_iff_not]
            exact fun h => by have := hc'.2 h; cases this
          · simp only [Bool.true_and, decide_eq_true_eq]
            exact hc'.1 rfl
        rw [hcd] at hset
        rw [← hset]
        exact aH
      · refine VNext.mk (j + 1) (by omega) (by omega) aE ?_
        rw [Bool.false_and] at hset
        rw [← hset]
        exact aH
    rw [shPart_all (L := NS) (j := j) (by omega)]
    obtain ⟨xn, hxn⟩ : ∃ xn : RNode, xn = ⟨b31, Y, s.left - (m : Int), ⟨some ⟨g, 0, none⟩, Ls.length, NS⟩, some s.b, ⟨q1, e1, atL (t : Int) I⟩, s.run ++ atL (t : Int) I⟩ := ⟨_, rfl⟩
    have hxE : rnE xn = .row b31 102 [.pointer (some ⟨y.b, 0, none⟩), .int .i64 (s.left - (m : Int)), .slice (some ⟨g, 0, none⟩) Ls.length Ls.length, .pointer (some ⟨s.b, 0, none⟩), .slice q1 I.length e1] :: .vec (some ⟨g, 0, none⟩) Ls.length Ls.length 4 1 (flat boolV NS) :: .vec q1 I.length e1 64 2 (flat evtV (atL (t : Int) I)) :: ownH Y := by
      rw [rnE_of (x := xn) (m := Ls.length) (n := I.length) (by rw [hxn]; exact hNSl) (by rw [hxn]; exact hAl), hxn]
      dsimp only
      rw [hYb]
      rfl
    have hxok : NdOk N S0 Ls.length xn := by
      subst hxn
      refine ⟨hYrun, hYN, hYS, ?_, by dsimp only; omega, hNSl, ⟨g, rfl⟩⟩
      dsimp only
      rw [hYT]
      exact hsok.due.step I
    have hxs : xn.sit = NX := by
      subst hxn
      rw [hnxt]
      unfold RNode.sit
      dsimp only
      rw [hYT]
    have hxt2 : xn.sim.tick = t + 1 := by rw [hxn]; exact hYt
    have hxc : ∀ B, xn ∈ B → (∀ y ∈ A, y ∈ B) → Chain B (t + 1) xn := fun B b1 b2 => .next b1 (hsch.mono b2) (by rw [hxn]) (by rw [hxn]; dsimp only; omega) (by rw [hxn])
    have hkey : ∀ w', NodeRd w' xn.nd → PowTab w' → Calls Tryz.prog 62 #[.pointer (some ⟨b31, 0, none⟩)] w' fun e w2 => e = .returned (keyV xn) ∧ St w' [] [] w2 := by
      subst hxn
      exact fun w' h1 h2 => key_any _ w' h1 h2
    have hpt : ptrV xn = [.pointer (some ⟨b31, 0, none⟩)] := by rw [hxn]; rfl
    have hgr1 := hmore
    rw [← hxs] at hgr1
    clear hxn hnxt hNS hmore hYT
    repeat' (conv => whnf); first | (refine VCall.isF 62 ?_; (refine VCall.valR (fun w' hw' => hkey w' (NodeRd.of hxok (by omega) hw' (by rw [hxE]; exact aH)) (Lib.tabBelow_of_tabIs htab w' hw'.below)) ?_)) | (refine VLkK.is ?_; refine VLkK.is ?_; refine met_look aT i2.nd (by omega) hxok (fun hno => ?_) (fun hyes => ?_)) | (refine VUpK.is ?_; refine VUpK.is ?_; refine met_put aT i2.nd (by omega) hxok hno ?_) | (refine VAp.is ?_; refine VAp.own aT (.at_ (.vec aT rfl)) (by simp [Value.oneCell']) (by (try dsimp only); omega) (by simp only [maxLen]; omega) fun p' cap' hp' => ?_) | (refine VRound.is ?_; refine VRound.mk aT ?_) | (refine VSeq.go ?_) | (refine VB.is ?_; refine VB.no (by omega) fun _ => ?_) | (refine VB.split (fun _ => ?_) (fun _ => ?_)) | (refine VLd.is ?_; refine VLd.mk (.row aT (by rfl)) ?_) | (refine VSt.is ?_; refine VSt.row aT (by rfl) (by first | rfl | assumption) ?_) | (refine VNew.mk fun _ => ?_)
    all_goals (conv => whnf)
    · have hput := put_new hno
      have hbad := hover (by rw [hgr1, hput, if_pos (by rw [List.length_append, List.length_map, List.length_singleton]; omega)])
      refine .inr ⟨rfl, ?_⟩
      repeat' (conv => whnf); first | (refine VEnd.is ?_; refine VEnd.mk aT (by simp) ?_) | (refine VUn.is ?_; refine VUn.mk aT ?_) | (refine unE_is ?_; refine unE_marks aS ?_) | (refine VLd.is ?_; refine VLd.mk (.row aT (by rfl)) ?_)
      all_goals (conv => whnf)
      exact ⟨fun w' hw' => hfin w' _ hw' _ hbad⟩
    · have hput := put_new hno
      refine .inl ⟨rfl, (nx ++ [xn], p', cap'), ⟨by rw [List.length_append, List.length_singleton]; omega, i2.snoc hxok hxt2 hxc, ?_, fun _ => hp' (by omega)⟩, ?_⟩
      · rw [hgr1, hput, if_neg (by rw [List.length_append, List.length_map, List.length_singleton]; omega), List.map_append]
        rfl
      · dsimp only
        show HLe ([.vec pb nb cb 3 1 xs, .row c3 29 (envC pf cf px cx v), .row c4 3 [.int .i64 (t : Int)], .row c5 3 [.int .i64 s.left], L .ready none, .obj d (.deferred (some [])), .row b28 99 [.pointer (some ⟨s.b, 0, none⟩)], .row b25 113 [.map (some bm)], .mapk bm (metM (nx ++ [xn])), .row b26 103 [.slice p' (nx ++ [xn]).length cap'], .vec p' (nx ++ [xn]).length cap' 99 1 (flat ptrV (nx ++ [xn])), .row b18 3 [.int .i64 (t : Int)], .vec (some ⟨gp, 0, none⟩) S.length cap 99 1 (flat ptrV S), .row b5 29 (envC pf cf px cx v), .row b6 30 [.slice pl Ls.length cl], .row b8 27 [.slice none 0 0], .row b9 3 [.int .i64 0], .row b10 4 [.bool false], .row b11 34 [.int .i64 0], .row b16 3 [.int .i64 ((Ls.length : Int) - 1)]] ++ (DD2.map defE ++ ((nx ++ [xn]).flatMap rnE ++ (A.flatMap rnE ++ S0)))) _
        refine HLe.permL ?_ (flat_snoc2 _ _ _ _ _)
        rw [hxE, flat_append, flat_one, hpt, List.length_append, List.length_singleton]
        exact aH
    · have hput := put_old hyes
      refine .inl ⟨rfl, (nx, q, cq), ⟨i1, i2, ?_, i4⟩, by exact aH⟩
      rw [hgr1, hput, if_neg (by rw [List.length_map]; omega)]
  · rintro c ⟨nx, q, cq⟩ hc ⟨i1, i2, i3, i4⟩ hlt2
    refine ⟨i1, i2, ?_, i4⟩
    rw [succsT_succ]
    have e : succC N v pat (t : Int) s.sit c = [] := by unfold succC; exact if_pos hlt2
    rw [e, List.append_nil]
    exact i3
  rintro ⟨nx, q, cq⟩ pb nb cb xs ⟨i1, i2, i3, i4⟩
  dsimp only at i1 i2 i3 i4 ⊢
  repeat' (conv => whnf); first | (refine VEnd.is ?_; refine VEnd.mk aT (by simp) ?_) | (refine VAr.is ?_; refine oA ?_)
  all_goals (conv => whnf)
  refine VNext.mk (k + 1, nx, (q, cq), d :: DD2) ⟨⟨by dsimp only; omega, i1⟩, i2, ?_, i4⟩ (by dsimp only; omega) aE aH
  dsimp only
  rw [fromK_succ hs]
  exact i3

end Go.Proofs
