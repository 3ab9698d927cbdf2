import Derived.Test.YtephkjicokbckaaGreatDoorVerifyReachesRi
import Derived.Test.YtephkjicokbckaaGreatDoorVerifyReachesRk
import Derived.Test.YtephkjicokbckaaGreatDoorVerifyReachesEb
import Derived.Test.YtephkjicokbckaaGreatDoorVerifyReachesEc
import Derived.Test.YtephkjicokbckaaGreatDoorVerifyReachesWe
set_option linter.unusedVariables false

set_option linter.unusedSimpArgs false

namespace Go.Proofs

open Go Go.Vx Go.Gm

theorem _root_.Go.Vx.Src.mem {w0 : World} {M : List Nat} {H : HP} {q : Option Addr} {m cap e size : Nat} {xs : List Value} (h : Ent.vec q m cap e size xs ∈ H) (hq : 0 < m → ∃ g, q = some ⟨g, 0, none⟩) (hl : xs.length = m * size) : Src w0 M H q m size xs := by
  obtain ⟨u, r, hat⟩ := At.of_mem h
  exact Src.own hat hq hl

def RNd.sit (x : RNd) : Sit := ⟨smR x.sim, x.left, x.shown.l, x.run.l⟩

structure RnOk (N : Net) (pn : Option Addr) (qs : Option Addr) (m t : Nat) (s : RNd) : Prop where
  run : RRun s.sim
  net : s.sim.N = N
  pn : s.sim.pn = pn
  qs : s.sim.qs = qs
  tick : s.sim.tick = t
  left : 0 ≤ s.left ∧ s.left ≤ 9223372036854775807
  shown : s.shown.l.length = m
  sp : ∃ g, s.shown.p = some ⟨g, 0, none⟩
  len : s.run.l.length ≤ t * 256
  rp : 0 < s.run.l.length → ∃ g, s.run.p = some ⟨g, 0, none⟩

theorem sit_sig {a b : Sit} : a.sig = b.sig ↔ a.left = b.left ∧ a.shown = b.shown ∧ a.sm = b.sm := by
  obtain ⟨⟨a1, a2⟩, a3, a4, a5⟩ := a
  obtain ⟨⟨b1, b2⟩, b3, b4, b5⟩ := b
  unfold Sit.sig
  simp only [Prod.mk.injEq, Sm.mk.injEq]
  constructor
  · rintro ⟨⟨h1, h2⟩, h3, h4⟩
    exact ⟨h3, h4, h1, h2⟩
  · rintro ⟨h3, h4, h1, h2⟩
    exact ⟨⟨h1, h2⟩, h3, h4⟩

def fromR (f : Sit → List Sit) (S : List RNd) (k : Nat) : List Sit := ((S.take k).map RNd.sit).flatMap f

theorem fromR_zero (f : Sit → List Sit) (S : List RNd) : fromR f S 0 = [] := rfl

theorem fromR_succ {f : Sit → List Sit} {S : List RNd} {k : Nat} {s : RNd} (h : S[k]? = some s) : fromR f S (k + 1) = fromR f S k ++ f s.sit := by
  unfold fromR
  rw [List.take_add_one, h, Option.toList_some, List.map_append, List.flatMap_append]
  simp

theorem fromR_all (f : Sit → List Sit) (S : List RNd) : fromR f S S.length = (S.map RNd.sit).flatMap f := by
  unfold fromR
  rw [List.take_length]

theorem fromR_none {N : Net} {v : Sur} {pat : List Mom} {t : Int} {S : List RNd} {k c : Nat} {s : RNd} (hs : S[k]? = some s) (hc : c < 2 ^ v.free.length) (h : grow [] (fromR (succs N v pat t) S k ++ succsT N v pat t s.sit (c + 1)) = none) : grow [] ((S.map RNd.sit).flatMap (succs N v pat t)) = none := by
  have hr : (S.map RNd.sit).flatMap (succs N v pat t) = fromR (succs N v pat t) S (k + 1) ++ ((S.drop (k + 1)).map RNd.sit).flatMap (succs N v pat t) := by
    unfold fromR
    rw [← List.flatMap_append, ← List.map_append, List.take_append_drop]
  obtain ⟨q, hq⟩ := succsT_split N v pat t s.sit (c := c + 1) (n := 2 ^ v.free.length) (by omega)
  rw [hr, fromR_succ hs]
  rw [show succs N v pat t s.sit = succsT N v pat t s.sit (2 ^ v.free.length) from rfl, hq, ← List.append_assoc, List.append_assoc]
  exact grow_none h

theorem grow_step {A L : List Sit} {x : Sit} (h : grow [] A = some L) : grow [] (A ++ [x]) = if 5000 < (put L x).length then none else some (put L x) := by rw [grow_some h, grow_one]

set_option maxHeartbeats 16000000 in
theorem rrch_any (N : Net) (hN : N.wf) (v : Sur) (hfw : ∀ x ∈ v.fixed, x.wf) (hmo : I64 v.most) (Ls : List MomD) (ticks : Int) (hti : I64 ticks) (pn : Option Addr) (cn bn on : Nat) (qs : Option Addr) (cs bs os : Nat) (pf : Option Addr) (cf bf of : Nat) (px : Option Addr) (cx bx ox : Nat) (pl : Option Addr) (cl bl ol : Nat) (w : World)
    (h1 : Sl w parV 8 N.ps pn N.ps.length bn on) (h2 : Sl w synV 4 N.syns qs N.syns.length bs os) (h3 : Sl w intV 1 v.free pf v.free.length bf of) (h4 : Sl w evtV 2 v.fixed px v.fixed.length bx ox) (h5 : Sl w momV 2 Ls pl Ls.length bl ol) (h6 : ∀ x ∈ Ls, MomOk w x) (hnl : N.ps.length ≤ 1000000000) :
    Calls Tryz.prog 19 #[.agg #[.slice pn N.ps.length cn, .int .i64 N.inputs, .slice qs N.syns.length cs], .agg (envC pf cf px cx v).toArray, .slice pl Ls.length cl, .int .i64 ticks] w fun e w' => ∃ y : Option Addr × Nat,
      e = .returned (.tuple #[.slice y.1 (rchRes N v (Ls.map (·.mom)) ticks).1.length y.2, .int .i64 (rchRes N v (Ls.map (·.mom)) ticks).2.1, .bool (rchRes N v (Ls.map (·.mom)) ticks).2.2.1, .int .i64 (rchRes N v (Ls.map (·.mom)) ticks).2.2.2]) ∧
      (0 < (rchRes N v (Ls.map (·.mom)) ticks).1.length → ∃ g, y.1 = some ⟨g, 0, none⟩) ∧ St w [] [.vec y.1 (rchRes N v (Ls.map (·.mom)) ticks).1.length y.2 64 2 (flat evtV (rchRes N v (Ls.map (·.mom)) ticks).1)] w' := by
  unfold I64 at hti
  have hlm : (Ls.map (·.mom)).length = Ls.length := List.length_map ..
  obtain ⟨pat, hpat⟩ : ∃ pat, Ls.map (·.mom) = pat := ⟨_, rfl⟩
  have hVP := fun w' => rpat_any N.ps.length hnl Ls pn cn (.int .i64 N.inputs) (.slice qs N.syns.length cs) rfl pl cl bl ol w'
  rw [hpat] at hlm hVP ⊢
  have hfin : ∀ w' H, St w [] H w' → ∀ E, rchRes N v pat ticks = ([], 0, false, E) → ∃ y : Option Addr × Nat, Ending.returned (.tuple #[.slice none 0 0, .int .i64 0, .bool false, .int .i64 E]) = .returned (.tuple #[.slice y.1 (rchRes N v pat ticks).1.length y.2, .int .i64 (rchRes N v pat ticks).2.1, .bool (rchRes N v pat ticks).2.2.1, .int .i64 (rchRes N v pat ticks).2.2.2]) ∧
      (0 < (rchRes N v pat ticks).1.length → ∃ g, y.1 = some ⟨g, 0, none⟩) ∧ St w [] [.vec y.1 (rchRes N v pat ticks).1.length y.2 64 2 (flat evtV (rchRes N v pat ticks).1)] w' := by
    intro w' H hw' E hE
    rw [hE]
    exact ⟨(none, 0), rfl, by simp, hw'.le (HLe.nilv .nil)⟩
  have hone : oneAll [.slice pn N.ps.length cn, .int .i64 N.inputs, .slice qs N.syns.length cs] = true := rfl
  refine enter (C := Tryz.cx) (F := Tryz.fx19) (args := [_, _, _, _]) Tryz.func19 rfl rfl rfl Tryz.ok19 (St.start w []) ?_
  refine VSeq.go ?_
  repeat' (conv => whnf); first | (refine VNew.mk fun b5 => ?_)
  all_goals (conv => whnf)
  rename_i b4
  repeat' (conv => whnf); first | (refine VCall.isF 63 ?_; refine VCall.valR (fun w' hw' => refNetCheck_any N hN _ _ _ _ _ _ _ _ _ (h1.keep hw' (by simp)) (h2.keep hw' (by simp))) ?_) | (refine VCall.isF 64 ?_; refine VCall.valR (fun w' hw' => rsur_any N hN v hfw hmo (netchk_zero.1 (by omega)).inputs.1 _ _ hone _ _ _ _ _ _ _ _ w' (h3.keep hw' (by simp)) (h4.keep hw' (by simp))) ?_) | (refine VCall.isF 65 ?_; refine VCall.valR (fun w' hw' => hVP w' (h5.keep hw' (by simp)) (fun x hx => (h6 x hx).keep hw')) ?_) | (refine VCall.isF 66 ?_; refine VCall.val (rTime_any ticks) ?_) | (refine VSeq.go ?_) | (refine VB.is ?_; refine VB.yes (by omega) fun _ => ?_) | (refine VB.is ?_; refine VB.no (by omega) fun _ => ?_) | (refine VB.split (fun _ => ?_) (fun _ => ?_)) | (refine VLd.is ?_; refine VLd.mk (.row aT (by rfl)) ?_)
  all_goals (conv => whnf)
  all_goals try first
    | (have he : rchErr N v pat ticks = tmE ticks := by unfold rchErr; rw [if_neg (by omega), if_neg (by omega), if_neg (by omega)]
       exact ⟨fun w' hw' => hfin w' _ hw' _ (by unfold rchRes; rw [if_pos (by omega), he])⟩)
    | (have he : rchErr N v pat ticks = patErr N.ps.length pat := by unfold rchErr; rw [if_neg (by omega), if_neg (by omega), if_pos (by omega)]
       exact ⟨fun w' hw' => hfin w' _ hw' _ (by unfold rchRes; rw [if_pos (by omega), he])⟩)
    | (have he : rchErr N v pat ticks = surErr N v := by unfold rchErr; rw [if_neg (by omega), if_pos (by omega)]
       exact ⟨fun w' hw' => hfin w' _ hw' _ (by unfold rchRes; rw [if_pos (by omega), he])⟩)
    | (have he : rchErr N v pat ticks = netchk N := by unfold rchErr; rw [if_pos (by omega)]
       exact ⟨fun w' hw' => hfin w' _ hw' _ (by unfold rchRes; rw [if_pos (by omega), he])⟩)
  have hfacts : netchk N = 0 ∧ surErr N v = 0 ∧ patErr N.ps.length pat = 0 ∧ tmE ticks = 0 := ⟨by omega, by omega, by omega, by omega⟩
  have hz : rchErr N v pat ticks = 0 := by unfold rchErr; rw [if_neg (by omega), if_neg (by omega), if_neg (by omega)]; exact hfacts.2.2.2
  have htm : 0 ≤ ticks ∧ ticks ≤ 10000 := by
    have h := hfacts.2.2.2
    unfold tmE at h
    split at h
    · assumption
    · cases h
  have hNok : NetOk N := netchk_zero.1 hfacts.1
  have hv := surErr_zero hfacts.2.1
  have hm8 : 1 ≤ Ls.length ∧ Ls.length ≤ 8 := by
    have hp0 := hfacts.2.2.1
    unfold patErr at hp0
    split at hp0
    · omega
    · split at hp0
      · omega
      · omega
  have hres : rchRes N v pat ticks = search N v pat ticks.toNat 0 [sit0 N v pat] := by unfold rchRes; rw [if_neg (by omega)]
  obtain ⟨T, hT⟩ : ∃ T : Nat, ticks = T := ⟨ticks.toNat, by omega⟩
  subst hT
  rw [Int.toNat_natCast] at hres
  have hres0 := hres
  have hmost := hv.most
  unfold I64 at hmo
  have hinp := hNok.inputs
  have hfewN := hNok.few
  have hf6 := hv.few
  have hffew := hv.fixed.few
  clear hfacts hz hVP hN
  obtain ⟨L0, hL0⟩ : ∃ L0, true :: List.replicate (Ls.length - 1) false = L0 := ⟨_, rfl⟩
  have hL0l : L0.length = Ls.length := by rw [← hL0]; simp; omega
  have hup : upd (repL [.bool false] ((Ls.length : Int)).toNat) 0 [.bool true] = some (flat boolV L0) := by
    rw [Int.toNat_natCast, show repL [Value.bool false] Ls.length = flat boolV (List.replicate Ls.length false) from flat_rep (f := boolV) (x := false) Ls.length, ← hL0, ← rep_set Ls.length (by omega)]
    exact upd_flat0 (i := 0) (f := boolV) (k := 1) (y := true) (fun _ => rfl) (show (List.replicate Ls.length false)[0]? = some false by rw [List.getElem?_replicate, if_pos (by omega)]) rfl
  have hpow : ∀ i, i ≤ v.free.length → 2 ^ i ≤ 64 ∧ 2 ^ (i + 1) = 2 * 2 ^ i := fun i hi => ⟨Nat.le_trans (Nat.pow_le_pow_right (by omega) (show i ≤ 6 by omega)) (by omega), by rw [Nat.pow_succ]; omega⟩
  refine VLoop.mk (α := Nat) (fun i => i ≤ v.free.length) (fun i => [(1000000, .tuple #[]), (2, .slice pl Ls.length cl), (3, .int .i64 (T : Int)), (4, .pointer (some ⟨b4, 0, none⟩)), (5, .pointer (some ⟨b5, 0, none⟩)), (8, .slice none 0 0), (9, .int .i64 0), (10, .bool false), (11, .int .i64 0), (13, .int .i64 ((2 ^ i : Nat) : Int)), (14, .int .i64 (i : Int))])
    (fun _ => .row b4 25 [.slice pn N.ps.length cn, .int .i64 N.inputs, .slice qs N.syns.length cs] :: .row b5 38 (envC pf cf px cx v) :: []) (fun i => v.free.length - i) 0 (by omega) aE aH ?_
  rintro i hi
  obtain ⟨hq1, hq2⟩ := hpow i hi
  obtain ⟨Q, hQ⟩ : ∃ Q, 2 ^ i = Q := ⟨_, rfl⟩
  rw [hQ] at hq1 hq2 ⊢
  rcases Nat.lt_or_ge i v.free.length with hlt | hge
  · repeat' (conv => whnf); first | (refine VSeq.go ?_) | (refine VB.is ?_; refine VB.yes (by omega) fun _ => ?_) | (refine VLd.is ?_; refine VLd.mk (.row aT (by rfl)) ?_) | (refine VAr.is ?_; refine oA ?_)
    all_goals (conv => whnf)
    refine VNext.mk (i + 1) (by omega) (by omega) (by rw [hq2, show ((2 * Q : Nat) : Int) = 2 * (Q : Int) from by omega]; exact aE) aH
  have hie : i = v.free.length := by omega
  subst hie
  clear hq2
  repeat' (conv => whnf); first | (refine VMk.is ?_; refine VMk.mk (by omega) (by omega) (by (try dsimp only); omega) (by omega) fun g => ?_) | (refine VIx.is ?_; refine VIx.mk rfl (by omega) (by omega) ?_) | (refine VSt.is ?_; refine VSt.cast (off' := 0) (by first | omega | (dsimp only; omega) | rfl) (VSt.vec aT hup rfl ?_)) | (refine VCall.isF 67 ?_; (refine VCall.genR (fun w' hw' => refBegin_any N hNok pn cn qs cs w') ?_; rintro x ⟨hxN, hxt, hxs, hxD, ⟨hxp, hxc, hxq, hxcs⟩, gdp, hdp⟩)) | (refine VSeq.go ?_) | (refine VB.is ?_; refine VB.no (by omega) fun _ => ?_) | (refine VLd.is ?_; refine VLd.mk (.row aT (by rfl)) ?_) | (refine VNew.mk fun _ => ?_) | (refine VKeep.is ?_; refine VKeep.mk aH ?_) | (refine VHs.mk _ (.refl _) ?_)
  all_goals (conv => whnf)
  obtain ⟨x0, hx0⟩ : ∃ x0 : RNd, x0 = ⟨x, v.most, ⟨some ⟨g, 0, none⟩, Ls.length, L0⟩, ⟨none, 0, []⟩⟩ := ⟨_, rfl⟩
  have hxD16 : x.D.length = 16 := by
    have := congrArg List.length hxD
    rwa [List.length_map, List.length_replicate] at this
  have hxok : RSimOk x := ⟨by rw [hxN]; exact hNok, by rw [hxs, hxN, List.length_replicate], hxD16, fun d hd => by
    have hm : d.l ∈ x.D.map (·.l) := List.mem_map_of_mem hd
    rw [hxD] at hm
    rw [(List.mem_replicate.1 hm).2, List.length_replicate, hxN], ⟨gdp, hdp⟩⟩
  have hxrun : RRun x := ⟨hxok, by rw [hxN, hxs]; exact (sm0_ok hNok).ok, by omega⟩
  have hsmx : smR x = sm0 N := by
    unfold smR sm0
    rw [hxs, hxD]
  have hok0 : RnOk N pn qs Ls.length 0 x0 := by
    subst hx0
    exact ⟨hxrun, hxN, hxp, hxq, hxt, ⟨hmost, hmo.2⟩, hL0l, ⟨g, rfl⟩, by simp, by simp⟩
  have hsit0 : x0.sit = sit0 N v pat := by
    subst hx0
    unfold RNd.sit sit0
    dsimp only
    rw [hsmx, ← hL0, hlm]
  have hS0 : flat rndV [x0] = [.pointer (some ⟨x.b, 0, none⟩), .int .i64 v.most, .slice (some ⟨g, 0, none⟩) Ls.length Ls.length, .slice none 0 0] := by
    subst hx0
    rw [← hL0l]; rfl
  have hH0 : [x0].flatMap rndH = .vec (some ⟨g, 0, none⟩) Ls.length Ls.length 4 1 (flat boolV L0) :: .vec none 0 0 64 2 [] :: rsimH x := by
    rw [List.flatMap_cons, List.flatMap_nil, List.append_nil]
    subst hx0
    unfold rndH
    dsimp only
    rw [hL0l]
    rfl
  rename_i g2
  generalize hRx : rsimH x = Hx at *
  refine VLoop.kr (α := Nat × List RNd × (Option Addr × Nat)) [2, 3, 4, 5, 8, 9, 10, 11, 13] rfl
    (fun z => (z.1 ≤ T ∧ z.2.1.length ≤ 5000) ∧ (∀ s ∈ z.2.1, RnOk N pn qs Ls.length z.1 s) ∧ search N v pat T 0 [sit0 N v pat] = search N v pat (T - z.1) z.1 (z.2.1.map RNd.sit) ∧ (0 < z.2.1.length → ∃ g, z.2.2.1 = some ⟨g, 0, none⟩))
    (fun z K => (1000000, .tuple #[]) :: (17, .int .i64 (z.1 : Int)) :: (16, .slice z.2.2.1 z.2.1.length z.2.2.2) :: K)
    (fun z => .vec z.2.2.1 (z.2.1).length z.2.2.2 121 4 (flat rndV (z.2.1)) :: .row b4 25 [.slice pn N.ps.length cn, .int .i64 N.inputs, .slice qs N.syns.length cs] :: .row b5 38 (envC pf cf px cx v) :: z.2.1.flatMap rndH) (fun z => T - z.1) (0, [x0], (some ⟨g2, 0, none⟩, 1))
    ⟨⟨by dsimp only; omega, by simp⟩, fun s hs => by rw [List.mem_singleton.1 hs]; exact hok0, by dsimp only; rw [List.map_cons, List.map_nil, hsit0]; rfl, fun _ => ⟨_, rfl⟩⟩ aE ?_ ?_
  · dsimp only
    rw [hS0, hH0]
    refine HLe.cons aT (HLe.cons aT (HLe.cons aT (HLe.cons aT (HLe.nilv ?_))))
    exact aH
  rintro ⟨t, S, ⟨p, cap⟩⟩ ⟨⟨htT, hSl⟩, hS, hsr, hp⟩
  dsimp only at htT hSl hS hsr hp ⊢
  rw [hsr] at hres
  clear hsr hok0 hsit0 hx0 hup hL0 hL0l hsmx hS0 hH0 hxrun hxok hRx hxs hxD hxD16 hpow
  rcases Nat.lt_or_ge t T with hlt | hge
  rotate_left
  · have htT' : T - t = 0 := by omega
    rw [htT'] at hres
    repeat' (conv => whnf); first | (refine VSeq.go ?_) | (refine VB.is ?_; refine VB.yes (by omega) fun _ => ?_) | (refine VB.is ?_; refine VB.no (by omega) fun _ => ?_) | (refine VB.split (fun _ => ?_) (fun _ => ?_)) | (refine VAr.is ?_; refine oA ?_)
    all_goals (conv => whnf)
    exact ⟨fun w' hw' => hfin w' _ hw' _ hres⟩
  obtain ⟨n, hn⟩ : ∃ n, T - t = n + 1 := ⟨T - t - 1, by omega⟩
  rw [hn] at hres
  repeat' (conv => whnf); first | (refine VCall.isF 68 ?_; (refine VCall.genR (fun w' hw' => rfixed_any v (t : Int) (by omega) pf cf px cx bx ox w' (h4.keep hw' (by simp))) ?_; rintro ⟨pF, cF⟩ hpF; dsimp only at hpF ⊢)) | (refine VSeq.go ?_) | (refine VB.is ?_; refine VB.yes (by omega) fun _ => ?_) | (refine VLd.is ?_; refine VLd.mk (.row aT (by rfl)) ?_)
  all_goals (conv => whnf)
  have hFl : (fixedL v.fixed (t : Int)).length ≤ 65536 := Nat.le_trans (fixedL_len _ _) hffew
  obtain ⟨F, hF⟩ : ∃ F, fixedL v.fixed (t : Int) = F := ⟨_, rfl⟩
  rw [hF] at hpF hFl ⊢
  refine VLoop.kr (α := Nat) [1000000, 2, 3, 4, 5, 8, 9, 10, 11, 13, 16, 17, 18] rfl (fun k => k ≤ S.length ∧ ∀ s ∈ (S.map RNd.sit).take k, goal N pat s = false) (fun k K => (19, .int .i64 (k : Int)) :: K)
    (fun _ => .vec pF F.length cF 3 1 (flat intV F) :: .vec p (S).length cap 121 4 (flat rndV (S)) :: .row b4 25 [.slice pn N.ps.length cn, .int .i64 N.inputs, .slice qs N.syns.length cs] :: .row b5 38 (envC pf cf px cx v) :: S.flatMap rndH) (fun k => S.length - k) 0 ⟨by omega, by simp⟩ aE aH ?_
  rintro k ⟨hk, hno⟩
  rcases Nat.lt_or_ge k S.length with hks | hks
  · obtain ⟨s, hs⟩ : ∃ s, S[k]? = some s := ⟨S[k], List.getElem?_eq_getElem _⟩
    have hsS := List.mem_of_getElem? hs
    have hsok := hS s hsS
    have hsn := hsok.net
    obtain ⟨gp, rfl⟩ := hp (by omega)
    obtain ⟨gs, hgs⟩ := hsok.sp
    have hsl := hsok.shown
    have hsv : sub (rndV s) 0 4 = some [.pointer (some ⟨s.sim.b, 0, none⟩), .int .i64 s.left, .slice (some ⟨gs, 0, none⟩) Ls.length s.shown.c, .slice s.run.p s.run.l.length s.run.c] := by
      rw [← hgs, ← hsl]; rfl
    have hm2 : Ent.vec (some ⟨gs, 0, none⟩) Ls.length s.shown.c 4 1 (flat boolV s.shown.l) ∈ S.flatMap rndH := by
      rw [← hgs, ← hsl]
      exact List.mem_flatMap.2 ⟨s, hsS, by simp [rndH]⟩
    have hm3 : Ent.vec s.run.p s.run.l.length s.run.c 64 2 (flat evtV s.run.l) ∈ S.flatMap rndH := List.mem_flatMap.2 ⟨s, hsS, by simp [rndH]⟩
    obtain ⟨b, hb⟩ : ∃ b, s.shown.l[Ls.length - 1]? = some b := ⟨s.shown.l[Ls.length - 1]'(by omega), List.getElem?_eq_getElem _⟩
    obtain ⟨mo, hmo2⟩ := h5.get (i := Ls.length - 1) (by omega)
    have hmom := List.mem_of_getElem? hmo2
    obtain ⟨sp, hsp⟩ : ∃ sp, rSpk N (smR s.sim) = sp := ⟨_, rfl⟩
    have hspl : sp.length ≤ 1024 := by
      rw [← hsp, ← rSpk_go hsn]
      exact goFire_len hsok.run.ok
    have hgoal : goal N pat s.sit = (b && decide (Shown mo.mom sp)) := by
      unfold goal shownAt
      rw [show s.sit.sm = smR s.sim from rfl, show s.sit.shown = s.shown.l from rfl, hsp, hlm, hb, ← hpat, List.getElem?_map, hmo2]
      rfl
    have hown : HLe (rsimH s.sim) (S.flatMap rndH) := (HLe.of_sub [.vec s.shown.p s.shown.l.length s.shown.c 4 1 (flat boolV s.shown.l), .vec s.run.p s.run.l.length s.run.c 64 2 (flat evtV s.run.l)] (by show ([_, _] ++ rsimH s.sim).Perm _; exact List.perm_append_comm)).trans (HLe.mem_flat hsS)
    have htick := hsok.tick
    have hrl := hsok.len
    have hsrun := hsok.run
    have hspn := hsok.pn
    have hsqs := hsok.qs
    repeat' (conv => whnf); first | (refine VIx.is ?_; refine VIx.mk rfl (by omega) (by omega) ?_) | (refine VNew.mk fun b20 => ?_) | (refine VLd.is ?_; refine VLd.mk (Rd.cast (.vec aT (sub_flat0 (f := rndV) (k := 4) (fun _ => rfl) hs hsv)) (by first | omega | (dsimp only; omega) | rfl)) ?_) | (refine VLd.is ?_; refine VLd.isB gs ?_; refine VLd.mk (Rd.cast (Rd.memVec (by (repeat (first | exact hm2 | apply List.mem_cons_of_mem | apply List.mem_append_right)); first | done | fail) (sub_flat0 (f := boolV) (k := 1) (fun _ => rfl) hb rfl)) (by first | omega | (dsimp only; omega) | rfl)) ?_) | (refine VIx.is ?_; refine VIx.mk (h5.ptr (by omega)) (by omega) (by omega) ?_) | (refine VLd.is ?_; refine VLd.mk (Rd.cast (h5.rd0 (i := Ls.length - 1) (by simp) (fun _ => rfl) hmo2 rfl) (by first | omega | (dsimp only; omega) | rfl)) ?_) | (refine VCall.isF 70 ?_; (refine VCall.genR (fun w' hw' => rcopy_any s.sim hsrun w' (RSimRd.of hw' (hown.trans aH))) ?_; rintro y ⟨hy1, hy2, hy3, hy4⟩)) | (refine VCall.isF 71 ?_; (refine go_call2 y hy1.ok (by omega) hy1.sta [] (by simp) (by simp) bn on bs os (by rw [hy2.N, hsn, hy2.pn, hspn]; exact h1) (by simp) (by rw [hy2.N, hsn, hy2.qs, hsqs]; exact h2) (by simp) _ _ _ rfl 0 0 (Sl.nil (.inl rfl)) (by simp) aS ?_; rintro yg ⟨hg1, hg2, hg3⟩; rw [show spk (goFire y) = sp from by rw [rSpk_go (hy2.N.trans hsn), hy4, hsp]] at hg1 ⊢; generalize rsimH (y.next yg) = Y2)) | (refine VCall.isF 69 ?_; (refine VCall.genR (fun w' hw' => Exists.elim (Sl.own (f := intV) (l := sp) (cap := yg.cap) (e := 3) (p := yg.p) (k := 1) hw' aT (fun _ => rfl) rfl) fun bq hbq => shows_any mo sp (by omega) yg.p yg.cap bq 0 w' ((h6 mo hmom).keep hw') hbq) ?_; intro c hc)) | (refine VAp.is ?_; refine VAp.is ?_; refine VAp.own (q := s.run.p) aT (Src.mem (by (repeat (first | exact hm3 | apply List.mem_cons_of_mem | apply List.mem_append_right)); first | done | fail) hsok.rp (by rw [flat_length (k := 2) (fun _ => rfl)])) (flat_one_cell (by simp [evtV, Value.oneCell'])) (by (try dsimp only); omega) (by simp only [maxLen]; omega) fun p' cap' hp' => ?_) | (refine VSeq.is ?_; refine VSeq.isA 28 rfl ?_; refine VSeq.cut (at_ := 28) (α := Option Addr × Nat) (fun z => 0 < s.run.l.length → ∃ g, z.1 = some ⟨g, 0, none⟩) (fun z => [(1000000, .tuple #[]), (8, .slice none 0 0), (9, .int .i64 0), (10, .bool false), (11, .int .i64 0), (17, .int .i64 (t : Int)), (18, .slice pF F.length cF), (21, .slice z.1 s.run.l.length z.2)]) (fun z => [.vec z.1 s.run.l.length z.2 64 2 (flat evtV s.run.l), .vec pF F.length cF 3 1 (flat intV F)]) ?_ ?_) | (refine VSeq.go ?_) | (refine VB.is ?_; refine VB.yes (by omega) fun _ => ?_) | (refine boolE_split (fun h => ?_) (fun h => ?_) <;> subst h) | (refine VLd.is ?_; refine VLd.mk (.row aT (by rfl)) ?_) | (refine VSt.is ?_; refine VSt.row aT (by rfl) (by first | rfl | assumption) ?_) | (refine VAr.is ?_; refine oA ?_) | (refine VKeep.is ?_; refine VKeep.mk aH ?_) | (refine VHs.mk _ (.refl _) ?_)
    all_goals (conv => whnf)
    · rw [Nat.zero_add] at hp' ⊢
      exact VMid.mk (p', cap') hp' aE aH
    rotate_left
    · have hg : goal N pat s.sit = false := by
        rw [hgoal, Bool.true_and, decide_eq_false_iff_not]
        exact fun h => by have := hc.2 h; cases this
      exact VNext.mk (k + 1) ⟨by omega, take_no hno (by rw [List.getElem?_map, hs]; rfl) hg⟩ (by omega) aE aH
    · have hg : goal N pat s.sit = false := by rw [hgoal]; rfl
      exact VNext.mk (k + 1) ⟨by omega, take_no hno (by rw [List.getElem?_map, hs]; rfl) hg⟩ (by omega) aE aH
    have hgt : goal N pat s.sit = true := by rw [hgoal, Bool.true_and, decide_eq_true_eq]; exact hc.1 rfl
    have hfind : (S.map RNd.sit).find? (goal N pat) = some s.sit := find_at hno (by rw [List.getElem?_map, hs]; rfl) hgt
    have hout : rchRes N v pat (T : Int) = (s.run.l ++ atL (t : Int) F, (t : Int), true, 0) := by rw [hres]; unfold search; rw [hfind, ← hF]; rfl
    have hrl := hsok.len
    have hAl : ∀ j, (atL (t : Int) (F.take j)).length ≤ F.length := fun j => by
      unfold atL
      rw [List.length_map, List.length_take]; omega
    have hA0 : s.run.l ++ atL (t : Int) (F.take 0) = s.run.l := List.append_nil _
    rintro ⟨p1, c1⟩ hp1
    dsimp only at hp1 ⊢
    clear hfin hres hres0 hS hno hgoal hgt hfind hc hown hmo2 hb hsv hm2 hm3 hg1 hg2 hg3 hy1 hy2 hy3 hy4
    repeat' (conv => whnf); first | (refine VSeq.go ?_) | (refine VB.is ?_; refine VB.yes (by omega) fun _ => ?_) | (refine VB.is ?_; refine VB.no (by omega) fun _ => ?_) | (refine VB.split (fun _ => ?_) (fun _ => ?_)) | (refine VAr.is ?_; refine oA ?_)
    all_goals (conv => whnf)
    refine VLoop.kr (α := Nat × Option Addr × Nat) [1000000, 8, 9, 10, 11, 17, 18] rfl (fun z => z.1 ≤ F.length ∧ (0 < (s.run.l ++ atL (t : Int) (F.take z.1)).length → ∃ g, z.2.1 = some ⟨g, 0, none⟩)) (fun z K => (22, .int .i64 (z.1 : Int)) :: (21, .slice z.2.1 (s.run.l ++ atL (t : Int) (F.take z.1)).length z.2.2) :: K)
      (fun z => [.vec z.2.1 (s.run.l ++ atL (t : Int) (F.take z.1)).length z.2.2 64 2 (flat evtV (s.run.l ++ atL (t : Int) (F.take z.1))), .vec pF F.length cF 3 1 (flat intV F)]) (fun z => F.length - z.1) (0, p1, c1) ⟨by dsimp only; omega, by dsimp only; rw [hA0]; exact hp1⟩ (by dsimp only; rw [hA0]; exact aE) (by dsimp only; rw [hA0]; exact aH) ?_
    rintro ⟨j, p2, c2⟩ ⟨hj, hp2⟩
    dsimp only at hj hp2 ⊢
    have hAj := hAl j
    have hRl : (s.run.l ++ atL (t : Int) (F.take j)).length = s.run.l.length + (atL (t : Int) (F.take j)).length := List.length_append
    rcases Nat.lt_or_ge j F.length with hjl | hjg
    · obtain ⟨i, hi2⟩ : ∃ i, F[j]? = some i := ⟨F[j], List.getElem?_eq_getElem _⟩
      obtain ⟨gF, rfl⟩ := hpF (by omega)
      have htk : s.run.l ++ atL (t : Int) (F.take (j + 1)) = (s.run.l ++ atL (t : Int) (F.take j)) ++ [⟨(t : Int), i⟩] := by
        rw [List.take_add_one, hi2, Option.toList_some, List.append_assoc]
        unfold atL
        rw [List.map_append]
        rfl
      obtain ⟨RL, hRL⟩ : ∃ RL, s.run.l ++ atL (t : Int) (F.take j) = RL := ⟨_, rfl⟩
      rw [hRL] at htk hRl hp2 ⊢
      repeat' (conv => whnf); first | (refine VIx.is ?_; refine VIx.mk rfl (by omega) (by omega) ?_) | (refine VLd.is ?_; refine VLd.mk (Rd.cast (.vec aT (sub_flat0 (f := intV) (k := 1) (fun _ => rfl) hi2 rfl)) (by first | omega | (dsimp only; omega) | rfl)) ?_) | (refine VAp.is ?_; refine VAp.own aT (.at_ (.vec aT rfl)) (by simp [Value.oneCell']) (by (try dsimp only); omega) (by simp only [maxLen]; omega) fun p' cap' hp' => ?_) | (refine VSeq.go ?_) | (refine VB.is ?_; refine VB.yes (by omega) fun _ => ?_) | (refine VNew.mk fun _ => ?_) | (refine VAr.is ?_; refine oA ?_)
      all_goals (conv => whnf)
      refine VNext.mk (j + 1, p', cap') ⟨by dsimp only; omega, by dsimp only; rw [htk, List.length_append]; exact hp'⟩ (by dsimp only; omega) ?_ ?_
      · dsimp only
        rw [htk, List.length_append]
        exact aE
      · dsimp only
        rw [htk, List.length_append, flat_append]
        exact aH
    have hjF : j = F.length := by omega
    subst hjF
    rw [List.take_length] at hp2 ⊢
    repeat' (conv => whnf); first | (refine VSeq.go ?_) | (refine VB.is ?_; refine VB.yes (by omega) fun _ => ?_) | (refine VB.is ?_; refine VB.no (by omega) fun _ => ?_) | (refine VB.split (fun _ => ?_) (fun _ => ?_)) | (refine VAr.is ?_; refine oA ?_)
    all_goals (conv => whnf)
    rw [hout]
    exact ⟨fun w' hw' => ⟨(p2, c2), rfl, hp2, hw'.le aH⟩⟩
  have hkS : k = S.length := by omega
  subst hkS
  rw [List.take_of_length_le (by rw [List.length_map]; exact Nat.le_refl _)] at hno
  have hfind : (S.map RNd.sit).find? (goal N pat) = none := find_not hno
  have hsr : search N v pat (n + 1) t (S.map RNd.sit) = match grow [] ((S.map RNd.sit).flatMap (succs N v pat (t : Int))) with
      | none => ([], 0, false, 15)
      | some m => search N v pat n (t + 1) m := by
    rw [search, hfind]; rfl
  rw [hsr] at hres
  clear hno hfind hsr
  repeat' (conv => whnf); first | (refine VSeq.go ?_) | (refine VB.is ?_; refine VB.yes (by omega) fun _ => ?_) | (refine VB.is ?_; refine VB.no (by omega) fun _ => ?_) | (refine VB.split (fun _ => ?_) (fun _ => ?_)) | (refine VAr.is ?_; refine oA ?_)
  all_goals (conv => whnf)
  have hT2 : T ≤ 10000 := by omega
  refine VLoop.kr (α := Nat × List RNd × (Option Addr × Nat)) [1000000, 2, 3, 4, 5, 8, 9, 10, 11, 13, 16, 17, 18] rfl
    (fun z => (z.1 ≤ S.length ∧ z.2.1.length ≤ 5000) ∧ (∀ s ∈ z.2.1, RnOk N pn qs Ls.length (t + 1) s) ∧ grow [] (fromR (succs N v pat (t : Int)) S z.1) = some (z.2.1.map RNd.sit) ∧ (0 < z.2.1.length → ∃ g, z.2.2.1 = some ⟨g, 0, none⟩))
    (fun z K => (23, .slice z.2.2.1 z.2.1.length z.2.2.2) :: (24, .int .i64 (z.1 : Int)) :: K)
    (fun z => .vec z.2.2.1 (z.2.1).length z.2.2.2 121 4 (flat rndV (z.2.1)) :: .vec pF F.length cF 3 1 (flat intV F) :: .vec p (S).length cap 121 4 (flat rndV (S)) :: .row b4 25 [.slice pn N.ps.length cn, .int .i64 N.inputs, .slice qs N.syns.length cs] :: .row b5 38 (envC pf cf px cx v) :: (z.2.1.flatMap rndH ++ S.flatMap rndH)) (fun z => S.length - z.1) (0, [], (none, 0))
    ⟨⟨by dsimp only; omega, by simp⟩, fun x hx => by simp at hx, by rw [fromR_zero]; rfl, by simp⟩ aE ?_ ?_
  · dsimp only
    rw [List.flatMap_nil, List.nil_append]
    exact HLe.nilv aH
  rintro ⟨k, nx0, ⟨q0, cq0⟩⟩ ⟨⟨hk, hnl0⟩, hnx0, hgr0, hq0⟩
  dsimp only at hk hnl0 hnx0 hgr0 hq0 ⊢
  rcases Nat.lt_or_ge k S.length with hks | hks
  rotate_left
  · have hkS : k = S.length := by omega
    subst hkS
    rw [fromR_all] at hgr0
    rw [hgr0] at hres
    repeat' (conv => whnf); first | (refine VSeq.go ?_) | (refine VB.is ?_; refine VB.yes (by omega) fun _ => ?_) | (refine VB.is ?_; refine VB.no (by omega) fun _ => ?_) | (refine VB.split (fun _ => ?_) (fun _ => ?_)) | (refine VAr.is ?_; refine oA ?_)
    all_goals (conv => whnf)
    refine VNext.mk (t + 1, nx0, (q0, cq0)) ⟨⟨by dsimp only; omega, hnl0⟩, hnx0, ?_, hq0⟩ (by dsimp only; omega) aE aH
    dsimp only
    rw [show T - (t + 1) = n by omega, ← hres0]
    exact hres
  obtain ⟨s, hs⟩ : ∃ s, S[k]? = some s := ⟨S[k], List.getElem?_eq_getElem _⟩
  have hsS := List.mem_of_getElem? hs
  have hsok := hS s hsS
  obtain ⟨gp, rfl⟩ := hp (by omega)
  have hleft := hsok.left
  repeat' (conv => whnf); first | (refine VSeq.go ?_) | (refine VB.is ?_; refine VB.yes (by omega) fun _ => ?_) | (refine VB.is ?_; refine VB.no (by omega) fun _ => ?_) | (refine VB.split (fun _ => ?_) (fun _ => ?_)) | (refine VAr.is ?_; refine oA ?_)
  all_goals (conv => whnf)
  refine VLoop.kr (α := Nat × List RNd × (Option Addr × Nat)) [1000000, 2, 3, 4, 5, 8, 9, 10, 11, 13, 16, 17, 18, 24] rfl
    (fun z => (z.1 ≤ Q ∧ z.2.1.length ≤ 5000) ∧ (∀ s ∈ z.2.1, RnOk N pn qs Ls.length (t + 1) s) ∧ grow [] (fromR (succs N v pat (t : Int)) S k ++ succsT N v pat (t : Int) s.sit z.1) = some (z.2.1.map RNd.sit) ∧ (0 < z.2.1.length → ∃ g, z.2.2.1 = some ⟨g, 0, none⟩))
    (fun z K => (23, .slice z.2.2.1 z.2.1.length z.2.2.2) :: (25, .int .i64 (z.1 : Int)) :: K)
    (fun z => .vec z.2.2.1 (z.2.1).length z.2.2.2 121 4 (flat rndV (z.2.1)) :: .vec pF F.length cF 3 1 (flat intV F) :: .vec (some ⟨gp, 0, none⟩) (S).length cap 121 4 (flat rndV (S)) :: .row b4 25 [.slice pn N.ps.length cn, .int .i64 N.inputs, .slice qs N.syns.length cs] :: .row b5 38 (envC pf cf px cx v) :: (z.2.1.flatMap rndH ++ S.flatMap rndH)) (fun z => Q - z.1) (0, nx0, (q0, cq0))
    ⟨⟨by dsimp only; omega, hnl0⟩, hnx0, by rw [succsT_zero, List.append_nil]; exact hgr0, hq0⟩ aE aH ?_
  rintro ⟨c, nx, ⟨q, cq⟩⟩ ⟨⟨hc, hnl⟩, hnx, hgr, hq⟩
  dsimp only at hc hnl hnx hgr hq ⊢
  rcases Nat.lt_or_ge c Q with hcl | hcg
  rotate_left
  · have hcQ : c = Q := by omega
    subst hcQ
    repeat' (conv => whnf); first | (refine VSeq.go ?_) | (refine VB.is ?_; refine VB.yes (by omega) fun _ => ?_) | (refine VB.is ?_; refine VB.no (by omega) fun _ => ?_) | (refine VB.split (fun _ => ?_) (fun _ => ?_)) | (refine VAr.is ?_; refine oA ?_)
    all_goals (conv => whnf)
    refine VNext.mk (k + 1, nx, (q, cq)) ⟨⟨by dsimp only; omega, hnl⟩, hnx, ?_, hq⟩ (by dsimp only; omega) aE aH
    dsimp only
    rw [fromR_succ hs, ← hgr, ← hQ]; rfl
  have hIasc := insC_asc N v (t : Int) c
  have hIr := insC_range hinp.1 v (t : Int) c
  have hIl := insC_len hinp.1 hinp.2 v (t : Int) c
  have hM := fun (H : HP) (w' : World) (hw' : St w [] H w') (bq : Nat) (hbq : Sl w' intV 1 F pF F.length bq 0) => merged_any N hinp F v.free hFl hf6 c (by omega) (.slice pn N.ps.length cn) (.slice qs N.syns.length cs) hone pF cF bq 0 pf cf bf of w' hbq (h3.keep hw' (by simp))
  rw [merged_chosen hv hinp.1 c, show mergedT F v.free c N.inputs.toNat = insC N v (t : Int) c from by unfold insC; rw [hF]] at hM
  have hsucc := succsT_succ N v pat (t : Int) s.sit c
  have hnxt : nextSit N v pat (t : Int) s.sit c = ⟨refStep N (smR s.sim) (insC N v (t : Int) c), s.left - ((chosen v.free c).length : Int), nextShown pat s.shown.l (rSpk N (smR s.sim)), s.run.l ++ atL (t : Int) (insC N v (t : Int) c)⟩ := rfl
  have hsC : succC N v pat (t : Int) s.sit c = if s.left < ((chosen v.free c).length : Int) then [] else [nextSit N v pat (t : Int) s.sit c] := rfl
  have hcl6 : (chosen v.free c).length ≤ 6 := Nat.le_trans (chosenT_len _ _ _) hf6
  obtain ⟨I, hI⟩ : ∃ I, insC N v (t : Int) c = I := ⟨_, rfl⟩
  obtain ⟨m, hm⟩ : ∃ m, (chosen v.free c).length = m := ⟨_, rfl⟩
  rw [hm] at hsC hnxt hcl6 hM
  rw [hI] at hIasc hIr hIl hnxt hM
  have hsv : sub (rndV s) 0 4 = some [.pointer (some ⟨s.sim.b, 0, none⟩), .int .i64 s.left, .slice s.shown.p s.shown.l.length s.shown.c, .slice s.run.p s.run.l.length s.run.c] := rfl
  have hsv1 : sub (rndV s) 1 1 = some [.int .i64 s.left] := rfl
  have hrl := hsok.len
  have hst := hsok.tick
  have hrn := HLe.mem_flat (f := rndH) hsS
  repeat' (conv => whnf); first | (refine VIx.is ?_; refine VIx.mk rfl (by omega) (by omega) ?_) | (refine VLd.is ?_; refine VLd.mk (Rd.cast (.vec aT (sub_flat0 (f := rndV) (k := 4) (fun _ => rfl) hs hsv)) (by first | omega | (dsimp only; omega) | rfl)) ?_) | (refine VLd.is ?_; refine VLd.mk (Rd.cast (.vec aT (sub_flat (f := rndV) (k := 4) (fun _ => rfl) hs hsv1)) (by first | omega | (dsimp only; omega) | rfl)) ?_) | (refine VCall.isF 72 ?_; (refine VCall.genR (fun w' hw' => Exists.elim (Sl.own (f := intV) (l := F) (cap := cF) (e := 3) (p := pF) (k := 1) hw' aT (fun _ => rfl) rfl) fun bq hbq => hM _ w' hw' bq hbq) ?_; rintro ⟨pI, cI⟩ hpI; dsimp only at hpI ⊢)) | (refine VCall.isF 73 ?_; (refine VCall.genR (v := fun y : RNd => .agg #[.pointer (some ⟨y.sim.b, 0, none⟩), .int .i64 y.left, .slice y.shown.p y.shown.l.length y.shown.c, .slice y.run.p y.run.l.length y.run.c]) (fun w' hw' => Exists.elim (Sl.own (f := intV) (l := I) (cap := cI) (e := 3) (p := pI) (k := 1) hw' aT (fun _ => rfl) rfl) fun bq hbq => goes_any s hsok.run (by omega) Ls (by omega) hm8.2 hsok.shown (by omega) I (fun i hi => by have := hIr i hi; omega) (by omega) (m : Int) (t : Int) ⟨by omega, by omega, hleft.2⟩ pl cl bl ol pI cI bq 0 bn on bs os w' (RNdRd.of hw' (hrn.trans aH)) (h5.keep hw' (by simp)) (fun x hx => (h6 x hx).keep hw') hbq (by rw [hsok.net, hsok.pn]; exact h1.keep hw' (by simp)) (by rw [hsok.net, hsok.qs]; exact h2.keep hw' (by simp))) ?_; rintro y ⟨hy1, hy2, hy3, hy4, hy5, hy6, hy7, hy8, hy9⟩; generalize hRy : rndH y = Ry)) | (refine VNew.mk fun b28 => ?_) | (refine VSeq.go ?_) | (refine VB.is ?_; refine VB.yes (by omega) fun _ => ?_) | (refine VB.split (fun _ => ?_) (fun _ => ?_)) | (refine VLd.is ?_; refine VLd.mk (.row aT (by rfl)) ?_) | (refine VSt.is ?_; refine VSt.row aT (by rfl) (by first | rfl | assumption) ?_) | (refine VAr.is ?_; refine oA ?_)
  all_goals (conv => whnf)
  · rw [if_pos (by omega)] at hsC
    refine VNext.mk (c + 1, nx, (q, cq)) ⟨⟨by dsimp only; omega, hnl⟩, hnx, ?_, hq⟩ (by dsimp only; omega) aE aH
    dsimp only
    rw [hsucc, hsC, List.append_nil]
    exact hgr
  rw [if_neg (by omega), hnxt] at hsC
  have hyN := hy2.N.trans hsok.net
  have hIL : (atL (t : Int) I).length = I.length := List.length_map ..
  have hyok : RnOk N pn qs Ls.length (t + 1) y := ⟨hy1, hyN, hy2.pn.trans hsok.pn, hy2.qs.trans hsok.qs, by rw [hy3, hst], ⟨by omega, by omega⟩, by rw [hy6, nextShown_len, List.length_map], hy8, by rw [hy7, List.length_append, hIL]; omega, hy9⟩
  have hysit : y.sit = ⟨refStep N (smR s.sim) I, s.left - (m : Int), nextShown pat s.shown.l (rSpk N (smR s.sim)), s.run.l ++ atL (t : Int) I⟩ := by
    show (⟨smR y.sim, y.left, y.shown.l, y.run.l⟩ : Sit) = _
    rw [hy4, hy5, hy6, hy7, hsok.net, hpat]
  rw [← hysit] at hsC
  have hgs := grow_step (x := y.sit) hgr
  rw [List.append_assoc, ← hsC, ← hsucc] at hgs
  clear hM hsucc hsC hnxt hysit hy4 hy5 hy6 hy7 hIasc hIr hI hm hrn hsv hsv1
  refine VLoop.kr (α := Nat × Bool) [1000000, 2, 3, 4, 5, 8, 9, 10, 11, 13, 16, 17, 18, 23, 24, 25, 28] rfl
    (fun z => z.1 ≤ nx.length ∧ (z.2 = true → (nx.map RNd.sit).any (fun u => decide (u.sig = y.sit.sig)) = true) ∧ (z.2 = false → ∀ u ∈ (nx.map RNd.sit).take z.1, decide (u.sig = y.sit.sig) = false)) (fun z K => (29, .bool z.2) :: (30, .int .i64 (z.1 : Int)) :: K)
    (fun _ => .row b28 121 [.pointer (some ⟨y.sim.b, 0, none⟩), .int .i64 y.left, .slice y.shown.p y.shown.l.length y.shown.c, .slice y.run.p y.run.l.length y.run.c] :: .vec q (nx).length cq 121 4 (flat rndV (nx)) :: .vec pF F.length cF 3 1 (flat intV F) :: .vec (some ⟨gp, 0, none⟩) (S).length cap 121 4 (flat rndV (S)) :: .row b4 25 [.slice pn N.ps.length cn, .int .i64 N.inputs, .slice qs N.syns.length cs] :: .row b5 38 (envC pf cf px cx v) :: (Ry ++ (nx.flatMap rndH ++ S.flatMap rndH))) (fun z => nx.length - z.1) (0, false) ⟨by dsimp only; omega, by simp, by simp⟩ aE aH ?_
  rintro ⟨j, is⟩ ⟨hj, hi1, hi2⟩
  dsimp only at hj hi1 hi2 ⊢
  cases is with
  | true =>
    have hput : put (nx.map RNd.sit) y.sit = nx.map RNd.sit := by unfold put; rw [if_pos (hi1 rfl)]
    rw [hput, List.length_map, if_neg (by omega)] at hgs
    repeat' (conv => whnf); first | (refine VSeq.go ?_) | (refine VB.is ?_; refine VB.yes (by omega) fun _ => ?_) | (refine VB.is ?_; refine VB.no (by omega) fun _ => ?_) | (refine VB.split (fun _ => ?_) (fun _ => ?_)) | (refine VAr.is ?_; refine oA ?_)
    all_goals (conv => whnf)
    all_goals refine VNext.mk (c + 1, nx, (q, cq)) ⟨⟨by dsimp only; omega, hnl⟩, hnx, hgs, hq⟩ (by dsimp only; omega) aE aH
  | false =>
    have hi2 := hi2 rfl
    rcases Nat.lt_or_ge j nx.length with hjl | hjg
    · obtain ⟨u, hu⟩ : ∃ u, nx[j]? = some u := ⟨nx[j], List.getElem?_eq_getElem _⟩
      have hunx := List.mem_of_getElem? hu
      have huok := hnx u hunx
      obtain ⟨gq, rfl⟩ := hq (by omega)
      have huv : sub (rndV u) 0 4 = some [.pointer (some ⟨u.sim.b, 0, none⟩), .int .i64 u.left, .slice u.shown.p u.shown.l.length u.shown.c, .slice u.run.p u.run.l.length u.run.c] := rfl
      have hrn := HLe.mem_flat (f := rndH) hunx
      have hus : (nx.map RNd.sit)[j]? = some u.sit := by rw [List.getElem?_map, hu]; rfl
      repeat' (conv => whnf); first | (refine VIx.is ?_; refine VIx.mk rfl (by omega) (by omega) ?_) | (refine VLd.is ?_; refine VLd.mk (Rd.cast (.vec aT (sub_flat0 (f := rndV) (k := 4) (fun _ => rfl) hu huv)) (by first | omega | (dsimp only; omega) | rfl)) ?_) | (refine VCall.isF 74 ?_; (refine VCall.genR (fun w' hw' => rsame_any u y huok.run hy1 (by rw [hyN, huok.net]) (by rw [hyok.shown, huok.shown]) (by rw [huok.shown]; omega) w' (RNdRd.of hw' (hrn.trans aH)) (RNdRd.of hw' (by rw [hRy]; exact aH))) ?_; intro cc hcc)) | (refine VSeq.go ?_) | (refine VB.is ?_; refine VB.yes (by omega) fun _ => ?_) | (refine VLd.is ?_; refine VLd.mk (.row aT (by rfl)) ?_) | (refine VAr.is ?_; refine oA ?_) | (refine VHs.mk _ (.refl _) ?_)
      all_goals (conv => whnf)
      refine VNext.mk (j + 1, cc) ⟨by dsimp only; omega, fun h => ?_, fun h => ?_⟩ (by dsimp only; omega) aE aH
      · dsimp only at h
        exact List.any_eq_true.2 ⟨u.sit, List.mem_of_getElem? hus, decide_eq_true (sit_sig.2 (hcc.1 h))⟩
      · dsimp only at h
        refine take_no hi2 hus (decide_eq_false fun hs => ?_)
        rw [hcc.2 (sit_sig.1 hs)] at h
        cases h
    · rw [List.take_of_length_le (by rw [List.length_map]; exact hjg)] at hi2
      have hput : put (nx.map RNd.sit) y.sit = (nx ++ [y]).map RNd.sit := by
        unfold put
        rw [if_neg, List.map_append]
        · rfl
        · rw [List.any_eq_true]
          rintro ⟨u, hu, h⟩
          rw [hi2 u hu] at h
          cases h
      rw [hput, List.length_map, List.length_append, List.length_singleton] at hgs
      have hfl : flat rndV (nx ++ [y]) = flat rndV nx ++ [.pointer (some ⟨y.sim.b, 0, none⟩), .int .i64 y.left, .slice y.shown.p y.shown.l.length y.shown.c, .slice y.run.p y.run.l.length y.run.c] := by rw [flat_append]; rfl
      repeat' (conv => whnf); first | (refine VAp.is ?_; refine VAp.own aT (.at_ (.vec aT rfl)) (by simp [Value.oneCell']) (by (try dsimp only); omega) (by simp only [maxLen]; omega) fun p' cap' hp' => ?_) | (refine VSeq.go ?_) | (refine VB.is ?_; refine VB.no (by omega) fun _ => ?_) | (refine VB.split (fun _ => ?_) (fun _ => ?_)) | (refine VLd.is ?_; refine VLd.mk (.row aT (by rfl)) ?_) | (refine VNew.mk fun _ => ?_) | (refine VAr.is ?_; refine oA ?_)
      all_goals (conv => whnf)
      · rw [if_pos (by omega)] at hgs
        have hno : grow [] ((S.map RNd.sit).flatMap (succs N v pat (t : Int))) = none := fromR_none hs (by rw [hQ]; exact hcl) hgs
        rw [hno] at hres
        exact ⟨fun w' hw' => hfin w' _ hw' _ hres⟩
      · rw [if_neg (by omega)] at hgs
        refine VNext.mk (c + 1, nx ++ [y], (p', cap')) ⟨⟨by dsimp only; omega, by dsimp only; rw [List.length_append, List.length_singleton]; omega⟩, fun x hx => ?_, hgs, by dsimp only; rw [List.length_append, List.length_singleton]; exact hp'⟩ (by dsimp only; omega) (by dsimp only; rw [List.length_append, List.length_singleton]; exact aE) ?_
        · rcases List.mem_append.1 hx with hx | hx
          · exact hnx x hx
          · rw [List.mem_singleton.1 hx]; exact hyok
        · dsimp only
          rw [hfl, List.length_append, List.length_singleton, List.flatMap_append, List.flatMap_singleton, hRy, List.append_assoc]
          exact aH

end Go.Proofs
