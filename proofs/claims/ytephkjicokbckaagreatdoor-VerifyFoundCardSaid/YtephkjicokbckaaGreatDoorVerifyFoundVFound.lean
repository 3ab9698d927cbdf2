import Derived.Test.YtephkjicokbckaaGreatDoorVerifyFoundVReaches
import Derived.Test.YtephkjicokbckaaGreatDoorVerifyFoundLk
import Derived.Test.YtephkjicokbckaaGreatDoorVerifyFoundVerifyFoundF
set_option linter.unusedVariables false

set_option linter.unusedSimpArgs false

namespace Go.Proofs

open Go Go.Vx Go.Gm

theorem run_ok {N : Net} (hN : NetOk N) {l : List Evt} {T : Nat} (hT : T ≤ 100) (hl : EvOk N.inputs 10000 l) (hf : N.ps.length ≤ 10) : runRes N l (T : Int) = (outTo N l T, 0) ∧ (outTo N l T).length ≤ 1000 := by
  have h1 := outTo_few hN l T
  have h2 : T * N.ps.length ≤ 100 * 10 := Nat.mul_le_mul hT hf
  refine ⟨?_, by omega⟩
  rw [runRes_eq (prep_zero.2 ⟨hN, ⟨by omega, by omega⟩, hl⟩), Int.toNat_natCast, if_neg (by omega)]

set_option maxHeartbeats 8000000 in
theorem VerifyFound_any (N : Net) (hN : N.wf) (v : Sur) (hv : (∀ x ∈ v.fixed, x.wf) ∧ I64 v.most) (Ls : List MomD) (ticks : Int) (hti : I64 ticks) (ch : List Int) (hch : ∀ x ∈ ch, 0 ≤ x ∧ x < 256) (pn : Option Addr) (cn bn on : Nat) (qs : Option Addr) (cs bs os : Nat) (pf : Option Addr) (cf bf of : Nat) (px : Option Addr) (cx bx ox : Nat) (pl : Option Addr) (cl bl ol : Nat) (pc : Option Addr) (cc bc oc : Nat) (w : World) (htab : PowTab w)
    (h1 : Sl w parV 8 N.ps pn N.ps.length bn on) (h2 : Sl w synV 4 N.syns qs N.syns.length bs os) (h3 : Sl w intV 1 v.free pf v.free.length bf of) (h4 : Sl w evtV 2 v.fixed px v.fixed.length bx ox) (hcx : v.fixed.length ≤ cx) (h5 : Sl w momV 2 Ls pl Ls.length bl ol) (h6 : ∀ x ∈ Ls, MomIn w x) (h7 : Sl w byteV 1 ch pc ch.length bc oc) :
    Calls Tryz.prog 7 #[.agg #[.slice pn N.ps.length cn, .int .i64 N.inputs, .slice qs N.syns.length cs], .agg (envC pf cf px cx v).toArray, .slice pl Ls.length cl, .int .i64 ticks, .slice pc ch.length cc] w fun e w' => e = .returned (.bool true) ∧ St w [] [] w' := by
  obtain ⟨hfw, hmo⟩ := hv
  obtain ⟨pat, hpat⟩ : ∃ pat, Ls.map (·.mom) = pat := ⟨_, rfl⟩
  obtain ⟨R, hR⟩ : ∃ R, rchRes N v pat ticks = R := ⟨_, rfl⟩
  have hfine := rch_fine N v pat ticks
  have hsp := rch_spec (N := N) (v := v) (pat := pat) (ticks := ticks)
  have hV := vReach_any N hN v hfw hmo Ls ticks hti pn cn bn on qs cs bs os pf cf bf of px cx bx ox pl cl bl ol
  rw [hpat] at hV
  rw [hR] at hfine hV hsp
  obtain ⟨R1, R2, R3, R4⟩ := R
  dsimp only at hfine hV hsp
  refine enter (C := Tryz.cx) (F := Tryz.fx7) (args := [_, _, _, _, _]) Tryz.func7 rfl rfl rfl Tryz.ok7 (St.start w []) ?_
  refine VSeq.go ?_
  repeat' (conv => whnf); first | (refine VNew.mk fun b6 => ?_) | (refine VB.is ?_; refine VB.yes (by omega) fun _ => ?_) | (refine VB.is ?_; refine VB.no (by omega) fun _ => ?_) | (refine VB.split (fun _ => ?_) (fun _ => ?_)) | (refine boolE_split (fun h => ?_) (fun h => ?_) <;> subst h) | (refine VLd.is ?_; refine VLd.mk (.row aT (by rfl)) ?_) | (refine VSt.is ?_; refine VSt.row aT (by rfl) (by first | rfl | assumption) ?_) | (refine VNew.mk fun _ => ?_) | (refine VAr.is ?_; refine oA ?_) | (refine VIx.is ?_; refine VIx.mk rfl (by omega) (by omega) ?_) | (refine VKeep.is ?_; refine VKeep.mk aH ?_) | (refine VHs.mk _ (.refl _) ?_) | (refine VQ.is ?_; refine oQ ?_) | (refine VM.is ?_; refine oM ?_) | (refine And.intro ?_ ?_)
  all_goals (conv => whnf)
  rename_i b5
  repeat' (conv => whnf); first | (refine VCall.isF 15 ?_; (refine VCall.genR (fun w' _ => vfew_any _ _ _ _ _ _ _ w') ?_; intro bf hbf)) | (refine VCall.isF 16 ?_; (refine VCall.genR (fun w' hw' => vsearched_any v Ls ticks pf cf px cx pl cl bl ol w' (h5.keep hw' (by simp))) ?_; intro bs1 hbs1)) | (refine VCall.isF 17 ?_; (refine VCall.valR (fun w' hw' => vworks_any w' (Lib.tabBelow_of_tabIs htab w' hw'.below)) ?_)) | (refine VCall.isF 18 ?_; (refine VCall.genR (fun w' hw' => hV w' (h1.keep hw' (by simp)) (h2.keep hw' (by simp)) (h3.keep hw' (by simp)) (h4.keep hw' (by simp)) hcx (h5.keep hw' (by simp)) (fun x hx => ((hbs1 rfl).ok h6 x hx).keep hw') (by have := hbf rfl; omega) (Lib.tabBelow_of_tabIs htab w' hw'.below)) ?_; rintro ⟨p1, c1⟩ hp1; dsimp only at hp1 ⊢)) | (refine VSeq.is ?_; refine VSeq.isA 6 rfl ?_; refine VSeq.cut (at_ := 6) (α := Unit) (fun _ => R4 = 0) (fun _ => [(1000000, .tuple #[]), (2, .slice pl Ls.length cl), (3, .int .i64 ticks), (4, .slice pc ch.length cc), (5, .pointer (some ⟨b5, 0, none⟩)), (6, .pointer (some ⟨b6, 0, none⟩)), (10, .bool false), (11, .slice p1 R1.length c1), (12, .int .i64 R2), (13, .bool R3)]) (fun _ => .vec p1 R1.length c1 64 2 (flat evtV R1) :: .row b5 25 [.slice pn N.ps.length cn, .int .i64 N.inputs, .slice qs N.syns.length cs] :: .row b6 29 (envC pf cf px cx v) :: []) ?_ ?_) | (refine VSeq.go ?_) | (refine VB.is ?_; refine VB.yes (by omega) fun _ => ?_) | (refine VB.is ?_; refine VB.no (by omega) fun _ => ?_) | (refine VB.split (fun _ => ?_) (fun _ => ?_)) | (refine boolE_split (fun h => ?_) (fun h => ?_) <;> subst h) | (refine VLd.is ?_; refine VLd.mk (.row aT (by rfl)) ?_) | (refine VSt.is ?_; refine VSt.row aT (by rfl) (by first | rfl | assumption) ?_) | (refine VNew.mk fun _ => ?_) | (refine VAr.is ?_; refine oA ?_) | (refine VIx.is ?_; refine VIx.mk rfl (by omega) (by omega) ?_) | (refine VKeep.is ?_; refine VKeep.mk aH ?_) | (refine VHs.mk _ (.refl _) ?_) | (refine VQ.is ?_; refine oQ ?_) | (refine VM.is ?_; refine oM ?_) | (refine And.intro ?_ ?_)
  all_goals (conv => whnf)
  all_goals try exact ⟨fun w' hw' => ⟨rfl, hw'.le .nil⟩⟩
  · exact VMid.mk () (by omega) aE aH
  rintro _ hR4
  obtain ⟨hok0, hfound, hnone⟩ := hsp hR4
  have hok := rchErr_zero hok0
  have hS := hbs1 rfl
  have hMo := hS.ok h6
  obtain ⟨T, hT⟩ : ∃ T : Nat, ticks = T := ⟨ticks.toNat, by have := hok.ticks; omega⟩
  subst hT
  rw [Int.toNat_natCast] at hfound hnone
  have hT100 : T ≤ 100 := by have := hok.ticks; have := hS.ticks; omega
  have hfew := (hbf rfl).1
  have hNk := hok.net
  have hvk := hok.sur
  have hfx : v.fixed.length ≤ 60 := by have := hS.fixed; have := hvk.fixed.few; omega
  have hf6 := hvk.few
  have hinp := hNk.inputs
  have hLl : Ls.length ≤ 12 := hS.pat
  have hlm : pat.length = Ls.length := by rw [← hpat]; exact List.length_map ..
  have hpos := hok.pat
  have hmost := hvk.most
  unfold I64 at hmo
  clear hsp hV hR hS hok0 hti hok
  refine VSeq.go ?_
  repeat' (conv => whnf); first | (refine VB.is ?_; refine VB.yes (by omega) fun _ => ?_) | (refine VB.is ?_; refine VB.no (by omega) fun _ => ?_) | (refine VB.split (fun _ => ?_) (fun _ => ?_)) | (refine boolE_split (fun h => ?_) (fun h => ?_) <;> subst h) | (refine VLd.is ?_; refine VLd.mk (.row aT (by rfl)) ?_) | (refine VSt.is ?_; refine VSt.row aT (by rfl) (by first | rfl | assumption) ?_) | (refine VNew.mk fun _ => ?_) | (refine VAr.is ?_; refine oA ?_) | (refine VIx.is ?_; refine VIx.mk rfl (by omega) (by omega) ?_) | (refine VKeep.is ?_; refine VKeep.mk aH ?_) | (refine VHs.mk _ (.refl _) ?_) | (refine VQ.is ?_; refine oQ ?_) | (refine VM.is ?_; refine oM ?_) | (refine And.intro ?_ ?_)
  all_goals (conv => whnf)
  refine VSeq.cut (at_ := 17) (α := Nat) (fun L => L ≤ T ∧ ∀ u, u < L → NoAt N v pat u) (fun L => [(1000000, .tuple #[]), (2, .slice pl Ls.length cl), (3, .int .i64 (T : Int)), (4, .slice pc ch.length cc), (5, .pointer (some ⟨b5, 0, none⟩)), (6, .pointer (some ⟨b6, 0, none⟩)), (10, .bool false), (15, .int .i64 (L : Int))]) (fun _ => .row b5 25 [.slice pn N.ps.length cn, .int .i64 N.inputs, .slice qs N.syns.length cs] :: .row b6 29 (envC pf cf px cx v) :: []) ?_ ?_
  · cases R3 with
    | false =>
      repeat' (conv => whnf); first | (refine VSeq.go ?_) | (refine VB.is ?_; refine VB.yes (by omega) fun _ => ?_) | (refine VB.is ?_; refine VB.no (by omega) fun _ => ?_) | (refine VB.split (fun _ => ?_) (fun _ => ?_)) | (refine boolE_split (fun h => ?_) (fun h => ?_) <;> subst h) | (refine VLd.is ?_; refine VLd.mk (.row aT (by rfl)) ?_) | (refine VSt.is ?_; refine VSt.row aT (by rfl) (by first | rfl | assumption) ?_) | (refine VNew.mk fun _ => ?_) | (refine VAr.is ?_; refine oA ?_) | (refine VIx.is ?_; refine VIx.mk rfl (by omega) (by omega) ?_) | (refine VKeep.is ?_; refine VKeep.mk aH ?_) | (refine VHs.mk _ (.refl _) ?_) | (refine VQ.is ?_; refine oQ ?_) | (refine VM.is ?_; refine oM ?_) | (refine And.intro ?_ ?_)
      all_goals (conv => whnf)
      exact VMid.mk T ⟨Nat.le_refl _, hnone rfl⟩ aE aH
    | true =>
      obtain ⟨a, ha, haT, hfa⟩ := hfound rfl
      have hg := found_good hNk hvk hpos hfa
      subst ha
      have hevk := EvOk.of hg.ok (by omega) (by have := hg.few; omega)
      obtain ⟨hrun, hOl⟩ := run_ok hNk hT100 hevk hfew
      have hsh := fun (t : Nat) (ht : t < T) => shown_run (N := N) (l := R1) (pat := pat) ht
      obtain ⟨O, hO⟩ : ∃ O, outTo N R1 T = O := ⟨_, rfl⟩
      rw [hO] at hrun hOl hsh
      repeat' (conv => whnf); first | (refine VCall.isF 30 ?_; (refine VCall.genR (fun w' hw' => Exists.elim (Sl.own (f := evtV) (l := R1) (cap := c1) (e := 64) (p := p1) (k := 2) hw' aT (fun _ => rfl) rfl) fun bq hbq => Run_any N hN R1 hfine.1 (T : Int) _ _ _ _ _ _ _ _ p1 c1 bq 0 w' (h1.keep hw' (by simp)) (h2.keep hw' (by simp)) hbq (vec_facts (hw'.own (.vec p1 R1.length c1 64 2 (flat evtV R1)) (by simp))).1) ?_; rintro ⟨r2, cr2⟩ _; rw [hrun]; dsimp only)) | (refine VCall.isF 31 ?_; (refine VCall.genR (fun w' hw' => Exists.elim (Sl.own (f := evtV) (l := O) (cap := cr2) (e := 64) (p := r2) (k := 2) hw' aT (fun _ => rfl) rfl) fun bq hbq => vshown_any O (by omega) Ls (by omega) (a : Int) ⟨by omega, by omega⟩ r2 cr2 bq 0 pl cl bl ol w' hbq (h5.keep hw' (by simp)) (fun x hx => (hMo x hx).keep hw')) ?_; intro cb hcb; rw [hpat] at hcb; have hcb := hcb.2 ((hsh a haT).2 hg.shown); subst hcb)) | (refine VCall.isF 32 ?_; (refine VCall.valR (fun w' hw' => Exists.elim (Sl.own (f := evtV) (l := R1) (cap := c1) (e := 64) (p := p1) (k := 2) hw' aT (fun _ => rfl) rfl) fun bq hbq => vkept_any v R1 (a : Int) ⟨by omega, by omega⟩ (by omega) (by have := hg.few; omega) hf6 hg.fixed (fun e he => by have := hg.ok.range e he; omega) hg.free hg.len pf cf bf of px cx bx ox p1 c1 bq 0 w' (h3.keep hw' (by simp)) (h4.keep hw' (by simp)) hbq) ?_)) | (refine VSeq.go ?_) | (refine VB.is ?_; refine VB.yes (by omega) fun _ => ?_) | (refine VB.is ?_; refine VB.no (by omega) fun _ => ?_) | (refine VB.split (fun _ => ?_) (fun _ => ?_)) | (refine boolE_split (fun h => ?_) (fun h => ?_) <;> subst h) | (refine VLd.is ?_; refine VLd.mk (.row aT (by rfl)) ?_) | (refine VSt.is ?_; refine VSt.row aT (by rfl) (by first | rfl | assumption) ?_) | (refine VNew.mk fun _ => ?_) | (refine VAr.is ?_; refine oA ?_) | (refine VIx.is ?_; refine VIx.mk rfl (by omega) (by omega) ?_) | (refine VKeep.is ?_; refine VKeep.mk aH ?_) | (refine VHs.mk _ (.refl _) ?_) | (refine VQ.is ?_; refine oQ ?_) | (refine VM.is ?_; refine oM ?_) | (refine And.intro ?_ ?_)
      all_goals (conv => whnf)
      refine VLoop.kr (α := Nat) [1000000, 2, 3, 4, 5, 6, 10, 12, 16] rfl (fun t => t ≤ a) (fun t K => (18, .int .i64 (t : Int)) :: K) (fun _ => .vec r2 O.length cr2 64 2 (flat evtV O) :: .row b5 25 [.slice pn N.ps.length cn, .int .i64 N.inputs, .slice qs N.syns.length cs] :: .row b6 29 (envC pf cf px cx v) :: []) (fun t => a - t) 0 (by omega) aE aH ?_
      intro t ht
      rcases Nat.lt_or_ge t a with hta | hta
      · have hns : ¬ ShownE O pat (t : Int) := fun h => hg.no t hta ((hsh t (by omega)).1 h)
        repeat' (conv => whnf); first | (refine VSeq.go ?_) | (refine VB.is ?_; refine VB.yes (by omega) fun _ => ?_) | (refine VB.is ?_; refine VB.no (by omega) fun _ => ?_) | (refine VB.split (fun _ => ?_) (fun _ => ?_)) | (refine boolE_split (fun h => ?_) (fun h => ?_) <;> subst h) | (refine VLd.is ?_; refine VLd.mk (.row aT (by rfl)) ?_) | (refine VSt.is ?_; refine VSt.row aT (by rfl) (by first | rfl | assumption) ?_) | (refine VNew.mk fun _ => ?_) | (refine VAr.is ?_; refine oA ?_) | (refine VIx.is ?_; refine VIx.mk rfl (by omega) (by omega) ?_) | (refine VKeep.is ?_; refine VKeep.mk aH ?_) | (refine VHs.mk _ (.refl _) ?_) | (refine VQ.is ?_; refine oQ ?_) | (refine VM.is ?_; refine oM ?_) | (refine And.intro ?_ ?_)
        all_goals (conv => whnf)
        refine VCall.genR (fun w' hw' => Exists.elim (Sl.own (f := evtV) (l := O) (cap := cr2) (e := 64) (p := r2) (k := 2) hw' aT (fun _ => rfl) rfl) fun bq hbq => vshown_any O (by omega) Ls (by omega) (t : Int) ⟨by omega, by omega⟩ r2 cr2 bq 0 pl cl bl ol w' hbq (h5.keep hw' (by simp)) (fun x hx => (hMo x hx).keep hw')) ?_
        intro cb hcb
        rw [hpat] at hcb
        have hcf : cb = false := by (cases cb; rfl; exact absurd (hcb.1 rfl) hns)
        subst hcf
        repeat' (conv => whnf); first | (refine VSeq.go ?_) | (refine VB.is ?_; refine VB.yes (by omega) fun _ => ?_) | (refine VB.is ?_; refine VB.no (by omega) fun _ => ?_) | (refine VB.split (fun _ => ?_) (fun _ => ?_)) | (refine boolE_split (fun h => ?_) (fun h => ?_) <;> subst h) | (refine VLd.is ?_; refine VLd.mk (.row aT (by rfl)) ?_) | (refine VSt.is ?_; refine VSt.row aT (by rfl) (by first | rfl | assumption) ?_) | (refine VNew.mk fun _ => ?_) | (refine VAr.is ?_; refine oA ?_) | (refine VIx.is ?_; refine VIx.mk rfl (by omega) (by omega) ?_) | (refine VKeep.is ?_; refine VKeep.mk aH ?_) | (refine VHs.mk _ (.refl _) ?_) | (refine VQ.is ?_; refine oQ ?_) | (refine VM.is ?_; refine oM ?_) | (refine And.intro ?_ ?_)
        all_goals (conv => whnf)
        exact VNext.mk (t + 1) (by omega) (by omega) aE aH
      have hat : t = a := by omega
      subst hat
      repeat' (conv => whnf); first | (refine VSeq.go ?_) | (refine VB.is ?_; refine VB.yes (by omega) fun _ => ?_) | (refine VB.is ?_; refine VB.no (by omega) fun _ => ?_) | (refine VB.split (fun _ => ?_) (fun _ => ?_)) | (refine boolE_split (fun h => ?_) (fun h => ?_) <;> subst h) | (refine VLd.is ?_; refine VLd.mk (.row aT (by rfl)) ?_) | (refine VSt.is ?_; refine VSt.row aT (by rfl) (by first | rfl | assumption) ?_) | (refine VNew.mk fun _ => ?_) | (refine VAr.is ?_; refine oA ?_) | (refine VIx.is ?_; refine VIx.mk rfl (by omega) (by omega) ?_) | (refine VKeep.is ?_; refine VKeep.mk aH ?_) | (refine VHs.mk _ (.refl _) ?_) | (refine VQ.is ?_; refine oQ ?_) | (refine VM.is ?_; refine oM ?_) | (refine And.intro ?_ ?_)
      all_goals (conv => whnf)
      exact VMid.mk t ⟨by omega, hfa.no⟩ aE aH
  rintro L ⟨hLT, hnoL⟩
  repeat' (conv => whnf); first | (refine VSeq.is ?_; refine VSeq.isA 28 rfl ?_; refine VSeq.cut (at_ := 28) (α := (Nat → Nat) × Nat × (Option Addr × Nat)) (fun z => z.2.1 ≤ T ∧ CanT v.free v.most z.1 z.2.1 ∧ ∀ u, z.2.1 ≤ u → z.1 u = 0) (fun z => [(1000000, .tuple #[]), (2, .slice pl Ls.length cl), (3, .int .i64 (T : Int)), (5, .pointer (some ⟨b5, 0, none⟩)), (10, .bool false), (15, .int .i64 (L : Int)), (19, .slice z.2.2.1 (v.fixed ++ otherE v.free z.1 z.2.1).length z.2.2.2)]) (fun z => .vec z.2.2.1 (v.fixed ++ otherE v.free z.1 z.2.1).length z.2.2.2 64 2 (flat evtV (v.fixed ++ otherE v.free z.1 z.2.1)) :: .row b5 25 [.slice pn N.ps.length cn, .int .i64 N.inputs, .slice qs N.syns.length cs] :: .row b6 29 (envC pf cf px cx v) :: []) ?_ ?_) | (refine VAp.is ?_; refine VAp.own (q := px) aT (h4.src (by simp) (fun _ => rfl)) (flat_one_cell (by simp [evtV, Value.oneCell'])) (by (try dsimp only); omega) (by simp only [maxLen]; omega) fun p' cap' hp' => ?_) | (refine VSeq.go ?_) | (refine VB.is ?_; refine VB.yes (by omega) fun _ => ?_) | (refine VB.is ?_; refine VB.no (by omega) fun _ => ?_) | (refine VB.split (fun _ => ?_) (fun _ => ?_)) | (refine boolE_split (fun h => ?_) (fun h => ?_) <;> subst h) | (refine VLd.is ?_; refine VLd.mk (.row aT (by rfl)) ?_) | (refine VSt.is ?_; refine VSt.row aT (by rfl) (by first | rfl | assumption) ?_) | (refine VNew.mk fun _ => ?_) | (refine VAr.is ?_; refine oA ?_) | (refine VIx.is ?_; refine VIx.mk rfl (by omega) (by omega) ?_) | (refine VKeep.is ?_; refine VKeep.mk aH ?_) | (refine VHs.mk _ (.refl _) ?_) | (refine VQ.is ?_; refine oQ ?_) | (refine VM.is ?_; refine oM ?_) | (refine And.intro ?_ ?_)
  all_goals (conv => whnf)
  · rw [Nat.zero_add v.fixed.length]
    have hA0 : v.fixed ++ otherE v.free (fun _ => 0) 0 = v.fixed := List.append_nil _
    refine VLoop.kr (α := Nat × (Nat → Nat) × Option Addr × Nat) [1000000, 2, 3, 4, 5, 6, 10, 15] rfl (fun z => z.1 ≤ T ∧ CanT v.free v.most z.2.1 z.1 ∧ ∀ u, z.1 ≤ u → z.2.1 u = 0) (fun z K => (21, .int .i64 (z.1 : Int)) :: (20, .int .i64 (leftC v.free v.most z.2.1 z.1)) :: (19, .slice z.2.2.1 (v.fixed ++ otherE v.free z.2.1 z.1).length z.2.2.2) :: K)
      (fun z => .vec z.2.2.1 (v.fixed ++ otherE v.free z.2.1 z.1).length z.2.2.2 64 2 (flat evtV (v.fixed ++ otherE v.free z.2.1 z.1)) :: .row b5 25 [.slice pn N.ps.length cn, .int .i64 N.inputs, .slice qs N.syns.length cs] :: .row b6 29 (envC pf cf px cx v) :: []) (fun z => T - z.1) (0, fun _ => 0, p', cap') ⟨by dsimp only; omega, fun u hu => by omega, fun _ _ => rfl⟩ (by dsimp only; rw [hA0]; exact aE) (by dsimp only; rw [hA0]; exact aH) ?_
    rintro ⟨t, c, p, cap⟩ ⟨ht, hcan, hz⟩
    dsimp only at ht hcan hz ⊢
    have hOl := otherE_len v.free c t
    have hOl2 : t * v.free.length ≤ 100 * 6 := Nat.mul_le_mul (by omega) hf6
    have hAl : (v.fixed ++ otherE v.free c t).length = v.fixed.length + (otherE v.free c t).length := List.length_append
    by_cases hc : t < T ∧ t < ch.length
    · obtain ⟨x, hx⟩ := h7.get hc.2
      have hx0 := hch x (List.mem_of_getElem? hx)
      have hnx := fun m => otherE_next v.free c t m
      have hln := fun m => leftC_next v.free v.most c t m
      obtain ⟨A, hA⟩ : ∃ A, v.fixed ++ otherE v.free c t = A := ⟨_, rfl⟩
      obtain ⟨lf, hlf⟩ : ∃ lf, leftC v.free v.most c t = lf := ⟨_, rfl⟩
      have hlfb : lf ≤ v.most := by
        rw [← hlf]
        clear hcan hz hOl hOl2 hAl hx hnx hln hA hlf hc ht
        induction t with
        | zero => exact Int.le_refl _
        | succ t ih => rw [leftC]; omega
      rw [hA, hlf]
      rw [hA] at hAl
      repeat' (conv => whnf); first | (refine VSeq.go ?_) | (refine VB.is ?_; refine VB.yes (by omega) fun _ => ?_) | (refine VB.is ?_; refine VB.no (by omega) fun _ => ?_) | (refine VB.split (fun _ => ?_) (fun _ => ?_)) | (refine boolE_split (fun h => ?_) (fun h => ?_) <;> subst h) | (refine VLd.is ?_; refine VLd.mk (.row aT (by rfl)) ?_) | (refine VSt.is ?_; refine VSt.row aT (by rfl) (by first | rfl | assumption) ?_) | (refine VNew.mk fun _ => ?_) | (refine VAr.is ?_; refine oA ?_) | (refine VIx.is ?_; refine VIx.mk rfl (by omega) (by omega) ?_) | (refine VKeep.is ?_; refine VKeep.mk aH ?_) | (refine VHs.mk _ (.refl _) ?_) | (refine VQ.is ?_; refine oQ ?_) | (refine VM.is ?_; refine oM ?_) | (refine And.intro ?_ ?_)
      all_goals (conv => whnf)
      have hl0 : lf - ((chosenT v.free 0 0).length : Int) = lf := by show lf - ((0 : Nat) : Int) = lf; omega
      have hA1 : A ++ atL (t : Int) (chosenT v.free 0 0) = A := List.append_nil _
      refine VLoop.kr (α := Nat × Nat × Option Addr × Nat) [1000000, 2, 3, 4, 5, 6, 10, 15, 21] rfl (fun z => z.1 ≤ v.free.length ∧ z.2.1 < 2 ^ z.1 ∧ (0 < (chosenT v.free z.2.1 z.1).length → ((chosenT v.free z.2.1 z.1).length : Int) ≤ lf)) (fun z K => (22, .int .i64 (z.1 : Int)) :: (20, .int .i64 (lf - ((chosenT v.free z.2.1 z.1).length : Int))) :: (19, .slice z.2.2.1 (A ++ atL (t : Int) (chosenT v.free z.2.1 z.1)).length z.2.2.2) :: K)
        (fun z => .vec z.2.2.1 (A ++ atL (t : Int) (chosenT v.free z.2.1 z.1)).length z.2.2.2 64 2 (flat evtV (A ++ atL (t : Int) (chosenT v.free z.2.1 z.1))) :: .row b5 25 [.slice pn N.ps.length cn, .int .i64 N.inputs, .slice qs N.syns.length cs] :: .row b6 29 (envC pf cf px cx v) :: []) (fun z => v.free.length - z.1) (0, 0, p, cap) ⟨by dsimp only; omega, by show 0 < 2 ^ 0; omega, fun h => by have h2 : 0 < (0 : Nat) := h; omega⟩ (by dsimp only; rw [hA1, hl0]; exact aE) (by dsimp only; rw [hA1]; exact aH) ?_
      rintro ⟨k, m, q, cq⟩ ⟨hk, hm, hml⟩
      dsimp only at hk hm hml ⊢
      have hcl := chosenT_len v.free m k
      have hBl : (A ++ atL (t : Int) (chosenT v.free m k)).length = A.length + (chosenT v.free m k).length := by
        rw [List.length_append]; congr 1; exact List.length_map ..
      rcases Nat.lt_or_ge k v.free.length with hkl | hkg
      · obtain ⟨i, hi⟩ := h3.get hkl
        obtain ⟨y1, y2⟩ := pick_one hm hi
        obtain ⟨z1, z2⟩ := pick_no (free := v.free) hm
        have hBn : A ++ atL (t : Int) (chosenT v.free m k ++ [i]) = (A ++ atL (t : Int) (chosenT v.free m k)) ++ [⟨(t : Int), i⟩] := by
          rw [List.append_assoc]
          unfold atL
          rw [List.map_append]
          rfl
        obtain ⟨B, hB⟩ : ∃ B, A ++ atL (t : Int) (chosenT v.free m k) = B := ⟨_, rfl⟩
        obtain ⟨n, hn⟩ : ∃ n, (chosenT v.free m k).length = n := ⟨_, rfl⟩
        rw [hB] at hBl hBn ⊢
        rw [hn] at hBl hml hcl ⊢
        repeat' (conv => whnf); first | (refine VShR.is ?_; refine VShR.isU ?_; refine VShR.some_ hx0.1 (by omega) fun q0 hq0 => ?_) | (refine VIx.is ?_; refine VIx.mk (h7.ptr (by omega)) (by omega) (by omega) ?_) | (refine VIx.is ?_; refine VIx.mk (h3.ptr (by omega)) (by omega) (by omega) ?_) | (refine VLd.is ?_; refine VLd.mk (Rd.cast (h7.rd0 (by simp) (fun _ => rfl) hx rfl) (by first | omega | (dsimp only; omega) | rfl)) ?_) | (refine VLd.is ?_; refine VLd.mk (Rd.cast (h3.rd0 (by simp) (fun _ => rfl) hi rfl) (by first | omega | (dsimp only; omega) | rfl)) ?_) | (refine VAp.is ?_; refine VAp.own aT (.at_ (.vec aT rfl)) (by simp [Value.oneCell']) (by (try dsimp only); omega) (by simp only [maxLen]; omega) fun p3 c3 hp3 => ?_) | (refine VSeq.go ?_) | (refine VB.is ?_; refine VB.yes (by omega) fun _ => ?_) | (refine VB.is ?_; refine VB.no (by omega) fun _ => ?_) | (refine VB.split (fun _ => ?_) (fun _ => ?_)) | (refine boolE_split (fun h => ?_) (fun h => ?_) <;> subst h) | (refine VLd.is ?_; refine VLd.mk (.row aT (by rfl)) ?_) | (refine VSt.is ?_; refine VSt.row aT (by rfl) (by first | rfl | assumption) ?_) | (refine VNew.mk fun _ => ?_) | (refine VAr.is ?_; refine oA ?_) | (refine VIx.is ?_; refine VIx.mk rfl (by omega) (by omega) ?_) | (refine VKeep.is ?_; refine VKeep.mk aH ?_) | (refine VHs.mk _ (.refl _) ?_) | (refine VQ.is ?_; refine oQ ?_) | (refine VM.is ?_; refine oM ?_) | (refine And.intro ?_ ?_)
        all_goals (conv => whnf)
        all_goals first
          | (refine VNext.mk (k + 1, m ||| 2 ^ k, p3, c3) ⟨by dsimp only; omega, y1, fun _ => by dsimp only; rw [y2, List.length_append, hn, List.length_singleton]; omega⟩ (by dsimp only; omega) ?_ ?_
             · dsimp only
               rw [y2, hBn, List.length_append, List.length_append, hn, List.length_singleton, show lf - ((n + 1 : Nat) : Int) = lf - (n : Int) - 1 from by omega]
               exact aE
             · dsimp only
               rw [y2, hBn, List.length_append, flat_append, List.length_singleton]
               exact aH)
          | (refine VNext.mk (k + 1, m, q, cq) ⟨by dsimp only; omega, z1, by dsimp only; rw [z2, hn]; exact hml⟩ (by dsimp only; omega) (by dsimp only; rw [z2, hB, hn]; exact aE) (by dsimp only; rw [z2, hB]; exact aH))
      have hkf : k = v.free.length := by omega
      subst hkf
      have hch2 : chosenT v.free m v.free.length = chosen v.free m := rfl
      rw [hch2] at hml hcl hBl ⊢
      have hcan2 := hcan.next hm (by
        rw [hlf]
        rcases Nat.eq_zero_or_pos (chosen v.free m).length with h0 | h0
        · have : 0 ≤ lf := by
            rw [← hlf, ← path_leftC (N := N) (pat := pat)]
            exact path_left hmost (can_all hmost hcan hz t)
          omega
        · exact hml h0)
      repeat' (conv => whnf); first | (refine VSeq.go ?_) | (refine VB.is ?_; refine VB.yes (by omega) fun _ => ?_) | (refine VB.is ?_; refine VB.no (by omega) fun _ => ?_) | (refine VB.split (fun _ => ?_) (fun _ => ?_)) | (refine boolE_split (fun h => ?_) (fun h => ?_) <;> subst h) | (refine VLd.is ?_; refine VLd.mk (.row aT (by rfl)) ?_) | (refine VSt.is ?_; refine VSt.row aT (by rfl) (by first | rfl | assumption) ?_) | (refine VNew.mk fun _ => ?_) | (refine VAr.is ?_; refine oA ?_) | (refine VIx.is ?_; refine VIx.mk rfl (by omega) (by omega) ?_) | (refine VKeep.is ?_; refine VKeep.mk aH ?_) | (refine VHs.mk _ (.refl _) ?_) | (refine VQ.is ?_; refine oQ ?_) | (refine VM.is ?_; refine oM ?_) | (refine And.intro ?_ ?_)
      all_goals (conv => whnf)
      refine VNext.mk (t + 1, (fun u => if u = t then m else c u), q, cq) ⟨by dsimp only; omega, hcan2, fun u hu => by dsimp only at hu ⊢; rw [if_neg (by omega)]; exact hz u (by omega)⟩ (by dsimp only; omega) ?_ ?_
      · dsimp only
        rw [hln, hlf, hnx, ← List.append_assoc, hA]
        exact aE
      · dsimp only
        rw [hnx, ← List.append_assoc, hA]
        exact aH
    · repeat' (conv => whnf); first | (refine VSeq.go ?_) | (refine VB.is ?_; refine VB.yes (by omega) fun _ => ?_) | (refine VB.is ?_; refine VB.no (by omega) fun _ => ?_) | (refine VB.split (fun _ => ?_) (fun _ => ?_)) | (refine boolE_split (fun h => ?_) (fun h => ?_) <;> subst h) | (refine VLd.is ?_; refine VLd.mk (.row aT (by rfl)) ?_) | (refine VSt.is ?_; refine VSt.row aT (by rfl) (by first | rfl | assumption) ?_) | (refine VNew.mk fun _ => ?_) | (refine VAr.is ?_; refine oA ?_) | (refine VIx.is ?_; refine VIx.mk rfl (by omega) (by omega) ?_) | (refine VKeep.is ?_; refine VKeep.mk aH ?_) | (refine VHs.mk _ (.refl _) ?_) | (refine VQ.is ?_; refine oQ ?_) | (refine VM.is ?_; refine oM ?_) | (refine And.intro ?_ ?_)
      all_goals (conv => whnf)
      all_goals exact VMid.mk (c, t, (p, cap)) ⟨ht, hcan, hz⟩ aE aH
  rintro ⟨c, M, ⟨p, cap⟩⟩ ⟨hM, hcan, hz⟩
  dsimp only at hM hcan hz ⊢
  have hOl := otherE_len v.free c M
  have hOl2 : M * v.free.length ≤ 100 * 6 := Nat.mul_le_mul (by omega) hf6
  have hAl : (v.fixed ++ otherE v.free c M).length = v.fixed.length + (otherE v.free c M).length := List.length_append
  have hevk := other_evok hvk c (M := M) (by omega) (by omega)
  have hno2 := fun (u : Nat) (hu : u < L) => other_no hNk hvk hpos hcan hz (hnoL u hu)
  have hAw : ∀ x ∈ v.fixed ++ otherE v.free c M, x.wf := fun x hx => by
    have := hevk.range x (mem_sortU.2 hx)
    unfold Evt.wf I64
    omega
  have hSl := sortU_len (v.fixed ++ otherE v.free c M)
  have hSw : ∀ x ∈ sortU (v.fixed ++ otherE v.free c M), x.wf := fun x hx => hAw x (mem_sortU.1 hx)
  obtain ⟨A, hA⟩ : ∃ A, v.fixed ++ otherE v.free c M = A := ⟨_, rfl⟩
  rw [hA] at hAl hevk hno2 hAw hSl hSw ⊢
  obtain ⟨hrun, hOl3⟩ := run_ok hNk hT100 hevk hfew
  have hsh := fun (t : Nat) (ht : t < T) => shown_run (N := N) (l := sortU A) (pat := pat) ht
  obtain ⟨O, hO⟩ : ∃ O, outTo N (sortU A) T = O := ⟨_, rfl⟩
  rw [hO] at hrun hOl3 hsh
  obtain ⟨B, hB⟩ : ∃ B, sortU A = B := ⟨_, rfl⟩
  rw [hB] at hrun hsh hno2 hSl hSw
  repeat' (conv => whnf); first | (refine VCall.isF 33 ?_; (refine VCall.genR (fun w' hw' => Exists.elim (Sl.own (f := evtV) (l := A) (cap := cap) (e := 64) (p := p) (k := 2) hw' aT (fun _ => rfl) rfl) fun bq hbq => vsorted_any A hAw (by omega) p cap bq 0 w' hbq) ?_; rintro ⟨q, cq⟩ _; dsimp only; rw [hB])) | (refine VCall.isF 30 ?_; (refine VCall.genR (fun w' hw' => Exists.elim (Sl.own (f := evtV) (l := B) (cap := cq) (e := 64) (p := q) (k := 2) hw' aT (fun _ => rfl) rfl) fun bq hbq => Run_any N hN B hSw (T : Int) _ _ _ _ _ _ _ _ q cq bq 0 w' (h1.keep hw' (by simp)) (h2.keep hw' (by simp)) hbq (vec_facts (hw'.own (.vec q B.length cq 64 2 (flat evtV B)) (by simp))).1) ?_; rintro ⟨r2, cr2⟩ _; rw [hrun]; dsimp only)) | (refine VSeq.go ?_) | (refine VB.is ?_; refine VB.yes (by omega) fun _ => ?_) | (refine VB.is ?_; refine VB.no (by omega) fun _ => ?_) | (refine VB.split (fun _ => ?_) (fun _ => ?_)) | (refine boolE_split (fun h => ?_) (fun h => ?_) <;> subst h) | (refine VLd.is ?_; refine VLd.mk (.row aT (by rfl)) ?_) | (refine VSt.is ?_; refine VSt.row aT (by rfl) (by first | rfl | assumption) ?_) | (refine VNew.mk fun _ => ?_) | (refine VAr.is ?_; refine oA ?_) | (refine VIx.is ?_; refine VIx.mk rfl (by omega) (by omega) ?_) | (refine VKeep.is ?_; refine VKeep.mk aH ?_) | (refine VHs.mk _ (.refl _) ?_) | (refine VQ.is ?_; refine oQ ?_) | (refine VM.is ?_; refine oM ?_) | (refine And.intro ?_ ?_)
  all_goals (conv => whnf)
  refine VLoop.kr (α := Nat) [1000000, 2, 10, 15, 23] rfl (fun t => t ≤ L) (fun t K => (24, .int .i64 (t : Int)) :: K) (fun _ => [.vec r2 O.length cr2 64 2 (flat evtV O)]) (fun t => L - t) 0 (by omega) aE aH ?_
  intro t ht
  rcases Nat.lt_or_ge t L with hta | hta
  · have hns : ¬ ShownE O pat (t : Int) := fun h => hno2 t hta ((hsh t (by omega)).1 h)
    repeat' (conv => whnf); first | (refine VSeq.go ?_) | (refine VB.is ?_; refine VB.yes (by omega) fun _ => ?_) | (refine VB.is ?_; refine VB.no (by omega) fun _ => ?_) | (refine VB.split (fun _ => ?_) (fun _ => ?_)) | (refine boolE_split (fun h => ?_) (fun h => ?_) <;> subst h) | (refine VLd.is ?_; refine VLd.mk (.row aT (by rfl)) ?_) | (refine VSt.is ?_; refine VSt.row aT (by rfl) (by first | rfl | assumption) ?_) | (refine VNew.mk fun _ => ?_) | (refine VAr.is ?_; refine oA ?_) | (refine VIx.is ?_; refine VIx.mk rfl (by omega) (by omega) ?_) | (refine VKeep.is ?_; refine VKeep.mk aH ?_) | (refine VHs.mk _ (.refl _) ?_) | (refine VQ.is ?_; refine oQ ?_) | (refine VM.is ?_; refine oM ?_) | (refine And.intro ?_ ?_)
    all_goals (conv => whnf)
    refine VCall.genR (fun w' hw' => Exists.elim (Sl.own (f := evtV) (l := O) (cap := cr2) (e := 64) (p := r2) (k := 2) hw' aT (fun _ => rfl) rfl) fun bq hbq => vshown_any O (by omega) Ls (by omega) (t : Int) ⟨by omega, by omega⟩ r2 cr2 bq 0 pl cl bl ol w' hbq (h5.keep hw' (by simp)) (fun x hx => (hMo x hx).keep hw')) ?_
    intro cb hcb
    rw [hpat] at hcb
    have hcf : cb = false := by (cases cb; rfl; exact absurd (hcb.1 rfl) hns)
    subst hcf
    repeat' (conv => whnf); first | (refine VSeq.go ?_) | (refine VB.is ?_; refine VB.yes (by omega) fun _ => ?_) | (refine VB.is ?_; refine VB.no (by omega) fun _ => ?_) | (refine VB.split (fun _ => ?_) (fun _ => ?_)) | (refine boolE_split (fun h => ?_) (fun h => ?_) <;> subst h) | (refine VLd.is ?_; refine VLd.mk (.row aT (by rfl)) ?_) | (refine VSt.is ?_; refine VSt.row aT (by rfl) (by first | rfl | assumption) ?_) | (refine VNew.mk fun _ => ?_) | (refine VAr.is ?_; refine oA ?_) | (refine VIx.is ?_; refine VIx.mk rfl (by omega) (by omega) ?_) | (refine VKeep.is ?_; refine VKeep.mk aH ?_) | (refine VHs.mk _ (.refl _) ?_) | (refine VQ.is ?_; refine oQ ?_) | (refine VM.is ?_; refine oM ?_) | (refine And.intro ?_ ?_)
    all_goals (conv => whnf)
    exact VNext.mk (t + 1) (by omega) (by omega) aE aH
  repeat' (conv => whnf); first | (refine VCall.isF 17 ?_; (refine VCall.valR (fun w' hw' => vworks_any w' (Lib.tabBelow_of_tabIs htab w' hw'.below)) ?_)) | (refine VSeq.go ?_) | (refine VB.is ?_; refine VB.yes (by omega) fun _ => ?_) | (refine VB.is ?_; refine VB.no (by omega) fun _ => ?_) | (refine VB.split (fun _ => ?_) (fun _ => ?_)) | (refine boolE_split (fun h => ?_) (fun h => ?_) <;> subst h) | (refine VLd.is ?_; refine VLd.mk (.row aT (by rfl)) ?_) | (refine VSt.is ?_; refine VSt.row aT (by rfl) (by first | rfl | assumption) ?_) | (refine VNew.mk fun _ => ?_) | (refine VAr.is ?_; refine oA ?_) | (refine VIx.is ?_; refine VIx.mk rfl (by omega) (by omega) ?_) | (refine VKeep.is ?_; refine VKeep.mk aH ?_) | (refine VHs.mk _ (.refl _) ?_) | (refine VQ.is ?_; refine oQ ?_) | (refine VM.is ?_; refine oM ?_) | (refine And.intro ?_ ?_)
  all_goals (conv => whnf)
  exact ⟨fun w' hw' => ⟨rfl, hw'.le .nil⟩⟩

end Go.Proofs
