/- Rq: Reach of the program, walked. -/

import Derived.Test.YtbnipfgbfnhibaaNetKnownRn
import Derived.Test.YtbnipfgbfnhibaaNetKnownRp
import Derived.Test.YtbnipfgbfnhibaaNetKnownMk

set_option linter.unusedVariables false

set_option linter.unusedSimpArgs false

namespace Go.Proofs

open Go Go.Vx Go.Gm

/-- The function that visits, as a value. -/
def visitV (b8 b7 b9 : Nat) : Value := .func (.func 78) #[] #[.pointer (some ⟨b8, 0, none⟩), .pointer (some ⟨b7, 0, none⟩), .pointer (some ⟨b9, 0, none⟩)]

/-- What a visit reads. -/
structure VisW (N : Net) (w : World) (M : List Nat) (b8 b7 b9 bm : Nat) : Prop where
  c8 : Cells w b8 0 [.map (some bm)]
  m8 : b8 ∉ M
  c7 : ∃ bw R, Cells w b7 0 [.map (some bw)] ∧ mapIs w bw (List.map wrowM R) ∧ bw ∉ M ∧ R.map wrowK = wire N.syns ∧ ∀ r ∈ R, ∃ g, r.p = some ⟨g, 0, none⟩ ∧ Sl w synV 4 r.l r.p r.l.length g 0 ∧ g ∉ M
  m7 : b7 ∉ M
  c9 : Cells w b9 0 [visitV b8 b7 b9]
  m9 : b9 ∉ M

theorem VisW.keep {N : Net} {w w' : World} {M : List Nat} {H : HP} {b8 b7 b9 bm : Nat} (h : VisW N w M b8 b7 b9 bm) (hs : St w M H w') : VisW N w' M b8 b7 b9 bm := by
  obtain ⟨h1, h2, ⟨bw, R, h3, h4, h5, h6, h7⟩, h8, h9, h10⟩ := h
  exact ⟨h1.keep hs h2, h2, ⟨bw, R, h3.keep hs h8, h4.keep hs h5, h5, h6, fun r hr => by obtain ⟨g, a, b, c⟩ := h7 r hr; exact ⟨g, a, b.keep hs c, c⟩⟩, h8, h9.keep hs h10, h10⟩

theorem visit_any (N : Net) (hN : NetOk N) (b8 b7 b9 bm : Nat) : ∀ (n : Nat) (S : List Int) (k : Int) (m : List (Int × Value)) (w : World), unmet N S < n → srcOk N k → Marks m S → VisW N w [bm] b8 b7 b9 bm → St w [bm] [.map bm m] w →
    Calls Try.prog 78 #[.int .i64 k, .pointer (some ⟨b8, 0, none⟩), .pointer (some ⟨b7, 0, none⟩), .pointer (some ⟨b9, 0, none⟩)] w fun e w' => ∃ y : List (Int × Value) × List Int, e = .returned (.tuple #[]) ∧ (Marks y.1 y.2 ∧ Visits N k S y.2) ∧ St w [bm] [.map bm y.1] w' := by
  intro n
  induction n with
  | zero =>
    intro S k m w hn hk hm hv hs
    omega
  | succ n ih =>
    intro S k m w hn hk hm hv hs
    have hv0 := hv
    obtain ⟨h8, m8, ⟨bw, R, h7, hmap, hmapM, hW, hrows⟩, m7, h9, m9⟩ := hv
    refine enter (C := Try.cx) (F := Try.fx78) (args := [_, _, _, _]) Try.func78 rfl rfl rfl Try.ok78 hs ?_
    by_cases hkS : k ∈ S
    · have hlk : mfind m k = some (.bool true) := by rw [hm k, if_pos hkS]
      repeat' (conv => whnf); first | (refine VLd.is ?_; refine VLd.mk (Rd.cast (Rd.old h8 rfl m8) (by first | omega | (dsimp only; omega) | rfl)) ?_) | (refine VMp.is ?_; refine VMp.mk aT ?_) | (refine VLk.is ?_; refine VLk.has hlk ?_) | (refine VSeq.is ?_; refine VSeq.go ?_) | (refine VB.is ?_; refine VB.yes (by omega) fun _ => ?_) | (refine VB.is ?_; refine VB.no (by omega) fun _ => ?_) | (refine VB.is ?_; refine VB.split (fun _ => ?_) (fun _ => ?_)) | (refine boolE_split (fun h => ?_) (fun h => ?_) <;> subst h) | (refine VLd.is ?_; refine VLd.mk (.row aT (by rfl)) ?_) | (refine VSt.is ?_; refine VSt.row aT (by rfl) (by first | rfl | assumption) ?_) | (refine VNew.is ?_; refine VNew.mk fun _ => ?_) | (refine VAr.is ?_; refine VAr.i64 (by omega) (by omega) ?_) | (refine VIx.is ?_; refine VIx.mk rfl (by omega) (by omega) ?_) | (refine VKeep.is ?_; refine VKeep.mk aH ?_) | (refine VHs.is ?_; refine VHs.mk _ (HLe.refl _) ?_) | (refine VQ.is ?_; refine VQ.pos (by omega) (by omega) (by omega) ?_) | (refine VM.is ?_; refine VM.pos (by omega) (by omega) ?_) | (refine And.intro ?_ ?_)
      all_goals (conv => whnf)
      exact ⟨fun w' hw' => ⟨(m, S), rfl, ⟨hm, .met hkS⟩, hw'⟩⟩
    · have hlk : mfind m k = none := by rw [hm k, if_neg hkS]
      have hlt := unmet_lt hN.inputs.1 hk hkS
      obtain ⟨ys, hys⟩ : ∃ ys, wfind (wire N.syns) k = ys := ⟨_, rfl⟩
      obtain ⟨ps, cps, g, hlk2, hsl, hgM⟩ : ∃ (p : Option Addr) (c g : Nat), (mfind (R.map wrowM) k = some (.slice p ys.length c) ∨ (mfind (R.map wrowM) k = none ∧ Value.slice p ys.length c = nilS)) ∧ Sl w synV 4 ys p ys.length g 0 ∧ g ∉ [bm] := by
        rcases look_cases R k with ⟨r, h1, h2, h3⟩ | ⟨h2, h3⟩
        · obtain ⟨g, hg, hsl, hM⟩ := hrows r h1
          rw [hW, hys] at h3
          rw [h3]
          exact ⟨r.p, r.cap, g, .inl h2, hsl, hM⟩
        · rw [hW, hys] at h3
          rw [h3]
          exact ⟨none, 0, b8, .inr ⟨h2, rfl⟩, .nil (.inl rfl), m8⟩
      have hyok : ∀ s ∈ ys, s ∈ N.syns ∧ s.frm = k := by
        intro s h
        rw [← hys, wfind_wire] at h
        have := List.mem_filter.1 h
        simpa using this
      have hyall : ∀ s ∈ N.syns, s.frm = k → s ∈ ys := by
        intro s h h2
        rw [← hys, wfind_wire]
        exact List.mem_filter.2 ⟨h, by simpa using h2⟩
      have hylen : ys.length ≤ 8192 := by
        rw [← hys, wfind_wire]
        have := List.length_filter_le (fun s : Syn => decide (s.frm = k)) N.syns
        have := hN.fewS
        omega
      repeat' (conv => whnf); first | (refine VLd.is ?_; refine VLd.mk (Rd.cast (Rd.old h8 rfl m8) (by first | omega | (dsimp only; omega) | rfl)) ?_) | (refine VLd.is ?_; refine VLd.mk (Rd.cast (Rd.old h7 rfl m7) (by first | omega | (dsimp only; omega) | rfl)) ?_) | (refine VMp.is ?_; refine VMp.mk aT ?_) | (refine VMp.is ?_; refine VMp.old hmap hmapM ?_) | (refine VLk.is ?_; refine VLk.lacks hlk ?_) | (refine VLk.is ?_; refine VLk.val hlk2 ?_) | (refine VMpU.is ?_; refine VMpU.mk aT ?_) | (refine VSeq.is ?_; refine VSeq.go ?_) | (refine VB.is ?_; refine VB.yes (by omega) fun _ => ?_) | (refine VB.is ?_; refine VB.no (by omega) fun _ => ?_) | (refine VB.is ?_; refine VB.split (fun _ => ?_) (fun _ => ?_)) | (refine boolE_split (fun h => ?_) (fun h => ?_) <;> subst h) | (refine VLd.is ?_; refine VLd.mk (.row aT (by rfl)) ?_) | (refine VSt.is ?_; refine VSt.row aT (by rfl) (by first | rfl | assumption) ?_) | (refine VNew.is ?_; refine VNew.mk fun _ => ?_) | (refine VAr.is ?_; refine VAr.i64 (by omega) (by omega) ?_) | (refine VIx.is ?_; refine VIx.mk rfl (by omega) (by omega) ?_) | (refine VKeep.is ?_; refine VKeep.mk aH ?_) | (refine VHs.is ?_; refine VHs.mk _ (HLe.refl _) ?_) | (refine VQ.is ?_; refine VQ.pos (by omega) (by omega) (by omega) ?_) | (refine VM.is ?_; refine VM.pos (by omega) (by omega) ?_) | (refine And.intro ?_ ?_)
      all_goals (conv => whnf)
      refine VLoop.kr (α := Nat × List (Int × Value) × List Int) [1000000, 3, 14, 15] rfl (fun y => y.1 ≤ ys.length ∧ Marks y.2.1 y.2.2 ∧ Visiting N k (ys.take y.1) S y.2.2) (fun y K => (16, .int .i64 (y.1 : Int)) :: K)
        (fun y => [.map bm y.2.1]) (fun y => ys.length - y.1) (0, mset m k (.bool true), S ++ [k]) ⟨by simp, hm.add k, by simpa using Visiting.begin⟩ aE aH ?_
      rintro ⟨j, m1, T⟩ ⟨hj, hm1, hvt⟩
      dsimp only at hj hm1 hvt ⊢
      rcases Nat.lt_or_ge j ys.length with hltj | hgej
      · obtain ⟨s, hs'⟩ : ∃ s, ys[j]? = some s := ⟨ys[j], List.getElem?_eq_getElem _⟩
        obtain ⟨hsm, hsf⟩ := hyok s (List.mem_of_getElem? hs')
        have hso := hN.syns s hsm
        unfold synOk at hso
        have hin := hN.inputs
        have hsrc : srcOk N s.to := by unfold srcOk; omega
        have hle : unmet N T ≤ unmet N (S ++ [k]) := unmet_le fun u hu => by
          rcases List.mem_append.1 hu with h | h
          · exact hvt.sub u h
          · simp only [List.mem_singleton] at h; subst h; exact hvt.here
        have htk : ys.take (j + 1) = ys.take j ++ [s] := by rw [List.take_add_one, hs']; rfl
        by_cases hw0 : s.wt = 0
        · repeat' (conv => whnf); first | (refine VNew.is ?_; refine VNew.mk fun b6 => ?_) | (refine VIx.is ?_; refine VIx.mk (hsl.ptr (by omega)) (by omega) (by omega) ?_) | (refine VLd.is ?_; refine VLd.mk (Rd.cast (hsl.rd0 hgM (fun _ => rfl) hs' rfl) (by first | omega | (dsimp only; omega) | rfl)) ?_) | (refine VSeq.is ?_; refine VSeq.go ?_) | (refine VB.is ?_; refine VB.yes (by omega) fun _ => ?_) | (refine VB.is ?_; refine VB.no (by omega) fun _ => ?_) | (refine VB.is ?_; refine VB.split (fun _ => ?_) (fun _ => ?_)) | (refine boolE_split (fun h => ?_) (fun h => ?_) <;> subst h) | (refine VLd.is ?_; refine VLd.mk (.row aT (by rfl)) ?_) | (refine VSt.is ?_; refine VSt.row aT (by rfl) (by first | rfl | assumption) ?_) | (refine VNew.is ?_; refine VNew.mk fun _ => ?_) | (refine VAr.is ?_; refine VAr.i64 (by omega) (by omega) ?_) | (refine VIx.is ?_; refine VIx.mk rfl (by omega) (by omega) ?_) | (refine VKeep.is ?_; refine VKeep.mk aH ?_) | (refine VHs.is ?_; refine VHs.mk _ (HLe.refl _) ?_) | (refine VQ.is ?_; refine VQ.pos (by omega) (by omega) (by omega) ?_) | (refine VM.is ?_; refine VM.pos (by omega) (by omega) ?_) | (refine And.intro ?_ ?_)
          all_goals (conv => whnf)
          refine VNext.mk (j + 1, m1, T) ⟨by dsimp only; omega, hm1, by dsimp only; rw [htk]; exact hvt.skip hw0⟩ (by dsimp only; omega) (by dsimp only; exact aE) aH
        · repeat' (conv => whnf); first | (refine VNew.is ?_; refine VNew.mk fun b6 => ?_) | (refine VIx.is ?_; refine VIx.mk (hsl.ptr (by omega)) (by omega) (by omega) ?_) | (refine VLd.is ?_; refine VLd.mk (Rd.cast (hsl.rd0 hgM (fun _ => rfl) hs' rfl) (by first | omega | (dsimp only; omega) | rfl)) ?_) | (refine VLd.is ?_; refine VLd.mk (Rd.cast (Rd.old h9 rfl m9) (by first | omega | (dsimp only; omega) | rfl)) ?_) | (refine VCall.is ?_; refine VCall.isF 78 ?_; refine VCall.turnT (α := List (Int × Value) × List Int) (fun _ => .tuple #[]) (fun y => Marks y.1 y.2 ∧ Visits N s.to T y.2) (fun y => [.map bm y.1]) (S := [.map bm m1]) (Take.cons aT .nil) (fun w1 hw1 hs1 => ih T s.to m1 w1 (by omega) hsrc hm1 (hv0.keep hw1) hs1) ?_; rintro ⟨m2, T2⟩ ⟨hm2, hv2⟩; dsimp only at hm2 hv2) | (refine VSeq.is ?_; refine VSeq.go ?_) | (refine VB.is ?_; refine VB.yes (by omega) fun _ => ?_) | (refine VB.is ?_; refine VB.no (by omega) fun _ => ?_) | (refine VB.is ?_; refine VB.split (fun _ => ?_) (fun _ => ?_)) | (refine boolE_split (fun h => ?_) (fun h => ?_) <;> subst h) | (refine VLd.is ?_; refine VLd.mk (.row aT (by rfl)) ?_) | (refine VSt.is ?_; refine VSt.row aT (by rfl) (by first | rfl | assumption) ?_) | (refine VNew.is ?_; refine VNew.mk fun _ => ?_) | (refine VAr.is ?_; refine VAr.i64 (by omega) (by omega) ?_) | (refine VIx.is ?_; refine VIx.mk rfl (by omega) (by omega) ?_) | (refine VKeep.is ?_; refine VKeep.mk aH ?_) | (refine VHs.is ?_; refine VHs.mk _ (HLe.refl _) ?_) | (refine VQ.is ?_; refine VQ.pos (by omega) (by omega) (by omega) ?_) | (refine VM.is ?_; refine VM.pos (by omega) (by omega) ?_) | (refine And.intro ?_ ?_)
          all_goals (conv => whnf)
          refine VNext.mk (j + 1, m2, T2) ⟨by dsimp only; omega, hm2, by dsimp only; rw [htk]; exact hvt.next hsm hsf hw0 hv2⟩ (by dsimp only; omega) (by dsimp only; exact aE) aH
      · rw [List.take_of_length_le hgej] at hvt
        repeat' (conv => whnf); first | (refine VSeq.is ?_; refine VSeq.go ?_) | (refine VB.is ?_; refine VB.yes (by omega) fun _ => ?_) | (refine VB.is ?_; refine VB.no (by omega) fun _ => ?_) | (refine VB.is ?_; refine VB.split (fun _ => ?_) (fun _ => ?_)) | (refine boolE_split (fun h => ?_) (fun h => ?_) <;> subst h) | (refine VLd.is ?_; refine VLd.mk (.row aT (by rfl)) ?_) | (refine VSt.is ?_; refine VSt.row aT (by rfl) (by first | rfl | assumption) ?_) | (refine VNew.is ?_; refine VNew.mk fun _ => ?_) | (refine VAr.is ?_; refine VAr.i64 (by omega) (by omega) ?_) | (refine VIx.is ?_; refine VIx.mk rfl (by omega) (by omega) ?_) | (refine VKeep.is ?_; refine VKeep.mk aH ?_) | (refine VHs.is ?_; refine VHs.mk _ (HLe.refl _) ?_) | (refine VQ.is ?_; refine VQ.pos (by omega) (by omega) (by omega) ?_) | (refine VM.is ?_; refine VM.pos (by omega) (by omega) ?_) | (refine And.intro ?_ ?_)
        all_goals (conv => whnf)
        exact ⟨fun w' hw' => ⟨(m1, T), rfl, ⟨hm1, hvt.finish hyall⟩, hw'⟩⟩

/-- What Reach returns. -/
def ReachRes (N : Net) (F : List Int) (L : List Bool) (e : Int) : Prop :=
  (netchk N ≠ 0 ∧ L = [] ∧ e = netchk N) ∨ (netchk N = 0 ∧ (∃ f ∈ F, ¬ srcOk N f) ∧ L = [] ∧ e = 3) ∨ (netchk N = 0 ∧ (∀ f ∈ F, srcOk N f) ∧ IsReach N F L ∧ e = 0)

theorem ReachRes.eq {N : Net} {F : List Int} {L M : List Bool} {e f : Int} (h1 : ReachRes N F L e) (h2 : ReachRes N F M f) : L = M ∧ e = f := by
  rcases h1 with ⟨a, rfl, rfl⟩ | ⟨a, ⟨x, hx, hx2⟩, rfl, rfl⟩ | ⟨a, hx, hL, rfl⟩ <;> rcases h2 with ⟨b, rfl, rfl⟩ | ⟨b, ⟨y, hy, hy2⟩, rfl, rfl⟩ | ⟨b, hy, hM, rfl⟩
  · exact ⟨rfl, rfl⟩
  · omega
  · omega
  · omega
  · exact ⟨rfl, rfl⟩
  · exact absurd (hy x hx) hx2
  · omega
  · exact absurd (hx y hy) hy2
  · exact ⟨hL.eq hM, rfl⟩

theorem fill_next {n i : Nat} {l : List Bool} {z b : Bool} (hl : l.length = n) (h : l[i]? = some b) : (l.take i ++ List.replicate (n - i) z).set i b = l.take (i + 1) ++ List.replicate (n - (i + 1)) z := by
  have hlt := (List.getElem?_eq_some_iff.1 h).1
  rw [List.take_add_one, h, Option.toList_some, List.set_append_right _ _ (by simp; omega)]
  obtain ⟨m, hm⟩ : ∃ m, n - i = m + 1 := ⟨n - i - 1, by omega⟩
  rw [hm, show n - (i + 1) = m by omega]
  simp [Nat.min_eq_left (Nat.le_of_lt hlt), List.replicate_succ]

theorem isReach_metL {N : Net} {F S : List Int} (h : Met N F S) : IsReach N F (metL N.ps.length S) := by
  refine ⟨by simp [metL], fun i b hb => ?_⟩
  unfold metL at hb
  rw [List.getElem?_map] at hb
  have hi : i < N.ps.length := by
    apply Classical.byContradiction
    intro hn
    rw [List.getElem?_eq_none (by simp; omega)] at hb
    simp at hb
  rw [List.getElem?_range hi] at hb
  simp only [Option.map_some, Option.some.injEq] at hb
  subst hb
  rw [decide_eq_true_iff]
  exact h.mem i

theorem visW_of {N : Net} {w0 w : World} {M : List Nat} {m : List (Int × Value)} {b9 b8 b7 b2 bw bm e9 e8 e7 e2 : Nat} {c2 : List Value} {R : List WRow}
    (hw : St w0 M (.map bm m :: .row b9 e9 [visitV b8 b7 b9] :: .row b8 e8 [.map (some bm)] :: .row b7 e7 [.map (some bw)] :: .row b2 e2 c2 :: .map bw (R.map wrowM) :: R.map wrowE) w) (hR : WOk R) (hW : R.map wrowK = wire N.syns) : VisW N w [bm] b8 b7 b9 bm := by
  have hap := hw.apart (b := bm) rfl
  simp only [ids_cons, Ent.id, Option.toList_some, List.cons_append, List.nil_append, List.mem_cons, not_or] at hap
  obtain ⟨a9, a8, a7, a2, aw, aR⟩ := hap
  refine ⟨Cells.row hw (.there (.there .here)), by simp; omega, ⟨bw, R, Cells.row hw (.there (.there (.there .here))), hw.own (.map bw (R.map wrowM)) (by simp), by simp; omega, hW, fun r hr => ?_⟩, by simp; omega, Cells.row hw (.there .here), by simp; omega⟩
  obtain ⟨g, hg⟩ := hR.ptr r hr
  have h3 : wrowE r ∈ R.map wrowE := List.mem_map_of_mem hr
  have h4 : Ent.vec (some ⟨g, 0, none⟩) r.l.length r.cap 96 4 (flat synV r.l) ∈ R.map wrowE := by have := h3; unfold wrowE at this; rw [hg] at this; exact this
  refine ⟨g, hg, ?_, ?_⟩
  · rw [hg]
    exact Sl.own' hw (by simp only [List.mem_cons]; exact .inr (.inr (.inr (.inr (.inr (.inr h4)))))) (fun _ => rfl) rfl
  · have hgm : g ∈ ids (R.map wrowE) := List.mem_filterMap.2 ⟨_, h4, rfl⟩
    simp only [List.mem_singleton]
    exact fun e => aR (e ▸ hgm)

theorem Reach_any (N : Net) (hN : N.wf) (F : List Int) (hF : ∀ k ∈ F, I64 k) (hFl : F.length ≤ 1000000) (pn : Option Addr) (cn bn on : Nat) (qs : Option Addr) (cs bs os : Nat) (pt : Option Addr) (ct bt ot : Nat) (w : World)
    (h1 : Sl w parV 8 N.ps pn N.ps.length bn on) (h2 : Sl w synV 4 N.syns qs N.syns.length bs os) (h3 : Sl w intV 1 F pt F.length bt ot) :
    Calls Try.prog 32 #[.agg #[.slice pn N.ps.length cn, .int .i64 N.inputs, .slice qs N.syns.length cs], .slice pt F.length ct] w fun e w' => ∃ y : (Option Addr × Nat) × (List Bool × Int),
      e = .returned (.tuple #[.slice y.1.1 y.2.1.length y.1.2, .int .i64 y.2.2]) ∧ ReachRes N F y.2.1 y.2.2 ∧ St w [] [.vec y.1.1 y.2.1.length y.1.2 4 1 (flat bV y.2.1)] w' := by
  have hnz := @netchk_zero N
  have hFw : netchk N = 0 → N.ps.length ≤ 1024 ∧ N.syns.length ≤ 8192 ∧ 1 ≤ N.ps.length := fun h => ⟨(hnz.1 h).few, (hnz.1 h).fewS, (hnz.1 h).some⟩
  refine enter (C := Try.cx) (F := Try.fx32) (args := [_, _]) Try.func32 rfl rfl rfl Try.ok32 (St.start w []) ?_
  repeat' (conv => whnf); first | (refine VNew.is ?_; refine VNew.mk fun b2 => ?_) | (refine VCall.isF 19 ?_; refine VCall.valR (fun w' hw' => Check_any N hN _ _ _ _ _ _ _ _ _ (h1.keep hw' (by simp)) (h2.keep hw' (by simp))) ?_) | (refine VCall.isF 76 ?_; refine VCall.inl (F := Try.fx76) Try.func76 rfl rfl rfl Try.ok76 ?_) | (refine VCall.isF 107 ?_; refine VCall.inl (F := Try.fx107) Try.func107 rfl rfl rfl Try.ok107 ?_) | (refine VSeq.is ?_; refine VSeq.go ?_) | (refine VB.is ?_; refine VB.yes (by omega) fun _ => ?_) | (refine VB.is ?_; refine VB.no (by omega) fun _ => ?_) | (refine VB.is ?_; refine VB.split (fun _ => ?_) (fun _ => ?_)) | (refine boolE_split (fun h => ?_) (fun h => ?_) <;> subst h) | (refine VLd.is ?_; refine VLd.mk (.row aT (by rfl)) ?_) | (refine VSt.is ?_; refine VSt.row aT (by rfl) (by first | rfl | assumption) ?_) | (refine VNew.is ?_; refine VNew.mk fun _ => ?_) | (refine VAr.is ?_; refine VAr.i64 (by omega) (by omega) ?_) | (refine VIx.is ?_; refine VIx.mk rfl (by omega) (by omega) ?_) | (refine VKeep.is ?_; refine VKeep.mk aH ?_) | (refine VHs.is ?_; refine VHs.mk _ (HLe.refl _) ?_) | (refine VQ.is ?_; refine VQ.pos (by omega) (by omega) (by omega) ?_) | (refine VM.is ?_; refine VM.pos (by omega) (by omega) ?_) | (refine And.intro ?_ ?_)
  all_goals (conv => whnf)
  · exact ⟨fun w' hw' => ⟨((none, 0), ([], netchk N)), rfl, .inl ⟨by omega, rfl, rfl⟩, hw'.le aH⟩⟩
  have hz : netchk N = 0 := by omega
  have hNok := hnz.1 hz
  obtain ⟨hfew, hfs, hpos⟩ := hFw hz
  have hin := hNok.inputs
  refine VLoop.kr (α := Nat) [1000000, 0, 1, 4, 7] rfl (fun i => i ≤ F.length ∧ ∀ f ∈ F.take i, srcOk N f) (fun i K => (8, .int .i64 (i : Int)) :: K)
    (fun _ => [.row b2 25 [.slice pn N.ps.length cn, .int .i64 N.inputs, .slice qs N.syns.length cs]]) (fun i => F.length - i) 0 ⟨by omega, by simp⟩ aE aH ?_
  rintro i ⟨hi, hall⟩
  rcases Nat.lt_or_ge i F.length with hlt | hge
  · obtain ⟨k, hk⟩ := h3.get hlt
    by_cases hks : srcOk N k
    · repeat' (conv => whnf); first | (refine VIx.is ?_; refine VIx.mk (h3.ptr (by omega)) (by omega) (by omega) ?_) | (refine VLd.is ?_; refine VLd.mk (Rd.cast (h3.rd0 (by simp) (fun _ => rfl) hk rfl) (by first | omega | (dsimp only; omega) | rfl)) ?_) | (refine VCall.isF 77 ?_; refine VCall.inl (F := Try.fx77) Try.func77 rfl rfl rfl Try.ok77 ?_) | (refine VCall.isF 54 ?_; (refine VCall.ex (fun w' => source_any N hin hfew _ _ _ _ w') ?_; intro b hb; have hb := hb.2 hks; subst hb)) | (refine VSeq.is ?_; refine VSeq.go ?_) | (refine VB.is ?_; refine VB.yes (by omega) fun _ => ?_) | (refine VB.is ?_; refine VB.no (by omega) fun _ => ?_) | (refine VB.is ?_; refine VB.split (fun _ => ?_) (fun _ => ?_)) | (refine boolE_split (fun h => ?_) (fun h => ?_) <;> subst h) | (refine VLd.is ?_; refine VLd.mk (.row aT (by rfl)) ?_) | (refine VSt.is ?_; refine VSt.row aT (by rfl) (by first | rfl | assumption) ?_) | (refine VNew.is ?_; refine VNew.mk fun _ => ?_) | (refine VAr.is ?_; refine VAr.i64 (by omega) (by omega) ?_) | (refine VIx.is ?_; refine VIx.mk rfl (by omega) (by omega) ?_) | (refine VKeep.is ?_; refine VKeep.mk aH ?_) | (refine VHs.is ?_; refine VHs.mk _ (HLe.refl _) ?_) | (refine VQ.is ?_; refine VQ.pos (by omega) (by omega) (by omega) ?_) | (refine VM.is ?_; refine VM.pos (by omega) (by omega) ?_) | (refine And.intro ?_ ?_)
      all_goals (conv => whnf)
      refine VNext.mk (i + 1) ⟨by omega, ?_⟩ (by omega) aE aH
      rw [List.take_add_one, hk, Option.toList_some]
      intro f hf
      rcases List.mem_append.1 hf with h | h
      · exact hall f h
      · simp only [List.mem_singleton] at h; subst h; exact hks
    · repeat' (conv => whnf); first | (refine VIx.is ?_; refine VIx.mk (h3.ptr (by omega)) (by omega) (by omega) ?_) | (refine VLd.is ?_; refine VLd.mk (Rd.cast (h3.rd0 (by simp) (fun _ => rfl) hk rfl) (by first | omega | (dsimp only; omega) | rfl)) ?_) | (refine VCall.isF 77 ?_; refine VCall.inl (F := Try.fx77) Try.func77 rfl rfl rfl Try.ok77 ?_) | (refine VCall.isF 54 ?_; (refine VCall.ex (fun w' => source_any N hin hfew _ _ _ _ w') ?_; intro b hb; obtain rfl : b = false := Bool.eq_false_iff.2 fun h => hks (hb.1 h))) | (refine VSeq.is ?_; refine VSeq.go ?_) | (refine VB.is ?_; refine VB.yes (by omega) fun _ => ?_) | (refine VB.is ?_; refine VB.no (by omega) fun _ => ?_) | (refine VB.is ?_; refine VB.split (fun _ => ?_) (fun _ => ?_)) | (refine boolE_split (fun h => ?_) (fun h => ?_) <;> subst h) | (refine VLd.is ?_; refine VLd.mk (.row aT (by rfl)) ?_) | (refine VSt.is ?_; refine VSt.row aT (by rfl) (by first | rfl | assumption) ?_) | (refine VNew.is ?_; refine VNew.mk fun _ => ?_) | (refine VAr.is ?_; refine VAr.i64 (by omega) (by omega) ?_) | (refine VIx.is ?_; refine VIx.mk rfl (by omega) (by omega) ?_) | (refine VKeep.is ?_; refine VKeep.mk aH ?_) | (refine VHs.is ?_; refine VHs.mk _ (HLe.refl _) ?_) | (refine VQ.is ?_; refine VQ.pos (by omega) (by omega) (by omega) ?_) | (refine VM.is ?_; refine VM.pos (by omega) (by omega) ?_) | (refine And.intro ?_ ?_)
      all_goals (conv => whnf)
      exact ⟨fun w' hw' => ⟨((none, 0), ([], 3)), rfl, .inr (.inl ⟨hz, ⟨k, List.mem_of_getElem? hk, hks⟩, rfl, rfl⟩), hw'.le aH⟩⟩
  · rw [List.take_of_length_le hge] at hall
    repeat' (conv => whnf); first | (refine VCall.is ?_; refine VCall.isF 66 ?_; refine VCall.genR (fun w' hw' => wired_any N hfs _ _ _ _ _ _ (h2.keep hw' (by simp))) ?_; rintro ⟨bw, R⟩ ⟨hw1, hw2⟩; dsimp only at hw1 hw2) | (refine VNew.is ?_; refine VNew.mk fun b => ?_) | (refine VSeq.is ?_; refine VSeq.go ?_) | (refine VB.is ?_; refine VB.yes (by omega) fun _ => ?_) | (refine VB.is ?_; refine VB.no (by omega) fun _ => ?_) | (refine VB.is ?_; refine VB.split (fun _ => ?_) (fun _ => ?_)) | (refine boolE_split (fun h => ?_) (fun h => ?_) <;> subst h) | (refine VLd.is ?_; refine VLd.mk (.row aT (by rfl)) ?_) | (refine VSt.is ?_; refine VSt.row aT (by rfl) (by first | rfl | assumption) ?_) | (refine VNew.is ?_; refine VNew.mk fun _ => ?_) | (refine VAr.is ?_; refine VAr.i64 (by omega) (by omega) ?_) | (refine VIx.is ?_; refine VIx.mk rfl (by omega) (by omega) ?_) | (refine VKeep.is ?_; refine VKeep.mk aH ?_) | (refine VHs.is ?_; refine VHs.mk _ (HLe.refl _) ?_) | (refine VQ.is ?_; refine VQ.pos (by omega) (by omega) (by omega) ?_) | (refine VM.is ?_; refine VM.pos (by omega) (by omega) ?_) | (refine And.intro ?_ ?_)
    all_goals (conv => whnf)
    rename_i bm b7 b8
    refine VLoop.kr (α := Nat × List (Int × Value) × List Int) [1000000, 2, 4, 5, 8, 9, 26, 27] rfl (fun y => y.1 ≤ F.length ∧ Marks y.2.1 y.2.2 ∧ Met N (F.take y.1) y.2.2) (fun y K => (28, .int .i64 (y.1 : Int)) :: K)
      (fun y => .map bm y.2.1 :: .row b 143 [visitV b8 b7 b] :: .row b8 142 [.map (some bm)] :: .row b7 100 [.map (some bw)] :: .row b2 25 [.slice pn N.ps.length cn, .int .i64 N.inputs, .slice qs N.syns.length cs] :: .map bw (R.map wrowM) :: R.map wrowE)
      (fun y => F.length - y.1) (0, [], []) ⟨by simp, fun k => by simp [mfind], by simpa using Met.nil N⟩ aE aH ?_
    rintro ⟨i, m, S⟩ ⟨hi, hm, hmet⟩
    dsimp only at hi hm hmet ⊢
    rcases Nat.lt_or_ge i F.length with hlt | hge2
    · obtain ⟨k, hk⟩ := h3.get hlt
      have hks := hall k (List.mem_of_getElem? hk)
      repeat' (conv => whnf); first | (refine VIx.is ?_; refine VIx.mk (h3.ptr (by omega)) (by omega) (by omega) ?_) | (refine VLd.is ?_; refine VLd.mk (Rd.cast (h3.rd0 (by simp) (fun _ => rfl) hk rfl) (by first | omega | (dsimp only; omega) | rfl)) ?_) | (refine VCall.is ?_; refine VCall.isF 78 ?_; refine VCall.turnT (α := List (Int × Value) × List Int) (fun _ => .tuple #[]) (fun y => Marks y.1 y.2 ∧ Visits N k S y.2) (fun y => [.map bm y.1]) (S := [.map bm m]) (Take.cons aT .nil) (fun w1 hwa hs1 => visit_any N hNok b8 b7 b bm (unmet N S + 1) S k m w1 (by omega) hks hm (visW_of hwa hw1 hw2) hs1) ?_; rintro ⟨m2, S2⟩ ⟨hm2, hv2⟩; dsimp only at hm2 hv2) | (refine VSeq.is ?_; refine VSeq.go ?_) | (refine VB.is ?_; refine VB.yes (by omega) fun _ => ?_) | (refine VB.is ?_; refine VB.no (by omega) fun _ => ?_) | (refine VB.is ?_; refine VB.split (fun _ => ?_) (fun _ => ?_)) | (refine boolE_split (fun h => ?_) (fun h => ?_) <;> subst h) | (refine VLd.is ?_; refine VLd.mk (.row aT (by rfl)) ?_) | (refine VSt.is ?_; refine VSt.row aT (by rfl) (by first | rfl | assumption) ?_) | (refine VNew.is ?_; refine VNew.mk fun _ => ?_) | (refine VAr.is ?_; refine VAr.i64 (by omega) (by omega) ?_) | (refine VIx.is ?_; refine VIx.mk rfl (by omega) (by omega) ?_) | (refine VKeep.is ?_; refine VKeep.mk aH ?_) | (refine VHs.is ?_; refine VHs.mk _ (HLe.refl _) ?_) | (refine VQ.is ?_; refine VQ.pos (by omega) (by omega) (by omega) ?_) | (refine VM.is ?_; refine VM.pos (by omega) (by omega) ?_) | (refine And.intro ?_ ?_)
      all_goals (conv => whnf)
      refine VNext.mk (i + 1, m2, S2) ⟨by dsimp only; omega, hm2, ?_⟩ (by dsimp only; omega) (by dsimp only; exact aE) aH
      dsimp only
      rw [List.take_add_one, hk, Option.toList_some]
      exact hmet.next hv2
    · rw [List.take_of_length_le hge2] at hmet
      have hL := isReach_metL hmet
      repeat' (conv => whnf); first | (refine VMk.is ?_; refine VMk.mk (by omega) (by omega) (by (try dsimp only); omega) (by omega) fun b12 => ?_) | (refine VSeq.is ?_; refine VSeq.go ?_) | (refine VB.is ?_; refine VB.yes (by omega) fun _ => ?_) | (refine VB.is ?_; refine VB.no (by omega) fun _ => ?_) | (refine VB.is ?_; refine VB.split (fun _ => ?_) (fun _ => ?_)) | (refine boolE_split (fun h => ?_) (fun h => ?_) <;> subst h) | (refine VLd.is ?_; refine VLd.mk (.row aT (by rfl)) ?_) | (refine VSt.is ?_; refine VSt.row aT (by rfl) (by first | rfl | assumption) ?_) | (refine VNew.is ?_; refine VNew.mk fun _ => ?_) | (refine VAr.is ?_; refine VAr.i64 (by omega) (by omega) ?_) | (refine VIx.is ?_; refine VIx.mk rfl (by omega) (by omega) ?_) | (refine VKeep.is ?_; refine VKeep.mk aH ?_) | (refine VHs.is ?_; refine VHs.mk _ (HLe.refl _) ?_) | (refine VQ.is ?_; refine VQ.pos (by omega) (by omega) (by omega) ?_) | (refine VM.is ?_; refine VM.pos (by omega) (by omega) ?_) | (refine And.intro ?_ ?_)
      all_goals (conv => whnf)
      refine VLoop.kr (α := Nat) [1000000, 4, 5, 8, 12, 41] rfl (fun j => j ≤ N.ps.length) (fun j K => (42, .int .i64 (j : Int)) :: K)
        (fun j => [.map bm m, .row b8 142 [.map (some bm)], .vec (some ⟨b12, 0, none⟩) N.ps.length N.ps.length 4 1 (flat bV ((metL N.ps.length S).take j ++ List.replicate (N.ps.length - j) false))])
        (fun j => N.ps.length - j) 0 (by omega) aE ?_ ?_
      · have e1 := flat_rep (f := bV) (x := false) N.ps.length
        simp only [List.take_zero, List.nil_append, Nat.sub_zero]
        rw [← e1]
        exact aH
      intro j hj
      rcases Nat.lt_or_ge j N.ps.length with hltj | hgej
      · have hg := metL_get (n := N.ps.length) (seen := S) (k := (j : Int)) (by omega)
        rw [show ((j : Int).toNat) = j by omega] at hg
        have hfn := fill_next (z := false) hL.len hg
        obtain ⟨z, hzz⟩ : ∃ z, ((metL N.ps.length S).take j ++ List.replicate (N.ps.length - j) false)[j]? = some z := ⟨_, List.getElem?_eq_getElem (by have := hL.len; simp; omega)⟩
        by_cases hjS : (j : Int) ∈ S
        · have hlk : mfind m (j : Int) = some (.bool true) := by rw [hm, if_pos hjS]
          rw [decide_eq_true hjS] at hfn
          repeat' (conv => whnf); first | (refine VMp.is ?_; refine VMp.mk aT ?_) | (refine VLk.is ?_; refine VLk.has hlk ?_) | (refine VIx.is ?_; refine VIx.mk rfl (by omega) (by omega) ?_) | (refine VSt.is ?_; refine VSt.cast (off' := j * 1) (by first | omega | (dsimp only; omega)) (VSt.vec aT (upd_flat0 (f := bV) (k := 1) (y := true) (fun _ => rfl) hzz rfl) rfl ?_)) | (refine VSeq.is ?_; refine VSeq.go ?_) | (refine VB.is ?_; refine VB.yes (by omega) fun _ => ?_) | (refine VB.is ?_; refine VB.no (by omega) fun _ => ?_) | (refine VB.is ?_; refine VB.split (fun _ => ?_) (fun _ => ?_)) | (refine boolE_split (fun h => ?_) (fun h => ?_) <;> subst h) | (refine VLd.is ?_; refine VLd.mk (.row aT (by rfl)) ?_) | (refine VSt.is ?_; refine VSt.row aT (by rfl) (by first | rfl | assumption) ?_) | (refine VNew.is ?_; refine VNew.mk fun _ => ?_) | (refine VAr.is ?_; refine VAr.i64 (by omega) (by omega) ?_) | (refine VIx.is ?_; refine VIx.mk rfl (by omega) (by omega) ?_) | (refine VKeep.is ?_; refine VKeep.mk aH ?_) | (refine VHs.is ?_; refine VHs.mk _ (HLe.refl _) ?_) | (refine VQ.is ?_; refine VQ.pos (by omega) (by omega) (by omega) ?_) | (refine VM.is ?_; refine VM.pos (by omega) (by omega) ?_) | (refine And.intro ?_ ?_)
          all_goals (conv => whnf)
          refine VNext.mk (j + 1) (by omega) (by omega) aE ?_
          rw [← hfn]
          exact aH
        · have hlk : mfind m (j : Int) = none := by rw [hm, if_neg hjS]
          rw [decide_eq_false hjS] at hfn
          repeat' (conv => whnf); first | (refine VMp.is ?_; refine VMp.mk aT ?_) | (refine VLk.is ?_; refine VLk.lacks hlk ?_) | (refine VIx.is ?_; refine VIx.mk rfl (by omega) (by omega) ?_) | (refine VSt.is ?_; refine VSt.cast (off' := j * 1) (by first | omega | (dsimp only; omega)) (VSt.vec aT (upd_flat0 (f := bV) (k := 1) (y := false) (fun _ => rfl) hzz rfl) rfl ?_)) | (refine VSeq.is ?_; refine VSeq.go ?_) | (refine VB.is ?_; refine VB.yes (by omega) fun _ => ?_) | (refine VB.is ?_; refine VB.no (by omega) fun _ => ?_) | (refine VB.is ?_; refine VB.split (fun _ => ?_) (fun _ => ?_)) | (refine boolE_split (fun h => ?_) (fun h => ?_) <;> subst h) | (refine VLd.is ?_; refine VLd.mk (.row aT (by rfl)) ?_) | (refine VSt.is ?_; refine VSt.row aT (by rfl) (by first | rfl | assumption) ?_) | (refine VNew.is ?_; refine VNew.mk fun _ => ?_) | (refine VAr.is ?_; refine VAr.i64 (by omega) (by omega) ?_) | (refine VIx.is ?_; refine VIx.mk rfl (by omega) (by omega) ?_) | (refine VKeep.is ?_; refine VKeep.mk aH ?_) | (refine VHs.is ?_; refine VHs.mk _ (HLe.refl _) ?_) | (refine VQ.is ?_; refine VQ.pos (by omega) (by omega) (by omega) ?_) | (refine VM.is ?_; refine VM.pos (by omega) (by omega) ?_) | (refine And.intro ?_ ?_)
          all_goals (conv => whnf)
          refine VNext.mk (j + 1) (by omega) (by omega) aE ?_
          rw [← hfn]
          exact aH
      · have hlen := hL.len
        rw [List.take_of_length_le (by omega), show N.ps.length - j = 0 by omega, List.replicate_zero, List.append_nil]
        repeat' (conv => whnf); first | (refine VSeq.is ?_; refine VSeq.go ?_) | (refine VB.is ?_; refine VB.yes (by omega) fun _ => ?_) | (refine VB.is ?_; refine VB.no (by omega) fun _ => ?_) | (refine VB.is ?_; refine VB.split (fun _ => ?_) (fun _ => ?_)) | (refine boolE_split (fun h => ?_) (fun h => ?_) <;> subst h) | (refine VLd.is ?_; refine VLd.mk (.row aT (by rfl)) ?_) | (refine VSt.is ?_; refine VSt.row aT (by rfl) (by first | rfl | assumption) ?_) | (refine VNew.is ?_; refine VNew.mk fun _ => ?_) | (refine VAr.is ?_; refine VAr.i64 (by omega) (by omega) ?_) | (refine VIx.is ?_; refine VIx.mk rfl (by omega) (by omega) ?_) | (refine VKeep.is ?_; refine VKeep.mk aH ?_) | (refine VHs.is ?_; refine VHs.mk _ (HLe.refl _) ?_) | (refine VQ.is ?_; refine VQ.pos (by omega) (by omega) (by omega) ?_) | (refine VM.is ?_; refine VM.pos (by omega) (by omega) ?_) | (refine And.intro ?_ ?_)
        all_goals (conv => whnf)
        exact ⟨fun w' hw' => ⟨((some ⟨b12, 0, none⟩, N.ps.length), (metL N.ps.length S, 0)), by dsimp only; rw [hlen]; rfl, .inr (.inr ⟨hz, hall, hL, rfl⟩), hw'.le (by dsimp only; rw [hlen]; exact aH)⟩⟩

end Go.Proofs
