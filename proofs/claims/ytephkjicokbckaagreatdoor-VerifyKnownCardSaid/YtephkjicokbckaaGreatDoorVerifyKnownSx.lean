import Derived.Test.YtephkjicokbckaaGreatDoorVerifyKnownSr
import Derived.Test.YtephkjicokbckaaGreatDoorVerifyKnownDb
set_option linter.unusedVariables false

set_option linter.unusedSimpArgs false

namespace Go.Proofs

open Go Go.Vx Go.Gm

theorem _root_.Go.Vx.VShL.is {kd : IntKind} {a b : Int} {k : Int → Prop} (hh : VShL kd a b k) : VShL kd a b k := hh

theorem _root_.Go.Vx.VShR.is {kd : IntKind} {a b : Int} {k : Int → Prop} (hh : VShR kd a b k) : VShR kd a b k := hh

theorem _root_.Go.Vx.VBit.is {op : BinOp} {kd : IntKind} {a b : Int} {k : Int → Prop} (hh : VBit op kd a b k) : VBit op kd a b k := hh

theorem _root_.Go.Vx.VShL.pow {n : Nat} {k : Int → Prop} (hn : n ≤ 62) (hk : k ((2 ^ n : Nat) : Int)) : VShL .i64 1 (n : Int) k := by
  refine .mk (by omega) ?_
  have e : min ((n : Int)).toNat IntKind.i64.bits = n := by
    have : IntKind.i64.bits = 64 := rfl
    omega
  rw [e, Int.one_mul]
  have h2 : (2 : Nat) ^ n ≤ 4611686018427387904 := by
    have := Nat.pow_le_pow_right (n := 2) (by omega) hn
    exact this
  have e2 : ((2 : Int) ^ n) = ((2 ^ n : Nat) : Int) := by push_cast; rfl
  obtain ⟨z, hz⟩ : ∃ z : Nat, 2 ^ n = z := ⟨_, rfl⟩
  rw [hz] at h2 hk e2
  rw [e2, wrap_i64 (by omega) (by omega)]
  exact hk

theorem _root_.Go.Vx.VShR.nat {c n : Nat} {k : Int → Prop} (hn : n ≤ 63) (hk : k ((c / 2 ^ n : Nat) : Int)) : VShR .i64 (c : Int) (n : Int) k := by
  refine .mk (by omega) ?_
  have e : min ((n : Int)).toNat IntKind.i64.bits = n := by
    have : IntKind.i64.bits = 64 := rfl
    omega
  rw [e]
  have e2 : ((2 : Int) ^ n) = ((2 ^ n : Nat) : Int) := by push_cast; rfl
  rw [e2, Int.fdiv_eq_ediv_of_nonneg _ (Int.natCast_nonneg _)]
  have e3 : ((c / 2 ^ n : Nat) : Int) = (c : Int) / ((2 ^ n : Nat) : Int) := Int.natCast_ediv ..
  rw [← e3]
  exact hk

theorem _root_.Go.Vx.VBit.one {c : Nat} {k : Int → Prop} (hc : c ≤ 9223372036854775807) (hk : k ((c % 2 : Nat) : Int)) : VBit .and .i64 (c : Int) 1 k := by
  refine .mk ?_
  have e : bitsI .and .i64 (c : Int) 1 = ((c % 2 : Nat) : Int) := by
    unfold bitsI
    dsimp only
    have hb : IntKind.i64.bits = 64 := rfl
    have h1 : (BitVec.ofInt IntKind.i64.bits (c : Int) &&& BitVec.ofInt IntKind.i64.bits 1).toNat = c % 2 := by
      rw [BitVec.toNat_and]
      have e1 : (BitVec.ofInt IntKind.i64.bits (c : Int)).toNat = c := by
        rw [BitVec.toNat_ofInt, hb]
        omega
      have e2 : (BitVec.ofInt IntKind.i64.bits 1).toNat = 1 := by
        rw [BitVec.toNat_ofInt, hb]
        rfl
      rw [e1, e2, Nat.and_one_is_mod]
    rw [h1, wrap_i64 (by omega) (by omega)]
  rw [e]
  exact hk

theorem bit_iff {c j : Nat} : c.testBit j = true ↔ (((c / 2 ^ j) % 2 : Nat) : Int) = 1 := by
  rw [Nat.testBit_eq_decide_div_mod_eq, decide_eq_true_eq]
  omega

theorem _root_.Go.Vx.VCall.le {P : Program} {w0 : World} {M : List Nat} {H H' : HP} {f : Nat} {args : List Value} {K : Value → HP → Prop} (hl : HLe H' H) (h : VCall P w0 M H' f args K) : VCall P w0 M H f args K := by
  cases h with
  | mk h => exact .mk fun w hw => h w (hw.le hl)

theorem _root_.Go.Vx.VYield.weak {P : Program} {w0 : World} {M : List Nat} {H H' : HP} {l : Nat} {args : List Value} {K : Value → HP → Prop} (hl : HLe H' H) (h : VYield P w0 M H' l args K) : VYield P w0 M H l args K := by
  cases h with
  | mk h => exact .mk fun w hw => h w (hw.le hl)

theorem _root_.Go.Vx.VYield.mono {P : Program} {w0 : World} {M : List Nat} {H : HP} {l : Nat} {args : List Value} {K K' : Value → HP → Prop} (h : VYield P w0 M H l args K) (hk : ∀ r H', K r H' → K' r H') : VYield P w0 M H l args K' := by
  cases h with
  | mk h =>
    refine .mk fun w hw => ?_
    obtain ⟨fn, tmps, asg, bd, h1, h2⟩ := h w hw
    exact ⟨fn, tmps, asg, bd, h1, h2.mono fun e w' ⟨v, H', g1, g2, g3⟩ => ⟨v, H', g1, g2, hk v H' g3⟩⟩

def envC (pf : Option Addr) (cf : Nat) (px : Option Addr) (cx : Nat) (v : Sur) : List Value := [.slice pf v.free.length cf, .slice px v.fixed.length cx, .int .i64 v.most]

theorem fixedL_len (l : List Evt) (t : Int) : (fixedL l t).length ≤ l.length := by
  unfold fixedL
  rw [List.length_map]
  exact List.length_filter_le _ _

theorem sorted_ins {N : Net} {v : Sur} (h : SurOk N v) (t : Int) (c : Nat) : sorted (fixedL v.fixed t ++ chosen v.free c) = insC N v t c := by
  refine h.sorted t c ?_ ?_
  · have := List.pairwise_mergeSort (le := fun x y : Int => decide (x ≤ y)) (by simp only [decide_eq_true_eq]; omega) (by intro a b; simp only [Bool.or_eq_true, decide_eq_true_eq]; omega) (fixedL v.fixed t ++ chosen v.free c)
    exact this.imp fun h => by simpa using h
  · exact List.mergeSort_perm _ _

set_option maxHeartbeats 1600000 in
theorem choices_iter {α : Type} {w0 : World} {H : HP} {K : Value → HP → Prop} (N : Net) (v : Sur) (hv : SurOk N v) (t left : Int) (hleft : -1000000000000 ≤ left ∧ left ≤ 9223372036854775807) (pf : Option Addr) (cf bf of : Nat) (px : Option Addr) (cx bx ox : Nat) (l : Nat) (b3 b4 b5 : Nat)
    (hf : Sl w0 intV 1 v.free pf v.free.length bf of) (hx : Sl w0 evtV 2 v.fixed px v.fixed.length bx ox) (I : Nat → α → Prop) (G : α → HP) (x0 : α) (h0 : I 0 x0)
    (hH : HLe (.row b3 29 (envC pf cf px cx v) :: .row b4 3 [.int .i64 t] :: .row b5 3 [.int .i64 left] :: G x0) H)
    (step : ∀ c x pb nb cb xs p cap, c < 2 ^ v.free.length → I c x → ((chosen v.free c).length : Int) ≤ left → (0 < (insC N v t c).length → ∃ g, p = some ⟨g, 0, none⟩) →
      VYield Tryz.cx.P w0 [] (.vec p (insC N v t c).length cap 3 1 (flat intV (insC N v t c)) :: .vec pb nb cb 3 1 xs :: .row b3 29 (envC pf cf px cx v) :: .row b4 3 [.int .i64 t] :: .row b5 3 [.int .i64 left] :: G x) l
        [.slice p (insC N v t c).length cap, .int .i64 ((chosen v.free c).length : Int)] fun r H' => (r = .bool true ∧ ∃ y, I (c + 1) y ∧ HLe (.vec pb nb cb 3 1 xs :: .row b3 29 (envC pf cf px cx v) :: .row b4 3 [.int .i64 t] :: .row b5 3 [.int .i64 left] :: G y) H') ∨ (r = .bool false ∧ K (.tuple #[]) H'))
    (skip : ∀ c x, c < 2 ^ v.free.length → I c x → left < ((chosen v.free c).length : Int) → I (c + 1) x)
    (fin : ∀ x pb nb cb xs, I (2 ^ v.free.length) x → K (.tuple #[]) (.vec pb nb cb 3 1 xs :: .row b3 29 (envC pf cf px cx v) :: .row b4 3 [.int .i64 t] :: .row b5 3 [.int .i64 left] :: G x)) :
    VCall Tryz.cx.P w0 [] H 128 [.func (.yield l) #[] #[], .pointer (some ⟨b3, 0, none⟩), .pointer (some ⟨b4, 0, none⟩), .pointer (some ⟨b5, 0, none⟩)] K := by
  obtain ⟨ec, hec⟩ : ∃ ec, envC pf cf px cx v = ec := ⟨_, rfl⟩
  have k0 : sub ec 0 1 = some [.slice pf v.free.length cf] := by rw [← hec]; rfl
  have k1 : sub ec 1 1 = some [.slice px v.fixed.length cx] := by rw [← hec]; rfl
  rw [hec] at hH step fin
  have h6 := hv.few
  have hfw := hv.fixed.few
  refine VCall.le hH ?_
  refine VCall.inl (F := Tryz.fx128) Tryz.func128 rfl rfl rfl Tryz.ok128 ?_
  repeat' (conv => whnf); first | (refine VLd.is ?_; refine VLd.mk (Rd.cast (.row aT (k1)) (by first | omega | (dsimp only; omega) | rfl)) ?_) | (refine VSeq.go ?_)
  all_goals (conv => whnf)
  refine VLoop.mk (α := Nat × Option Addr × Nat) (fun z => z.1 ≤ v.fixed.length) (fun z => [(1000000, .tuple #[]), (0, .func (.yield l) #[] #[]), (1, .pointer (some ⟨b3, 0, none⟩)), (2, .pointer (some ⟨b4, 0, none⟩)), (3, .pointer (some ⟨b5, 0, none⟩)), (5, .slice z.2.1 (fixedL (v.fixed.take z.1) t).length z.2.2), (14, .slice px v.fixed.length cx), (15, .int .i64 (v.fixed.length : Int)), (16, .int .i64 (z.1 : Int))])
    (fun z => .vec z.2.1 (fixedL (v.fixed.take z.1) t).length z.2.2 3 1 (flat intV (fixedL (v.fixed.take z.1) t)) :: .row b3 29 ec :: .row b4 3 [.int .i64 t] :: .row b5 3 [.int .i64 left] :: G x0) (fun z => v.fixed.length - z.1) (0, none, 0) (by dsimp only; omega) aE (HLe.nilv aH) ?_
  rintro ⟨k, p, cap⟩ hk
  dsimp only at hk ⊢
  have hlk : (fixedL (v.fixed.take k) t).length ≤ 65536 := by
    have := fixedL_len (v.fixed.take k) t
    rw [List.length_take] at this
    omega
  rcases Nat.lt_or_ge k v.fixed.length with hlt | hge
  · obtain ⟨x, hxk⟩ := hx.get hlt
    have htk := fixedL_take (t := t) hxk
    have s0 : sub (evtV x) 0 1 = some [.int .i64 x.tick] := rfl
    have s1 : sub (evtV x) 1 1 = some [.int .i64 x.id] := rfl
    obtain ⟨L, hL⟩ : ∃ L, fixedL (v.fixed.take k) t = L := ⟨_, rfl⟩
    rw [hL] at htk hlk ⊢
    repeat' (conv => whnf); first | (refine VIx.is ?_; refine VIx.mk (hx.ptr (by omega)) (by omega) (by omega) ?_) | (refine VLd.is ?_; refine VLd.mk (Rd.cast (hx.rd0 (by simp) (fun _ => rfl) hxk rfl) (by first | omega | (dsimp only; omega) | rfl)) ?_) | (refine VNew.mk fun bn => ?_) | (refine VAp.is ?_; refine VAp.own aT (.at_ (.vec aT rfl)) (by simp [Value.oneCell']) (by (try dsimp only); omega) (by simp only [maxLen]; omega) fun p' cap' hp' => ?_) | (refine VSeq.go ?_) | (refine VB.is ?_; refine VB.yes (by omega) fun _ => ?_) | (refine VB.split (fun _ => ?_) (fun _ => ?_)) | (refine VLd.is ?_; refine VLd.mk (.row aT (by rfl)) ?_) | (refine VSt.is ?_; refine VSt.row aT (by rfl) (by first | rfl | assumption) ?_) | (refine VAr.is ?_; refine oA ?_)
    all_goals (conv => whnf)
    · rw [if_pos (by omega)] at htk
      refine VNext.mk (k + 1, p', cap') (by dsimp only; omega) (by dsimp only; omega) ?_ ?_
      · dsimp only
        rw [htk, List.length_append]
        exact aE
      · dsimp only
        rw [htk, List.length_append, flat_append]
        exact aH
    · rw [if_neg (by omega), List.append_nil] at htk
      refine VNext.mk (k + 1, p, cap) (by dsimp only; omega) (by dsimp only; omega) ?_ ?_
      · dsimp only
        rw [htk]
        exact aE
      · dsimp only
        rw [htk]
        exact aH
  have hkl : k = v.fixed.length := by omega
  subst hkl
  rw [List.take_length] at hlk ⊢
  obtain ⟨B, hB⟩ : ∃ B, fixedL v.fixed t = B := ⟨_, rfl⟩
  have hsrt : ∀ c, sorted (B ++ chosen v.free c) = insC N v t c := fun c => by rw [← hB]; exact sorted_ins hv t c
  rw [hB] at hlk ⊢
  have h64 : 2 ^ v.free.length ≤ 64 := by
    have : (2 : Nat) ^ v.free.length ≤ 2 ^ 6 := Nat.pow_le_pow_right (by omega) h6
    omega
  obtain ⟨P2, hP2⟩ : ∃ P2, 2 ^ v.free.length = P2 := ⟨_, rfl⟩
  rw [hP2] at h64 step skip fin
  repeat' (conv => whnf); first | (refine VLd.is ?_; refine VLd.mk (Rd.cast (.row aT (k0)) (by first | omega | (dsimp only; omega) | rfl)) ?_) | (refine VShL.is ?_; refine VShL.pow (by omega) ?_; rw [hP2]) | (refine VSeq.go ?_) | (refine VB.is ?_; refine VB.no (by omega) fun _ => ?_)
  all_goals (conv => whnf)
  refine VLoop.mk (α := Nat × α) (fun z => z.1 ≤ P2 ∧ I z.1 z.2) (fun z => [(1000000, .tuple #[]), (0, .func (.yield l) #[] #[]), (1, .pointer (some ⟨b3, 0, none⟩)), (3, .pointer (some ⟨b5, 0, none⟩)), (5, .slice p B.length cap), (33, .int .i64 (P2 : Int)), (34, .int .i64 (z.1 : Int))])
    (fun z => .vec p B.length cap 3 1 (flat intV B) :: .row b3 29 ec :: .row b4 3 [.int .i64 t] :: .row b5 3 [.int .i64 left] :: G z.2) (fun z => P2 - z.1) (0, x0) ⟨by dsimp only; omega, h0⟩ aE aH ?_
  rintro ⟨c, x⟩ ⟨hc, hI⟩
  dsimp only at hc hI ⊢
  rcases Nat.lt_or_ge c P2 with hlt | hge
  · repeat' (conv => whnf); first | (refine VLd.is ?_; refine VLd.mk (Rd.cast (.row aT (k0)) (by first | omega | (dsimp only; omega) | rfl)) ?_) | (refine VCall.isF 124 ?_; (refine VCall.genR (fun w' hw' => Exists.elim (Sl.own (f := intV) (l := B) (cap := cap) (e := 3) (p := p) (k := 1) hw' aT (fun _ => rfl) rfl) fun b1 hb1 => cloneInt_any B p cap b1 0 w' hb1 hlk) ?_; rintro ⟨p1, c1⟩ hp1; dsimp only at hp1 ⊢)) | (refine VSeq.go ?_) | (refine VB.is ?_; refine VB.yes (by omega) fun _ => ?_)
    all_goals (conv => whnf)
    have hcl : ∀ j, (chosenT v.free c j).length ≤ j := fun j => chosenT_len v.free c j
    refine VLoop.mk (α := Nat × Option Addr × Nat) (fun z => z.1 ≤ v.free.length ∧ (0 < (B ++ chosenT v.free c z.1).length → ∃ g, z.2.1 = some ⟨g, 0, none⟩)) (fun z => [(1000000, .tuple #[]), (0, .func (.yield l) #[] #[]), (1, .pointer (some ⟨b3, 0, none⟩)), (3, .pointer (some ⟨b5, 0, none⟩)), (5, .slice p B.length cap), (8, .int .i64 (c : Int)), (9, .slice z.2.1 (B ++ chosenT v.free c z.1).length z.2.2), (33, .int .i64 (P2 : Int)), (34, .int .i64 (c : Int)), (40, .slice pf v.free.length cf), (41, .int .i64 (v.free.length : Int)), (42, .int .i64 (z.1 : Int))])
      (fun z => .vec z.2.1 (B ++ chosenT v.free c z.1).length z.2.2 3 1 (flat intV (B ++ chosenT v.free c z.1)) :: .vec p B.length cap 3 1 (flat intV B) :: .row b3 29 ec :: .row b4 3 [.int .i64 t] :: .row b5 3 [.int .i64 left] :: G x) (fun z => v.free.length - z.1) (0, p1, c1) ⟨by dsimp only; omega, by dsimp only; rw [show chosenT v.free c 0 = [] from rfl, List.append_nil]; exact hp1⟩ ?_ ?_ ?_
    · dsimp only
      rw [show chosenT v.free c 0 = [] from rfl, List.append_nil]
      exact aE
    · dsimp only
      rw [show chosenT v.free c 0 = [] from rfl, List.append_nil]
      exact aH
    rintro ⟨j, q, cq⟩ ⟨hj, hjp⟩
    dsimp only at hj hjp ⊢
    have hclj := hcl j
    rcases Nat.lt_or_ge j v.free.length with hjl | hjg
    · obtain ⟨i, hi⟩ := hf.get hjl
      have hst := chosenT_succ v.free c j
      rw [hi, Option.toList_some] at hst
      have hbit := bit_iff (c := c) (j := j)
      obtain ⟨q2, hq2⟩ : ∃ q2, c / 2 ^ j = q2 := ⟨_, rfl⟩
      have hqc : q2 ≤ c := by rw [← hq2]; exact Nat.div_le_self _ _
      rw [hq2] at hbit
      have hbl : B.length + (chosenT v.free c j).length = (B ++ chosenT v.free c j).length := by rw [List.length_append]
      obtain ⟨L, hL⟩ : ∃ L, B ++ chosenT v.free c j = L := ⟨_, rfl⟩
      rw [hL] at hbl hjp ⊢
      repeat' (conv => whnf); first | (refine VIx.is ?_; refine VIx.mk (hf.ptr (by omega)) (by omega) (by omega) ?_) | (refine VLd.is ?_; refine VLd.mk (Rd.cast (hf.rd0 (by simp) (fun _ => rfl) hi rfl) (by first | omega | (dsimp only; omega) | rfl)) ?_) | (refine VShR.is ?_; refine VShR.nat (by omega) ?_; rw [hq2]) | (refine VBit.is ?_; refine VBit.one (by omega) ?_) | (refine VAp.is ?_; refine VAp.own aT (.at_ (.vec aT rfl)) (by simp [Value.oneCell']) (by (try dsimp only); omega) (by simp only [maxLen]; omega) fun p' cap' hp' => ?_) | (refine VSeq.go ?_) | (refine VB.is ?_; refine VB.yes (by omega) fun _ => ?_) | (refine VB.split (fun _ => ?_) (fun _ => ?_)) | (refine VNew.mk fun _ => ?_) | (refine VAr.is ?_; refine oA ?_)
      all_goals (conv => whnf)
      · rw [if_pos (hbit.2 (by omega))] at hst
        have e : B ++ chosenT v.free c (j + 1) = L ++ [i] := by rw [hst, ← List.append_assoc, hL]
        refine VNext.mk (j + 1, p', cap') ⟨by dsimp only; omega, fun _ => hp' (by omega)⟩ (by dsimp only; omega) ?_ ?_
        · dsimp only
          rw [e, List.length_append]
          exact aE
        · dsimp only
          rw [e, List.length_append, flat_append]
          exact aH
      · rw [if_neg (fun h => absurd (hbit.1 h) (by omega)), List.append_nil] at hst
        have e : B ++ chosenT v.free c (j + 1) = L := by rw [hst, hL]
        refine VNext.mk (j + 1, q, cq) ⟨by dsimp only; omega, by dsimp only; rw [e]; exact hjp⟩ (by dsimp only; omega) ?_ ?_
        · dsimp only
          rw [e]
          exact aE
        · dsimp only
          rw [e]
          exact aH
    have hjl : j = v.free.length := by omega
    subst hjl
    have hch : chosenT v.free c v.free.length = chosen v.free c := rfl
    rw [hch] at hclj hjp ⊢
    have hs := hsrt c
    have hsl : (insC N v t c).length = (B ++ chosen v.free c).length := by
      rw [← hs]; unfold sorted; rw [List.length_mergeSort]
    have hbl : (B ++ chosen v.free c).length = B.length + (chosen v.free c).length := List.length_append
    have hstep := step c x p B.length cap (flat intV B) q cq hlt hI
    obtain ⟨A, hA⟩ : ∃ A, B ++ chosen v.free c = A := ⟨_, rfl⟩
    obtain ⟨S, hS⟩ : ∃ S, insC N v t c = S := ⟨_, rfl⟩
    obtain ⟨m, hm⟩ : ∃ m, (chosen v.free c).length = m := ⟨_, rfl⟩
    have hskip := skip c x hlt hI
    rw [hm] at hskip
    rw [hA] at hs hsl hbl hjp ⊢
    rw [hS, hm] at hstep
    rw [hS] at hs hsl
    rw [hm] at hbl hclj
    rw [← hsl]
    rw [← hsl] at hbl
    have hcnt : (S.length : Int) - (B.length : Int) = (m : Int) := by omega
    rw [← hsl] at hjp
    repeat' (conv => whnf); first | (refine VCall.isF 129 ?_; (refine sort_call q S.length cq A (by omega) aT (by omega) ?_; rw [hs])) | (refine VYield.is ?_; refine VYield.is ?_; rw [hcnt]; refine VYield.mono (VYield.weak ?_ (hstep (by omega) hjp)) fun r H' hr => ?_; (focus (exact aH)); rcases hr with ⟨rfl, y, hy, hl⟩ | ⟨rfl, hK⟩) | (refine VSeq.go ?_) | (refine VB.is ?_; refine VB.no (by omega) fun _ => ?_) | (refine VB.split (fun _ => ?_) (fun _ => ?_)) | (refine VLd.is ?_; refine VLd.mk (.row aT (by rfl)) ?_) | (refine VAr.is ?_; refine oA ?_)
    all_goals (conv => whnf)
    · exact VNext.mk (c + 1, y) ⟨by dsimp only; omega, hy⟩ (by dsimp only; omega) aE hl
    · exact hK
    · exact VNext.mk (c + 1, x) ⟨by dsimp only; omega, hskip (by omega)⟩ (by dsimp only; omega) aE aH
  · have hcp : c = P2 := by omega
    subst hcp
    repeat' (conv => whnf); first | (refine VSeq.go ?_) | (refine VB.is ?_; refine VB.no (by omega) fun _ => ?_)
    all_goals (conv => whnf)
    exact fin x p B.length cap (flat intV B) hI

end Go.Proofs
