import Derived.Test.YtephkjicokbckaaGreatDoorVerifyKnownOc
import Derived.Test.YtephkjicokbckaaGreatDoorVerifyKnownHh
import Derived.Test.YtephkjicokbckaaGreatDoorVerifyKnownVr
set_option linter.unusedVariables false

set_option linter.unusedSimpArgs false

namespace Go.Proofs

open Go Go.Vx Go.Gm

theorem _root_.Go.Vx.VCall.takes {P : Program} {w0 : World} {M : List Nat} {H S R : HP} {f : Nat} {args : List Value} {K : Value → HP → Prop} (htk : Take H S R) (h : VCall P w0 M (S ++ R) f args K) : VCall P w0 M H f args K := by
  obtain ⟨h⟩ := h
  exact .mk fun w hw => h w (hw.perm htk.perm)

theorem _root_.Go.Vx.VCall.hle {P : Program} {w0 : World} {M : List Nat} {H : HP} {f : Nat} {args : List Value} {K : Value → HP → Prop} (h : VCall P w0 M H f args fun v H' => ∃ H'', HLe H'' H' ∧ K v H'') : VCall P w0 M H f args K := by
  obtain ⟨h⟩ := h
  exact .mk fun w hw => (h w hw).mono fun e w' ⟨v, H', he, hw', H'', hl, hk⟩ => ⟨v, H'', he, hw'.le hl, hk⟩

open Classical in

noncomputable def robB (N : Net) (c : Clm) (ticks : Int) (C : List Evt) : Option (List Evt × Int) :=
  if (runRes N (sortU C) ticks).2 ≠ 0 ∨ ¬ HoldsP c (runRes N (sortU C) ticks).1 then some (sortU C, (runRes N (sortU C) ticks).2) else none

structure TryB where
  i : Nat
  c : Nat
  n : Nat
  t : Nat
  k : Nat
  m : Nat
  b : Nat
  f : Nat
  e : Nat
  j : Nat
  y : Nat

def TryB.caps (B : TryB) : List Value := [.pointer (some ⟨B.i, 0, none⟩), .pointer (some ⟨B.c, 0, none⟩), .pointer (some ⟨B.n, 0, none⟩), .pointer (some ⟨B.t, 0, none⟩), .pointer (some ⟨B.k, 0, none⟩), .pointer (some ⟨B.m, 0, none⟩), .pointer (some ⟨B.b, 0, none⟩), .pointer (some ⟨B.f, 0, none⟩), .pointer (some ⟨B.e, 0, none⟩), .pointer (some ⟨B.j, 0, none⟩), .pointer (some ⟨B.y, 0, none⟩)]

def tryS (B : TryB) (vi vn : Value) (cm : List Value) (fa fb : Nat) (ticks : Int) (J : Nat) (C : List Evt) (q : Option Addr) (cq : Nat) (bad : Value) (fnd : Bool) (er : Int) : HP :=
  [.row B.i 27 [vi], .row B.c 27 [.slice q C.length cq], .row B.n 25 (cellsL vn), .row B.t 3 [.int .i64 ticks], .row B.k 158 [.func (.func fa) #[] #[], .func (.func fb) #[] #[]], .row B.m 50 cm, .row B.b 27 [bad], .row B.f 4 [.bool fnd], .row B.e 34 [.int .i64 er], .row B.j 3 [.int .i64 (J : Int)], .row B.y 175 [.func (.func 108) #[] B.caps.toArray], .vec q C.length cq 64 2 (flat evtV C)]

theorem robB_some {N : Net} {c : Clm} {ticks : Int} {C S O : List Evt} {er : Int} (hS : sortU C = S) (hO : (runRes N S ticks).1 = O) (her : (runRes N S ticks).2 = er) (h : er ≠ 0 ∨ ¬ HoldsP c O) : robB N c ticks C = some (S, er) := by
  unfold robB; rw [hS, hO, her, if_pos h]

theorem robB_none {N : Net} {c : Clm} {ticks : Int} {C S O : List Evt} {er : Int} (hS : sortU C = S) (hO : (runRes N S ticks).1 = O) (her : (runRes N S ticks).2 = er) (h : ¬ (er ≠ 0 ∨ ¬ HoldsP c O)) : robB N c ticks C = none := by
  unfold robB; rw [hS, hO, her, if_neg h]

set_option maxHeartbeats 4000000 in
theorem try_vc {w0 : World} (N : Net) (hN : N.wf) (l : List Evt) (hlw : ∀ x ∈ l, x.wf ∧ 0 ≤ x.tick ∧ x.tick < 10000) (hl64 : l.length ≤ 64) (J : Nat) (hJ : J ≤ 64) (ticks : Int) (hti : I64 ticks) (c : Clm) (hc : c.wf) (hns : c.ns.length ≤ 1000) (one : Int) (hone : c.ns[0]? = some one) (fa fb : Nat) (hkf : (c.kind = 1 ∧ fa = 146) ∨ (c.kind = 2 ∧ fa = 148))
    (hfew : ∀ X : List Evt, X.length ≤ 64 → (runRes N X ticks).1.length ≤ 65536) (pn : Option Addr) (cn bn on : Nat) (qs : Option Addr) (cs bs os : Nat) (pe : Option Addr) (ce be oe : Nat) (pc : Option Addr) (cc bc oc : Nat)
    (h1 : Sl w0 parV 8 N.ps pn N.ps.length bn on) (h2 : Sl w0 synV 4 N.syns qs N.syns.length bs os) (h3 : Sl w0 evtV 2 l pe l.length be oe) (hce : l.length ≤ ce) (h5 : Sl w0 intV 1 c.ns pc c.ns.length bc oc) (hcc : c.ns.length ≤ cc) (B : TryB) :
    ∀ (n i L : Nat) (C : List Evt) (q : Option Addr) (cq : Nat) (H R : HP) (K : Value → HP → Prop), i + n = l.length → L ≤ 64 → C.length ≤ i → (∀ x ∈ C, x.wf) →
      Take H (tryS B (.slice pe l.length ce) (.agg #[.slice pn N.ps.length cn, .int .i64 N.inputs, .slice qs N.syns.length cs]) (clmV c pc cc) fa fb ticks J C q cq (.slice none 0 0) false 0) R →
      (firstB (robB N c ticks) J C (l.drop i) L = none → ∀ q' cq', K (.bool true) (tryS B (.slice pe l.length ce) (.agg #[.slice pn N.ps.length cn, .int .i64 N.inputs, .slice qs N.syns.length cs]) (clmV c pc cc) fa fb ticks J C q' cq' (.slice none 0 0) false 0 ++ R)) →
      (∀ D er pb cb q' cq', firstB (robB N c ticks) J C (l.drop i) L = some (D, er) → K (.bool false) (.vec pb D.length cb 64 2 (flat evtV D) :: tryS B (.slice pe l.length ce) (.agg #[.slice pn N.ps.length cn, .int .i64 N.inputs, .slice qs N.syns.length cs]) (clmV c pc cc) fa fb ticks J C q' cq' (.slice pb D.length cb) true er ++ R)) →
      VCall Tryz.cx.P w0 [] H 108 ([.int .i64 (i : Int), .int .i64 (L : Int)] ++ B.caps) K := by
  intro n
  induction n with
  | zero =>
    intro i L C q cq H R K hi hL hC hCw htk hk1 hk2
    have hil : i = l.length := by omega
    subst hil
    rw [List.drop_length, firstB_nil] at hk1 hk2
    refine VCall.takes htk (VCall.hle ?_)
    clear htk
    obtain ⟨bi, bC, bN, bT, bK, bM, bB, bF, bE, bJ, bY⟩ := B
    unfold tryS TryB.caps at *
    refine VCall.inl (F := Tryz.fx108) Tryz.func108 rfl rfl rfl Tryz.ok108 ?_
    have hSl := sortU_len C
    have hSw : ∀ x ∈ sortU C, x.wf := fun x hx => hCw x (mem_sortU.1 hx)
    have hfw := hfew (sortU C) (by omega)
    obtain ⟨S, hS⟩ : ∃ S, sortU C = S := ⟨_, rfl⟩
    obtain ⟨O, hO⟩ : ∃ O, (runRes N S ticks).1 = O := ⟨_, rfl⟩
    obtain ⟨er, her⟩ : ∃ er, (runRes N S ticks).2 = er := ⟨_, rfl⟩
    rw [hS, hO] at hfw
    rw [hS] at hSl hSw
    have hrs := fun h => robB_some (c := c) hS hO her h
    have hrn := fun h => robB_none (c := c) hS hO her h
    dsimp only [List.cons_append, List.nil_append] at hk1 hk2 ⊢
    repeat' (conv => whnf); first | (refine VCall.isF 109 ?_; (refine VCall.genR (fun w' hw' => Exists.elim (Sl.own (f := evtV) (l := C) (cap := cq) (e := 64) (p := q) (k := 2) hw' aT (fun _ => rfl) rfl) fun bq hbq => sortedV_any C (by omega) q cq bq 0 w' hbq) ?_; rintro ⟨ps, cs2⟩ hps; rw [hS] at hps ⊢; dsimp only at hps ⊢)) | (refine VCall.isF 30 ?_; (refine VCall.genR (fun w' hw' => Exists.elim (Sl.own (f := evtV) (l := S) (cap := cs2) (e := 64) (p := ps) (k := 2) hw' aT (fun _ => rfl) rfl) fun bq hbq => Run_any N hN S hSw ticks pn cn bn on qs cs bs os ps cs2 bq 0 w' (h1.keep hw' (by simp)) (h2.keep hw' (by simp)) hbq (vec_facts (hw'.own (.vec ps S.length cs2 64 2 (flat evtV S)) (by simp))).1) ?_; rintro ⟨r2, cr2⟩ _; rw [hO, her]; dsimp only)) | (refine VSeq.go ?_) | (refine VB.is ?_; refine VB.yes (by omega) fun _ => ?_) | (refine VB.split (fun _ => ?_) (fun _ => ?_)) | (refine VLd.is ?_; refine VLd.mk (.row aT (by rfl)) ?_) | (refine VSt.is ?_; refine VSt.row aT (by rfl) (by first | rfl | assumption) ?_)
    all_goals (conv => whnf)
    · exact ⟨_, by exact aH, hk2 S er ps cs2 q cq (hrs (.inl ‹_›))⟩
    have her0 : er = 0 := Decidable.not_not.1 ‹_›
    rcases hkf with ⟨hk, rfl⟩ | ⟨hk, rfl⟩
    · have hH : HoldsP c O ↔ LeadsP c O := by unfold HoldsP; rw [if_pos hk]
      repeat' (conv => whnf); first | (refine VCall.isF 146 ?_; (refine VCall.genR (fun w' hw' => Exists.elim (Sl.own (f := evtV) (l := O) (cap := cr2) (e := 64) (p := r2) (k := 2) hw' aT (fun _ => rfl) rfl) fun bq hbq => vleads_any c hc (by omega) hone O hfw pc cc bc oc r2 cr2 bq 0 w' (h5.keep hw' (by simp)) hbq) ?_; intro b hb)) | (refine VSeq.go ?_) | (refine boolE_split (fun h => ?_) (fun h => ?_) <;> subst h) | (refine VLd.is ?_; refine VLd.mk (.row aT (by rfl)) ?_) | (refine VSt.is ?_; refine VSt.row aT (by rfl) (by first | rfl | assumption) ?_)
      all_goals (conv => whnf)
      · exact ⟨_, by exact aH, hk1 (hrn (fun h => h.elim (fun h => h her0) fun h => h (hH.2 (by first | exact hb.1 rfl | exact hb.1 ‹_›)))) q cq⟩
      · exact ⟨_, by exact aH, hk2 S er ps cs2 q cq (hrs (.inr fun h => by have h9 := hb.2 (hH.1 h); first | (cases h9; done) | (simp_all; done)))⟩
    · have hH : HoldsP c O ↔ CountsP c O := by unfold HoldsP; rw [if_neg (by omega)]
      repeat' (conv => whnf); first | (refine VCall.isF 148 ?_; (refine VCall.genR (fun w' hw' => Exists.elim (Sl.own (f := evtV) (l := O) (cap := cr2) (e := 64) (p := r2) (k := 2) hw' aT (fun _ => rfl) rfl) fun bq hbq => vcounts_any c hc (by omega) O hfw pc cc bc oc r2 cr2 bq 0 w' (h5.keep hw' (by simp)) hbq) ?_; intro b hb)) | (refine VSeq.go ?_) | (refine boolE_split (fun h => ?_) (fun h => ?_) <;> subst h) | (refine VLd.is ?_; refine VLd.mk (.row aT (by rfl)) ?_) | (refine VSt.is ?_; refine VSt.row aT (by rfl) (by first | rfl | assumption) ?_)
      all_goals (conv => whnf)
      · exact ⟨_, by exact aH, hk1 (hrn (fun h => h.elim (fun h => h her0) fun h => h (hH.2 (by first | exact hb.1 rfl | exact hb.1 ‹_›)))) q cq⟩
      · exact ⟨_, by exact aH, hk2 S er ps cs2 q cq (hrs (.inr fun h => by have h9 := hb.2 (hH.1 h); first | (cases h9; done) | (simp_all; done)))⟩
  | succ n ih =>
    intro i L C q cq H R K hi hL hC hCw htk hk1 hk2
    obtain ⟨e, he⟩ : ∃ e, l[i]? = some e := ⟨l[i]'(by omega), List.getElem?_eq_getElem _⟩
    have hdr : l.drop i = e :: l.drop (i + 1) := by
      obtain ⟨hlt, rfl⟩ := List.getElem?_eq_some_iff.1 he
      exact List.drop_eq_getElem_cons hlt
    rw [hdr, firstB_cons] at hk1 hk2
    obtain ⟨hew, het⟩ := hlw e (List.mem_of_getElem? he)
    obtain ⟨o1, o2, o3⟩ := opts_ok het J
    refine VCall.takes htk (VCall.hle ?_)
    clear htk
    have hB : B = ⟨B.i, B.c, B.n, B.t, B.k, B.m, B.b, B.f, B.e, B.j, B.y⟩ := rfl
    obtain ⟨bi, bC, bN, bT, bK, bM, bB, bF, bE, bJ, bY⟩ := B
    clear hB
    unfold tryS TryB.caps at *
    dsimp only [List.cons_append, List.nil_append] at hk1 hk2 ih ⊢
    refine VCall.inl (F := Tryz.fx108) Tryz.func108 rfl rfl rfl Tryz.ok108 ?_
    repeat' (conv => whnf); first | (refine VIx.is ?_; refine VIx.mk (h3.ptr (by omega)) (by omega) (by omega) ?_) | (refine VLd.is ?_; refine VLd.mk (Rd.cast (h3.rd0 (by simp) (fun _ => rfl) he rfl) (by first | omega | (dsimp only; omega) | rfl)) ?_) | (refine VCall.isF 93 ?_; (refine VCall.genR (fun w' hw' => options_any e.tick het J hJ w') ?_; rintro ⟨p2, c2⟩ ⟨g2, hg2⟩; dsimp only at hg2; subst hg2)) | (refine VSeq.go ?_) | (refine VB.is ?_; refine VB.no (by omega) fun _ => ?_) | (refine VLd.is ?_; refine VLd.mk (.row aT (by rfl)) ?_) | (refine VHs.mk _ (.refl _) ?_)
    all_goals (conv => whnf)
    obtain ⟨O, hO⟩ : ∃ O, opts e.tick J ++ [-1] = O := ⟨_, rfl⟩
    have hOl : O.length = (opts e.tick J).length + 1 := by rw [← hO]; simp
    have hOi : ∀ t ∈ O, t = -1 ∨ (0 ≤ t ∧ t < 10000) := by
      intro t ht
      rw [← hO] at ht
      rcases List.mem_append.1 ht with h | h
      · exact .inr (o1 t h)
      · simp only [List.mem_singleton] at h; exact .inl h
    rw [hO] at hk1 hk2 ⊢
    rw [← hOl]
    dsimp only
    refine VLoop.mk (α := Nat × Option Addr × Nat) (fun y => y.1 ≤ O.length ∧ firstO (robB N c ticks) J C e (l.drop (i + 1)) L (O.take y.1) = none)
      (fun y => [(1000000, .tuple #[]), (0, .int .i64 (i : Int)), (1, .int .i64 (L : Int)), (2, .pointer (some ⟨bi, 0, none⟩)), (3, .pointer (some ⟨bC, 0, none⟩)), (12, .pointer (some ⟨bY, 0, none⟩)), (15, .bool false), (56, .slice (some ⟨g2, 0, none⟩) O.length c2), (57, .int .i64 (O.length : Int)), (58, .int .i64 (y.1 : Int))])
      (fun y => .vec (some ⟨g2, 0, none⟩) O.length c2 3 1 (flat intV O) :: .row bi 27 [.slice pe l.length ce] :: .row bC 27 [.slice y.2.1 C.length y.2.2] :: .row bN 25 (cellsL (.agg #[.slice pn N.ps.length cn, .int .i64 N.inputs, .slice qs N.syns.length cs])) :: .row bT 3 [.int .i64 ticks] :: .row bK 158 [.func (.func fa) #[] #[], .func (.func fb) #[] #[]] :: .row bM 50 (clmV c pc cc) :: .row bB 27 [.slice none 0 0] :: .row bF 4 [.bool false] :: .row bE 34 [.int .i64 0] :: .row bJ 3 [.int .i64 (J : Int)] :: .row bY 175 [.func (.func 108) #[] [.pointer (some ⟨bi, 0, none⟩), .pointer (some ⟨bC, 0, none⟩), .pointer (some ⟨bN, 0, none⟩), .pointer (some ⟨bT, 0, none⟩), .pointer (some ⟨bK, 0, none⟩), .pointer (some ⟨bM, 0, none⟩), .pointer (some ⟨bB, 0, none⟩), .pointer (some ⟨bF, 0, none⟩), .pointer (some ⟨bE, 0, none⟩), .pointer (some ⟨bJ, 0, none⟩), .pointer (some ⟨bY, 0, none⟩)].toArray] :: .vec y.2.1 C.length y.2.2 64 2 (flat evtV C) :: R) (fun y => O.length - y.1) (0, q, cq) ⟨by dsimp only; omega, rfl⟩ aE aH ?_
    rintro ⟨j, q1, cq1⟩ ⟨hj, hno⟩
    dsimp only at hj hno ⊢
    rcases Nat.lt_or_ge j O.length with hlt | hge
    · obtain ⟨t, ht⟩ : ∃ t, O[j]? = some t := ⟨O[j], List.getElem?_eq_getElem hlt⟩
      obtain ⟨hst1, hst2⟩ := firstO_take (f := robB N c ticks) (J := J) (C := C) (e := e) (r := l.drop (i + 1)) (L := L) ht hno
      have hsm : (j + 1 ≤ O.length) := hlt
      rcases hOi t (List.mem_of_getElem? ht) with rfl | ⟨ht0, ht1⟩
      · rw [if_pos (by omega)] at hst1 hst2
        rcases Nat.eq_zero_or_pos L with hL0 | hLp
        · subst hL0
          rw [if_pos rfl] at hst1 hst2
          repeat' (conv => whnf); first | (refine VIx.is ?_; refine VIx.mk rfl (by omega) (by omega) ?_) | (refine VLd.is ?_; refine VLd.mk (Rd.cast (.vec aT (sub_flat0 (f := intV) (k := 1) (fun _ => rfl) ht rfl)) (by first | omega | (dsimp only; omega) | rfl)) ?_) | (refine VSeq.go ?_) | (refine VB.is ?_; refine VB.yes (by omega) fun _ => ?_) | (refine VAr.is ?_; refine oA ?_)
          all_goals (conv => whnf)
          exact VNext.mk (j + 1, q1, cq1) ⟨hsm, hst1⟩ (by dsimp only; omega) aE aH
        · obtain ⟨L', rfl⟩ : ∃ L', L = L' + 1 := ⟨L - 1, by omega⟩
          rw [if_neg (by omega), Nat.add_sub_cancel] at hst1 hst2
          have hL1 : ((L' + 1 : Nat) : Int) - 1 = (L' : Int) := by omega
          repeat' (conv => whnf); first | (refine VIx.is ?_; refine VIx.mk rfl (by omega) (by omega) ?_) | (refine VLd.is ?_; refine VLd.mk (Rd.cast (.vec aT (sub_flat0 (f := intV) (k := 1) (fun _ => rfl) ht rfl)) (by first | omega | (dsimp only; omega) | rfl)) ?_) | (refine VCall.is ?_; refine VCall.isF 108 ?_; rw [hL1]; refine ih (i + 1) L' C q1 cq1 _ _ _ (by omega) (by omega) (by omega) hCw (by repeat (first | exact Take.nil | (with_reducible apply Take.seg; (focus (exact aS))) | (apply Take.cons; (focus (exact aT))) | (apply Take.last; (focus (exact aS))))) (fun hnone q3 cq3 => ?_) (fun D er pb cb q3 cq3 hsome => ?_)) | (refine VSeq.go ?_) | (refine VB.is ?_; refine VB.yes (by omega) fun _ => ?_) | (refine VB.is ?_; refine VB.no (by omega) fun _ => ?_) | (refine VLd.is ?_; refine VLd.mk (.row aT (by rfl)) ?_) | (refine VAr.is ?_; refine oA ?_)
          all_goals (conv => whnf)
          · exact VNext.mk (j + 1, q3, cq3) ⟨hsm, by rw [hst1]; exact hnone⟩ (by dsimp only; omega) aE aH
          · exact ⟨_, by exact aH, hk2 D er pb cb q3 cq3 (hst2 _ hsome)⟩
      · rw [if_neg (by omega)] at hst1 hst2
        obtain ⟨X, hX⟩ : ∃ X, C ++ [(⟨t, e.id⟩ : Evt)] = X := ⟨_, rfl⟩
        have hXl : X.length = C.length + 1 := by rw [← hX]; simp
        have hXf : flat evtV C ++ [.int .i64 t, .int .i64 e.id] = flat evtV X := by rw [← hX, flat_append]; rfl
        have hX0 : X.take C.length = C := by rw [← hX, List.take_left]
        have hXw : ∀ x ∈ X, x.wf := by
          intro x hx
          rw [← hX] at hx
          rcases List.mem_append.1 hx with h | h
          · exact hCw x h
          · simp only [List.mem_singleton] at h
            subst h
            unfold Evt.wf I64 at hew ⊢
            exact ⟨by dsimp only; omega, hew.2⟩
        have hew' : I64 e.id := by unfold Evt.wf at hew; exact hew.2
        rw [hX] at hst1 hst2
        repeat' (conv => whnf); first | (refine VSeq.is ?_; refine VSeq.isA 15 rfl ?_; refine VSeq.cut (at_ := 15) (α := Option Addr × Nat) (fun _ => True) (fun y => [(1000000, .tuple #[]), (0, .int .i64 (i : Int)), (1, .int .i64 (L : Int)), (2, .pointer (some ⟨bi, 0, none⟩)), (3, .pointer (some ⟨bC, 0, none⟩)), (12, .pointer (some ⟨bY, 0, none⟩)), (15, .bool false), (20, .int .i64 t), (21, .int .i64 (L : Int)), (56, .slice (some ⟨g2, 0, none⟩) O.length c2), (57, .int .i64 (O.length : Int)), (58, .int .i64 (j : Int))]) (fun y => .vec (some ⟨g2, 0, none⟩) O.length c2 3 1 (flat intV O) :: .row bi 27 [.slice pe l.length ce] :: .row bC 27 [.slice y.1 X.length y.2] :: .row bN 25 (cellsL (.agg #[.slice pn N.ps.length cn, .int .i64 N.inputs, .slice qs N.syns.length cs])) :: .row bT 3 [.int .i64 ticks] :: .row bK 158 [.func (.func fa) #[] #[], .func (.func fb) #[] #[]] :: .row bM 50 (clmV c pc cc) :: .row bB 27 [.slice none 0 0] :: .row bF 4 [.bool false] :: .row bE 34 [.int .i64 0] :: .row bJ 3 [.int .i64 (J : Int)] :: .row bY 175 [.func (.func 108) #[] [.pointer (some ⟨bi, 0, none⟩), .pointer (some ⟨bC, 0, none⟩), .pointer (some ⟨bN, 0, none⟩), .pointer (some ⟨bT, 0, none⟩), .pointer (some ⟨bK, 0, none⟩), .pointer (some ⟨bM, 0, none⟩), .pointer (some ⟨bB, 0, none⟩), .pointer (some ⟨bF, 0, none⟩), .pointer (some ⟨bE, 0, none⟩), .pointer (some ⟨bJ, 0, none⟩), .pointer (some ⟨bY, 0, none⟩)].toArray] :: .vec y.1 X.length y.2 64 2 (flat evtV X) :: R) ?_ ?_) | (refine VIx.is ?_; refine VIx.mk rfl (by omega) (by omega) ?_) | (refine VIx.is ?_; refine VIx.mk (h3.ptr (by omega)) (by omega) (by omega) ?_) | (refine VLd.is ?_; refine VLd.mk (Rd.cast (h3.rd (o := 1) (s := 1) (by simp) (fun _ => rfl) he rfl) (by first | omega | (dsimp only; omega) | rfl)) ?_) | (refine VLd.is ?_; refine VLd.mk (Rd.cast (.vec aT (sub_flat0 (f := intV) (k := 1) (fun _ => rfl) ht rfl)) (by first | omega | (dsimp only; omega) | rfl)) ?_) | (refine VAp.is ?_; refine VAp.own (p := q1) aT (.at_ (.vec aT rfl)) (by simp [Value.oneCell']) (by (try dsimp only); omega) (by simp only [maxLen]; omega) fun p4 c4 hp4 => ?_) | (refine VSeq.go ?_) | (refine VB.is ?_; refine VB.yes (by omega) fun _ => ?_) | (refine VB.is ?_; refine VB.no (by omega) fun _ => ?_) | (refine VLd.is ?_; refine VLd.mk (.row aT (by rfl)) ?_) | (refine VSt.is ?_; refine VSt.row aT (by rfl) (by first | rfl | assumption) ?_) | (refine VNew.mk fun _ => ?_) | (refine VKeep.is ?_; refine VKeep.mk aH ?_) | (refine VHs.mk _ (.refl _) ?_)
        all_goals (conv => whnf)
        · refine VMid.mk (p4, c4) trivial ?_ ?_
          · exact aE
          · dsimp only
            rw [hXl, ← hXf]
            exact aH
        rintro ⟨q4, c4⟩ -
        dsimp only
        have hcl : ((X.length : Nat) : Int) - 1 = (C.length : Int) := by omega
        repeat' (conv => whnf); first | (refine VSeq.is ?_; refine VSeq.isA 18 rfl ?_; refine VSeq.learn (at_ := 18) (fun w hw => vec_facts (hw (.vec q3 X.length cq3 64 2 (flat evtV X)) (by simp))) (fun hfc => ?_)) | (refine VCall.is ?_; refine VCall.isF 108 ?_; refine ih (i + 1) L X q4 c4 _ _ _ (by omega) (by omega) (by omega) hXw (by repeat (first | exact Take.nil | (with_reducible apply Take.seg; (focus (exact aS))) | (apply Take.cons; (focus (exact aT))) | (apply Take.last; (focus (exact aS))))) (fun hnone q3 cq3 => ?_) (fun D er pb cb q3 cq3 hsome => ?_)) | (refine VSl.is ?_; refine VSl.is ?_; rw [hcl]; refine VSl.cut0 (m := C.length) (cap := cq3) (by have := hfc.1; omega) ?_) | (refine VSeq.go ?_) | (refine VB.is ?_; refine VB.yes (by omega) fun _ => ?_) | (refine VLd.is ?_; refine VLd.mk (.row aT (by rfl)) ?_) | (refine VSt.is ?_; refine VSt.row aT (by rfl) (by first | rfl | assumption) ?_) | (refine VAr.is ?_; refine oA ?_)
        all_goals (conv => whnf)
        · refine VNext.mk (j + 1, q3, cq3) ⟨hsm, by rw [hst1]; exact hnone⟩ (by dsimp only; omega) aE ?_
          dsimp only
          refine HLe.trans ?_ (HLe.shr (f := evtV) (k := 2) (l := X) (p := q3) (n := X.length) (cap := cq3) (e := 64) (m := C.length) aT (fun _ => rfl) rfl (by omega) (HLe.refl _))
          rw [hX0]
          exact aH
        · refine ⟨_, ?_, hk2 D er pb cb q3 cq3 (hst2 _ hsome)⟩
          refine HLe.trans ?_ (HLe.shr (f := evtV) (k := 2) (l := X) (p := q3) (n := X.length) (cap := cq3) (e := 64) (m := C.length) aT (fun _ => rfl) rfl (by omega) (HLe.refl _))
          rw [hX0]
          exact aH
    · rw [List.take_of_length_le hge] at hno
      repeat' (conv => whnf); first | (refine VSeq.go ?_) | (refine VB.is ?_; refine VB.no (by omega) fun _ => ?_)
      all_goals (conv => whnf)
      exact ⟨_, by exact aH, hk1 hno q1 cq1⟩

end Go.Proofs
