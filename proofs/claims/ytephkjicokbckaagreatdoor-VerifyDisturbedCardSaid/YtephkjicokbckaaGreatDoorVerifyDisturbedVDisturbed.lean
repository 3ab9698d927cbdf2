import Derived.Test.YtephkjicokbckaaGreatDoorVerifyDisturbedDq
import Derived.Test.YtephkjicokbckaaGreatDoorVerifyDisturbedHh
import Derived.Test.YtephkjicokbckaaGreatDoorVerifyDisturbedOv
import Derived.Test.YtephkjicokbckaaGreatDoorVerifyDisturbedHd
set_option linter.unusedVariables false

set_option linter.unusedSimpArgs false

namespace Go.Proofs

open Go Go.Vx Go.Gm

theorem _root_.Go.Vx.VM.some_ {a b : Int} {k : Int → Prop} (ha : 0 ≤ a) (hb : 0 < b) (hk : ∀ q : Int, 0 ≤ q → q < b → k q) : VM a b k :=
  .pos ha hb (hk _ (Int.emod_nonneg _ (by omega)) (Int.emod_lt_of_pos _ hb))

set_option maxHeartbeats 4000000 in
theorem vdisturbed_any (N : Net) (l : List Evt) (hlw : ∀ x ∈ l, x.wf) (h64 : l.length ≤ 64) (htk : ∀ x ∈ l, 0 ≤ x.tick ∧ x.tick < 10000) (J L : Nat) (hJ : J ≤ 64) (hL : L ≤ 64) (ticks : Int) (c : Clm) (ch : List Int) (hch : ∀ x ∈ ch, 0 ≤ x ∧ x < 256) (z : Int) (hz : 0 ≤ z)
    (pn : Option Addr) (cn : Nat) (qs : Option Addr) (cs : Nat) (pe : Option Addr) (ce be oe : Nat) (pc : Option Addr) (cc : Nat) (pk : Option Addr) (ck bk ok : Nat) (w : World) (h3 : Sl w evtV 2 l pe l.length be oe) (h7 : Sl w byteV 1 ch pk ch.length bk ok) :
    Calls Tryz.prog 45 #[.agg #[.slice pn N.ps.length cn, .int .i64 N.inputs, .slice qs N.syns.length cs, .slice pe l.length ce, .int .i64 (J : Int), .int .i64 (L : Int), .int .i64 ticks, .int .i64 c.kind, .slice pc c.ns.length cc, .int .i64 c.frm, .int .i64 c.to, .int .i64 c.lo, .int .i64 c.hi], .slice pk ch.length ck, .int .u64 z] w fun e w' => ∃ y : (Option Addr × Nat) × List Int, e = .returned (.slice y.1.1 (sortU (kept l y.2)).length y.1.2) ∧ (OptL J (l.map (·.tick)) y.2 ∧ lostN y.2 ≤ L) ∧ St w [] [.vec y.1.1 (sortU (kept l y.2)).length y.1.2 64 2 (flat evtV (sortU (kept l y.2)))] w' := by
  refine enter (C := Tryz.cx) (F := Tryz.fx45) (args := [_, _, _]) Tryz.func45 rfl rfl rfl Tryz.ok45 (St.start w []) ?_
  repeat' (conv => whnf); first | (refine VNew.mk fun b3 => ?_) | (refine VSeq.go ?_)
  all_goals (conv => whnf)
  refine VLoop.mk (α := Nat × List Int × Option Addr × Nat) (fun y => y.1 ≤ l.length ∧ OptL J ((l.take y.1).map (·.tick)) y.2.1 ∧ lostN y.2.1 ≤ L)
    (fun y => [(1000000, .tuple #[]), (1, .slice pk ch.length ck), (2, .int .u64 z), (3, .pointer (some ⟨b3, 0, none⟩)), (6, .slice none 0 0), (7, .slice y.2.2.1 (kept (l.take y.1) y.2.1).length y.2.2.2), (8, .int .i64 (lostN y.2.1 : Int)), (9, .int .i64 (y.1 : Int))])
    (fun y => [.row b3 80 [.slice pn N.ps.length cn, .int .i64 N.inputs, .slice qs N.syns.length cs, .slice pe l.length ce, .int .i64 (J : Int), .int .i64 (L : Int), .int .i64 ticks, .int .i64 c.kind, .slice pc c.ns.length cc, .int .i64 c.frm, .int .i64 c.to, .int .i64 c.lo, .int .i64 c.hi], .vec y.2.2.1 (kept (l.take y.1) y.2.1).length y.2.2.2 64 2 (flat evtV (kept (l.take y.1) y.2.1))]) (fun y => l.length - y.1) (0, [], none, 0) ⟨by simp, trivial, by simp [lostN]⟩ aE aH ?_
  rintro ⟨i, y, p, cap⟩ ⟨hi, hop, hlo⟩
  dsimp only at hi hop hlo ⊢
  have hyl : y.length = (l.take i).length := by have := hop.len; rwa [List.length_map] at this
  have hyi : y.length = i := by rw [hyl, List.length_take]; omega
  have hkl := kept_len (l.take i) y
  rw [List.length_take] at hkl
  rcases Nat.lt_or_ge i l.length with hlt | hge
  rotate_left
  · rw [List.take_of_length_le hge] at hop hkl ⊢
    have hKw : ∀ x ∈ kept l y, x.wf := fun x hx => by
      obtain ⟨k, e, o, g1, g2, g3, rfl⟩ := mem_kept.1 hx
      have he := hlw e (List.mem_of_getElem? g1)
      obtain ⟨o2, g4, g5⟩ := hop.get (k := k) (t := e.tick) (by rw [List.getElem?_map, g1]; rfl)
      rw [g2, Option.some.injEq] at g4
      subst g4
      rcases g5 with g5 | g5
      · have := ((mem_opts (htk e (List.mem_of_getElem? g1))).1 g5).1
        unfold Evt.wf I64 at he ⊢
        dsimp only
        omega
      · omega
    obtain ⟨A, hA⟩ : ∃ A, kept l y = A := ⟨_, rfl⟩
    rw [hA] at hkl hKw ⊢
    repeat' (conv => whnf); first | (refine VCall.isF 33 ?_; (refine VCall.genR (fun w' hw' => Exists.elim (Sl.own (f := evtV) (l := A) (cap := cap) (e := 64) (p := p) (k := 2) hw' aT (fun _ => rfl) rfl) fun bq hbq => vsorted_any A hKw (by omega) p cap bq 0 w' hbq) ?_; rintro ⟨q, cq⟩ _; dsimp only)) | (refine VSeq.go ?_) | (refine VB.is ?_; refine VB.no (by omega) fun _ => ?_) | (refine VLd.is ?_; refine VLd.mk (.row aT (by rfl)) ?_)
    all_goals (conv => whnf)
    exact ⟨fun w' hw' => ⟨((q, cq), y), by dsimp only; rw [hA]; rfl, ⟨hop, hlo⟩, hw'.le (by dsimp only; rw [hA]; exact aH)⟩⟩
  obtain ⟨x, hx⟩ := h3.get hlt
  have hxm := List.mem_of_getElem? hx
  have hxt := htk x hxm
  have hxw := hlw x hxm
  unfold Evt.wf I64 at hxw
  have htake : l.take (i + 1) = l.take i ++ [x] := by rw [List.take_add_one, hx]; rfl
  have hnext : ∀ o, (o ∈ opts x.tick J ∨ o = -1) → OptL J ((l.take (i + 1)).map (·.tick)) (y ++ [o]) := fun o ho => by
    rw [htake, List.map_append]
    exact hop.snoc ho
  have hkn : ∀ o, kept (l.take (i + 1)) (y ++ [o]) = kept (l.take i) y ++ if o < 0 then [] else [⟨o, x.id⟩] := fun o => by rw [htake]; exact kept_snoc hyl
  have hln := fun o => lostN_snoc y o
  have hle : lostN y ≤ i := by have : lostN y ≤ y.length := List.countP_le_length; omega
  obtain ⟨K, hK⟩ : ∃ K, kept (l.take i) y = K := ⟨_, rfl⟩
  rw [hK] at hkl hkn ⊢
  have hstay : x.tick ∈ opts x.tick J := (mem_opts hxt).2 ⟨hxt, by omega, by omega⟩
  obtain ⟨m, hm⟩ : ∃ m, lostN y = m := ⟨_, rfl⟩
  rw [hm] at hln hle hlo ⊢
  have hgoes : ∀ (o : Int) (p' : Option Addr) (cap' : Nat), 0 ≤ o → o ∈ opts x.tick J → OptL J ((l.take (i + 1)).map (·.tick)) (y ++ [o]) ∧ lostN (y ++ [o]) = m ∧ kept (l.take (i + 1)) (y ++ [o]) = K ++ [⟨o, x.id⟩] := fun o p' cap' h0 ho =>
    ⟨hnext o (.inl ho), by rw [hln, if_neg (by omega)]; rfl, by rw [hkn, if_neg (by omega)]⟩
  by_cases hik : i < ch.length
  · obtain ⟨g, hg⟩ := h7.get hik
    have hg8 := hch g (List.mem_of_getElem? hg)
    repeat' (conv => whnf); first | (refine VNew.mk fun b4 => ?_) | (refine VShR.is ?_; refine VShR.isU ?_; refine VShR.some_ hz (by omega) fun q hq => ?_) | (refine VM.is ?_; refine VM.is ?_; refine VM.some_ (by omega) (by omega) fun q hq1 hq2 => ?_) | (refine VIx.is ?_; refine VIx.mk (h3.ptr (by omega)) (by omega) (by omega) ?_) | (refine VIx.is ?_; refine VIx.mk (h7.ptr (by omega)) (by omega) (by omega) ?_) | (refine VLd.is ?_; refine VLd.mk (Rd.cast (h3.rd0 (by simp) (fun _ => rfl) hx rfl) (by first | omega | (dsimp only; omega) | rfl)) ?_) | (refine VLd.is ?_; refine VLd.mk (Rd.cast (h7.rd0 (by simp) (fun _ => rfl) hg rfl) (by first | omega | (dsimp only; omega) | rfl)) ?_) | (refine VAp.is ?_; refine VAp.own aT (.at_ (.vec aT rfl)) (by simp [Value.oneCell']) (by (try dsimp only); omega) (by simp only [maxLen]; omega) fun p' cap' hp' => ?_) | (refine VSeq.go ?_) | (refine VB.is ?_; refine VB.yes (by omega) fun _ => ?_) | (refine VB.split (fun _ => ?_) (fun _ => ?_)) | (refine VLd.is ?_; refine VLd.mk (.row aT (by rfl)) ?_) | (refine VSt.is ?_; refine VSt.row aT (by rfl) (by first | rfl | assumption) ?_) | (refine VAr.is ?_; refine oA ?_) | (refine VHs.mk _ (.refl _) ?_)
    all_goals (conv => whnf)
    all_goals first
      | (obtain ⟨e1, e2, e3⟩ := hgoes x.tick none 0 hxt.1 hstay
         refine VNext.mk (i + 1, y ++ [x.tick], p', cap') ⟨by dsimp only; omega, e1, by dsimp only; omega⟩ (by dsimp only; omega) (by dsimp only; rw [e2, e3, List.length_append]; exact aE) (by dsimp only; rw [e3, List.length_append, flat_append]; exact aH))
      | (refine VNext.mk (i + 1, y ++ [-1], p, cap) ⟨by dsimp only; omega, hnext _ (.inr rfl), by dsimp only; rw [hln]; simp; omega⟩ (by dsimp only; omega) (by dsimp only; rw [hln, hkn, if_pos (by omega), if_pos (by omega), List.append_nil]; exact aE) (by dsimp only; rw [hkn, if_pos (by omega), List.append_nil]; exact aH))
      | (obtain ⟨e1, e2, e3⟩ := hgoes (x.tick + q - J) none 0 (by omega) ((mem_opts hxt).2 ⟨by omega, by omega, by omega⟩)
         refine VNext.mk (i + 1, y ++ [x.tick + q - J], p', cap') ⟨by dsimp only; omega, e1, by dsimp only; omega⟩ (by dsimp only; omega) (by dsimp only; rw [e2, e3, List.length_append]; exact aE) (by dsimp only; rw [e3, List.length_append, flat_append]; exact aH))
      | trace_state
  · repeat' (conv => whnf); first | (refine VNew.mk fun b4 => ?_) | (refine VShR.is ?_; refine VShR.isU ?_; refine VShR.some_ hz (by omega) fun q hq => ?_) | (refine VIx.is ?_; refine VIx.mk (h3.ptr (by omega)) (by omega) (by omega) ?_) | (refine VLd.is ?_; refine VLd.mk (Rd.cast (h3.rd0 (by simp) (fun _ => rfl) hx rfl) (by first | omega | (dsimp only; omega) | rfl)) ?_) | (refine VAp.is ?_; refine VAp.own aT (.at_ (.vec aT rfl)) (by simp [Value.oneCell']) (by (try dsimp only); omega) (by simp only [maxLen]; omega) fun p' cap' hp' => ?_) | (refine VSeq.go ?_) | (refine VB.is ?_; refine VB.yes (by omega) fun _ => ?_) | (refine VB.is ?_; refine VB.no (by omega) fun _ => ?_) | (refine VB.split (fun _ => ?_) (fun _ => ?_)) | (refine VLd.is ?_; refine VLd.mk (.row aT (by rfl)) ?_) | (refine VSt.is ?_; refine VSt.row aT (by rfl) (by first | rfl | assumption) ?_) | (refine VAr.is ?_; refine oA ?_) | (refine VM.is ?_; refine oM ?_)
    all_goals (conv => whnf)
    all_goals first
      | (obtain ⟨e1, e2, e3⟩ := hgoes x.tick none 0 hxt.1 hstay
         refine VNext.mk (i + 1, y ++ [x.tick], p', cap') ⟨by dsimp only; omega, e1, by dsimp only; omega⟩ (by dsimp only; omega) (by dsimp only; rw [e2, e3, List.length_append]; exact aE) (by dsimp only; rw [e3, List.length_append, flat_append]; exact aH))
      | (refine VNext.mk (i + 1, y ++ [-1], p, cap) ⟨by dsimp only; omega, hnext _ (.inr rfl), by dsimp only; rw [hln]; simp; omega⟩ (by dsimp only; omega) (by dsimp only; rw [hln, hkn, if_pos (by omega), if_pos (by omega), List.append_nil]; exact aE) (by dsimp only; rw [hkn, if_pos (by omega), List.append_nil]; exact aH))
      | trace_state

set_option maxHeartbeats 4000000 in
theorem vmatched_any (N : Net) (l : List Evt) (hlw : ∀ x ∈ l, x.wf) (h64 : l.length ≤ 64) (htk : ∀ x ∈ l, 0 ≤ x.tick ∧ x.tick < 10000) (J L : Nat) (hJ : J ≤ 64) (hL : L ≤ 64) (ticks : Int) (c : Clm) (D : List Evt) (hD64 : D.length ≤ 64) (hDt : ∀ x ∈ D, 0 ≤ x.tick ∧ x.tick < 10000) (hDw : ∀ x ∈ D, x.wf)
    (hasc : D.Pairwise evLt) (hn1 : ∀ x ∈ D, ∃ e ∈ l, nearE J x e) (y : List Int) (hyl : y.length = l.length) (hlo : lostN y ≤ L) (hn2 : ∀ (k : Nat) (e : Evt) (o : Int), l[k]? = some e → y[k]? = some o → 0 ≤ o → ∃ x ∈ D, nearE J x e)
    (pn : Option Addr) (cn : Nat) (qs : Option Addr) (cs : Nat) (pe : Option Addr) (ce be oe : Nat) (pc : Option Addr) (cc : Nat) (pd : Option Addr) (cd bd od : Nat) (w : World) (h3 : Sl w evtV 2 l pe l.length be oe) (h7 : Sl w evtV 2 D pd D.length bd od) :
    Calls Tryz.prog 46 #[.agg #[.slice pn N.ps.length cn, .int .i64 N.inputs, .slice qs N.syns.length cs, .slice pe l.length ce, .int .i64 (J : Int), .int .i64 (L : Int), .int .i64 ticks, .int .i64 c.kind, .slice pc c.ns.length cc, .int .i64 c.frm, .int .i64 c.to, .int .i64 c.lo, .int .i64 c.hi], .slice pd D.length cd] w fun e w' => e = .returned (.bool true) ∧ St w [] [] w' := by
  refine enter (C := Tryz.cx) (F := Tryz.fx46) (args := [_, _]) Tryz.func46 rfl rfl rfl Tryz.ok46 (St.start w []) ?_
  repeat' (conv => whnf); first | (refine VNew.mk fun b2 => ?_) | (refine VSeq.go ?_)
  all_goals (conv => whnf)
  refine VLoop.mk (α := Nat) (fun i => i ≤ D.length)
    (fun i => [(1000000, .tuple #[]), (1, .slice pd D.length cd), (2, .pointer (some ⟨b2, 0, none⟩)), (4, .bool false), (5, .int .i64 (i : Int))])
    (fun _ => [.row b2 80 [.slice pn N.ps.length cn, .int .i64 N.inputs, .slice qs N.syns.length cs, .slice pe l.length ce, .int .i64 (J : Int), .int .i64 (L : Int), .int .i64 ticks, .int .i64 c.kind, .slice pc c.ns.length cc, .int .i64 c.frm, .int .i64 c.to, .int .i64 c.lo, .int .i64 c.hi]]) (fun i => D.length - i) 0 (by omega) aE aH ?_
  intro i hi
  rcases Nat.lt_or_ge i D.length with hlt | hge
  · obtain ⟨x, hx⟩ := h7.get hlt
    have hxm := List.mem_of_getElem? hx
    have hxt := hDt x hxm
    have hxw := hDw x hxm
    unfold Evt.wf I64 at hxw
    have hnear : (l.any fun e => decide (nearE J x e)) = true := by
      obtain ⟨e, he, hn⟩ := hn1 x hxm
      exact List.any_eq_true.2 ⟨e, he, decide_eq_true hn⟩
    repeat' (conv => whnf); first | (refine VSeq.go ?_) | (refine VB.is ?_; refine VB.yes (by omega) fun _ => ?_) | (refine VB.is ?_; refine VB.no (by omega) fun _ => ?_) | (refine boolE_split (fun h => ?_) (fun h => ?_) <;> subst h) | (refine VLd.is ?_; refine VLd.mk (.row aT (by rfl)) ?_) | (refine VAr.is ?_; refine oA ?_) | (refine VHs.mk _ (.refl _) ?_)
    all_goals (conv => whnf)
    refine VLoop.mk (α := Nat × Bool) (fun z => z.1 ≤ l.length ∧ z.2 = (l.take z.1).any fun e => decide (nearE J x e))
      (fun z => [(1000000, .tuple #[]), (1, .slice pd D.length cd), (2, .pointer (some ⟨b2, 0, none⟩)), (4, .bool false), (5, .int .i64 (i : Int)), (6, .bool z.2), (7, .int .i64 (z.1 : Int))])
      (fun _ => [.row b2 80 [.slice pn N.ps.length cn, .int .i64 N.inputs, .slice qs N.syns.length cs, .slice pe l.length ce, .int .i64 (J : Int), .int .i64 (L : Int), .int .i64 ticks, .int .i64 c.kind, .slice pc c.ns.length cc, .int .i64 c.frm, .int .i64 c.to, .int .i64 c.lo, .int .i64 c.hi]]) (fun z => l.length - z.1) (0, false) ⟨by simp, by simp⟩ aE aH ?_
    rintro ⟨k, b⟩ ⟨hk, hb⟩
    dsimp only at hk hb ⊢
    rcases Nat.lt_or_ge k l.length with hkl | hkg
    · obtain ⟨e, he⟩ := h3.get hkl
      have het := htk e (List.mem_of_getElem? he)
      have hew := hlw e (List.mem_of_getElem? he)
      unfold Evt.wf I64 at hew
      have hnx : ((l.take (k + 1)).any fun e => decide (nearE J x e)) = (b || decide (nearE J x e)) := by
        rw [List.take_add_one, he, Option.toList_some, List.any_append, ← hb]
        simp
      repeat' (conv => whnf); first | (refine VIx.is ?_; refine VIx.mk (h3.ptr (by omega)) (by omega) (by omega) ?_) | (refine VIx.is ?_; refine VIx.mk (h7.ptr (by omega)) (by omega) (by omega) ?_) | (refine VLd.is ?_; refine VLd.mk (Rd.cast (h3.rd (o := 0) (s := 1) (by simp) (fun _ => rfl) he rfl) (by first | omega | (dsimp only; omega) | rfl)) ?_) | (refine VLd.is ?_; refine VLd.mk (Rd.cast (h3.rd (o := 1) (s := 1) (by simp) (fun _ => rfl) he rfl) (by first | omega | (dsimp only; omega) | rfl)) ?_) | (refine VLd.is ?_; refine VLd.mk (Rd.cast (h7.rd (o := 0) (s := 1) (by simp) (fun _ => rfl) hx rfl) (by first | omega | (dsimp only; omega) | rfl)) ?_) | (refine VLd.is ?_; refine VLd.mk (Rd.cast (h7.rd (o := 1) (s := 1) (by simp) (fun _ => rfl) hx rfl) (by first | omega | (dsimp only; omega) | rfl)) ?_) | (refine VSeq.go ?_) | (refine VB.is ?_; refine VB.yes (by omega) fun _ => ?_) | (refine VB.split (fun _ => ?_) (fun _ => ?_)) | (refine boolE_split (fun h => ?_) (fun h => ?_) <;> subst h) | (refine VLd.is ?_; refine VLd.mk (.row aT (by rfl)) ?_) | (refine VAr.is ?_; refine oA ?_) | (refine VHs.mk _ (.refl _) ?_)
      all_goals (conv => whnf)
      all_goals first
        | (refine VNext.mk (k + 1, true) ⟨by dsimp only; omega, ?_⟩ (by dsimp only; omega) aE aH
           rw [hnx]
           first | rfl | (rw [Bool.true_or]; done) | (rw [decide_eq_true (show nearE J x e from ⟨by omega, by omega, by omega⟩), Bool.or_true]; done))
        | (refine VNext.mk (k + 1, false) ⟨by dsimp only; omega, ?_⟩ (by dsimp only; omega) aE aH
           rw [hnx, decide_eq_false (fun hh : nearE J x e => by obtain ⟨g1, g2, g3⟩ := hh; omega)]
           rfl)
        | trace_state
    · rw [List.take_of_length_le hkg, hnear] at hb
      subst hb
      cases i with
      | zero =>
        repeat' (conv => whnf); first | (refine VSeq.go ?_) | (refine VB.is ?_; refine VB.yes (by omega) fun _ => ?_) | (refine VB.is ?_; refine VB.no (by omega) fun _ => ?_) | (refine boolE_split (fun h => ?_) (fun h => ?_) <;> subst h) | (refine VLd.is ?_; refine VLd.mk (.row aT (by rfl)) ?_) | (refine VAr.is ?_; refine oA ?_) | (refine VHs.mk _ (.refl _) ?_)
        all_goals (conv => whnf)
        exact VNext.mk 1 (by omega) (by omega) aE aH
      | succ j =>
        obtain ⟨z, hz⟩ : ∃ z, D[j]? = some z := ⟨D[j]'(by omega), List.getElem?_eq_getElem _⟩
        have hzt := hDt z (List.mem_of_getElem? hz)
        have hzw := hDw z (List.mem_of_getElem? hz)
        unfold Evt.wf I64 at hzw
        have hzx : evLt z x := by
          have h4 := List.pairwise_iff_getElem.1 hasc j (j + 1) (by omega) (by omega) (by omega)
          have e1 := (List.getElem?_eq_some_iff.1 hz).2
          have e2 := (List.getElem?_eq_some_iff.1 hx).2
          rw [e1, e2] at h4
          exact h4
        unfold evLt at hzx
        repeat' (conv => whnf); first | (refine VIx.is ?_; refine VIx.mk (h7.ptr (by omega)) (by omega) (by omega) ?_) | (refine VLd.is ?_; refine VLd.mk (Rd.cast (h7.rd (o := 0) (s := 1) (by simp) (fun _ => rfl) hx rfl) (by first | omega | (dsimp only; omega) | rfl)) ?_) | (refine VLd.is ?_; refine VLd.mk (Rd.cast (h7.rd (o := 1) (s := 1) (by simp) (fun _ => rfl) hx rfl) (by first | omega | (dsimp only; omega) | rfl)) ?_) | (refine VLd.is ?_; refine VLd.mk (Rd.cast (h7.rd (o := 0) (s := 1) (by simp) (fun _ => rfl) hz rfl) (by first | omega | (dsimp only; omega) | rfl)) ?_) | (refine VLd.is ?_; refine VLd.mk (Rd.cast (h7.rd (o := 1) (s := 1) (by simp) (fun _ => rfl) hz rfl) (by first | omega | (dsimp only; omega) | rfl)) ?_) | (refine VSeq.go ?_) | (refine VB.is ?_; refine VB.yes (by omega) fun _ => ?_) | (refine VB.is ?_; refine VB.no (by omega) fun _ => ?_) | (refine VB.split (fun _ => ?_) (fun _ => ?_)) | (refine VLd.is ?_; refine VLd.mk (.row aT (by rfl)) ?_) | (refine VAr.is ?_; refine oA ?_) | (refine VHs.mk _ (.refl _) ?_)
        all_goals (conv => whnf)
        all_goals first
          | exact VNext.mk (j + 1 + 1) (by omega) (by omega) aE aH
          | (exfalso; omega)
          | trace_state
  repeat' (conv => whnf); first | (refine VSeq.go ?_) | (refine VB.is ?_; refine VB.yes (by omega) fun _ => ?_) | (refine VB.is ?_; refine VB.no (by omega) fun _ => ?_) | (refine boolE_split (fun h => ?_) (fun h => ?_) <;> subst h) | (refine VLd.is ?_; refine VLd.mk (.row aT (by rfl)) ?_) | (refine VAr.is ?_; refine oA ?_) | (refine VHs.mk _ (.refl _) ?_)
  all_goals (conv => whnf)
  refine VLoop.mk (α := Nat × Nat) (fun z => z.1 ≤ l.length ∧ z.2 ≤ lostN (y.take z.1))
    (fun z => [(1000000, .tuple #[]), (1, .slice pd D.length cd), (2, .pointer (some ⟨b2, 0, none⟩)), (4, .bool false), (9, .int .i64 (z.2 : Int)), (10, .int .i64 (z.1 : Int))])
    (fun _ => [.row b2 80 [.slice pn N.ps.length cn, .int .i64 N.inputs, .slice qs N.syns.length cs, .slice pe l.length ce, .int .i64 (J : Int), .int .i64 (L : Int), .int .i64 ticks, .int .i64 c.kind, .slice pc c.ns.length cc, .int .i64 c.frm, .int .i64 c.to, .int .i64 c.lo, .int .i64 c.hi]]) (fun z => l.length - z.1) (0, 0) ⟨by simp, by simp⟩ aE aH ?_
  rintro ⟨k, q⟩ ⟨hk, hq⟩
  dsimp only at hk hq ⊢
  have hlt0 : lostN (y.take k) ≤ k := by
    have h1 : lostN (y.take k) ≤ (y.take k).length := List.countP_le_length
    rw [List.length_take] at h1
    omega
  rcases Nat.lt_or_ge k l.length with hkl | hkg
  · obtain ⟨e, he⟩ := h3.get hkl
    have het := htk e (List.mem_of_getElem? he)
    have hew := hlw e (List.mem_of_getElem? he)
    unfold Evt.wf I64 at hew
    obtain ⟨o, ho⟩ : ∃ o, y[k]? = some o := ⟨y[k]'(by omega), List.getElem?_eq_getElem _⟩
    have hlk : lostN (y.take (k + 1)) = lostN (y.take k) + if o < 0 then 1 else 0 := by
      rw [List.take_add_one, ho, Option.toList_some, lostN_snoc]
    have hnear : 0 ≤ o → (D.any fun x => decide (nearE J x e)) = true := fun h0 => by
      obtain ⟨x, hx, hn⟩ := hn2 k e o he ho h0
      exact List.any_eq_true.2 ⟨x, hx, decide_eq_true hn⟩
    repeat' (conv => whnf); first | (refine VSeq.go ?_) | (refine VB.is ?_; refine VB.yes (by omega) fun _ => ?_) | (refine VB.is ?_; refine VB.no (by omega) fun _ => ?_) | (refine boolE_split (fun h => ?_) (fun h => ?_) <;> subst h) | (refine VLd.is ?_; refine VLd.mk (.row aT (by rfl)) ?_) | (refine VAr.is ?_; refine oA ?_) | (refine VHs.mk _ (.refl _) ?_)
    all_goals (conv => whnf)
    refine VLoop.mk (α := Nat × Bool) (fun z => z.1 ≤ D.length ∧ z.2 = (D.take z.1).any fun x => decide (nearE J x e))
      (fun z => [(1000000, .tuple #[]), (1, .slice pd D.length cd), (2, .pointer (some ⟨b2, 0, none⟩)), (4, .bool false), (9, .int .i64 (q : Int)), (10, .int .i64 (k : Int)), (11, .bool z.2), (12, .int .i64 (z.1 : Int))])
      (fun _ => [.row b2 80 [.slice pn N.ps.length cn, .int .i64 N.inputs, .slice qs N.syns.length cs, .slice pe l.length ce, .int .i64 (J : Int), .int .i64 (L : Int), .int .i64 ticks, .int .i64 c.kind, .slice pc c.ns.length cc, .int .i64 c.frm, .int .i64 c.to, .int .i64 c.lo, .int .i64 c.hi]]) (fun z => D.length - z.1) (0, false) ⟨by simp, by simp⟩ aE aH ?_
    rintro ⟨i, b⟩ ⟨hi2, hb⟩
    dsimp only at hi2 hb ⊢
    rcases Nat.lt_or_ge i D.length with hil | hig
    · obtain ⟨x, hx⟩ := h7.get hil
      have hxt := hDt x (List.mem_of_getElem? hx)
      have hxw := hDw x (List.mem_of_getElem? hx)
      unfold Evt.wf I64 at hxw
      have hnx : ((D.take (i + 1)).any fun x => decide (nearE J x e)) = (b || decide (nearE J x e)) := by
        rw [List.take_add_one, hx, Option.toList_some, List.any_append, ← hb]
        simp
      repeat' (conv => whnf); first | (refine VIx.is ?_; refine VIx.mk (h3.ptr (by omega)) (by omega) (by omega) ?_) | (refine VIx.is ?_; refine VIx.mk (h7.ptr (by omega)) (by omega) (by omega) ?_) | (refine VLd.is ?_; refine VLd.mk (Rd.cast (h3.rd (o := 0) (s := 1) (by simp) (fun _ => rfl) he rfl) (by first | omega | (dsimp only; omega) | rfl)) ?_) | (refine VLd.is ?_; refine VLd.mk (Rd.cast (h3.rd (o := 1) (s := 1) (by simp) (fun _ => rfl) he rfl) (by first | omega | (dsimp only; omega) | rfl)) ?_) | (refine VLd.is ?_; refine VLd.mk (Rd.cast (h7.rd (o := 0) (s := 1) (by simp) (fun _ => rfl) hx rfl) (by first | omega | (dsimp only; omega) | rfl)) ?_) | (refine VLd.is ?_; refine VLd.mk (Rd.cast (h7.rd (o := 1) (s := 1) (by simp) (fun _ => rfl) hx rfl) (by first | omega | (dsimp only; omega) | rfl)) ?_) | (refine VSeq.go ?_) | (refine VB.is ?_; refine VB.yes (by omega) fun _ => ?_) | (refine VB.split (fun _ => ?_) (fun _ => ?_)) | (refine boolE_split (fun h => ?_) (fun h => ?_) <;> subst h) | (refine VLd.is ?_; refine VLd.mk (.row aT (by rfl)) ?_) | (refine VAr.is ?_; refine oA ?_) | (refine VHs.mk _ (.refl _) ?_)
      all_goals (conv => whnf)
      all_goals first
        | (refine VNext.mk (i + 1, true) ⟨by dsimp only; omega, ?_⟩ (by dsimp only; omega) aE aH
           rw [hnx]
           first | rfl | (rw [Bool.true_or]; done) | (rw [decide_eq_true (show nearE J x e from ⟨by omega, by omega, by omega⟩), Bool.or_true]; done))
        | (refine VNext.mk (i + 1, false) ⟨by dsimp only; omega, ?_⟩ (by dsimp only; omega) aE aH
           rw [hnx, decide_eq_false (fun hh : nearE J x e => by obtain ⟨g1, g2, g3⟩ := hh; omega)]
           rfl)
        | trace_state
    · rw [List.take_of_length_le hig] at hb
      repeat' (conv => whnf); first | (refine VSeq.go ?_) | (refine VB.is ?_; refine VB.yes (by omega) fun _ => ?_) | (refine VB.is ?_; refine VB.no (by omega) fun _ => ?_) | (refine boolE_split (fun h => ?_) (fun h => ?_) <;> subst h) | (refine VLd.is ?_; refine VLd.mk (.row aT (by rfl)) ?_) | (refine VAr.is ?_; refine oA ?_) | (refine VHs.mk _ (.refl _) ?_)
      all_goals (conv => whnf)
      all_goals first
        | exact VNext.mk (k + 1, q) ⟨by dsimp only; omega, by dsimp only; omega⟩ (by dsimp only; omega) aE aH
        | (have ho0 : o < 0 := by
             refine Int.not_le.1 fun h0 => ?_
             have := hnear h0
             simp_all
           rw [if_pos ho0] at hlk
           exact VNext.mk (k + 1, q + 1) ⟨by dsimp only; omega, by dsimp only; omega⟩ (by dsimp only; omega) aE aH)
        | trace_state
  · rw [List.take_of_length_le (by omega)] at hq
    repeat' (conv => whnf); first | (refine VSeq.go ?_) | (refine VB.is ?_; refine VB.yes (by omega) fun _ => ?_) | (refine VB.is ?_; refine VB.no (by omega) fun _ => ?_) | (refine boolE_split (fun h => ?_) (fun h => ?_) <;> subst h) | (refine VLd.is ?_; refine VLd.mk (.row aT (by rfl)) ?_) | (refine VAr.is ?_; refine oA ?_) | (refine VHs.mk _ (.refl _) ?_)
    all_goals (conv => whnf)
    all_goals first
      | exact ⟨fun w' hw' => ⟨rfl, hw'.le .nil⟩⟩
      | (exfalso; omega)

set_option maxHeartbeats 4000000 in
theorem VerifyDisturbed_any (N : Net) (hN : N.wf) (l : List Evt) (hlw : ∀ x ∈ l, x.wf) (jit : Int) (hj : I64 jit) (los : Int) (hlo : I64 los) (ticks : Int) (hti : I64 ticks) (c : Clm) (hc : c.wf) (ch : List Int) (hch : ∀ x ∈ ch, 0 ≤ x ∧ x < 256) (z : Nat) (hz : z < 18446744073709551616)
    (pn : Option Addr) (cn bn on : Nat) (qs : Option Addr) (cs bs os : Nat) (pe : Option Addr) (ce be oe : Nat) (pc : Option Addr) (cc bc oc : Nat) (pk : Option Addr) (ck bk ok : Nat) (w : World) (htab : PowTab w)
    (h1 : Sl w parV 8 N.ps pn N.ps.length bn on) (h2 : Sl w synV 4 N.syns qs N.syns.length bs os) (h3 : Sl w evtV 2 l pe l.length be oe) (hce : l.length ≤ ce) (h5 : Sl w intV 1 c.ns pc c.ns.length bc oc) (hcc : c.ns.length ≤ cc) (h7 : Sl w byteV 1 ch pk ch.length bk ok) :
    Calls Tryz.prog 14 #[.agg #[.slice pn N.ps.length cn, .int .i64 N.inputs, .slice qs N.syns.length cs, .slice pe l.length ce, .int .i64 jit, .int .i64 los, .int .i64 ticks, .int .i64 c.kind, .slice pc c.ns.length cc, .int .i64 c.frm, .int .i64 c.to, .int .i64 c.lo, .int .i64 c.hi], .slice pk ch.length ck, .int .u64 (z : Int)] w fun e w' => e = .returned (.bool true) ∧ St w [] [] w' := by
  have hfew : ∀ X : List Evt, (runRes N X ticks).1.length ≤ 65536 ∧ ∀ o ∈ (runRes N X ticks).1, o.wf := fun X => by
    obtain ⟨hr1, hr2⟩ := vrun_ok N X ticks
    exact ⟨by omega, hr1⟩
  have hsays := rob_says (N := N) (l := l) (jit := jit) (los := los) (ticks := ticks) (c := c)
  obtain ⟨R, hR⟩ : ∃ R, robRes N l jit los ticks c = R := ⟨_, rfl⟩
  obtain ⟨hDw, hDl⟩ := robRes_ok (N := N) hlw jit los ticks c
  have hjj := hj
  unfold I64 at hjj
  rw [hR] at hsays hDw hDl
  obtain ⟨R1, D, R3⟩ := R
  dsimp only at hsays hDw hDl
  refine enter (C := Tryz.cx) (F := Tryz.fx14) (args := [_, _, _]) Tryz.func14 rfl rfl rfl Tryz.ok14 (St.start w []) ?_
  by_cases hR3 : R3 ≠ 0
  · repeat' (conv => whnf); first | (refine VNew.mk fun b3 => ?_) | (refine VCall.isF 41 ?_; (refine VCall.genR (fun w' hw' => tried_any N hN l hlw jit los ticks hj hlo hti c hc pn cn bn on qs cs bs os pe ce be oe pc cc bc oc w' (h1.keep hw' (by simp)) (h2.keep hw' (by simp)) (h3.keep hw' (by simp)) hce (h5.keep hw' (by simp)) hcc) ?_; intro bt hbt)) | (refine VCall.isF 17 ?_; (refine VCall.valR (fun w' hw' => vworks_any w' (Lib.tabBelow_of_tabIs htab w' hw'.below)) ?_)) | (refine VCall.isF 42 ?_; (refine VCall.genR (fun w' hw' => Robust_any N hN (by have := hbt rfl; omega) l hlw jit los ticks hj hlo hti c hc (by have := hbt rfl; omega) (fun _ X _ => (hfew X).1) pn cn bn on qs cs bs os pe ce be oe pc cc bc oc w' (h1.keep hw' (by simp)) (h2.keep hw' (by simp)) (h3.keep hw' (by simp)) hce (h5.keep hw' (by simp)) hcc) ?_; rw [hR]; rintro ⟨p1, c1⟩ _; dsimp only)) | (refine VSeq.go ?_) | (refine VB.is ?_; refine VB.yes (by omega) fun _ => ?_) | (refine boolE_split (fun h => ?_) (fun h => ?_) <;> subst h) | (refine VLd.is ?_; refine VLd.mk (.row aT (by rfl)) ?_)
    all_goals (conv => whnf)
    all_goals exact ⟨fun w' hw' => ⟨rfl, hw'.le .nil⟩⟩
  have hR30 := Decidable.not_not.1 hR3
  subst hR30
  clear hR3
  obtain ⟨J, L, rfl, rfl, hok, hez, hcase⟩ := hsays rfl
  clear hsays hjj
  have htk := hok.tick
  have h64 := hok.len
  obtain ⟨hJ, hL⟩ := hok.small
  obtain ⟨T, hT⟩ : ∃ T : Nat, ticks = T := ⟨ticks.toNat, by have := hok.tm; omega⟩
  have hh0 : hldErr N c = 0 := by unfold hldErr; rw [if_neg (by rw [hok.net]; simp)]; exact hok.clm
  rcases hcase with ⟨e1, e2, hall⟩ | ⟨e1, y, hop, hlost, e2, er0, hnot⟩
  · subst e1; subst e2
    have hless : ∀ L' : Int, 0 ≤ L' → L' ≤ L → 0 < J → robRes N l ((J : Int) - 1) L' ticks c = (true, [], 0) := fun L' g1 g2 g3 => by
      obtain ⟨m, rfl⟩ : ∃ m : Nat, L' = m := ⟨L'.toNat, by omega⟩
      obtain ⟨j, rfl⟩ : ∃ j : Nat, J = j + 1 := ⟨J - 1, by omega⟩
      rw [show ((j + 1 : Nat) : Int) - 1 = (j : Int) by omega]
      exact rob_less hok hez (by omega) (by omega) hall
    repeat' (conv => whnf); first | (refine VNew.mk fun b3 => ?_) | (refine VCall.isF 41 ?_; (refine VCall.genR (fun w' hw' => tried_any N hN l hlw J L ticks hj hlo hti c hc pn cn bn on qs cs bs os pe ce be oe pc cc bc oc w' (h1.keep hw' (by simp)) (h2.keep hw' (by simp)) (h3.keep hw' (by simp)) hce (h5.keep hw' (by simp)) hcc) ?_; intro bt hbt)) | (refine VCall.isF 17 ?_; (refine VCall.valR (fun w' hw' => vworks_any w' (Lib.tabBelow_of_tabIs htab w' hw'.below)) ?_)) | (refine VCall.isF 42 ?_; (refine VCall.genR (fun w' hw' => Robust_any N hN (by have := hbt rfl; omega) l hlw J L ticks hj hlo hti c hc (by have := hbt rfl; omega) (fun _ X _ => (hfew X).1) pn cn bn on qs cs bs os pe ce be oe pc cc bc oc w' (h1.keep hw' (by simp)) (h2.keep hw' (by simp)) (h3.keep hw' (by simp)) hce (h5.keep hw' (by simp)) hcc) ?_; rw [hR]; rintro ⟨p1, c1⟩ _; dsimp only)) | (refine VCall.isF 45 ?_; (refine VCall.genR (fun w' hw' => vdisturbed_any N l hlw h64 htk J L hJ hL ticks c ch hch (z : Int) (by omega) pn cn qs cs pe ce be oe pc cc pk ck bk ok w' (h3.keep hw' (by simp)) (h7.keep hw' (by simp))) ?_; rintro ⟨⟨p2, c2⟩, y⟩ hy; dsimp only at hy ⊢)) | (refine VSeq.is ?_; refine VSeq.isA 9 rfl ?_; refine VSeq.cut (at_ := 9) (α := (List Int × Option Addr × Nat) × Option Addr × Nat) (fun y => OptL J (l.map (·.tick)) y.1.1 ∧ lostN y.1.1 ≤ L) (fun y => [(1000000, .tuple #[]), (3, .pointer (some ⟨b3, 0, none⟩)), (6, .bool false), (7, .bool true), (8, .slice y.2.1 0 y.2.2), (10, .slice y.1.2.1 (sortU (kept l y.1.1)).length y.1.2.2)]) (fun y => [.row b3 80 [.slice pn N.ps.length cn, .int .i64 N.inputs, .slice qs N.syns.length cs, .slice pe l.length ce, .int .i64 (J : Int), .int .i64 (L : Int), .int .i64 ticks, .int .i64 c.kind, .slice pc c.ns.length cc, .int .i64 c.frm, .int .i64 c.to, .int .i64 c.lo, .int .i64 c.hi], .vec y.1.2.1 (sortU (kept l y.1.1)).length y.1.2.2 64 2 (flat evtV (sortU (kept l y.1.1)))]) ?_ ?_) | (refine VSeq.go ?_) | (refine VB.is ?_; refine VB.no (by omega) fun _ => ?_) | (refine boolE_split (fun h => ?_) (fun h => ?_) <;> subst h) | (refine VLd.is ?_; refine VLd.mk (.row aT (by rfl)) ?_)
    all_goals (conv => whnf)
    all_goals first
      | exact ⟨fun w' hw' => ⟨rfl, hw'.le .nil⟩⟩
      | exact VMid.mk ((y, p2, c2), p1, c1) hy aE aH
      | skip
    rintro ⟨⟨y, p2, c2⟩, p1, c1⟩ ⟨hop, hlost⟩
    dsimp only at hop hlost ⊢
    have hXr := kept_range htk hlw hop
    have hXl := sortU_len (kept l y)
    have hkl := kept_len l y
    obtain ⟨hr0, hh⟩ := hall y hop hlost
    obtain ⟨X, hX⟩ : ∃ X, sortU (kept l y) = X := ⟨_, rfl⟩
    rw [hX] at hXr hXl hr0 hh ⊢
    have hO2 := hfew X
    obtain ⟨O, hO⟩ : ∃ O, (runRes N X ticks).1 = O := ⟨_, rfl⟩
    rw [hO] at hh hO2
    have hrun : runRes N X ticks = (O, 0) := by rw [← hO, ← hr0]
    repeat' (conv => whnf); first | (refine VCall.isF 30 ?_; (refine VCall.genR (fun w' hw' => Exists.elim (Sl.own (f := evtV) (l := X) (cap := c2) (e := 64) (p := p2) (k := 2) hw' aT (fun _ => rfl) rfl) fun bq hbq => Run_any N hN X (fun x hx => (hXr x hx).2) ticks _ _ _ _ _ _ _ _ p2 c2 bq 0 w' (h1.keep hw' (by simp)) (h2.keep hw' (by simp)) hbq (vec_facts (hw'.own (.vec p2 X.length c2 64 2 (flat evtV X)) (by simp))).1) ?_; rintro ⟨r2, cr2⟩ _; rw [hrun]; dsimp only)) | (refine VCall.isF 37 ?_; (refine VCall.genR (fun w' hw' => Exists.elim (Sl.own (f := evtV) (l := O) (cap := cr2) (e := 64) (p := r2) (k := 2) hw' aT (fun _ => rfl) rfl) fun bq hbq => vholds_any N hN c hc (by have := hbt rfl; omega) (by have := hbt rfl; omega) O (by omega) pn cn bn on qs cs bs os pc cc bc oc hcc r2 cr2 bq 0 w' (h1.keep hw' (by simp)) (h2.keep hw' (by simp)) (h5.keep hw' (by simp)) hbq) ?_; rw [hh0]; intro hb hhb; have hx1 := hhb.2 ⟨rfl, hh⟩; subst hx1)) | (refine VCall.isF 17 ?_; (refine VCall.valR (fun w' hw' => vworks_any w' (Lib.tabBelow_of_tabIs htab w' hw'.below)) ?_)) | (refine VCall.isF 42 ?_; (refine VCall.genR (fun w' hw' => Robust_any N hN (by have := hbt rfl; omega) l hlw ((J : Int) - 1) (max 0 ((L : Int) - 1)) ticks (by unfold I64; omega) (by unfold I64; omega) hti c hc (by have := hbt rfl; omega) (fun _ X _ => (hfew X).1) pn cn bn on qs cs bs os pe ce be oe pc cc bc oc w' (h1.keep hw' (by simp)) (h2.keep hw' (by simp)) (h3.keep hw' (by simp)) hce (h5.keep hw' (by simp)) hcc) ?_; rw [hless (max 0 ((L : Int) - 1)) (by omega) (by omega) (by omega)]; rintro ⟨p3, c3⟩ _; dsimp only)) | (refine VSeq.go ?_) | (refine VB.is ?_; refine VB.yes (by omega) fun _ => ?_) | (refine VB.is ?_; refine VB.no (by omega) fun _ => ?_) | (refine VB.split (fun _ => ?_) (fun _ => ?_)) | (refine VLd.is ?_; refine VLd.mk (.row aT (by rfl)) ?_) | (refine VAr.is ?_; refine oA ?_)
    all_goals (conv => whnf)
    all_goals first
      | exact ⟨fun w' hw' => ⟨rfl, hw'.le .nil⟩⟩
      | exact absurd rfl ‹_›
      | (exfalso; omega)
      | (exfalso; simp_all; done)
  · subst e1
    have hXr := kept_range htk hlw hop
    have hasc := sortU_asc (kept l y)
    obtain ⟨hn1, hn2⟩ := near_of htk hop
    have hyl : y.length = l.length := by have := hop.len; rwa [List.length_map] at this
    rw [← e2] at er0 hnot hXr hasc hn1 hn2
    have hO2 := hfew D
    obtain ⟨O, hO⟩ : ∃ O, (runRes N D ticks).1 = O := ⟨_, rfl⟩
    rw [hO] at hnot hO2
    have hrun : runRes N D ticks = (O, 0) := by rw [← hO, ← er0]
    repeat' (conv => whnf); first | (refine VNew.mk fun b3 => ?_) | (refine VCall.isF 41 ?_; (refine VCall.genR (fun w' hw' => tried_any N hN l hlw J L ticks hj hlo hti c hc pn cn bn on qs cs bs os pe ce be oe pc cc bc oc w' (h1.keep hw' (by simp)) (h2.keep hw' (by simp)) (h3.keep hw' (by simp)) hce (h5.keep hw' (by simp)) hcc) ?_; intro bt hbt)) | (refine VCall.isF 17 ?_; (refine VCall.valR (fun w' hw' => vworks_any w' (Lib.tabBelow_of_tabIs htab w' hw'.below)) ?_)) | (refine VCall.isF 42 ?_; (refine VCall.genR (fun w' hw' => Robust_any N hN (by have := hbt rfl; omega) l hlw J L ticks hj hlo hti c hc (by have := hbt rfl; omega) (fun _ X _ => (hfew X).1) pn cn bn on qs cs bs os pe ce be oe pc cc bc oc w' (h1.keep hw' (by simp)) (h2.keep hw' (by simp)) (h3.keep hw' (by simp)) hce (h5.keep hw' (by simp)) hcc) ?_; rw [hR]; rintro ⟨p1, c1⟩ _; dsimp only)) | (refine VCall.isF 30 ?_; (refine VCall.genR (fun w' hw' => Exists.elim (Sl.own (f := evtV) (l := D) (cap := c1) (e := 64) (p := p1) (k := 2) hw' aT (fun _ => rfl) rfl) fun bq hbq => Run_any N hN D hDw ticks _ _ _ _ _ _ _ _ p1 c1 bq 0 w' (h1.keep hw' (by simp)) (h2.keep hw' (by simp)) hbq (vec_facts (hw'.own (.vec p1 D.length c1 64 2 (flat evtV D)) (by simp))).1) ?_; rintro ⟨r2, cr2⟩ _; rw [hrun]; dsimp only)) | (refine VCall.isF 37 ?_; (refine VCall.genR (fun w' hw' => Exists.elim (Sl.own (f := evtV) (l := O) (cap := cr2) (e := 64) (p := r2) (k := 2) hw' aT (fun _ => rfl) rfl) fun bq hbq => vholds_any N hN c hc (by have := hbt rfl; omega) (by have := hbt rfl; omega) O (by omega) pn cn bn on qs cs bs os pc cc bc oc hcc r2 cr2 bq 0 w' (h1.keep hw' (by simp)) (h2.keep hw' (by simp)) (h5.keep hw' (by simp)) hbq) ?_; rw [hh0]; intro hb hhb; have hx1 : hb = false := (by cases hb; rfl; exact absurd (hhb.1 rfl).2 hnot); subst hx1)) | (refine VCall.isF 46 ?_; (refine VCall.valR (fun w' hw' => Exists.elim (Sl.own (f := evtV) (l := D) (cap := c1) (e := 64) (p := p1) (k := 2) hw' aT (fun _ => rfl) rfl) fun bq hbq => vmatched_any N l hlw h64 htk J L hJ hL ticks c D (by omega) (fun x hx => (hXr x hx).1) hDw hasc hn1 y hyl hlost hn2 pn cn qs cs pe ce be oe pc cc p1 c1 bq 0 w' (h3.keep hw' (by simp)) hbq) ?_)) | (refine VSeq.go ?_) | (refine VB.is ?_; refine VB.no (by omega) fun _ => ?_) | (refine VB.split (fun _ => ?_) (fun _ => ?_)) | (refine boolE_split (fun h => ?_) (fun h => ?_) <;> subst h) | (refine VLd.is ?_; refine VLd.mk (.row aT (by rfl)) ?_)
    all_goals (conv => whnf)
    all_goals first
      | exact ⟨fun w' hw' => ⟨rfl, hw'.le .nil⟩⟩
      | exact absurd rfl ‹_›
      | (exfalso; omega)
      | (exfalso; simp_all; done)

end Go.Proofs
