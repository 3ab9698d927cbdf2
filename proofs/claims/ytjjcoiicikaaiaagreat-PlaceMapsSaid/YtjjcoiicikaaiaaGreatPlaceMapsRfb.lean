import Derived.Test.YtjjcoiicikaaiaaGreatPlaceMapsWv
import Derived.Test.YtjjcoiicikaaiaaGreatPlaceMapsMz
set_option linter.unusedVariables false
set_option linter.unusedSimpArgs false
set_option maxHeartbeats 4000000
section

namespace Go.Proofs

open Go Go.Vx Go.Gm

theorem rslots_any (cores : List Int) (hcw : ∀ k ∈ cores, I64 k) (hlc : cores.length ≤ 1000000) (p : Option Addr) (c b o : Nat) (w : World) (h1 : Sl w intV 1 cores p cores.length b o) :
  Calls Tryz.prog 80 #[.slice p cores.length c] w fun e w' => ∃ z : Option Addr × Nat, e = .returned (.slice z.1 cores.length z.2) ∧ (0 < cores.length → ∃ g, z.1 = some ⟨g, 0, none⟩) ∧ St w [] [.vec z.1 cores.length z.2 3 1 (flat intV (slotsM cores))] w' := by
 refine enter (C := Tryz.cx) (F := Tryz.fx80) (args := [_]) Tryz.func80 rfl rfl rfl Tryz.ok80 (St.start w []) ?_
 repeat' (conv => whnf); first | (refine VSeq.go ?_) | (refine VB.is ?_; refine VB.yes (by omega) fun _ => ?_) | (refine VB.is ?_; refine VB.no (by omega) fun _ => ?_)
 all_goals (conv => whnf)
 refine VLoop.mk (α := Nat × Option Addr × Nat) (fun z => z.1 ≤ cores.length ∧ (0 < z.1 → ∃ g, z.2.1 = some ⟨g, 0, none⟩)) (fun z => [(1000000, .tuple #[]), (0, .slice p cores.length c), (2, .slice none 0 0), (3, .slice z.2.1 z.1 z.2.2), (4, .int .i64 (z.1 : Int))])
  (fun z => [.vec z.2.1 z.1 z.2.2 3 1 (flat intV ((List.range z.1).map (slotAt cores)))]) (fun z => cores.length - z.1) (0, none, 0) ⟨Nat.zero_le _, fun h => absurd h (Nat.lt_irrefl _)⟩ aE (HLe.nilv .nil) ?_
 rintro ⟨i, q, qc⟩ ⟨hi, hq⟩
 dsimp only at hi hq ⊢
 rcases Nat.lt_or_ge i cores.length with hlt | hge
 ·obtain ⟨k, hk⟩ := h1.get hlt
  have hkw := hcw k (List.mem_of_getElem? hk)
  have hsl : (List.range (i + 1)).map (slotAt cores) = (List.range i).map (slotAt cores) ++ [(useN (cores.take i) k : Int)] := by
   rw [List.range_succ, List.map_append, List.map_singleton]
   unfold slotAt
   rw [hk]; rfl
  obtain ⟨SL, hSL⟩ : ∃ SL, (List.range i).map (slotAt cores) = SL := ⟨_, rfl⟩
  rw [hSL] at hsl ⊢
  repeat' (conv => whnf); first | (refine VSeq.go ?_) | (refine VB.is ?_; refine VB.yes (by omega) fun _ => ?_) | (refine VB.is ?_; refine VB.no (by omega) fun _ => ?_)
  all_goals (conv => whnf)
  refine VLoop.mk (α := Nat) (fun j => j ≤ i) (fun j => [(1000000, .tuple #[]), (0, .slice p cores.length c), (2, .slice none 0 0), (3, .slice q i qc), (4, .int .i64 (i : Int)), (5, .int .i64 (useN (cores.take j) k : Int)), (6, .int .i64 (j : Int))])
   (fun _ => [.vec q i qc 3 1 (flat intV SL)]) (fun j => i - j) 0 (Nat.zero_le _) aE (HLe.refl _) ?_
  rintro j hj
  have hul : useN (cores.take j) k ≤ j := by
   have := List.countP_le_length (p := fun c => decide (c = k)) (l := cores.take j)
   rw [List.length_take] at this
   unfold useN; omega
  rcases Nat.lt_or_ge j i with hjl | hjg
  ·obtain ⟨x, hx⟩ := h1.get (by omega : j < cores.length)
   have hn : useN (cores.take (j + 1)) k = useN (cores.take j) k + if x = k then 1 else 0 := by
    rw [List.take_add_one, hx, Option.toList_some, useN_snoc]
   obtain ⟨un, hun⟩ : ∃ un, useN (cores.take j) k = un := ⟨_, rfl⟩
   rw [hun] at hn hul ⊢
   repeat' (conv => whnf); first | (refine VIx.is ?_; refine VIx.mk (h1.ptr (by omega)) (by omega) (by omega) ?_) | (refine VLd.is ?_; refine VLd.mk (Rd.cast (h1.rd0 (by simp) (fun _ => rfl) hx rfl) (by first | omega | (dsimp only; omega) | rfl)) ?_) | (refine VLd.is ?_; refine VLd.mk (Rd.cast (h1.rd0 (by simp) (fun _ => rfl) hk rfl) (by first | omega | (dsimp only; omega) | rfl)) ?_) | (refine VSeq.go ?_) | (refine VB.is ?_; refine VB.yes (by omega) fun _ => ?_) | (refine VB.split (fun _ => ?_) (fun _ => ?_)) | (refine VAr.is ?_; refine oA ?_) | (refine VHs.mk _ (.refl _) ?_)
   all_goals (conv => whnf)
   all_goals refine VNext.mk (j + 1) (by omega) (by omega) ?_ (HLe.refl _)
   all_goals (first | rw [hn, if_pos (by omega)] | rw [hn, if_neg (by omega)])
   all_goals exact aE
  have hji : j = i := by omega
  subst hji
  obtain ⟨un, hun⟩ : ∃ un, useN (cores.take j) k = un := ⟨_, rfl⟩
  rw [hun] at hsl hul ⊢
  repeat' (conv => whnf); first | (refine VNew.mk fun bn => ?_) | (refine VAp.is ?_; refine VAp.own aT (.at_ (.vec aT rfl)) (by simp [Value.oneCell']) (by (try dsimp only); omega) (by simp only [maxLen]; omega) fun p1 c1 hp1 => ?_) | (refine VSeq.go ?_) | (refine VB.is ?_; refine VB.no (by omega) fun _ => ?_) | (refine VAr.is ?_; refine oA ?_)
  all_goals (conv => whnf)
  refine VNext.mk (j + 1, p1, c1) ⟨by dsimp only; omega, fun _ => hp1 (by omega)⟩ (by dsimp only; omega) aE ?_
  dsimp only
  rw [hsl, flat_append]
  exact aH
 have hil : i = cores.length := by omega
 subst hil
 repeat' (conv => whnf); first | (refine VSeq.go ?_) | (refine VB.is ?_; refine VB.yes (by omega) fun _ => ?_) | (refine VB.is ?_; refine VB.no (by omega) fun _ => ?_)
 all_goals (conv => whnf)
 exact ⟨fun w' hw' => ⟨(q, qc), rfl, hq, hw'.le (HLe.refl _)⟩⟩

end Go.Proofs
end

section

namespace Go.Gm

structure RSrc where
 key : Int
 home : Int
 tg : List Int
 pg : Option Go.Addr
 cg : Nat
 o : List Int
 po : Option Go.Addr
 co : Nat

end Go.Gm

namespace Go.Proofs

open Go Go.Vx Go.Gm

def rsV (x : RSrc) : List Value := [.int .i64 x.key, .int .i64 x.home, .slice x.pg x.tg.length x.cg, .slice x.po x.o.length x.co]

theorem most_le (ts : List (List Int)) {mo : Nat} (h : IsMax (cntM ts) mo) : mo ≤ ts.length := by
 rcases h.ex with h | ⟨q, _, h⟩
 ·omega
 ·rw [← h]; exact List.countP_le_length

theorem rload_any (L : List RSrc) (hL : ∀ x ∈ L, OutsOk x.o ∧ x.o.length ≤ 64) (hlen : L.length ≤ 65536) (p : Option Addr) (c b o : Nat) (w : World) (h1 : Sl w rsV 4 L p L.length b o) (h2 : ∀ x ∈ L, ∃ b o, Sl w intV 1 x.o x.po x.o.length b o) :
  Calls Tryz.prog 86 #[.slice p L.length c] w fun e w' => e = .returned (.int .i64 (mostM (L.map (·.o)) : Int)) ∧ St w [] [] w' := by
 refine enter (C := Tryz.cx) (F := Tryz.fx86) (args := [_]) Tryz.func86 rfl rfl rfl Tryz.ok86 (St.start w []) ?_
 repeat' (conv => whnf); first | (refine VNew.mk fun bm => ?_) | (refine VSeq.go ?_)
 all_goals (conv => whnf)
 refine VLoop.mk (α := Nat × List (Value × Value) × Nat) (fun z => z.1 ≤ L.length ∧ CntOf z.2.1 (cntM ((L.take z.1).map (·.o))) ∧ IsMax (cntM ((L.take z.1).map (·.o))) z.2.2) (fun z => [(1000000, .tuple #[]), (0, .slice p L.length c), (2, .int .i64 0), (3, .int .i64 (z.2.2 : Int)), (4, .map (some bm)), (5, .int .i64 (z.1 : Int))])
  (fun z => [.mapk bm z.2.1]) (fun z => L.length - z.1) (0, [], 0) ⟨Nat.zero_le _, CntOf.nil, ⟨fun _ _ => Nat.le_refl _, .inl rfl⟩⟩ aE aH ?_
 rintro ⟨i, m, mo⟩ ⟨hi, hm, hmo⟩
 dsimp only at hi hm hmo ⊢
 rcases Nat.lt_or_ge i L.length with hlt | hge
 ·obtain ⟨x, hx⟩ := h1.get hlt
  obtain ⟨hxo, hxl⟩ := hL x (List.mem_of_getElem? hx)
  obtain ⟨b2, o2, hxs⟩ := h2 x (List.mem_of_getElem? hx)
  have htk : (L.take (i + 1)).map (·.o) = (L.take i).map (·.o) ++ [x.o] := by
   rw [List.take_add_one, hx, Option.toList_some, List.map_append, List.map_singleton]
  obtain ⟨ts, hts⟩ : ∃ ts, (L.take i).map (·.o) = ts := ⟨_, rfl⟩
  have htl : ts.length ≤ i := by rw [← hts, List.length_map, List.length_take]; omega
  rw [hts] at hm hmo htk
  have hx3 : sub (rsV x) 3 1 = some [.slice x.po x.o.length x.co] := rfl
  have hmb := fun {j k mo : Nat} (h : IsMax (cntP ts x.o j k) mo) => show mo ≤ ts.length + 1 from by
   rcases h.ex with h | ⟨q, _, h⟩
   ·omega
   ·rw [← h]; exact cntP_le ..
  repeat' (conv => whnf); first | (refine VSeq.go ?_) | (refine VB.is ?_; refine VB.yes (by omega) fun _ => ?_) | (refine VB.is ?_; refine VB.no (by omega) fun _ => ?_) | (refine VAr.is ?_; refine oA ?_)
  all_goals (conv => whnf)
  refine VLoop.mk (α := Nat × List (Value × Value) × Nat) (fun z => z.1 ≤ x.o.length ∧ CntOf z.2.1 (cntP ts x.o z.1 0) ∧ IsMax (cntP ts x.o z.1 0) z.2.2) (fun z => [(1000000, .tuple #[]), (0, .slice p L.length c), (2, .int .i64 0), (3, .int .i64 (z.2.2 : Int)), (4, .map (some bm)), (5, .int .i64 (i : Int)), (6, .int .i64 (z.1 : Int))])
   (fun z => [.mapk bm z.2.1]) (fun z => x.o.length - z.1) (0, m, mo) ⟨Nat.zero_le _, hm.same fun q hq => cntP_zero ts x.o hq.1, hmo.same fun q hq => cntP_zero ts x.o hq⟩ aE (HLe.refl _) ?_
  clear hm hmo
  rintro ⟨j, m, mo⟩ ⟨hj, hm, hmo⟩
  dsimp only at hj hm hmo ⊢
  rcases Nat.lt_or_ge j x.o.length with hjl | hjg
  ·obtain ⟨v, hv⟩ := hxs.get hjl
   have hvr := hxo v (List.mem_of_getElem? hv)
   repeat' (conv => whnf); first | (refine VIx.is ?_; refine VIx.mk (h1.ptr (by omega)) (by omega) (by omega) ?_) | (refine VLd.is ?_; refine VLd.mk (Rd.cast (h1.rd (o := 3) (s := 1) (by simp) (fun _ => rfl) hx hx3) (by first | omega | (dsimp only; omega) | rfl)) ?_) | (refine VSeq.go ?_) | (refine VB.is ?_; refine VB.yes (by omega) fun _ => ?_) | (refine VB.is ?_; refine VB.no (by omega) fun _ => ?_) | (refine VAr.is ?_; refine oA ?_)
   all_goals (conv => whnf)
   refine VLoop.mk (α := Nat × List (Value × Value) × Nat) (fun z => z.1 ≤ 5 ∧ CntOf z.2.1 (cntP ts x.o j z.1) ∧ IsMax (cntP ts x.o j z.1) z.2.2) (fun z => [(1000000, .tuple #[]), (0, .slice p L.length c), (2, .int .i64 0), (3, .int .i64 (z.2.2 : Int)), (4, .map (some bm)), (5, .int .i64 (i : Int)), (6, .int .i64 (j : Int)), (7, .int .i64 ((2 ^ z.1 : Nat) : Int))])
    (fun z => [.mapk bm z.2.1]) (fun z => 5 - z.1) (0, m, mo) ⟨Nat.zero_le _, hm, hmo⟩ aE (HLe.refl _) ?_
   clear hm hmo
   rintro ⟨k, m, mo⟩ ⟨hk, hm, hmo⟩
   dsimp only at hk hm hmo ⊢
   rcases Nat.lt_or_ge k 5 with hk5 | hk5
   ·have hnx := fun hb (q : Out) (hq : isOutO q) => cntP_next ts hv hk5 hb hq
    have hsk := fun hb (q : Out) (hq : isOutO q) => cntP_skip ts hv hk5 hb hq
    have hp2 := pow5 hk5
    have hio : isOutO ((j : Int), ((2 ^ k : Nat) : Int)) := ⟨by dsimp only; omega, by unfold isOut; dsimp only; omega⟩
    have hw : outW ((j : Int), ((2 ^ k : Nat) : Int)) := ⟨hio, by dsimp only; omega⟩
    have hmx := hmo.bump hio
    have hmob := hmb hmo
    have hcl : cntP ts x.o j k ((j : Int), ((2 ^ k : Nat) : Int)) ≤ ts.length := by rw [cntP_at]; exact List.countP_le_length
    have hp1 : 2 ^ (k + 1) = 2 * 2 ^ k := by rw [Nat.pow_succ]; omega
    obtain ⟨c1, hc1⟩ : ∃ c1, cntP ts x.o j (k + 1) = c1 := ⟨_, rfl⟩
    obtain ⟨cc, hc⟩ : ∃ c, cntP ts x.o j k = c := ⟨_, rfl⟩
    rw [hc, hc1] at hnx hsk
    rw [hc] at hm hmo hmx hcl
    obtain ⟨pw, hpw⟩ : ∃ pw, 2 ^ k = pw := ⟨_, rfl⟩
    rw [hpw] at hnx hsk hw hmx hcl hp1 hp2 hio ⊢
    have hhas : hasB v (pw : Int) ↔ ((v.toNat &&& (pw : Int).toNat : Nat) : Int) ≠ 0 := by
     unfold hasB
     omega
    have hsl : (2 : Int) * (pw : Int) = ((2 ^ (k + 1) : Nat) : Int) := by rw [hp1]; omega
    obtain ⟨cn, hcn⟩ : ∃ cn, cc ((j : Int), (pw : Int)) = cn := ⟨_, rfl⟩
    have hlk := fun {H : HP} {u : Ent → HP} {r : HP} {z : Value} {kk : Value → Prop} (hat : At H (.mapk bm m) u r) hz hkk => CntOf.look (T := 79) (z := z) (k := kk) keyA2 hat hm _ hw hz hkk
    have hbg := fun {H : HP} {u : Ent → HP} {r : HP} {z : Value} {kk : Value → HP → Prop} (hat : At H (.mapk bm m) u r) hz hkk => CntOf.begin (T := 79) (z := z) (k := kk) keyA2 hat hm _ hw hz hkk
    rw [hcn] at hlk hbg hnx hmx hcl
    have hfi := fun {H : HP} {es : Array MapEntry} {clock st : Nat} {u : Ent → HP} {r : HP} {v : Value} {kk : HP → Prop} (hB) (hat : At H (.obj bm (.map es clock)) u r) hv hkk => CntOf.finish (T := 79) (v := v) (k := kk) (st := st) (c := cc) keyA2 hat hB hw hv hkk
    have hlk2 := fun {H : HP} {es : Array MapEntry} {clock st : Nat} {u : Ent → HP} {r : HP} {z : Value} {kk : Value → Prop} (hB) (hat : At H (.obj bm (.map es clock)) u r) hkk => CntOf.look2 (T := 79) (z := z) (k := kk) (st := st) (c := cc) keyA2 hat hB hw hkk
    rw [hcn] at hlk2 hfi
    repeat' (conv => whnf); first | (refine VIx.is ?_; refine VIx.mk (h1.ptr (by omega)) (by omega) (by omega) ?_) | (refine VLd.is ?_; refine VLd.mk (Rd.cast (h1.rd (o := 3) (s := 1) (by simp) (fun _ => rfl) hx hx3) (by first | omega | (dsimp only; omega) | rfl)) ?_) | (refine VIx.is ?_; refine VIx.mk (hxs.ptr (by omega)) (by omega) (by omega) ?_) | (refine VLd.is ?_; refine VLd.mk (Rd.cast (hxs.rd0 (by simp) (fun _ => rfl) hv rfl) (by first | omega | (dsimp only; omega) | rfl)) ?_) | (refine VBit.is ?_; refine VBit.and (by omega) (by omega) ?_) | (refine VSeq.is ?_; refine VSeq.isN 14 rfl ?_; refine VSeq.cut (at_ := 14) (α := List (Value × Value)) (fun m2 => CntOf m2 fun q => if q = ((j : Int), (pw : Int)) then cn + 1 else cc q) (fun _ => [(1000000, .tuple #[]), (0, .slice p L.length c), (2, .int .i64 0), (3, .int .i64 (mo : Int)), (4, .map (some bm)), (5, .int .i64 (i : Int)), (6, .int .i64 (j : Int)), (7, .int .i64 (pw : Int))]) (fun m2 => [.mapk bm m2]) ?_ ?_) | (refine VHs.is ?_; refine VHs.is ?_; refine VHs.mk [] aH ?_) | (refine VLkK.is ?_; refine VLkK.is ?_; first | refine hlk aT rfl ?_ | refine hlk2 hB aT ?_) | (refine VMpE.is ?_; refine VMpE.is ?_; refine hbg aT rfl fun es clock st hB => ?_) | (refine VEnS.is ?_; refine VEnS.is ?_; refine hfi hB aT rfl fun m2 hm2 => ?_) | (refine VAr.is ?_; refine VAr.is ?_; refine VAr.mul hsl (by omega) (by omega) ?_) | (refine VSeq.go ?_) | (refine VB.is ?_; refine VB.yes (by omega) fun _ => ?_) | (refine VB.split (fun _ => ?_) (fun _ => ?_)) | (refine VAr.is ?_; refine oA ?_) | (refine VKeep.is ?_; refine VKeep.mk aH ?_) | (refine And.intro ?_ ?_)
    all_goals (conv => whnf)
    any_goals exact VMid.mk m2 hm2 aE aH
    ·rintro m2 hm2
     have hb := hhas.2 (by omega)
     have hm1 : CntOf m2 c1 := hm2.same fun q hq => hnx hb q hq.1
     have hv1 := hnx hb _ hio
     rw [if_pos rfl] at hv1
     have hlk3 := fun {H : HP} {u : Ent → HP} {r : HP} {z : Value} {kk : Value → Prop} (hat : At H (.mapk bm m2) u r) hz hkk => CntOf.look (T := 79) (z := z) (k := kk) keyA2 hat hm1 _ hw hz hkk
     rw [hv1] at hlk3
     have hmax : max (mo : Int) ((cn + 1 : Nat) : Int) = ((max mo (cn + 1) : Nat) : Int) := by omega
     repeat' (conv => whnf); first | (refine VLkK.is ?_; refine VLkK.is ?_; refine hlk3 aT rfl ?_; (try rw [hmax])) | (refine VAr.is ?_; refine VAr.is ?_; refine VAr.mul hsl (by omega) (by omega) ?_)
     all_goals (conv => whnf)
     refine VNext.mk (k + 1, m2, max mo (cn + 1)) ⟨by dsimp only; omega, by dsimp only; rw [hc1]; exact hm1, by dsimp only; rw [hc1]; exact hmx.same fun q hq => hnx hb q hq⟩ (by dsimp only; omega) (by first | exact aE | (dsimp only; rw [← hmax]; exact aE)) (HLe.refl _)
    ·have hb : ¬ hasB v (pw : Int) := fun h => absurd (hhas.1 h) (by omega)
     refine VNext.mk (k + 1, m, mo) ⟨by dsimp only; omega, by dsimp only; rw [hc1]; exact hm.same fun q hq => hsk hb q hq.1, by dsimp only; rw [hc1]; exact hmo.same fun q hq => hsk hb q hq⟩ (by dsimp only; omega) aE (HLe.refl _)
   have hk5' : k = 5 := by omega
   subst hk5'
   repeat' (conv => whnf); first | (refine VSeq.go ?_) | (refine VB.is ?_; refine VB.yes (by omega) fun _ => ?_) | (refine VB.is ?_; refine VB.no (by omega) fun _ => ?_) | (refine VAr.is ?_; refine oA ?_)
   all_goals (conv => whnf)
   exact VNext.mk (j + 1, m, mo) ⟨by dsimp only; omega, hm.same fun q hq => cntP_row ts x.o j hq.1, hmo.same fun q hq => cntP_row ts x.o j hq⟩ (by dsimp only; omega) aE (HLe.refl _)
  have hjl : j = x.o.length := by omega
  subst hjl
  repeat' (conv => whnf); first | (refine VIx.is ?_; refine VIx.mk (h1.ptr (by omega)) (by omega) (by omega) ?_) | (refine VLd.is ?_; refine VLd.mk (Rd.cast (h1.rd (o := 3) (s := 1) (by simp) (fun _ => rfl) hx hx3) (by first | omega | (dsimp only; omega) | rfl)) ?_) | (refine VSeq.go ?_) | (refine VB.is ?_; refine VB.yes (by omega) fun _ => ?_) | (refine VB.is ?_; refine VB.no (by omega) fun _ => ?_) | (refine VAr.is ?_; refine oA ?_)
  all_goals (conv => whnf)
  refine VNext.mk (i + 1, m, mo) ⟨by dsimp only; omega, ?_, ?_⟩ (by dsimp only; omega) aE (HLe.refl _)
  ·dsimp only
   rw [htk]
   exact hm.same fun q hq => (cntP_end ts x.o hq.1).symm
  ·dsimp only
   rw [htk]
   exact hmo.same fun q hq => (cntP_end ts x.o hq).symm
 have hil : i = L.length := by omega
 subst hil
 rw [List.take_length] at hmo
 rw [hmo.most]
 repeat' (conv => whnf); first | (refine VSeq.go ?_) | (refine VB.is ?_; refine VB.yes (by omega) fun _ => ?_) | (refine VB.is ?_; refine VB.no (by omega) fun _ => ?_) | (refine VAr.is ?_; refine oA ?_)
 all_goals (conv => whnf)
 exact ⟨fun w' hw' => ⟨rfl, hw'.le .nil⟩⟩

end Go.Proofs
end
