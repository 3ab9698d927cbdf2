import Derived.Test.YtephkjicokbckaaGreatDoorVerifyRobustsHd
import Derived.Test.YtephkjicokbckaaGreatDoorVerifyRobustsNa
import Derived.Test.YtephkjicokbckaaGreatDoorVerifyRobustsHc
import Derived.Test.YtephkjicokbckaaGreatDoorVerifyRobustsMk
section
set_option linter.unusedVariables false

set_option linter.unusedSimpArgs false

namespace Go.Proofs

open Go Go.Vx Go.Gm

set_option maxHeartbeats 4000000 in
theorem rholds_any (c : Clm) (hc : c.wf) (nn : Nat) (hok : clmErr nn c = 0) (hns : c.ns.length ≤ 100000) (l : List Evt) (hl : l.length ≤ 65536) (hlw : ∀ x ∈ l, x.wf) (pc : Option Addr) (cc bc oc : Nat) (pe : Option Addr) (ce be oe : Nat) (w : World) (h1 : Sl w intV 1 c.ns pc c.ns.length bc oc) (h3 : Sl w evtV 2 l pe l.length be oe) :
    Calls Tryz.prog 100 #[clmA c pc cc, .slice pe l.length ce] w fun e w' => ∃ b : Bool, e = .returned (.bool b) ∧ (b = true ↔ HoldsP c l) ∧ St w [] [] w' := by
  obtain ⟨w1, w2, w3, w4, w5, w6⟩ := hc
  unfold I64 at w1 w3 w4 w5 w6
  obtain ⟨hkind, hn0, ⟨hin, hnd⟩, hr⟩ := clmErr_zero hok
  obtain ⟨one, hone⟩ : ∃ one, c.ns[0]? = some one := ⟨c.ns[0]'(by omega), List.getElem?_eq_getElem _⟩
  have hlead := fun l => leads_ref hnd hone l
  have hcnt := fun l => cntH_about hnd l
  have hfst := fun (l : List Evt) (m : Int) => (fstF_le c m l c.to).1
  have hA : clmA c pc cc = .agg #[.int .i64 c.kind, .slice pc c.ns.length cc, .int .i64 c.frm, .int .i64 c.to, .int .i64 c.lo, .int .i64 c.hi] := rfl
  rw [hA]
  obtain ⟨n, hn⟩ : ∃ n, c.ns.length = n := ⟨_, rfl⟩
  have hms := fun (f g : Int → Int) (i : Nat) => mapsplit_len f g c.ns i
  rw [hn] at h1 hns hn0 hms ⊢
  refine enter (C := Tryz.cx) (F := Tryz.fx100) (args := [_, _]) Tryz.func100 rfl rfl rfl Tryz.ok100 (St.start w []) ?_
  repeat' (conv => whnf); first | (refine VNew.mk fun b2 => ?_) | (refine VMk.is ?_; refine VMk.mk (by omega) (by omega) (by (try dsimp only); omega) (by omega) fun g => ?_) | (refine VSeq.go ?_) | (refine VLd.is ?_; refine VLd.mk (.row aT (by rfl)) ?_)
  all_goals (conv => whnf)
  have hrep : repL [Value.int .i64 0] ((n : Int)).toNat = flat intV ((c.ns.take 0).map (fun _ => c.to) ++ (c.ns.drop 0).map (fun _ => (0 : Int))) := by
    rw [Int.toNat_natCast, List.take_zero, List.map_nil, List.nil_append, List.drop_zero, List.map_const', hn]
    exact flat_rep (f := intV) (x := 0) n
  refine VLoop.mk (α := Nat) (fun i => i ≤ n) (fun i => [(1000000, .tuple #[]), (1, .slice pe l.length ce), (2, .pointer (some ⟨b2, 0, none⟩)), (4, .bool false), (5, .slice (some ⟨g, 0, none⟩) n n), (6, .int .i64 (i : Int))])
    (fun i => [.vec (some ⟨g, 0, none⟩) n n 3 1 (flat intV ((c.ns.take i).map (fun _ => c.to) ++ (c.ns.drop i).map (fun _ => (0 : Int)))), .row b2 54 [.int .i64 c.kind, .slice pc n cc, .int .i64 c.frm, .int .i64 c.to, .int .i64 c.lo, .int .i64 c.hi]]) (fun i => n - i) 0 (by omega) aE (by rw [← hrep]; exact aH) ?_
  intro i hi
  rcases Nat.lt_or_ge i n with hlt | hge
  · obtain ⟨m, hm⟩ := h1.get hlt
    have hg := mapsplit_get (f := fun _ => c.to) (g := fun _ => (0 : Int)) hm
    have hs := mapsplit_set (f := fun _ => c.to) (g := fun _ => (0 : Int)) hm
    repeat' (conv => whnf); first | (refine VIx.is ?_; refine VIx.mk rfl (by omega) (by omega) ?_) | (refine VSt.is ?_; refine VSt.cast (off' := i * 1) (by first | omega | (dsimp only; omega) | rfl) (VSt.vec aT (upd_flat0 (f := intV) (k := 1) (y := c.to) (fun _ => rfl) hg rfl) rfl ?_)) | (refine VSeq.go ?_) | (refine VB.is ?_; refine VB.yes (by omega) fun _ => ?_) | (refine VLd.is ?_; refine VLd.mk (.row aT (by rfl)) ?_) | (refine VAr.is ?_; refine oA ?_)
    all_goals (conv => whnf)
    rw [hs]
    exact VNext.mk (i + 1) (by omega) (by omega) aE aH
  have hin' : i = n := by omega
  subst hin'
  have h0 : (c.ns.take i).map (fun _ => c.to) ++ (c.ns.drop i).map (fun _ => (0 : Int)) = c.ns.map (fstC c (l.take 0)) := by
    rw [List.take_of_length_le (by omega), List.drop_of_length_le (by omega), List.map_nil, List.append_nil]; rfl
  rw [h0]
  repeat' (conv => whnf); first | (refine VSeq.go ?_) | (refine VB.is ?_; refine VB.yes (by omega) fun _ => ?_) | (refine VB.is ?_; refine VB.no (by omega) fun _ => ?_) | (refine VLd.is ?_; refine VLd.mk (.row aT (by rfl)) ?_) | (refine VAr.is ?_; refine oA ?_)
  all_goals (conv => whnf)
  refine VLoop.mk (α := Nat) (fun k => k ≤ l.length) (fun k => [(1000000, .tuple #[]), (1, .slice pe l.length ce), (2, .pointer (some ⟨b2, 0, none⟩)), (4, .bool false), (5, .slice (some ⟨g, 0, none⟩) i i), (7, .int .i64 (cntH c (l.take k) : Int)), (8, .int .i64 (k : Int))])
    (fun k => [.vec (some ⟨g, 0, none⟩) i i 3 1 (flat intV (c.ns.map (fstC c (l.take k)))), .row b2 54 [.int .i64 c.kind, .slice pc i cc, .int .i64 c.frm, .int .i64 c.to, .int .i64 c.lo, .int .i64 c.hi]]) (fun k => l.length - k) 0 (by omega) aE aH ?_
  intro k hk
  rcases Nat.lt_or_ge k l.length with hlt | hge
  · obtain ⟨x, hx⟩ := h3.get hlt
    have hxw := hlw x (List.mem_of_getElem? hx)
    unfold Evt.wf I64 at hxw
    have hctk := cntH_take (c := c) hx
    have hftk := fstC_take (c := c) hx
    have hcl := cntH_le c (l.take k)
    have hcl2 : (l.take k).length * c.ns.length ≤ 65536 * 100000 := Nat.mul_le_mul (by rw [List.length_take]; omega) (by omega)
    obtain ⟨C, hC⟩ : ∃ C, cntH c (l.take k) = C := ⟨_, rfl⟩
    rw [hC] at hctk hcl ⊢
    have h00 : c.ns.map (fstC c (l.take k)) = (c.ns.take 0).map (fstC c (l.take (k + 1))) ++ (c.ns.drop 0).map (fstC c (l.take k)) := rfl
    rw [h00]
    repeat' (conv => whnf); first | (refine VSeq.go ?_) | (refine VB.is ?_; refine VB.yes (by omega) fun _ => ?_) | (refine VB.is ?_; refine VB.no (by omega) fun _ => ?_) | (refine VLd.is ?_; refine VLd.mk (.row aT (by rfl)) ?_) | (refine VAr.is ?_; refine oA ?_)
    all_goals (conv => whnf)
    refine VLoop.mk (α := Nat) (fun j => j ≤ i) (fun j => [(1000000, .tuple #[]), (1, .slice pe l.length ce), (2, .pointer (some ⟨b2, 0, none⟩)), (4, .bool false), (5, .slice (some ⟨g, 0, none⟩) i i), (7, .int .i64 ((C : Int) + (cntHit c x (c.ns.take j) : Nat))), (8, .int .i64 (k : Int)), (9, .int .i64 (j : Int))])
      (fun j => [.vec (some ⟨g, 0, none⟩) i i 3 1 (flat intV ((c.ns.take j).map (fstC c (l.take (k + 1))) ++ (c.ns.drop j).map (fstC c (l.take k)))), .row b2 54 [.int .i64 c.kind, .slice pc i cc, .int .i64 c.frm, .int .i64 c.to, .int .i64 c.lo, .int .i64 c.hi]]) (fun j => i - j) 0 (by omega) aE aH ?_
    intro j hj
    rcases Nat.lt_or_ge j i with hji | hji
    · obtain ⟨m, hm⟩ := h1.get hji
      have hg := mapsplit_get (f := fstC c (l.take (k + 1))) (g := fstC c (l.take k)) hm
      have hs := mapsplit_set (f := fstC c (l.take (k + 1))) (g := fstC c (l.take k)) hm
      have hsame := mapsplit_same (f := fstC c (l.take (k + 1))) (g := fstC c (l.take k)) hm
      have hht := cntHit_take (c := c) (x := x) hm
      have hhl := cntHit_le c x (c.ns.take j)
      rw [List.length_take] at hhl
      have hfm := hftk m
      have hfle := hfst (l.take k) m
      obtain ⟨a, ha⟩ : ∃ a, fstC c (l.take k) m = a := ⟨_, rfl⟩
      obtain ⟨q, hq⟩ : ∃ q, cntHit c x (c.ns.take j) = q := ⟨_, rfl⟩
      rw [ha] at hg hsame hfm
      rw [hq] at hht hhl ⊢
      have hlx : ∀ y, upd (flat intV ((c.ns.take j).map (fstC c (l.take (k + 1))) ++ (c.ns.drop j).map (fstC c (l.take k)))) (j * 1) [.int .i64 y] = some (flat intV (((c.ns.take j).map (fstC c (l.take (k + 1))) ++ (c.ns.drop j).map (fstC c (l.take k))).set j y)) := fun y => upd_flat0 (f := intV) (k := 1) (y := y) (fun _ => rfl) hg rfl
      have hd : sub (flat intV ((c.ns.take j).map (fstC c (l.take (k + 1))) ++ (c.ns.drop j).map (fstC c (l.take k)))) (j * 1) 1 = some [.int .i64 a] := sub_flat0 (f := intV) (k := 1) (fun _ => rfl) hg rfl
      repeat' (conv => whnf); first | (refine VIx.is ?_; refine VIx.mk rfl (by omega) (by omega) ?_) | (refine VIx.is ?_; refine VIx.mk (h1.ptr (by omega)) (by omega) (by omega) ?_) | (refine VIx.is ?_; refine VIx.mk (h3.ptr (by omega)) (by omega) (by omega) ?_) | (refine VLd.is ?_; refine VLd.mk (Rd.cast (h1.rd0 (by simp) (fun _ => rfl) hm rfl) (by first | omega | (dsimp only; omega) | rfl)) ?_) | (refine VLd.is ?_; refine VLd.mk (Rd.cast (h3.rd (o := 0) (s := 1) (by simp) (fun _ => rfl) hx rfl) (by first | omega | (dsimp only; omega) | rfl)) ?_) | (refine VLd.is ?_; refine VLd.mk (Rd.cast (h3.rd (o := 1) (s := 1) (by simp) (fun _ => rfl) hx rfl) (by first | omega | (dsimp only; omega) | rfl)) ?_) | (refine VLd.is ?_; refine VLd.mk (Rd.cast (.vec aT (hd)) (by first | omega | (dsimp only; omega) | rfl)) ?_) | (refine VSt.is ?_; refine VSt.cast (off' := j * 1) (by first | omega | (dsimp only; omega) | rfl) (VSt.vec aT (hlx _) rfl ?_)) | (refine VSeq.go ?_) | (refine VB.is ?_; refine VB.yes (by omega) fun _ => ?_) | (refine VB.split (fun _ => ?_) (fun _ => ?_)) | (refine VLd.is ?_; refine VLd.mk (.row aT (by rfl)) ?_) | (refine VAr.is ?_; refine oA ?_) | (refine VHs.mk _ (.refl _) ?_)
      all_goals (conv => whnf)
      all_goals first
        | (have hhit : hitC c m x := ⟨by omega, by omega, by omega⟩
           rw [if_pos hhit] at hht
           have hf2 : fstC c (l.take (k + 1)) m = min a x.tick := by rw [hfm]; unfold fst1; rw [if_pos hhit]
           rw [hf2] at hs
           rw [hs]
           exact VNext.mk (j + 1) (by omega) (by omega) (by rw [hht, show ((q + 1 : Nat) : Int) = (q : Int) + 1 from rfl, ← Int.add_assoc]; exact aE) aH)
        | (have hhit : ¬ hitC c m x := fun h => by obtain ⟨g1, g2, g3⟩ := h; omega
           rw [if_neg hhit, Nat.add_zero] at hht
           have hf2 : fstC c (l.take (k + 1)) m = a := by rw [hfm]; unfold fst1; rw [if_neg hhit]
           rw [hsame hf2]
           exact VNext.mk (j + 1) (by omega) (by omega) (by rw [hht]; exact aE) aH)
    have hjn : j = i := by omega
    subst hjn
    have hfin : (c.ns.take j).map (fstC c (l.take (k + 1))) ++ (c.ns.drop j).map (fstC c (l.take k)) = c.ns.map (fstC c (l.take (k + 1))) := by
      have e1 : c.ns.take j = c.ns := List.take_of_length_le (by omega)
      have e2 : c.ns.drop j = [] := List.drop_of_length_le (by omega)
      rw [e1, e2, List.map_nil, List.append_nil]
    rw [hfin]
    have hct2 : cntHit c x (c.ns.take j) = cntHit c x c.ns := by
      have e1 : c.ns.take j = c.ns := List.take_of_length_le (by omega)
      rw [e1]
    have hhl := cntHit_le c x c.ns
    rw [hct2]
    repeat' (conv => whnf); first | (refine VSeq.go ?_) | (refine VB.is ?_; refine VB.yes (by omega) fun _ => ?_) | (refine VB.is ?_; refine VB.no (by omega) fun _ => ?_) | (refine VLd.is ?_; refine VLd.mk (.row aT (by rfl)) ?_) | (refine VAr.is ?_; refine oA ?_)
    all_goals (conv => whnf)
    exact VNext.mk (k + 1) (by omega) (by omega) (by rw [hctk, show ((C + cntHit c x c.ns : Nat) : Int) = (C : Int) + (cntHit c x c.ns : Nat) from rfl]; exact aE) aH
  have hkl : k = l.length := by omega
  subst hkl
  rw [List.take_length]
  have hcl := cntH_le c l
  have hcl2 : l.length * c.ns.length ≤ 65536 * 100000 := Nat.mul_le_mul hl (by omega)
  have hcn := hcnt l
  have hld := hlead l
  obtain ⟨C, hC⟩ : ∃ C, cntH c l = C := ⟨_, rfl⟩
  rw [hC] at hcl hcn ⊢
  by_cases hk2 : c.kind = 2
  · repeat' (conv => whnf); first | (refine VSeq.go ?_) | (refine VB.is ?_; refine VB.yes (by omega) fun _ => ?_) | (refine VB.is ?_; refine VB.no (by omega) fun _ => ?_) | (refine VB.split (fun _ => ?_) (fun _ => ?_)) | (refine VLd.is ?_; refine VLd.mk (.row aT (by rfl)) ?_)
    all_goals (conv => whnf)
    all_goals
      refine ⟨fun w' hw' => ⟨_, rfl, ?_, hw'.le .nil⟩⟩
      unfold HoldsP
      rw [if_neg (by omega)]
      unfold CountsP
      rw [← hcn]
      constructor <;> intro h <;> first | rfl | exact ⟨by omega, by omega⟩ | (exfalso; omega) | (cases h)
  have hk1 : c.kind = 1 := by omega
  have hHP : HoldsP c l ↔ fstC c l one < c.to ∧ ∀ (i : Nat) n, 1 ≤ i → c.ns[i]? = some n → fstC c l one < fstC c l n := by
    unfold HoldsP
    rw [if_pos hk1]
    exact hld
  have hf0 : (c.ns.map (fstC c l))[0]? = some (fstC c l one) := by rw [List.getElem?_map, hone]; rfl
  have hd0 : sub (flat intV (c.ns.map (fstC c l))) (0 * 1) 1 = some [.int .i64 (fstC c l one)] := sub_flat0 (f := intV) (k := 1) (fun _ => rfl) hf0 rfl
  repeat' (conv => whnf); first | (refine VSeq.go ?_) | (refine VB.is ?_; refine VB.yes (by omega) fun _ => ?_) | (refine VB.is ?_; refine VB.no (by omega) fun _ => ?_) | (refine VLd.is ?_; refine VLd.mk (.row aT (by rfl)) ?_) | (refine VAr.is ?_; refine oA ?_)
  all_goals (conv => whnf)
  refine VLoop.mk (α := Nat) (fun j => 1 ≤ j ∧ j ≤ i ∧ ∀ (t : Nat) m, 1 ≤ t → t < j → c.ns[t]? = some m → fstC c l one < fstC c l m) (fun j => [(1000000, .tuple #[]), (2, .pointer (some ⟨b2, 0, none⟩)), (4, .bool false), (5, .slice (some ⟨g, 0, none⟩) i i), (10, .int .i64 (j : Int))])
    (fun _ => [.vec (some ⟨g, 0, none⟩) i i 3 1 (flat intV (c.ns.map (fstC c l))), .row b2 54 [.int .i64 c.kind, .slice pc i cc, .int .i64 c.frm, .int .i64 c.to, .int .i64 c.lo, .int .i64 c.hi]]) (fun j => i - j) 1 ⟨by omega, by omega, fun t m h1 h2 => by omega⟩ aE aH ?_
  rintro j ⟨hj1, hj, hall⟩
  rcases Nat.lt_or_ge j i with hji | hji
  · obtain ⟨m, hm⟩ := h1.get hji
    have hfj : (c.ns.map (fstC c l))[j]? = some (fstC c l m) := by rw [List.getElem?_map, hm]; rfl
    have hdj : sub (flat intV (c.ns.map (fstC c l))) (j * 1) 1 = some [.int .i64 (fstC c l m)] := sub_flat0 (f := intV) (k := 1) (fun _ => rfl) hfj rfl
    repeat' (conv => whnf); first | (refine VIx.is ?_; refine VIx.mk rfl (by omega) (by omega) ?_) | (refine VLd.is ?_; refine VLd.mk (Rd.cast (.vec aT (hdj)) (by first | omega | (dsimp only; omega) | rfl)) ?_) | (refine VLd.is ?_; refine VLd.mk (Rd.cast (.vec aT (hd0)) (by first | omega | (dsimp only; omega) | rfl)) ?_) | (refine VSeq.go ?_) | (refine VB.is ?_; refine VB.yes (by omega) fun _ => ?_) | (refine VB.split (fun _ => ?_) (fun _ => ?_)) | (refine VAr.is ?_; refine oA ?_) | (refine VHs.mk _ (.refl _) ?_)
    all_goals (conv => whnf)
    all_goals first
      | (refine VNext.mk (j + 1) ⟨by omega, by omega, fun t m' ht1 ht2 hm' => ?_⟩ (by omega) aE aH
         by_cases htj : t = j
         · subst htj
           rw [hm, Option.some.injEq] at hm'
           subst hm'
           omega
         · exact hall t m' ht1 (by omega) hm')
      | exact ⟨fun w' hw' => ⟨false, rfl, ⟨fun h => (by cases h), fun h => by have := (hHP.1 h).2 j m hj1 hm; omega⟩, hw'.le .nil⟩⟩
  have hji2 : j = i := by omega
  subst hji2
  repeat' (conv => whnf); first | (refine VIx.is ?_; refine VIx.mk rfl (by omega) (by omega) ?_) | (refine VLd.is ?_; refine VLd.mk (Rd.cast (.vec aT (hd0)) (by first | omega | (dsimp only; omega) | rfl)) ?_) | (refine VSeq.go ?_) | (refine VB.is ?_; refine VB.no (by omega) fun _ => ?_) | (refine VB.split (fun _ => ?_) (fun _ => ?_)) | (refine VLd.is ?_; refine VLd.mk (.row aT (by rfl)) ?_) | (refine VHs.mk _ (.refl _) ?_)
  all_goals (conv => whnf)
  all_goals
    refine ⟨fun w' hw' => ⟨_, rfl, ?_, hw'.le .nil⟩⟩
    rw [hHP]
    first
      | exact ⟨fun _ => ⟨by omega, fun t m h1' h2' => hall t m h1' (by have := (List.getElem?_eq_some_iff.1 h2').1; omega) h2'⟩, fun _ => rfl⟩
      | exact ⟨fun h => (by cases h), fun h => by have := h.1; omega⟩

end Go.Proofs
end

section
set_option linter.unusedVariables false

set_option linter.unusedSimpArgs false

namespace Go.Proofs

open Go Go.Vx Go.Gm

end Go.Proofs
end
