import Derived.Test.YtjjcoiicikaaiaaGreatPlaceWaysMg
import Derived.Test.YtjjcoiicikaaiaaGreatPlaceWaysPg
import Derived.Test.YtjjcoiicikaaiaaGreatPlaceWaysMi
import Derived.Test.YtjjcoiicikaaiaaGreatPlaceWaysPq
import Derived.Test.YtjjcoiicikaaiaaGreatPlaceWaysVb
set_option linter.unusedVariables false
set_option linter.unusedSimpArgs false
set_option maxHeartbeats 4000000
section

namespace Go.Proofs

open Go Go.Vx Go.Gm

theorem perm_pl (a b : Ent) (P G : HP) : (a :: b :: (P ++ G)).Perm (P ++ (a :: b :: G)) := by
 refine List.Perm.trans ?_ List.perm_middle.symm
 exact List.Perm.cons _ List.perm_middle.symm

theorem trees_iter2 {α : Type} {w0 : World} {H : HP} {K : Value → HP → Prop} (X : PlnX) (x : PlnM) (cores : List Int) (hA : AsgOk X.N X.C cores) (hup : PlnUp X X.N.syns x) (hrd : PlnRd X w0) (p : Option Addr) (c b o : Nat) (h1 : Sl w0 intV 1 cores p cores.length b o) (l b2 b3 : Nat) (I : Nat → α → Prop) (G : α → HP) (x0 : α) (h0 : I 0 x0)
  (hH : HLe (.row b2 123 [.pointer (some ⟨x.b, 0, none⟩)] :: .row b3 24 [.slice p cores.length c] :: (plnH X x ++ G x0)) H)
  (step : ∀ k v z, k < nSrc X.N → tgtM X.N X.N.syns (k : Int) ≠ [] → I k v →
   VYield Tryz.cx.P w0 [] (treH X.N X.C cores (k : Int) z ++ (.row b2 123 [.pointer (some ⟨x.b, 0, none⟩)] :: .row b3 24 [.slice p cores.length c] :: (plnH X x ++ G v))) l [.agg (treC X.N X.C cores (k : Int) z).toArray] fun r H' => (r = .bool true ∧ ∃ y, I (k + 1) y ∧ HLe (.row b2 123 [.pointer (some ⟨x.b, 0, none⟩)] :: .row b3 24 [.slice p cores.length c] :: (plnH X x ++ G y)) H') ∨ (r = .bool false ∧ K (.tuple #[]) H'))
  (skip : ∀ k v, k < nSrc X.N → tgtM X.N X.N.syns (k : Int) = [] → I k v → I (k + 1) v)
  (fin : ∀ v, I (nSrc X.N) v → K (.tuple #[]) (.row b2 123 [.pointer (some ⟨x.b, 0, none⟩)] :: .row b3 24 [.slice p cores.length c] :: (plnH X x ++ G v))) :
  VCall Tryz.cx.P w0 [] H 109 [.func (.yield l) #[] #[], .pointer (some ⟨b2, 0, none⟩), .pointer (some ⟨b3, 0, none⟩)] K := by
 have hns : nSrc X.N ≤ 256 := by
  have := hA.plan.few
  have := hA.plan.net.inputs
  unfold nSrc; omega
 have hTl : x.T.length = nSrc X.N := by
  have := congrArg List.length hup.T
  rw [List.length_map] at this
  rw [this]; unfold tgtL; simp
 have k11 : sub (plnV X x) 11 1 = some [.slice (some ⟨x.gt, 0, none⟩) x.T.length x.T.length] := rfl
 refine VCall.le hH ?_
 refine VCall.inl (F := Tryz.fx109) Tryz.func109 rfl rfl rfl Tryz.ok109 ?_
 repeat' (conv => whnf); first | (refine VLd.is ?_; refine VLd.mk (Rd.cast (.row (.there (.there .here)) k11) (by first | omega | (dsimp only; omega) | rfl)) ?_) | (refine VSeq.go ?_) | (refine VLd.is ?_; refine VLd.mk (.row aT (by rfl)) ?_)
 all_goals (conv => whnf)
 refine VLoop.mk (α := Nat × α) (fun z => z.1 ≤ nSrc X.N ∧ I z.1 z.2) (fun z => [(1000000, .tuple #[]), (0, .func (.yield l) #[] #[]), (1, .pointer (some ⟨b2, 0, none⟩)), (2, .pointer (some ⟨b3, 0, none⟩)), (9, .slice (some ⟨x.gt, 0, none⟩) x.T.length x.T.length), (10, .int .i64 (x.T.length : Int)), (11, .int .i64 (z.1 : Int))])
  (fun z => .row b2 123 [.pointer (some ⟨x.b, 0, none⟩)] :: .row b3 24 [.slice p cores.length c] :: (plnH X x ++ G z.2)) (fun z => nSrc X.N - z.1) (0, x0) ⟨Nat.zero_le _, h0⟩ aE (HLe.refl _) ?_
 rintro ⟨k, v⟩ ⟨hk, hI⟩
 dsimp only at hk hI ⊢
 rcases Nat.lt_or_ge k (nSrc X.N) with hlt | hge
 ·obtain ⟨d, hd⟩ : ∃ d, x.T[k]? = some d := ⟨_, List.getElem?_eq_getElem (by omega)⟩
  have hdl : d.l = tgtM X.N X.N.syns (k : Int) := by
   have := congrArg (fun L => L[k]?) hup.T
   rw [List.getElem?_map, hd] at this
   unfold tgtL at this
   rw [List.getElem?_map, List.getElem?_range hlt] at this
   simpa using this
  have hpt := fun (hne : 0 < d.l.length) (w' : World) => ptree_any X x cores hA k hlt (by rw [← hdl]; exact List.length_pos_iff.1 hne) p c b o w'
  have hst := fun (hne : 0 < d.l.length) z => step k v z hlt (by rw [← hdl]; exact List.length_pos_iff.1 hne) hI
  have hsk := fun (hne : ¬ 0 < d.l.length) => skip k v hlt (by rw [← hdl]; exact List.length_eq_zero_iff.1 (by omega)) hI
  repeat' (conv => whnf); first | (refine VIx.is ?_; refine VIx.mk rfl (by omega) (by omega) ?_) | (refine VLd.is ?_; refine VLd.mk (Rd.cast (.vec (.there (.there (.there .here))) (sub_flat0 (vs := [.slice d.p d.l.length d.c]) (s := 1) (f := srV) (k := 1) (fun _ => rfl) hd rfl)) (by first | omega | (dsimp only; omega) | rfl)) ?_) | (refine VCall.isF 110 ?_; (refine VCall.genR (fun w' hw' => hpt (by omega) w' (PlnAt.of hA.plan hup (hrd.keep hw') hw' (HLe.of_sub _ (perm_pl _ _ _ _))) (h1.keep hw' (by simp))) ?_; rintro z _)) | (refine VYield.is ?_; refine VYield.is ?_; refine VYield.hle (VYield.mono (VYield.weak (HLe.refl _) (hst (by omega) z)) fun r H' hr => ?_); rcases hr with ⟨rfl, y, hy, hl⟩ | ⟨rfl, hK⟩ <;> first | refine ⟨_, hl, ?_⟩ | refine ⟨_, HLe.refl _, ?_⟩) | (refine VSeq.go ?_) | (refine VB.is ?_; refine VB.yes (by omega) fun _ => ?_) | (refine VB.split (fun _ => ?_) (fun _ => ?_)) | (refine VLd.is ?_; refine VLd.mk (.row aT (by rfl)) ?_) | (refine VAr.is ?_; refine oA ?_)
  all_goals (conv => whnf)
  ·exact VNext.mk (k + 1, y) ⟨by dsimp only; omega, hy⟩ (by dsimp only; omega) aE (HLe.refl _)
  ·exact hK
  ·exact VNext.mk (k + 1, v) ⟨by dsimp only; omega, hsk (by omega)⟩ (by dsimp only; omega) aE (HLe.refl _)
 have hkl : k = nSrc X.N := by omega
 subst hkl
 repeat' (conv => whnf); first | (refine VSeq.go ?_) | (refine VB.is ?_; refine VB.no (by omega) fun _ => ?_)
 all_goals (conv => whnf)
 exact fin v hI

end Go.Proofs
end

section

namespace Go.Proofs

open Go Go.Vx Go.Gm

theorem _root_.Go.Vx.VShR.zero32 {a : Nat} (h : a < 4294967296) {k : Int → Prop} (hk : k ((0 : Nat) : Int)) : VShR .u64 (a : Int) 32 k :=
 VShR.natU (a := a) 32 (by omega) fun c hc _ => by
  have : c = 0 := by rw [hc, Nat.shiftRight_eq_div_pow]; exact Nat.div_eq_of_lt h
  rw [this]; exact hk

theorem _root_.Go.Vx.VBit.mask32 {a : Nat} (h : a < 4294967296) {k : Int → Prop} (hk : k (a : Int)) : VBit .and .u64 (a : Int) 4294967295 k :=
 VBit.andU (b := 4294967295) (by omega) (by omega) fun c hc _ => by
  have : c = a := by
   rw [hc]
   have : (4294967295 : Nat) = 2 ^ 32 - 1 := rfl
   rw [this, Nat.and_two_pow_sub_one_eq_mod, Nat.mod_eq_of_lt (by omega)]
  rw [this]; exact hk

theorem bitsMul_one (n : Nat) (hn : n < 65536) (w : World) : Calls Tryz.prog 108 #[.int .u64 ((1 : Nat) : Int), .int .u64 (n : Int)] w fun e w' => e = .returned (.tuple #[.int .u64 ((0 : Nat) : Int), .int .u64 (n : Int)]) ∧ St w [] [] w' := by
 refine enter (C := Tryz.cx) (F := Tryz.fx108) (args := [_, _]) Tryz.func108 rfl rfl rfl Tryz.ok108 (St.start w []) ?_
 repeat' (conv => whnf); first | (refine VCall.isF 147 ?_; refine VCall.inl (F := Tryz.fx147) Tryz.func147 rfl rfl rfl Tryz.ok147 ?_) | (refine VShR.is ?_; refine VShR.is ?_; refine VShR.zero32 (by omega) ?_) | (refine VBit.is ?_; refine VBit.is ?_; refine VBit.mask32 (by omega) ?_) | (refine VAr.is ?_; refine VAr.is ?_; refine VAr.u64g (by omega) (by omega) fun c hc => ?_; first | (have e : c = 0 := (by omega); subst e; clear hc) | (have e : n = c := (by omega); subst e; clear hc)) | (refine VSeq.go ?_)
 all_goals (conv => whnf)
 exact ⟨fun w' hw' => ⟨rfl, hw'.le .nil⟩⟩

theorem rep_upd {n j m : Nat} {v : Int} (h : j + m ≤ n) : upd (flat intV (List.replicate j v ++ List.replicate (n - j) 0)) (j * 1) (flat intV (List.replicate m v)) = some (flat intV (List.replicate (j + m) v ++ List.replicate (n - (j + m)) 0)) := by
 have e1 : ∀ q (a : Int), (flat intV (List.replicate q a)).length = q := fun q a => by rw [flat_length (k := 1) (fun _ => rfl), List.length_replicate, Nat.mul_one]
 have h1 : (flat intV (List.replicate j v ++ List.replicate (n - j) 0)).length = n := by rw [flat_append, List.length_append, e1, e1]; omega
 rw [upd_mk _ _ _ (by rw [h1, e1]; omega)]
 congr 1
 rw [Nat.mul_one, flat_append, flat_append]
 have e2 : (flat intV (List.replicate j v) ++ flat intV (List.replicate (n - j) 0)).take j = flat intV (List.replicate j v) := by
  have := List.take_left (l₁ := flat intV (List.replicate j v)) (l₂ := flat intV (List.replicate (n - j) 0))
  rw [e1] at this; exact this
 have e3 : (flat intV (List.replicate j v) ++ flat intV (List.replicate (n - j) 0)).drop (j + (flat intV (List.replicate m v)).length) = flat intV (List.replicate (n - (j + m)) 0) := by
  have e4 : List.replicate (n - j) (0 : Int) = List.replicate m 0 ++ List.replicate (n - (j + m)) 0 := by rw [List.replicate_append_replicate]; congr 1; omega
  rw [e4, flat_append, ← List.append_assoc]
  have := List.drop_left (l₁ := flat intV (List.replicate j v) ++ flat intV (List.replicate m (0 : Int))) (l₂ := flat intV (List.replicate (n - (j + m)) (0 : Int)))
  rw [List.length_append, e1, e1] at this
  rw [e1]; exact this
 rw [e2, e3, ← flat_append, List.replicate_append_replicate]

theorem rep_sub {n j m : Nat} {v : Int} (h : j ≤ n) (hm : m ≤ j) : sub (flat intV (List.replicate j v ++ List.replicate (n - j) 0)) 0 (m * 1) = some (flat intV (List.replicate m v)) := by
 have e1 : ∀ q (a : Int), (flat intV (List.replicate q a)).length = q := fun q a => by rw [flat_length (k := 1) (fun _ => rfl), List.length_replicate, Nat.mul_one]
 rw [sub_mk _ _ _ (by rw [flat_append, List.length_append, e1, e1]; omega), Nat.mul_one, List.drop_zero]
 congr 1
 have e4 : List.replicate j v ++ List.replicate (n - j) (0 : Int) = List.replicate m v ++ (List.replicate (j - m) v ++ List.replicate (n - j) 0) := by
  rw [← List.append_assoc, List.replicate_append_replicate]; congr 2; omega
 rw [e4, flat_append]
 have := List.take_left (l₁ := flat intV (List.replicate m v)) (l₂ := flat intV (List.replicate (j - m) v ++ List.replicate (n - j) (0 : Int)))
 rw [e1] at this; exact this

theorem oneAll_ints : ∀ l : List Int, oneAll (flat intV l) = true
 | [] => rfl
 | x :: l => by
  have := oneAll_ints l
  simpa [flat, oneAll, intV, Value.oneCell'] using this

theorem repeat_any (v : Int) (n : Nat) (hn : n < 65536) (b o c : Nat) (w : World) (h1 : Sl w intV 1 [v] (some ⟨b, o, none⟩) 1 b o) :
  Calls Tryz.prog 70 #[.slice (some ⟨b, o, none⟩) 1 c, .int .i64 (n : Int)] w fun e w' => ∃ g : Nat, e = .returned (.slice (some ⟨g, 0, none⟩) n n) ∧ True ∧ St w [] [.vec (some ⟨g, 0, none⟩) n n 3 1 (flat intV (List.replicate n v))] w' := by
 have hmul := fun w' => bitsMul_one n hn w'
 refine enter (C := Tryz.cx) (F := Tryz.fx70) (args := [_, _]) Tryz.func70 rfl rfl rfl Tryz.ok70 (St.start w []) ?_
 repeat' (conv => whnf); first | (refine VCall.isF 108 ?_; (refine VCall.valR (fun w' _ => hmul w') ?_)) | (refine VAr.is ?_; refine VAr.is ?_; refine VAr.u64g (by omega) (by omega) fun c hc => ?_; first | (have e : c = 1 := (by omega); subst e; clear hc) | (have e : n = c := (by omega); subst e; clear hc)) | (refine VMk.is ?_; refine VMk.mk (by omega) (by omega) (by (try dsimp only); omega) (by omega) fun g => ?_) | (refine VSeq.go ?_) | (refine VB.is ?_; refine VB.no (by omega) fun _ => ?_) | (refine VAr.is ?_; refine oA ?_)
 all_goals (conv => whnf)
 have hsrc : ∀ H, Src w [] H (some ⟨b, o, none⟩) (min 1 n) 1 (flat intV (List.replicate (min 1 n) v)) := fun H => by
  by_cases h0 : n = 0
  ·subst h0; exact .none0
  ·have : min 1 n = 1 := by omega
   rw [this]
   exact h1.src (by simp) (fun _ => rfl)
 have hu0 := rep_upd (n := n) (j := 0) (m := min 1 n) (v := v) (by omega)
 rw [Nat.zero_mul, Nat.zero_add, List.replicate_zero, List.nil_append, Nat.sub_zero, ← flat_rep] at hu0
 refine VCp.into (off := 0) rfl (hsrc _) (VSt.vec aT hu0 (oneAll_ints _) ?_)
 repeat' (conv => whnf); first | (refine VSeq.go ?_) | (refine VB.is ?_; refine VB.no (by omega) fun _ => ?_)
 all_goals (conv => whnf)
 refine VLoop.mk (α := Nat) (fun j => j ≤ n ∧ (1 ≤ j ∨ n = 0)) (fun j => [(1000000, .tuple #[]), (4, .slice none 0 0), (7, .slice (some ⟨g, 0, none⟩) n n), (8, .int .i64 (j : Int))])
  (fun j => [.vec (some ⟨g, 0, none⟩) n n 3 1 (flat intV (List.replicate j v ++ List.replicate (n - j) 0))]) (fun j => n - j) (min 1 n) ⟨by omega, by omega⟩ aE aH ?_
 rintro j ⟨hj, hj1⟩
 rcases Nat.lt_or_ge j n with hlt | hge
 ·have hu := rep_upd (n := n) (j := j) (m := min j (n - j)) (v := v) (by omega)
  have hs := rep_sub (n := n) (j := j) (m := min j (n - j)) (v := v) (by omega) (by omega)
  repeat' (conv => whnf); first | (refine VSl.is ?_; refine VSl.is ?_; first | refine VSl.cut0 (m := j) (cap := n) (by omega) ?_ | (refine VSl.off (l := j) (h := n) (c := n) rfl rfl rfl (by omega) (by omega) fun off hoff => ?_; have hoe := hoff (by omega); subst hoe)) | (refine VCp.is ?_; refine VCp.is ?_; refine VCp.into rfl (.at_ (.vec aT hs)) (VSt.cast (off' := j * 1) (by first | omega | (dsimp only; omega) | rfl) (VSt.vec aT hu (oneAll_ints _) ?_))) | (refine VSeq.go ?_) | (refine VB.is ?_; refine VB.yes (by omega) fun _ => ?_) | (refine VAr.is ?_; refine oA ?_) | (refine VHs.mk _ (.refl _) ?_)
  all_goals (conv => whnf)
  have e : (j : Int) + ((min j (n - j) : Nat) : Int) = ((j + min j (n - j) : Nat) : Int) := by omega
  rw [e]
  exact VNext.mk (j + min j (n - j)) ⟨by omega, by omega⟩ (by omega) aE aH
 have hjn : j = n := by omega
 subst hjn
 rw [Nat.sub_self, List.replicate_zero, List.append_nil]
 repeat' (conv => whnf); first | (refine VSeq.go ?_) | (refine VB.is ?_; refine VB.no (by omega) fun _ => ?_)
 all_goals (conv => whnf)
 exact ⟨fun w' hw' => ⟨g, rfl, trivial, hw'.le aH⟩⟩

end Go.Proofs
end

section

namespace Go.Gm

end Go.Gm

namespace Go.Proofs

open Go Go.Vx Go.Gm

end Go.Proofs
end

section

namespace Go.Proofs

open Go Go.Vx Go.Gm

theorem space_any (X : PlnX) (x : PlnM) (u1 u2 : Nat) (hu1 : u1 ≤ 1000000) (hu2 : u2 ≤ 1000000) (k : Int) (i : Nat) (hi : i < X.N.ps.length) (w : World) (hx : PlnAt X x w) :
  Calls Tryz.prog 106 #[.pointer (some ⟨x.b, 0, none⟩), .agg #[.int .i64 (u1 : Int), .int .i64 (u2 : Int)], .int .i64 k, .int .i64 (i : Int)] w fun e w' => ∃ r : Bool, e = .returned (.bool r) ∧ (r = true ↔ k ∉ X.C.dead ∧ (u1 : Int) < X.C.nr ∧ (u2 : Int) + rowN X.N.syns (i : Int) ≤ X.C.sy) ∧ St w [] [] w' := by
 have hrow := hx.row
 have hRc := hx.R
 have hfs := hx.ok.net.fewS
 have hc := hx.ok.chip
 have hnr := hc.nr
 have hsy := hc.sy
 have k3 : sub (plnV X x) 3 1 = some [.int .i64 X.C.nr] := rfl
 have k4 : sub (plnV X x) 4 1 = some [.int .i64 X.C.sy] := rfl
 have k7 : sub (plnV X x) 7 1 = some [.slice X.pd X.C.dead.length X.cd] := rfl
 have k13 : sub (plnV X x) 13 1 = some [.slice (some ⟨x.gr, 0, none⟩) x.R.length x.R.length] := rfl
 obtain ⟨bd, od, hd⟩ := hx.rd.dead
 have hdl := hx.rd.chip.few
 have hR := hx.up.R
 have hRl : x.R.length = X.N.ps.length := by rw [hR]; unfold rowL; simp
 have hRi : x.R[i]? = some (rowN X.N.syns (i : Int) : Int) := by
  rw [hR]; unfold rowL
  rw [List.getElem?_map, List.getElem?_range (by omega)]; rfl
 have b3 : rowN X.N.syns (i : Int) ≤ 8192 := by
  have := List.countP_le_length (p := fun s : Syn => decide (s.to = (i : Int))) (l := X.N.syns)
  unfold rowN; omega
 obtain ⟨u3, hu3⟩ : ∃ u, rowN X.N.syns (i : Int) = u := ⟨_, rfl⟩
 rw [hu3] at hRi b3 ⊢
 refine enter (C := Tryz.cx) (F := Tryz.fx106) (args := [_, _, _, _]) Tryz.func106 rfl rfl rfl Tryz.ok106 (St.start w []) ?_
 clear hR hu3
 repeat' (conv => whnf); first | (refine VLd.is ?_; refine VLd.mk (Rd.cast (.old (hrow.part k7) rfl (by simp)) (by first | omega | (dsimp only; omega) | rfl)) ?_) | (refine VLd.is ?_; refine VLd.mk (Rd.cast (.old (hrow.part k3) rfl (by simp)) (by first | omega | (dsimp only; omega) | rfl)) ?_) | (refine VLd.is ?_; refine VLd.mk (Rd.cast (.old (hrow.part k4) rfl (by simp)) (by first | omega | (dsimp only; omega) | rfl)) ?_) | (refine VLd.is ?_; refine VLd.mk (Rd.cast (.old (hrow.part k13) rfl (by simp)) (by first | omega | (dsimp only; omega) | rfl)) ?_) | (refine VIx.is ?_; refine VIx.mk rfl (by omega) (by omega) ?_) | (refine VLd.is ?_; refine VLd.mk (Rd.cast (.old (hRc.part (sub_flat0 (vs := [.int .i64 (u3 : Int)]) (s := 1) (f := intV) (k := 1) (fun _ => rfl) hRi rfl)) rfl (by simp)) (by first | omega | (dsimp only; omega) | rfl)) ?_) | (refine VCall.isF 49 ?_; (refine VCall.genR (fun w' hw' => contains_any X.C.dead (by omega) k _ _ bd od w' (hd.keep hw' (by simp))) ?_; intro c1 hc1; cases c1 <;> simp only [Bool.false_eq_true, false_iff, true_iff] at hc1)) | (refine VSeq.go ?_) | (refine VB.split (fun _ => ?_) (fun _ => ?_)) | (refine VLd.is ?_; refine VLd.mk (.row aT (by rfl)) ?_) | (refine VNew.mk fun _ => ?_) | (refine VAr.is ?_; refine oA ?_) | (refine VHs.mk _ (.refl _) ?_) | (refine And.intro ?_ ?_)
 all_goals (conv => whnf)
 all_goals first
  | exact ⟨fun w' hw' => ⟨false, rfl, by simp only [Bool.false_eq_true, false_iff]; exact fun h => by first | exact h.1 hc1 | (have h2 := h.2; omega), hw'.le .nil⟩⟩
  | exact ⟨fun w' hw' => ⟨true, rfl, by simp only [true_iff]; exact ⟨by first | exact hc1 | exact Decidable.not_not.1 hc1, by omega, by omega⟩, hw'.le .nil⟩⟩

theorem spaces_iter {α : Type} {w0 : World} {H : HP} {K : Value → HP → Prop} (X : PlnX) (x : PlnM) (cores : List Int) (hlc : cores.length ≤ X.N.ps.length) (i : Nat) (hi : i < X.N.ps.length) (hok : PlanOk X.N X.C) (S : HP) (hx : ∀ w', St w0 [] S w' → PlnAt X x w') (gu l b1 b2 b3 : Nat) (I : Nat → α → Prop) (G : α → HP) (hS : ∀ v, HLe S (G v)) (x0 : α) (h0 : I 0 x0)
  (hH : HLe (.row b1 132 [.slice (some ⟨gu, 0, none⟩) (nCores X.C) (nCores X.C)] :: .row b2 123 [.pointer (some ⟨x.b, 0, none⟩)] :: .row b3 3 [.int .i64 (i : Int)] :: .vec (some ⟨gu, 0, none⟩) (nCores X.C) (nCores X.C) 202 2 (flat usV (usL X.C X.N.syns cores)) :: G x0) H)
  (step : ∀ k v, k < nCores X.C → spaceP X.C X.N.syns cores i (k : Int) → I k v →
   VYield Tryz.cx.P w0 [] (.row b1 132 [.slice (some ⟨gu, 0, none⟩) (nCores X.C) (nCores X.C)] :: .row b2 123 [.pointer (some ⟨x.b, 0, none⟩)] :: .row b3 3 [.int .i64 (i : Int)] :: .vec (some ⟨gu, 0, none⟩) (nCores X.C) (nCores X.C) 202 2 (flat usV (usL X.C X.N.syns cores)) :: G v) l [.int .i64 (k : Int)] fun r H' => (r = .bool true ∧ ∃ y, I (k + 1) y ∧ HLe (.row b1 132 [.slice (some ⟨gu, 0, none⟩) (nCores X.C) (nCores X.C)] :: .row b2 123 [.pointer (some ⟨x.b, 0, none⟩)] :: .row b3 3 [.int .i64 (i : Int)] :: .vec (some ⟨gu, 0, none⟩) (nCores X.C) (nCores X.C) 202 2 (flat usV (usL X.C X.N.syns cores)) :: G y) H') ∨ (r = .bool false ∧ K (.tuple #[]) H'))
  (skip : ∀ k v, k < nCores X.C → ¬ spaceP X.C X.N.syns cores i (k : Int) → I k v → I (k + 1) v)
  (fin : ∀ v, I (nCores X.C) v → K (.tuple #[]) (.row b1 132 [.slice (some ⟨gu, 0, none⟩) (nCores X.C) (nCores X.C)] :: .row b2 123 [.pointer (some ⟨x.b, 0, none⟩)] :: .row b3 3 [.int .i64 (i : Int)] :: .vec (some ⟨gu, 0, none⟩) (nCores X.C) (nCores X.C) 202 2 (flat usV (usL X.C X.N.syns cores)) :: G v)) :
  VCall Tryz.cx.P w0 [] H 105 [.func (.yield l) #[] #[], .pointer (some ⟨b1, 0, none⟩), .pointer (some ⟨b2, 0, none⟩), .pointer (some ⟨b3, 0, none⟩)] K := by
 have hnc := (nCores_ok hok.chip).2
 have hul := usL_len X.C X.N.syns cores
 have hgt := fun {k : Nat} hk => usL_get (C := X.C) (l := X.N.syns) (cores := cores) (k := k) hk
 have hfs := hok.net.fewS
 have hfn := hok.net.few
 have hbN : ∀ k : Int, useN cores k ≤ cores.length := fun k => List.countP_le_length
 have hbR : ∀ k : Int, useR X.N.syns cores k ≤ X.N.syns.length := fun k => List.countP_le_length
 obtain ⟨U, hU⟩ : ∃ U, usL X.C X.N.syns cores = U := ⟨_, rfl⟩
 obtain ⟨n, hn⟩ : ∃ n, nCores X.C = n := ⟨_, rfl⟩
 rw [hU] at hul hgt hH step fin
 rw [hn] at hnc hul hgt hH step skip fin
 refine VCall.le hH ?_
 refine VCall.inl (F := Tryz.fx105) Tryz.func105 rfl rfl rfl Tryz.ok105 ?_
 repeat' (conv => whnf); first | (refine VSeq.go ?_) | (refine VB.is ?_; refine VB.no (by omega) fun _ => ?_) | (refine VLd.is ?_; refine VLd.mk (.row aT (by rfl)) ?_)
 all_goals (conv => whnf)
 refine VLoop.mk (α := Nat × α) (fun z => z.1 ≤ n ∧ I z.1 z.2) (fun z => [(1000000, .tuple #[]), (0, .func (.yield l) #[] #[]), (2, .pointer (some ⟨b2, 0, none⟩)), (3, .pointer (some ⟨b3, 0, none⟩)), (7, .slice (some ⟨gu, 0, none⟩) n n), (8, .int .i64 (n : Int)), (9, .int .i64 (z.1 : Int))])
  (fun z => .row b1 132 [.slice (some ⟨gu, 0, none⟩) n n] :: .row b2 123 [.pointer (some ⟨x.b, 0, none⟩)] :: .row b3 3 [.int .i64 (i : Int)] :: .vec (some ⟨gu, 0, none⟩) n n 202 2 (flat usV U) :: G z.2) (fun z => n - z.1) (0, x0) ⟨Nat.zero_le _, h0⟩ aE aH ?_
 rintro ⟨k, v⟩ ⟨hk, hI⟩
 dsimp only at hk hI ⊢
 rcases Nat.lt_or_ge k n with hlt | hge
 ·have hu := hgt hlt
  have b1' := hbN (k : Int)
  have b2' := hbR (k : Int)
  have hst := fun h => step k v hlt h hI
  have hsk := fun h => skip k v hlt h hI
  have hsp := fun (w' : World) => space_any X x (useN cores (k : Int)) (useR X.N.syns cores (k : Int)) (by omega) (by omega) (k : Int) i hi w'
  unfold spaceP at hst hsk
  obtain ⟨u1, hu1⟩ : ∃ u, useN cores (k : Int) = u := ⟨_, rfl⟩
  obtain ⟨u2, hu2⟩ : ∃ u, useR X.N.syns cores (k : Int) = u := ⟨_, rfl⟩
  rw [hu1] at hu b1' hst hsk hsp
  rw [hu2] at hu b2' hst hsk hsp
  clear step skip fin
  repeat' (conv => whnf); first | (refine VIx.is ?_; refine VIx.mk rfl (by omega) (by omega) ?_) | (refine VNew.mk fun b6 => ?_) | (refine VLd.is ?_; refine VLd.mk (Rd.cast (.vec aT (sub_flat0 (f := usV) (k := 2) (fun _ => rfl) hu rfl)) (by first | omega | (dsimp only; omega) | rfl)) ?_) | (refine VCall.isF 106 ?_; (refine VCall.genR (fun w' hw' => hsp w' (hx w' (hw'.le ((hS v).trans aH)))) ?_; intro r hr; cases r <;> simp only [Bool.false_eq_true, false_iff, true_iff] at hr)) | (refine VYield.is ?_; refine VYield.is ?_; refine VYield.hle (VYield.mono (VYield.weak ?_ (hst hr)) fun r H' hr2 => ?_); (focus (exact aH)); rcases hr2 with ⟨rfl, y, hy, hl⟩ | ⟨rfl, hK⟩ <;> first | refine ⟨_, hl, ?_⟩ | refine ⟨_, HLe.refl _, ?_⟩) | (refine VSeq.go ?_) | (refine VB.is ?_; refine VB.yes (by omega) fun _ => ?_) | (refine VLd.is ?_; refine VLd.mk (.row aT (by rfl)) ?_) | (refine VSt.is ?_; refine VSt.row aT (by rfl) (by first | rfl | assumption) ?_) | (refine VAr.is ?_; refine oA ?_)
  all_goals (conv => whnf)
  all_goals first
   | exact hK
   | exact VNext.mk (k + 1, y) ⟨by dsimp only; omega, hy⟩ (by dsimp only; omega) aE aH
   | exact VNext.mk (k + 1, v) ⟨by dsimp only; omega, hsk hr⟩ (by dsimp only; omega) aE aH
 have hkl : k = n := by omega
 subst hkl
 repeat' (conv => whnf); first | (refine VSeq.go ?_) | (refine VB.is ?_; refine VB.no (by omega) fun _ => ?_) | (refine VLd.is ?_; refine VLd.mk (.row aT (by rfl)) ?_)
 all_goals (conv => whnf)
 exact fin v hI

end Go.Proofs
end

section

namespace Go.Proofs

open Go Go.Vx

def Marks (m : List (Int × Value)) (S : List Int) : Prop := ∀ k, mfind m k = if k ∈ S then some (.bool true) else none

theorem mfind_mset (m : List (Int × Value)) (j : Int) (v : Value) (k : Int) : mfind (mset m j v) k = if j = k then some v else mfind m k := by
 induction m with
 | nil => simp [mset, mfind]
 | cons x m ih =>
  obtain ⟨a, b⟩ := x
  simp only [mset, mfind]
  by_cases h : a = j
  ·subst h
   by_cases h2 : a = k <;> simp [mfind, h2]
  ·by_cases h2 : a = k
   ·have : ¬ j = k := fun e => h (by omega)
    subst h2
    rw [if_neg h, if_neg this]
    simp [mfind]
   ·simp [mfind, h, h2, ih]

theorem Marks.add {m : List (Int × Value)} {S : List Int} (h : Marks m S) (j : Int) : Marks (mset m j (.bool true)) (S ++ [j]) := by
 intro k
 rw [mfind_mset, h k]
 by_cases e : j = k
 ·subst e; simp
 ·have : ¬ k = j := fun h => e h.symm
  simp [e, this]

end Go.Proofs
end
