import Derived.Test.YtjjcoiicikaaiaaGreatPlaceRowsMz
import Derived.Test.YtjjcoiicikaaiaaGreatPlaceRowsBt
import Derived.Test.YtjjcoiicikaaiaaGreatPlaceRowsMi
set_option linter.unusedVariables false
set_option linter.unusedSimpArgs false
set_option maxHeartbeats 4000000
section

namespace Go.Proofs

open Go Go.Vx Go.Gm

theorem perm_pl (a b : Ent) (P G : HP) : (a :: b :: (P ++ G)).Perm (P ++ (a :: b :: G)) := by
 refine List.Perm.trans ?_ List.perm_middle.symm
 exact List.Perm.cons _ List.perm_middle.symm

theorem trees_iter2 {α : Type} {w0 : World} {H : HP} {K : Value → HP → Prop} (X : PlnX) (x : PlnM) (cores : List Int) (hA : AsgOk X.N X.C cores) (hup : PlnUp X X.N.syns x) (hrd : PlnRd X w0) (p : Option Addr) (c b o : Nat) (h1 : Sl w0 intV 1 cores p cores.length b o) (l b2 b3 : Nat) (I : Nat → α → Prop) (G : α → HP) (x0 : α) (h0 : I 0 x0)
  (hH : HLe (.row b2 123 [.pointer (some ⟨x.b, 0, none⟩)] :: .row b3 24 [.slice p cores.length c] :: (plnH X x ++ G x0)) H)
  (step : ∀ k v z, k < nSrc X.N → tgtM X.N X.N.syns (k : Int) ≠ [] → I k v →
   VYield Tryz.cx.P w0 [] (treH X.N X.C cores (k : Int) z ++ (.row b2 123 [.pointer (some ⟨x.b, 0, none⟩)] :: .row b3 24 [.slice p cores.length c] :: (plnH X x ++ G v))) l [.agg (treC X.N X.C cores (k : Int) z).toArray] fun r H' => (r = .bool true ∧ ∃ y, I (k + 1) y ∧ HLe (.row b2 123 [.pointer (some ⟨x.b, 0, none⟩)] :: .row b3 24 [.slice p cores.length c] :: (plnH X x ++ G y)) H') ∨ (r = .bool false ∧ K (.tuple #[]) H'))
  (skip : ∀ k v, k < nSrc X.N → tgtM X.N X.N.syns (k : Int) = [] → I k v → I (k + 1) v)
  (fin : ∀ v, I (nSrc X.N) v → K (.tuple #[]) (.row b2 123 [.pointer (some ⟨x.b, 0, none⟩)] :: .row b3 24 [.slice p cores.length c] :: (plnH X x ++ G v))) :
  VCall Tryz.cx.P w0 [] H 109 [.func (.yield l) #[] #[], .pointer (some ⟨b2, 0, none⟩), .pointer (some ⟨b3, 0, none⟩)] K := by
 have hns : nSrc X.N ≤ 256 := by
  have := hA.plan.few
  have := hA.plan.net.inputs
  unfold nSrc; omega
 have hTl : x.T.length = nSrc X.N := by
  have := congrArg List.length hup.T
  rw [List.length_map] at this
  rw [this]; unfold tgtL; simp
 have k11 : sub (plnV X x) 11 1 = some [.slice (some ⟨x.gt, 0, none⟩) x.T.length x.T.length] := rfl
 refine VCall.le hH ?_
 refine VCall.inl (F := Tryz.fx109) Tryz.func109 rfl rfl rfl Tryz.ok109 ?_
 repeat' (conv => whnf); first | (refine VLd.is ?_; refine VLd.mk (Rd.cast (.row (.there (.there .here)) k11) (by first | omega | (dsimp only; omega) | rfl)) ?_) | (refine VSeq.go ?_) | (refine VLd.is ?_; refine VLd.mk (.row aT (by rfl)) ?_)
 all_goals (conv => whnf)
 refine VLoop.mk (α := Nat × α) (fun z => z.1 ≤ nSrc X.N ∧ I z.1 z.2) (fun z => [(1000000, .tuple #[]), (0, .func (.yield l) #[] #[]), (1, .pointer (some ⟨b2, 0, none⟩)), (2, .pointer (some ⟨b3, 0, none⟩)), (9, .slice (some ⟨x.gt, 0, none⟩) x.T.length x.T.length), (10, .int .i64 (x.T.length : Int)), (11, .int .i64 (z.1 : Int))])
  (fun z => .row b2 123 [.pointer (some ⟨x.b, 0, none⟩)] :: .row b3 24 [.slice p cores.length c] :: (plnH X x ++ G z.2)) (fun z => nSrc X.N - z.1) (0, x0) ⟨Nat.zero_le _, h0⟩ aE (HLe.refl _) ?_
 rintro ⟨k, v⟩ ⟨hk, hI⟩
 dsimp only at hk hI ⊢
 rcases Nat.lt_or_ge k (nSrc X.N) with hlt | hge
 ·obtain ⟨d, hd⟩ : ∃ d, x.T[k]? = some d := ⟨_, List.getElem?_eq_getElem (by omega)⟩
  have hdl : d.l = tgtM X.N X.N.syns (k : Int) := by
   have := congrArg (fun L => L[k]?) hup.T
   rw [List.getElem?_map, hd] at this
   unfold tgtL at this
   rw [List.getElem?_map, List.getElem?_range hlt] at this
   simpa using this
  have hpt := fun (hne : 0 < d.l.length) (w' : World) => ptree_any X x cores hA k hlt (by rw [← hdl]; exact List.length_pos_iff.1 hne) p c b o w'
  have hst := fun (hne : 0 < d.l.length) z => step k v z hlt (by rw [← hdl]; exact List.length_pos_iff.1 hne) hI
  have hsk := fun (hne : ¬ 0 < d.l.length) => skip k v hlt (by rw [← hdl]; exact List.length_eq_zero_iff.1 (by omega)) hI
  repeat' (conv => whnf); first | (refine VIx.is ?_; refine VIx.mk rfl (by omega) (by omega) ?_) | (refine VLd.is ?_; refine VLd.mk (Rd.cast (.vec (.there (.there (.there .here))) (sub_flat0 (vs := [.slice d.p d.l.length d.c]) (s := 1) (f := srV) (k := 1) (fun _ => rfl) hd rfl)) (by first | omega | (dsimp only; omega) | rfl)) ?_) | (refine VCall.isF 110 ?_; (refine VCall.genR (fun w' hw' => hpt (by omega) w' (PlnAt.of hA.plan hup (hrd.keep hw') hw' (HLe.of_sub _ (perm_pl _ _ _ _))) (h1.keep hw' (by simp))) ?_; rintro z _)) | (refine VYield.is ?_; refine VYield.is ?_; refine VYield.hle (VYield.mono (VYield.weak (HLe.refl _) (hst (by omega) z)) fun r H' hr => ?_); rcases hr with ⟨rfl, y, hy, hl⟩ | ⟨rfl, hK⟩ <;> first | refine ⟨_, hl, ?_⟩ | refine ⟨_, HLe.refl _, ?_⟩) | (refine VSeq.go ?_) | (refine VB.is ?_; refine VB.yes (by omega) fun _ => ?_) | (refine VB.split (fun _ => ?_) (fun _ => ?_)) | (refine VLd.is ?_; refine VLd.mk (.row aT (by rfl)) ?_) | (refine VAr.is ?_; refine oA ?_)
  all_goals (conv => whnf)
  ·exact VNext.mk (k + 1, y) ⟨by dsimp only; omega, hy⟩ (by dsimp only; omega) aE (HLe.refl _)
  ·exact hK
  ·exact VNext.mk (k + 1, v) ⟨by dsimp only; omega, hsk (by omega)⟩ (by dsimp only; omega) aE (HLe.refl _)
 have hkl : k = nSrc X.N := by omega
 subst hkl
 repeat' (conv => whnf); first | (refine VSeq.go ?_) | (refine VB.is ?_; refine VB.no (by omega) fun _ => ?_)
 all_goals (conv => whnf)
 exact fin v hI

end Go.Proofs
end

section

namespace Go.Proofs

open Go Go.Vx Go.Gm

theorem _root_.Go.Vx.VShR.zero32 {a : Nat} (h : a < 4294967296) {k : Int → Prop} (hk : k ((0 : Nat) : Int)) : VShR .u64 (a : Int) 32 k :=
 VShR.natU (a := a) 32 (by omega) fun c hc _ => by
  have : c = 0 := by rw [hc, Nat.shiftRight_eq_div_pow]; exact Nat.div_eq_of_lt h
  rw [this]; exact hk

theorem _root_.Go.Vx.VBit.mask32 {a : Nat} (h : a < 4294967296) {k : Int → Prop} (hk : k (a : Int)) : VBit .and .u64 (a : Int) 4294967295 k :=
 VBit.andU (b := 4294967295) (by omega) (by omega) fun c hc _ => by
  have : c = a := by
   rw [hc]
   have : (4294967295 : Nat) = 2 ^ 32 - 1 := rfl
   rw [this, Nat.and_two_pow_sub_one_eq_mod, Nat.mod_eq_of_lt (by omega)]
  rw [this]; exact hk

theorem bitsMul_one (n : Nat) (hn : n < 65536) (w : World) : Calls Tryz.prog 108 #[.int .u64 ((1 : Nat) : Int), .int .u64 (n : Int)] w fun e w' => e = .returned (.tuple #[.int .u64 ((0 : Nat) : Int), .int .u64 (n : Int)]) ∧ St w [] [] w' := by
 refine enter (C := Tryz.cx) (F := Tryz.fx108) (args := [_, _]) Tryz.func108 rfl rfl rfl Tryz.ok108 (St.start w []) ?_
 repeat' (conv => whnf); first | (refine VCall.isF 147 ?_; refine VCall.inl (F := Tryz.fx147) Tryz.func147 rfl rfl rfl Tryz.ok147 ?_) | (refine VShR.is ?_; refine VShR.is ?_; refine VShR.zero32 (by omega) ?_) | (refine VBit.is ?_; refine VBit.is ?_; refine VBit.mask32 (by omega) ?_) | (refine VAr.is ?_; refine VAr.is ?_; refine VAr.u64g (by omega) (by omega) fun c hc => ?_; first | (have e : c = 0 := (by omega); subst e; clear hc) | (have e : n = c := (by omega); subst e; clear hc)) | (refine VSeq.go ?_)
 all_goals (conv => whnf)
 exact ⟨fun w' hw' => ⟨rfl, hw'.le .nil⟩⟩

theorem rep_upd {n j m : Nat} {v : Int} (h : j + m ≤ n) : upd (flat intV (List.replicate j v ++ List.replicate (n - j) 0)) (j * 1) (flat intV (List.replicate m v)) = some (flat intV (List.replicate (j + m) v ++ List.replicate (n - (j + m)) 0)) := by
 have e1 : ∀ q (a : Int), (flat intV (List.replicate q a)).length = q := fun q a => by rw [flat_length (k := 1) (fun _ => rfl), List.length_replicate, Nat.mul_one]
 have h1 : (flat intV (List.replicate j v ++ List.replicate (n - j) 0)).length = n := by rw [flat_append, List.length_append, e1, e1]; omega
 rw [upd_mk _ _ _ (by rw [h1, e1]; omega)]
 congr 1
 rw [Nat.mul_one, flat_append, flat_append]
 have e2 : (flat intV (List.replicate j v) ++ flat intV (List.replicate (n - j) 0)).take j = flat intV (List.replicate j v) := by
  have := List.take_left (l₁ := flat intV (List.replicate j v)) (l₂ := flat intV (List.replicate (n - j) 0))
  rw [e1] at this; exact this
 have e3 : (flat intV (List.replicate j v) ++ flat intV (List.replicate (n - j) 0)).drop (j + (flat intV (List.replicate m v)).length) = flat intV (List.replicate (n - (j + m)) 0) := by
  have e4 : List.replicate (n - j) (0 : Int) = List.replicate m 0 ++ List.replicate (n - (j + m)) 0 := by rw [List.replicate_append_replicate]; congr 1; omega
  rw [e4, flat_append, ← List.append_assoc]
  have := List.drop_left (l₁ := flat intV (List.replicate j v) ++ flat intV (List.replicate m (0 : Int))) (l₂ := flat intV (List.replicate (n - (j + m)) (0 : Int)))
  rw [List.length_append, e1, e1] at this
  rw [e1]; exact this
 rw [e2, e3, ← flat_append, List.replicate_append_replicate]

theorem rep_sub {n j m : Nat} {v : Int} (h : j ≤ n) (hm : m ≤ j) : sub (flat intV (List.replicate j v ++ List.replicate (n - j) 0)) 0 (m * 1) = some (flat intV (List.replicate m v)) := by
 have e1 : ∀ q (a : Int), (flat intV (List.replicate q a)).length = q := fun q a => by rw [flat_length (k := 1) (fun _ => rfl), List.length_replicate, Nat.mul_one]
 rw [sub_mk _ _ _ (by rw [flat_append, List.length_append, e1, e1]; omega), Nat.mul_one, List.drop_zero]
 congr 1
 have e4 : List.replicate j v ++ List.replicate (n - j) (0 : Int) = List.replicate m v ++ (List.replicate (j - m) v ++ List.replicate (n - j) 0) := by
  rw [← List.append_assoc, List.replicate_append_replicate]; congr 2; omega
 rw [e4, flat_append]
 have := List.take_left (l₁ := flat intV (List.replicate m v)) (l₂ := flat intV (List.replicate (j - m) v ++ List.replicate (n - j) (0 : Int)))
 rw [e1] at this; exact this

theorem oneAll_ints : ∀ l : List Int, oneAll (flat intV l) = true
 | [] => rfl
 | x :: l => by
  have := oneAll_ints l
  simpa [flat, oneAll, intV, Value.oneCell'] using this

theorem repeat_any (v : Int) (n : Nat) (hn : n < 65536) (b o c : Nat) (w : World) (h1 : Sl w intV 1 [v] (some ⟨b, o, none⟩) 1 b o) :
  Calls Tryz.prog 70 #[.slice (some ⟨b, o, none⟩) 1 c, .int .i64 (n : Int)] w fun e w' => ∃ g : Nat, e = .returned (.slice (some ⟨g, 0, none⟩) n n) ∧ True ∧ St w [] [.vec (some ⟨g, 0, none⟩) n n 3 1 (flat intV (List.replicate n v))] w' := by
 have hmul := fun w' => bitsMul_one n hn w'
 refine enter (C := Tryz.cx) (F := Tryz.fx70) (args := [_, _]) Tryz.func70 rfl rfl rfl Tryz.ok70 (St.start w []) ?_
 repeat' (conv => whnf); first | (refine VCall.isF 108 ?_; (refine VCall.valR (fun w' _ => hmul w') ?_)) | (refine VAr.is ?_; refine VAr.is ?_; refine VAr.u64g (by omega) (by omega) fun c hc => ?_; first | (have e : c = 1 := (by omega); subst e; clear hc) | (have e : n = c := (by omega); subst e; clear hc)) | (refine VMk.is ?_; refine VMk.mk (by omega) (by omega) (by (try dsimp only); omega) (by omega) fun g => ?_) | (refine VSeq.go ?_) | (refine VB.is ?_; refine VB.no (by omega) fun _ => ?_) | (refine VAr.is ?_; refine oA ?_)
 all_goals (conv => whnf)
 have hsrc : ∀ H, Src w [] H (some ⟨b, o, none⟩) (min 1 n) 1 (flat intV (List.replicate (min 1 n) v)) := fun H => by
  by_cases h0 : n = 0
  ·subst h0; exact .none0
  ·have : min 1 n = 1 := by omega
   rw [this]
   exact h1.src (by simp) (fun _ => rfl)
 have hu0 := rep_upd (n := n) (j := 0) (m := min 1 n) (v := v) (by omega)
 rw [Nat.zero_mul, Nat.zero_add, List.replicate_zero, List.nil_append, Nat.sub_zero, ← flat_rep] at hu0
 refine VCp.into (off := 0) rfl (hsrc _) (VSt.vec aT hu0 (oneAll_ints _) ?_)
 repeat' (conv => whnf); first | (refine VSeq.go ?_) | (refine VB.is ?_; refine VB.no (by omega) fun _ => ?_)
 all_goals (conv => whnf)
 refine VLoop.mk (α := Nat) (fun j => j ≤ n ∧ (1 ≤ j ∨ n = 0)) (fun j => [(1000000, .tuple #[]), (4, .slice none 0 0), (7, .slice (some ⟨g, 0, none⟩) n n), (8, .int .i64 (j : Int))])
  (fun j => [.vec (some ⟨g, 0, none⟩) n n 3 1 (flat intV (List.replicate j v ++ List.replicate (n - j) 0))]) (fun j => n - j) (min 1 n) ⟨by omega, by omega⟩ aE aH ?_
 rintro j ⟨hj, hj1⟩
 rcases Nat.lt_or_ge j n with hlt | hge
 ·have hu := rep_upd (n := n) (j := j) (m := min j (n - j)) (v := v) (by omega)
  have hs := rep_sub (n := n) (j := j) (m := min j (n - j)) (v := v) (by omega) (by omega)
  repeat' (conv => whnf); first | (refine VSl.is ?_; refine VSl.is ?_; first | refine VSl.cut0 (m := j) (cap := n) (by omega) ?_ | (refine VSl.off (l := j) (h := n) (c := n) rfl rfl rfl (by omega) (by omega) fun off hoff => ?_; have hoe := hoff (by omega); subst hoe)) | (refine VCp.is ?_; refine VCp.is ?_; refine VCp.into rfl (.at_ (.vec aT hs)) (VSt.cast (off' := j * 1) (by first | omega | (dsimp only; omega) | rfl) (VSt.vec aT hu (oneAll_ints _) ?_))) | (refine VSeq.go ?_) | (refine VB.is ?_; refine VB.yes (by omega) fun _ => ?_) | (refine VAr.is ?_; refine oA ?_) | (refine VHs.mk _ (.refl _) ?_)
  all_goals (conv => whnf)
  have e : (j : Int) + ((min j (n - j) : Nat) : Int) = ((j + min j (n - j) : Nat) : Int) := by omega
  rw [e]
  exact VNext.mk (j + min j (n - j)) ⟨by omega, by omega⟩ (by omega) aE aH
 have hjn : j = n := by omega
 subst hjn
 rw [Nat.sub_self, List.replicate_zero, List.append_nil]
 repeat' (conv => whnf); first | (refine VSeq.go ?_) | (refine VB.is ?_; refine VB.no (by omega) fun _ => ?_)
 all_goals (conv => whnf)
 exact ⟨fun w' hw' => ⟨g, rfl, trivial, hw'.le aH⟩⟩

end Go.Proofs
end

section

namespace Go.Gm

end Go.Gm

namespace Go.Proofs

open Go Go.Vx Go.Gm

end Go.Proofs
end
