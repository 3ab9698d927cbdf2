import Derived.Test.YtjjcoiicikaaiaaGreatPlaceMapsMi
import Derived.Test.YtjjcoiicikaaiaaGreatPlaceMapsMj
import Derived.Test.YtjjcoiicikaaiaaGreatPlaceMapsNa
import Derived.Shelf.SlSortCmp.NoneTotal
import Derived.KernelRfl
import Derived.Test.YtjjcoiicikaaiaaGreatPlaceMapsPv
import Derived.WalkKit
import Derived.Sort.Grow
import Derived.RegionTactic
import Derived.Test.YtjjcoiicikaaiaaGreatPlaceMapsMt
set_option linter.unusedVariables false
set_option linter.unusedSimpArgs false
set_option maxHeartbeats 4000000
section

namespace Go.Proofs

open Go Go.Vx Go.Gm

theorem rstep_some (l : List Ety) (hl : ∀ x ∈ l, EtyOk x) (hll : l.length ≤ 1024) (keys : List Int) (hk : ∀ k ∈ keys, 0 ≤ k ∧ k ≤ 65535) (hkl : keys.length ≤ 1024) (p : Option Addr) (c b o : Nat) (hc : l.length ≤ c) (pk : Option Addr) (ck bk ok : Nat) (w : World) (h1 : Sl w etyV 3 l p l.length b o) (hsk : Sl w intV 1 keys pk keys.length bk ok) {t : List Ety} (ht : mergeStep l l keys = some t) :
  Calls Tryz.prog 169 #[.slice p l.length c, .slice pk keys.length ck] w fun e w' => ∃ z : Nat × Nat, e = .returned (.tuple #[.slice (some ⟨z.1, 0, none⟩) t.length z.2, .bool true]) ∧ True ∧ St w [] [.vec (some ⟨z.1, 0, none⟩) t.length z.2 178 3 (flat etyV t)] w' :=
 (rstep_any l hl hll keys hk hkl p c b o hc pk ck bk ok w h1 hsk).mono fun e w' h => by
  rcases h with ⟨t', g, cz, h1, h2, h3⟩ | ⟨h1, _⟩
  ·rw [ht] at h1
   cases h1
   exact ⟨(g, cz), h2, trivial, h3⟩
  ·rw [ht] at h1; cases h1

theorem rstep_none (l : List Ety) (hl : ∀ x ∈ l, EtyOk x) (hll : l.length ≤ 1024) (keys : List Int) (hk : ∀ k ∈ keys, 0 ≤ k ∧ k ≤ 65535) (hkl : keys.length ≤ 1024) (p : Option Addr) (c b o : Nat) (hc : l.length ≤ c) (pk : Option Addr) (ck bk ok : Nat) (w : World) (h1 : Sl w etyV 3 l p l.length b o) (hsk : Sl w intV 1 keys pk keys.length bk ok) (ht : mergeStep l l keys = none) :
  Calls Tryz.prog 169 #[.slice p l.length c, .slice pk keys.length ck] w fun e w' => e = .returned (.tuple #[.slice p l.length c, .bool false]) ∧ St w [] [] w' :=
 (rstep_any l hl hll keys hk hkl p c b o hc pk ck bk ok w h1 hsk).mono fun e w' h => by
  rcases h with ⟨t', g, cz, h1, h2, h3⟩ | ⟨h1, h2, h3⟩
  ·rw [ht] at h1; cases h1
  ·exact ⟨h2, h3⟩

theorem rmerge_any (l : List Ety) (hl : ∀ x ∈ l, EtyOk x) (hll : l.length ≤ 1024) (keys : List Int) (hk : ∀ k ∈ keys, 0 ≤ k ∧ k ≤ 65535) (hkl : keys.length ≤ 1024) (p : Option Addr) (c b o : Nat) (pk : Option Addr) (ck bk ok : Nat) (w : World) (h1 : Sl w etyV 3 l p l.length b o) (hsk : Sl w intV 1 keys pk keys.length bk ok) :
  Calls Tryz.prog 130 #[.slice p l.length c, .slice pk keys.length ck] w fun e w' => ∃ z : Option Addr × Nat, e = .returned (.tuple #[.slice z.1 (mergeM l keys).length z.2, .int .i64 0]) ∧ (0 < (mergeM l keys).length → ∃ g, z.1 = some ⟨g, 0, none⟩) ∧ St w [] [.vec z.1 (mergeM l keys).length z.2 178 3 (flat etyV (mergeM l keys))] w' := by
 refine enter (C := Tryz.cx) (F := Tryz.fx130) (args := [_, _]) Tryz.func130 rfl rfl rfl Tryz.ok130 (St.start w []) ?_
 repeat' (conv => whnf); first | (refine VSeq.go ?_) | (refine VB.is ?_; refine VB.no (by omega) fun _ => ?_)
 all_goals (conv => whnf)
 refine VLoop.mk (α := Nat) (fun i => i ≤ l.length) (fun i => [(1000000, .tuple #[]), (0, .slice p l.length c), (1, .slice pk keys.length ck), (4, .slice none 0 0), (5, .int .i64 0), (6, .int .i64 (i : Int))])
  (fun _ => []) (fun i => l.length - i) 0 (Nat.zero_le _) aE aH ?_
 rintro i hi
 rcases Nat.lt_or_ge i l.length with hlt | hge
 ·obtain ⟨x, hx⟩ := h1.get hlt
  have hv := fun w' => rvalid_any x (hl x (List.mem_of_getElem? hx)) w'
  unfold etyV at hv
  repeat' (conv => whnf); first | (refine VIx.is ?_; refine VIx.mk (h1.ptr (by omega)) (by omega) (by omega) ?_) | (refine VLd.is ?_; refine VLd.mk (Rd.cast (h1.rd0 (by simp) (fun _ => rfl) hx (etyV_sub x)) (by first | omega | (dsimp only; omega) | rfl)) ?_) | (refine VCall.isF 168 ?_; (refine VCall.valR (fun w' _ => hv w') ?_)) | (refine VSeq.go ?_) | (refine VB.is ?_; refine VB.yes (by omega) fun _ => ?_) | (refine VAr.is ?_; refine oA ?_)
  all_goals (conv => whnf)
  exact VNext.mk (i + 1) (by omega) (by omega) aE (HLe.refl _)
 have hie : i = l.length := by omega
 subst hie
 repeat' (conv => whnf); first | (refine VSeq.go ?_) | (refine VB.is ?_; refine VB.no (by omega) fun _ => ?_)
 all_goals (conv => whnf)
 refine VLoop.mk (α := Nat) (fun i => i ≤ keys.length) (fun i => [(1000000, .tuple #[]), (0, .slice p l.length c), (1, .slice pk keys.length ck), (4, .slice none 0 0), (5, .int .i64 0), (7, .int .i64 (i : Int))])
  (fun _ => []) (fun i => keys.length - i) 0 (Nat.zero_le _) aE aH ?_
 rintro i hi
 rcases Nat.lt_or_ge i keys.length with hlt | hge
 ·obtain ⟨x, hx⟩ := hsk.get hlt
  have hxr := hk x (List.mem_of_getElem? hx)
  repeat' (conv => whnf); first | (refine VIx.is ?_; refine VIx.mk (hsk.ptr (by omega)) (by omega) (by omega) ?_) | (refine VLd.is ?_; refine VLd.mk (Rd.cast (hsk.rd0 (by simp) (fun _ => rfl) hx rfl) (by first | omega | (dsimp only; omega) | rfl)) ?_) | (refine VSeq.go ?_) | (refine VB.is ?_; refine VB.yes (by omega) fun _ => ?_) | (refine VB.is ?_; refine VB.no (by omega) fun _ => ?_) | (refine VAr.is ?_; refine oA ?_)
  all_goals (conv => whnf)
  exact VNext.mk (i + 1) (by omega) (by omega) aE (HLe.refl _)
 have hie : i = keys.length := by omega
 subst hie
 repeat' (conv => whnf); first | (refine VNew.mk fun bn => ?_) | (refine VAp.is ?_; refine VAp.own aT (h1.src (by simp) (fun _ => rfl)) (flat_one_cell (by simp [etyV, Value.oneCell'])) (by (try dsimp only); omega) (by simp only [maxLen]; omega) (fun p1 c1 hp1 => ?_); simp only [Nat.zero_add, List.nil_append]) | (refine VSeq.go ?_) | (refine VB.is ?_; refine VB.no (by omega) fun _ => ?_)
 all_goals (conv => whnf)
 refine VLoop.mk (α := MgS) (fun z => (∀ x ∈ z.t, EtyOk x) ∧ z.t.length ≤ l.length ∧ sameE l z.t keys = true ∧ mergeM l keys = (if z.more = true then mergeE l keys z.t else z.t) ∧ (0 < z.t.length → ∃ g, z.p = some ⟨g, 0, none⟩)) (fun z => [(1000000, .tuple #[]), (1, .slice pk keys.length ck), (4, .slice none 0 0), (5, .int .i64 0), (8, .slice z.p z.t.length z.c), (9, .bool z.more)])
  (fun z => [.vec z.p z.t.length z.c 178 3 (flat etyV z.t)]) (fun z => 2 * z.t.length + if z.more = true then 1 else 0) ⟨l, p1, c1, true⟩ ⟨hl, Nat.le_refl _, sameE_refl l keys, by rw [if_pos rfl]; rfl, fun h => hp1 (by dsimp only at h; omega)⟩ aE aH ?_
 clear hp1
 rintro ⟨t, q, cq, more⟩ ⟨hto, htl, hts, htm, htp⟩
 dsimp only at hto htl hts htm htp ⊢
 cases more with
 | true =>
  rw [if_pos rfl] at htm
  cases hms : mergeStep l t keys with
  | some t' =>
   have hml := mergeStep_len hms
   have hmo := mergeStep_ok hto hms
   have hme := mergeE_step hms
   have hms2 := hms
   rw [mergeStep_same hts] at hms2
   have hj := fun (w' : World) (hsk : Sl w' intV 1 keys pk keys.length bk ok) hc bq oq (hq : Sl w' etyV 3 t q t.length bq oq) => rstep_some t hto (by omega) keys hk (by omega) q cq bq oq hc pk ck bk ok w' hq hsk hms2
   repeat' (conv => whnf); first | (refine VCall.isF 169 ?_; (refine VCall.genR (fun w' hw' => Exists.elim (Sl.own (f := etyV) (l := t) (k := 3) hw' aT (fun _ => rfl) rfl) fun bq hq => hj w' (hsk.keep hw' (by simp)) (vec_facts (hw'.own _ List.mem_cons_self)).1 bq 0 hq) ?_; rintro ⟨gz, cz⟩ _)) | (refine VSeq.go ?_)
   all_goals (conv => whnf)
   refine VNext.mk ⟨t', some ⟨gz, 0, none⟩, cz, true⟩ ⟨hmo.1, by dsimp only; omega, hmo.2, by dsimp only; rw [if_pos rfl, htm, hme], fun _ => ⟨gz, rfl⟩⟩ (by dsimp only; omega) aE aH
  | none =>
   have hme := mergeE_stop hms
   have hms2 := hms
   rw [mergeStep_same hts] at hms2
   have hj := fun (w' : World) (hsk : Sl w' intV 1 keys pk keys.length bk ok) hc bq oq (hq : Sl w' etyV 3 t q t.length bq oq) => rstep_none t hto (by omega) keys hk (by omega) q cq bq oq hc pk ck bk ok w' hq hsk hms2
   repeat' (conv => whnf); first | (refine VCall.isF 169 ?_; (refine VCall.valR (fun w' hw' => Exists.elim (Sl.own (f := etyV) (l := t) (k := 3) hw' aT (fun _ => rfl) rfl) fun bq hq => hj w' (hsk.keep hw' (by simp)) (vec_facts (hw'.own _ List.mem_cons_self)).1 bq 0 hq) ?_)) | (refine VSeq.go ?_)
   all_goals (conv => whnf)
   refine VNext.mk ⟨t, q, cq, false⟩ ⟨hto, htl, hts, by dsimp only; rw [if_neg Bool.false_ne_true, htm, hme], htp⟩ (by dsimp only; rw [if_neg Bool.false_ne_true, if_pos rfl]; omega) aE aH
 | false =>
  rw [if_neg Bool.false_ne_true] at htm
  repeat' (conv => whnf); first | (refine VSeq.go ?_) | (refine VB.is ?_; refine VB.no (by omega) fun _ => ?_)
  all_goals (conv => whnf)
  rw [htm]
  exact ⟨fun w' hw' => ⟨(q, cq), rfl, htp, hw'.le aH⟩⟩

end Go.Proofs
end

section
set_option linter.unusedVariables false

namespace Go.Proofs

open Go.Shelf

def Tryz.sortE7_ren : Go.Shelf.Ren := ⟨fun | 6 => 114 | 15 => 156 | 14 => 155 | 28 => 184 | 29 => 185 | 20 => 176 | 21 => 177 | 22 => 178 | 23 => 179 | 24 => 180 | 25 => 181 | 26 => 182 | 27 => 183 | 46 => 199 | 47 => 200 | 48 => 201 | 49 => 202 | 50 => 203 | 57 => 210 | n => n, fun | 22 => 84 | 24 => 98 | 25 => 218 | 3 => 3 | 39 => 205 | 0 => 0 | 53 => 251 | 55 => 254 | 4 => 4 | 46 => 280 | 45 => 279 | 50 => 78 | 5 => 5 | 9 => 9 | 66 => 294 | 70 => 248 | 76 => 302 | 77 => 303 | n => n, fun | n => n⟩

theorem Tryz.sortE7 : Go.Proofs.SlLaysF0.n6 Tryz.prog Tryz.sortE7_ren := {
 mixed := by kernel_rfl
 f6 := ⟨Tryz.f114.name, by decide, Tryz.func114.trans (congrArg some (by kernel_rfl))⟩
 f14 := ⟨Tryz.f155.name, by decide, Tryz.func155.trans (congrArg some (by kernel_rfl))⟩
 f15 := Tryz.func156.trans (congrArg some (by kernel_rfl))
 f20 := ⟨Tryz.f176.name, by decide, Tryz.func176.trans (congrArg some (by kernel_rfl))⟩
 f21 := ⟨Tryz.f177.name, by decide, Tryz.func177.trans (congrArg some (by kernel_rfl))⟩
 f22 := ⟨Tryz.f178.name, by decide, Tryz.func178.trans (congrArg some (by kernel_rfl))⟩
 f23 := ⟨Tryz.f179.name, by decide, Tryz.func179.trans (congrArg some (by kernel_rfl))⟩
 f24 := ⟨Tryz.f180.name, by decide, Tryz.func180.trans (congrArg some (by kernel_rfl))⟩
 f25 := ⟨Tryz.f181.name, by decide, Tryz.func181.trans (congrArg some (by kernel_rfl))⟩
 f26 := ⟨Tryz.f182.name, by decide, Tryz.func182.trans (congrArg some (by kernel_rfl))⟩
 f27 := ⟨Tryz.f183.name, by decide, Tryz.func183.trans (congrArg some (by kernel_rfl))⟩
 f28 := Tryz.func184.trans (congrArg some (by kernel_rfl))
 f29 := Tryz.func185.trans (congrArg some (by kernel_rfl))
 f46 := ⟨Tryz.f199.name, by decide, Tryz.func199.trans (congrArg some (by kernel_rfl))⟩
 f47 := Tryz.func200.trans (congrArg some (by kernel_rfl))
 f48 := Tryz.func201.trans (congrArg some (by kernel_rfl))
 f49 := ⟨Tryz.f202.name, by decide, Tryz.func202.trans (congrArg some (by kernel_rfl))⟩
 f50 := ⟨Tryz.f203.name, by decide, Tryz.func203.trans (congrArg some (by kernel_rfl))⟩
 f57 := ⟨Tryz.f210.name, by decide, Tryz.func210.trans (congrArg some (by kernel_rfl))⟩
 t0 := Tryz.underlying0
 a0 := Tryz.isAgg0
 z0 := Tryz.sizeOf0
 v0 := Tryz.zeroValue0
 t3 := Tryz.underlying3
 a3 := Tryz.isAgg3
 z3 := Tryz.sizeOf3
 v3 := Tryz.zeroValue3
 t4 := Tryz.underlying4
 a4 := Tryz.isAgg4
 z4 := Tryz.sizeOf4
 v4 := Tryz.zeroValue4
 t5 := Tryz.underlying5
 a5 := Tryz.isAgg5
 z5 := Tryz.sizeOf5
 v5 := Tryz.zeroValue5
 t9 := Tryz.underlying9
 a9 := Tryz.isAgg9
 z9 := Tryz.sizeOf9
 v9 := Tryz.zeroValue9
 t22 := Tryz.underlying84
 a22 := Tryz.isAgg84
 z22 := Tryz.sizeOf84
 v22 := Tryz.zeroValue84
 t25 := Tryz.underlying218
 a25 := Tryz.isAgg218
 z25 := Tryz.sizeOf218
 v25 := Tryz.zeroValue218
 t39 := Tryz.underlying205
 a39 := Tryz.isAgg205
 z39 := Tryz.sizeOf205
 v39 := Tryz.zeroValue205
 t45 := Tryz.underlying279
 a45 := Tryz.isAgg279
 z45 := Tryz.sizeOf279
 v45 := Tryz.zeroValue279
 t46 := Tryz.underlying280
 a46 := Tryz.isAgg280
 z46 := Tryz.sizeOf280
 v46 := Tryz.zeroValue280
 t50 := Tryz.underlying78
 a50 := Tryz.isAgg78
 z50 := Tryz.sizeOf78
 v50 := Tryz.zeroValue78
 t53 := Tryz.underlying251
 a53 := Tryz.isAgg251
 z53 := Tryz.sizeOf251
 v53 := Tryz.zeroValue251
 t55 := Tryz.underlying254
 a55 := Tryz.isAgg254
 z55 := Tryz.sizeOf254
 v55 := Tryz.zeroValue254
 t66 := Tryz.underlying294
 a66 := Tryz.isAgg294
 z66 := Tryz.sizeOf294
 v66 := Tryz.zeroValue294
 t70 := Tryz.underlying248
 a70 := Tryz.isAgg248
 z70 := Tryz.sizeOf248
 v70 := Tryz.zeroValue248
 t76 := Tryz.underlying302
 a76 := Tryz.isAgg302
 z76 := Tryz.sizeOf302
 v76 := Tryz.zeroValue302
 t77 := Tryz.underlying303
 a77 := Tryz.isAgg303
 z77 := Tryz.sizeOf303
 v77 := Tryz.zeroValue303 }

end Go.Proofs
end

section

namespace Go.Proofs

open Go Go.RowKit Go.Lib Go.Vx Go.Gm

open Go.Sort (grow alloc_eq_grow grow_grow flatK HoldsK putRowK)

def cmpJ (x y : Int) : Int := if x < y then -1 else if y < x then 1 else 0

theorem isNaN_k7 (x : Int) (w : World) : Calls Tryz.prog 157 #[.int .i64 x] w fun e w' => e = .returned (.bool false) ∧ w' = w := by
 go_enter Tryz.func157, Tryz.ntmps157
 go_wp2
 go_ret
 exact ⟨by simp, rfl⟩

theorem compare_k7 (x y : Int) (w : World) : Calls Tryz.prog 116 #[.int .i64 x, .int .i64 y] w fun e w' => e = .returned (.int .i64 (cmpJ x y)) ∧ w' = w := by
 go_enter Tryz.func116, Tryz.ntmps116
 go_wp2_with (go_at_call 157; refine (isNaN_k7 _ _).mono ?_; rintro e w' ⟨rfl, hw⟩; rw [hw])
 all_goals (go_ret; refine ⟨?_, rfl⟩; unfold cmpJ; (repeat' split) <;> first | rfl | (exfalso; omega))

def entV (g : Int → Int) (x : Int) : List Value := [.int .i64 x, .int .i64 65535, .int .i64 (g x)]

set_option maxRecDepth 100000 in
theorem cmpEnt_k (g : Int → Int) (x y : Int) (W : World) : Calls Tryz.prog 115 #[.agg (entV g x).toArray, .agg (entV g y).toArray] W fun e w' => e = .returned (.int .i64 (cmpJ x y)) ∧ ∃ q os', w' = Go.Sort.grow (W.drewN q) os' := by
 have h1 := fun W' => compare_k7 x y W'
 unfold entV
 generalize cmpJ x y = a at h1 ⊢
 go_enter Tryz.func115, Tryz.ntmps115
 go_wp2_with (go_at_call 116; refine (h1 _).mono ?_; rintro e w' ⟨rfl, hw⟩; rw [hw])
 all_goals
  go_ret
  refine ⟨rfl, 0, #[Obj.cells #[.int .i64 x, .int .i64 65535, .int .i64 (g x)] 98, Obj.cells #[.int .i64 y, .int .i64 65535, .int .i64 (g y)] 98], ?_⟩
  rw [alloc_eq_grow, alloc_eq_grow, grow_grow]
  rfl

def sortJ (xs : List Int) : List Int := xs.mergeSort fun x y => !(ltOf cmpJ) y x

theorem cmpJ_lt (a b : Int) : cmpJ a b < 0 ↔ a < b := by
 unfold cmpJ
 by_cases h1 : a < b
 ·simp [h1]
 ·by_cases h2 : b < a <;> simp [h1, h2]

theorem ltJ (x y : Int) : ltOf cmpJ x y = decide (x < y) := by
 unfold ltOf
 exact decide_eq_decide.2 (cmpJ_lt x y)

theorem swoJ : Go.Sort.SWO (ltOf cmpJ) where
 irrefl x := by rw [ltJ]; simp
 trans x y z h1 h2 := by rw [ltJ] at *; simp at *; omega
 ntrans x y z h1 h2 := by
  rw [ltJ] at *
  have h1' := of_decide_eq_false h1
  have h2' := of_decide_eq_false h2
  exact decide_eq_false (by omega)

theorem totJ (x y : Int) (h1 : ltOf cmpJ x y = false) (h2 : ltOf cmpJ y x = false) : x = y := by
 rw [ltJ] at *
 have h1' := of_decide_eq_false h1
 have h2' := of_decide_eq_false h2
 omega

theorem sortJ_perm (xs : List Int) : (sortJ xs).Perm xs := List.mergeSort_perm ..

theorem sortJ_asc (xs : List Int) : (sortJ xs).Pairwise fun a b => a ≤ b := by
 unfold sortJ
 have := List.pairwise_mergeSort (le := fun x y : Int => !(ltOf cmpJ) y x) (by
  intro a b c h1 h2
  rw [ltJ] at *
  simp at *
  omega) (by
  intro a b
  rw [ltJ, ltJ]
  simp
  omega) xs
 refine this.imp fun h => ?_
 rw [ltJ] at h
 simpa using h

theorem sortJ_of {xs ys : List Int} (hp : xs.Perm ys) (hy : ys.Pairwise fun a b => a < b) : sortJ xs = ys := by
 have h1 := (sortJ_perm xs).trans hp
 refine List.Perm.eq_of_pairwise (le := fun a b : Int => a ≤ b) (fun a b _ _ h1 h2 => by omega) (sortJ_asc xs) (hy.imp fun h => by omega) h1

theorem flat_at7 {α : Type} [Inhabited α] {f : α → List Value} {k : Nat} (hk : ∀ x, (f x).length = k) (hk0 : 0 < k) : ∀ (l : List α) (t : Nat), t < l.length * k → (flat f l)[t]? = some ((f l[t / k]!)[t % k]!)
 | [], t, h => by simp at h
 | x :: r, t, h => by
  have e : flat f (x :: r) = f x ++ flat f r := rfl
  rw [e]
  by_cases ht : t < k
  ·rw [List.getElem?_append_left (by rw [hk]; exact ht), Nat.div_eq_of_lt ht, Nat.mod_eq_of_lt ht]
   show _ = some ((f x)[t]!)
   rw [getElem!_pos _ _ (by rw [hk]; exact ht)]
   exact List.getElem?_eq_getElem _
  ·obtain ⟨s, rfl⟩ : ∃ s, t = s + k := ⟨t - k, by omega⟩
   rw [List.getElem?_append_right (by rw [hk]; omega), hk, Nat.add_sub_cancel, Nat.add_div_right _ hk0, Nat.add_mod_right]
   rw [flat_at7 hk hk0 r s (by rw [List.length_cons, Nat.add_mul] at h; omega)]
   simp

theorem flatK_flat7 {α : Type} [Inhabited α] {f : α → List Value} {k : Nat} (hk : ∀ x, (f x).length = k) (hk0 : 0 < k) (l : List α) : (flatK f k l.toArray).toList = flat f l := by
 apply List.ext_getElem?
 intro t
 by_cases ht : t < l.length * k
 ·rw [flat_at7 hk hk0 l t ht]
  simp [flatK, ht]
 ·rw [List.getElem?_eq_none (by simp; omega), List.getElem?_eq_none (by rw [flat_length hk]; omega)]

theorem sortJ_some (v : Int → Int) (g off cap : Nat) (xs : List Int) (w : World) (hH : HoldsK (entV v) 3 w g off xs.toArray) (hg : g < w.heap.size) (hsz : xs.length < 4611686018427387904) :
  Calls Tryz.prog 114 #[.slice (some ⟨g, off, none⟩) xs.length cap, .func (.func 115) #[] #[]] w fun e w' => e = .returned (.tuple #[]) ∧ ∃ n os, w' = sortWorldK (entV v) 3 w g off n (sortJ xs).toArray os := by
 have eg : ∀ args w, (callFunc 115 args).run Tryz.prog w = .ok (.enter 115 args) w := enters_of Tryz.func115 (by kernel_rfl) rfl
 have hS := AnyQ.slices_SortFunc_total Tryz.sortE7 3 Tryz.isAgg98 Tryz.sizeOf98 (entV v) (fun _ => rfl) (fun x u hv => by simp [entV] at hv; rcases hv with rfl | rfl | rfl <;> rfl) cmpJ swoJ 115 #[] g off cap xs.toArray w eg (fun _ _ _ _ x y => cmpEnt_k v x y _) hH hg (by simpa using hsz) totJ
 exact hS

theorem sortJ_none (p : Option Addr) (cap : Nat) (w : World) :
  Calls Tryz.prog 114 #[.slice p 0 cap, .func (.func 115) #[] #[]] w fun e w' => e = .returned (.tuple #[]) ∧ w' = w :=
 AnyF.slices_SortFunc_none (P := Tryz.prog) (ρ := Tryz.sortE7_ren) Tryz.sortE7 p cap (.func (.func 115) #[] #[]) w

theorem sortJ_call (v : Int → Int) {w0 : World} {M : List Nat} {H r : HP} {u : Ent → HP} {K : Value → HP → Prop} (p : Option Addr) (n cap : Nat) (xs : List Int) (hn : xs.length = n) (hat : At H (.vec p n cap 98 3 (flat (entV v) xs)) u r) (hsz : n < 4611686018427387904)
  (hk : K (.tuple #[]) (u (.vec p n cap 98 3 (flat (entV v) (sortJ xs))))) : VCall Tryz.cx.P w0 M H 114 [.slice p n cap, .func (.func 115) #[] #[]] K := by
 refine .mk fun w hw => ?_
 have hsat := hw.own _ hat.mem
 have hsl : (sortJ xs).length = n := by unfold sortJ; rw [List.length_mergeSort, hn]
 cases p with
 | none =>
  obtain ⟨h1, h2⟩ := hsat
  rcases h2 with ⟨h3, h4⟩ | ⟨g, c, cur, hv, _⟩
  ·simp only [Value.slice.injEq] at h3
   have hn0 : n = 0 := h3.2.1
   subst hn0
   have hx : xs = [] := List.eq_nil_of_length_eq_zero hn
   subst hx
   refine (sortJ_none none cap w).mono fun e w' ⟨he, hw'⟩ => ?_
   subst hw'
   refine ⟨.tuple #[], _, he, ?_, hk⟩
   have : sortJ [] = [] := by simp [sortJ]
   rw [this]
   exact hw.turn hat (fun h => h)
  ·cases hv
 | some a =>
  obtain ⟨g, cur, hg, hh, hnc, hcm, hcs, ht, hlen⟩ := vec_some hsat
  subst hg
  have hH : HoldsK (entV v) 3 w g 0 xs.toArray := by
   intro j hj
   have hj' : j < n * 3 := by simpa [hn] using hj
   have h1 : (cur.toList.take (n * 3))[j]? = ((flatK (entV v) 3 xs.toArray).toList)[j]? := by rw [ht, flatK_flat7 (f := entV v) (k := 3) (fun _ => rfl) (by omega)]
   rw [List.getElem?_take, if_pos hj'] at h1
   refine ⟨?_, ?_⟩
   ·simp only [Nat.zero_add, World.cell?, hh]
    rw [getElem!_pos _ j hj]
    simpa [hj, hj', hn] using h1
   ·simp [World.frozen?, hh]
  have hglt : g < w.heap.size := (Array.getElem?_eq_some_iff.1 hh).1
  have hc := sortJ_some v g 0 cap xs w hH hglt (by omega)
  rw [hn] at hc
  refine hc.mono fun e w' ⟨he, q, os, hw'⟩ => ⟨.tuple #[], _, he, ?_, hk⟩
  subst hw'
  obtain ⟨F, hF⟩ : ∃ F, flatK (entV v) 3 (sortJ xs).toArray = F := ⟨_, rfl⟩
  have hFl : F.toList = flat (entV v) (sortJ xs) := by rw [← hF, flatK_flat7 (f := entV v) (k := 3) (fun _ => rfl) (by omega)]
  have hFs : F.size = n * 3 := by rw [← Array.length_toList, hFl, flat_length (k := 3) (fun _ => rfl), hsl]
  refine hw.turn hat fun hx => ?_
  have hheap : ∀ b, b < w.heap.size → (Go.Sort.grow (Go.Sort.putRow id (Go.Sort.ahead w q) g 0 F) os).heap[b]? =
    if g = b then (w.heap[b]?).map (Go.Sort.onCells (Go.Sort.putCells id 0 F)) else w.heap[b]? := by
   intro b hb
   simp only [Go.Sort.grow, Go.Sort.putRow, Go.Sort.mapBlock, Go.Sort.ahead]
   rw [Array.getElem?_append_left (by simpa using hb), Array.getElem?_modify]
  unfold sortWorldK putRowK
  rw [hF]
  refine hx.step rfl rfl rfl (by simp [Go.Sort.grow, Go.Sort.putRow, Go.Sort.mapBlock, Go.Sort.ahead]) (fun b hb hne => ?_) ?_ (fun b hb => .inl hb)
  ·rw [hheap b hb, if_neg (fun e => hne (by rw [← e]; rfl))]
  ·have h2 := hheap g hglt
   rw [if_pos rfl, hh] at h2
   simp only [Option.map_some, Go.Sort.onCells] at h2
   refine ownsRow_mk h2 hnc hcm (by simp [Go.Sort.putCells, hcs]) ?_
   rw [← hFl]
   apply List.ext_getElem?
   intro j
   rw [List.getElem?_take]
   by_cases hj : j < n * 3
   ·rw [if_pos (by omega)]
    have hjc : j < cur.size := by have := Nat.mul_le_mul_right 3 hnc; omega
    simp only [Array.getElem?_toList, Go.Sort.putCells, Array.getElem?_mapIdx, hFs, Nat.zero_add, Nat.zero_le, true_and, hj, if_true, Nat.sub_zero, Array.getElem?_eq_getElem hjc, Option.map_some]
    rw [getElem!_pos F j (by omega), Array.getElem?_eq_getElem (by omega)]
    rfl
   ·rw [if_neg (by omega), List.getElem?_eq_none (by rw [Array.length_toList]; omega)]

end Go.Proofs
end

section

namespace Go.Vx

open Go

structure Vis (es : Array MapEntry) (seen : Array Nat) (vs : List MapEntry) : Prop where
 seen : seen.toList = vs.map (·.born)
 sub : ∀ y ∈ vs, y ∈ es.toList
 nodup : vs.Nodup

def leftV (es : Array MapEntry) (seen : Array Nat) : Nat := es.toList.countP fun x => decide (x.born ∉ seen)

theorem leftV_push {es : Array MapEntry} {seen : Array Nat} {x : MapEntry} (hx : x ∈ es.toList) (hn : x.born ∉ seen) : leftV es (seen.push x.born) < leftV es seen := by
 unfold leftV
 have key : ∀ l : List MapEntry, x ∈ l → l.countP (fun y => decide (y.born ∉ seen.push x.born)) < l.countP (fun y => decide (y.born ∉ seen)) := by
  intro l
  induction l with
  | nil => intro h; cases h
  | cons y l ih =>
   intro h
   have hle : ∀ l : List MapEntry, l.countP (fun y => decide (y.born ∉ seen.push x.born)) ≤ l.countP (fun y => decide (y.born ∉ seen)) := by
    intro l
    refine List.countP_mono_left fun z _ hz => ?_
    simp only [decide_eq_true_eq, Array.mem_push, not_or] at hz ⊢
    exact hz.1
   rw [List.countP_cons, List.countP_cons]
   by_cases e : y = x
   ·subst e
    have h1 := hle l
    have h2 : decide (y.born ∉ seen.push y.born) = false := by simp
    have h3 : decide (y.born ∉ seen) = true := decide_eq_true hn
    rw [h2, h3]
    simp only [Bool.false_eq_true, if_false, if_true]
    omega
   ·have h1 := ih ((List.mem_cons.1 h).resolve_left fun e2 => e e2.symm)
    by_cases h2 : y.born ∈ seen.push x.born
    ·have h3 : decide (y.born ∉ seen.push x.born) = false := decide_eq_false (fun h => h h2)
     rw [h3]
     simp only [Bool.false_eq_true, if_false]
     split <;> omega
    ·have h3 : y.born ∉ seen := fun h3 => h2 (Array.mem_push_of_mem _ h3)
     have h4 : decide (y.born ∉ seen.push x.born) = true := decide_eq_true h2
     have h5 : decide (y.born ∉ seen) = true := decide_eq_true h3
     rw [h4, h5]
     simp only [if_true]
     omega
 exact key _ hx

theorem Vis.nil (es : Array MapEntry) : Vis es #[] [] := ⟨rfl, by simp, List.nodup_nil⟩

theorem born_inj {es : Array MapEntry} {clock : Nat} (hst : MapKept.Stamped es clock) {x y : MapEntry} (hx : x ∈ es.toList) (hy : y ∈ es.toList) (h : x.born = y.born) : x = y := by
 obtain ⟨i, hi⟩ := List.getElem?_of_mem hx
 obtain ⟨j, hj⟩ := List.getElem?_of_mem hy
 have e1 : (es.toList.map (·.born))[i]? = some x.born := by rw [List.getElem?_map, hi]; rfl
 have e2 : (es.toList.map (·.born))[j]? = some x.born := by rw [List.getElem?_map, hj, h]; rfl
 have e3 := (List.getElem?_inj (List.getElem?_eq_some_iff.1 e1).1 hst.2.1).1 (e1.trans e2.symm)
 subst e3
 rw [hi] at hj
 exact Option.some.inj hj

theorem born_find {es : Array MapEntry} {clock : Nat} (hst : MapKept.Stamped es clock) {x : MapEntry} (hx : x ∈ es.toList) : es.find? (fun e => e.born == x.born) = some x := by
 rw [← Array.find?_toList]
 cases h : es.toList.find? (fun e => e.born == x.born) with
 | none =>
  have := List.find?_eq_none.1 h x hx
  simp at this
 | some y =>
  have h1 := List.mem_of_find?_eq_some h
  have h2 := List.find?_some h
  simp only [beq_iff_eq] at h2
  rw [born_inj hst h1 hx h2]

theorem Vis.next {es : Array MapEntry} {seen : Array Nat} {vs : List MapEntry} (h : Vis es seen vs) {x : MapEntry} (hx : x ∈ es.toList) (hn : x.born ∉ seen) : Vis es (seen.push x.born) (vs ++ [x]) := by
 refine ⟨by rw [Array.toList_push, h.seen, List.map_append]; rfl, fun y hy => ?_, ?_⟩
 ·rcases List.mem_append.1 hy with hy | hy
  ·exact h.sub y hy
  ·rw [List.mem_singleton] at hy; subst hy; exact hx
 ·rw [List.nodup_append]
  refine ⟨h.nodup, by simp, fun a ha b hb e => ?_⟩
  rw [List.mem_singleton] at hb
  subst hb; subst e
  refine hn ?_
  rw [← Array.mem_toList_iff, h.seen]
  exact List.mem_map_of_mem ha

theorem Vis.done {es : Array MapEntry} {clock : Nat} (hst : MapKept.Stamped es clock) {seen : Array Nat} {vs : List MapEntry} (h : Vis es seen vs) (hall : ∀ x ∈ es.toList, x.born ∈ seen) : vs.Perm es.toList := by
 have hnd : es.toList.Nodup := by
  have := hst.2.1
  rw [List.Nodup, List.pairwise_map] at this
  exact this.imp fun h1 e => h1 (by rw [e])
 refine (List.perm_ext_iff_of_nodup h.nodup hnd).2 fun y => ⟨h.sub y, fun hy => ?_⟩
 have := hall y hy
 rw [← Array.mem_toList_iff, h.seen, List.mem_map] at this
 obtain ⟨z, hz, he⟩ := this
 rw [born_inj hst (h.sub z hz) hy he] at hz
 exact hz

theorem nodup_len {α : Type} [DecidableEq α] : ∀ {l m : List α}, l.Nodup → (∀ x ∈ l, x ∈ m) → l.length ≤ m.length
 | [], _, _, _ => Nat.zero_le _
 | x :: l, m, h, hs => by
  rw [List.nodup_cons] at h
  have hx := hs x List.mem_cons_self
  have h1 := nodup_len (l := l) (m := m.erase x) h.2 fun y hy => (List.mem_erase_of_ne fun e => h.1 (by rw [← e]; exact hy)).2 (hs y (List.mem_cons_of_mem _ hy))
  rw [List.length_erase_of_mem hx] at h1
  have := List.length_pos_of_mem hx
  rw [List.length_cons]; omega

theorem Vis.len {es : Array MapEntry} {clock : Nat} (hst : MapKept.Stamped es clock) {seen : Array Nat} {vs : List MapEntry} (h : Vis es seen vs) : vs.length ≤ es.size := by
 have h1 : (vs.map (·.born)).Nodup := by
  rw [List.Nodup, List.pairwise_map]
  exact h.nodup.imp_of_mem fun ha hb hne e => hne (born_inj hst (h.sub _ ha) (h.sub _ hb) e)
 have h2 := nodup_len (m := es.toList.map (·.born)) h1 fun x hx => by
  obtain ⟨y, hy, rfl⟩ := List.mem_map.1 hx
  exact List.mem_map_of_mem (h.sub y hy)
 rw [List.length_map, List.length_map] at h2
 simpa using h2

theorem HLe.mapBack {H H' r : HP} {u : Ent → HP} {b clock : Nat} {es : Array MapEntry} {m : List (Int × Value)} (h : At H (.obj b (.map es clock)) u r) (hes : es.toList.map (fun x => (x.key, x.val)) = m.map (fun x => (Value.int .i64 x.1, x.2))) (hst : MapKept.Stamped es clock) (hr : HLe H' r) : HLe (.map b m :: H') H :=
 HLe.weak h hr (fun w hw => ⟨es, clock, hw, hes, hst⟩) rfl

theorem vis_pick {α : Type} {f : α → Int × Value} {es : Array MapEntry} {l : List α} (hes : es.toList.map (fun x => (x.key, x.val)) = (l.map f).map (fun x => (Value.int .i64 x.1, x.2))) {x : MapEntry} (hx : x ∈ es.toList) :
  ∃ d ∈ l, x.key = .int .i64 (f d).1 ∧ x.val = (f d).2 := by
 have h1 : (x.key, x.val) ∈ es.toList.map (fun x => (x.key, x.val)) := List.mem_map_of_mem (f := fun x : MapEntry => (x.key, x.val)) hx
 rw [hes, List.map_map] at h1
 obtain ⟨d, hd, he⟩ := List.mem_map.1 h1
 simp only [Function.comp_apply, Prod.mk.injEq] at he
 exact ⟨d, hd, he.1.symm, he.2.symm⟩

def keyI : Value → Int
 | .int _ n => n
 | _ => 0

theorem vis_keys {α : Type} {f : α → Int × Value} {es : Array MapEntry} {l : List α} (hes : es.toList.map (fun x => (x.key, x.val)) = (l.map f).map (fun x => (Value.int .i64 x.1, x.2))) {vs : List MapEntry} (h : vs.Perm es.toList) : (vs.map fun x => keyI x.key).Perm (l.map fun d => (f d).1) := by
 have h1 : (vs.map fun x => keyI x.key).Perm (es.toList.map fun x => keyI x.key) := h.map _
 have h2 : es.toList.map (fun x => keyI x.key) = l.map fun d => (f d).1 := by
  have := congrArg (fun L => L.map fun p : Value × Value => keyI p.1) hes
  simp only [List.map_map] at this
  exact this
 rw [h2] at h1
 exact h1

theorem mfind_absent {m : List (Int × Value)} {j : Int} (h : ∀ p ∈ m, p.1 ≠ j) : mfind m j = none ∧ ∀ v, mset m j v = m ++ [(j, v)] := by
 induction m with
 | nil => exact ⟨rfl, fun _ => rfl⟩
 | cons p r ih =>
  obtain ⟨h1, h2⟩ := ih fun q hq => h q (List.mem_cons_of_mem _ hq)
  have hp := h p List.mem_cons_self
  obtain ⟨a, v0⟩ := p
  constructor
  ·simp only [mfind]
   rw [if_neg hp]; exact h1
  ·intro v
   simp only [mset]
   rw [if_neg hp, h2]; rfl

end Go.Vx
end
