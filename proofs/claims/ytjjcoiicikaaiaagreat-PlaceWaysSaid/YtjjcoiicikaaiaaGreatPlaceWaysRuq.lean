import Derived.Test.YtjjcoiicikaaiaaGreatPlaceWaysRum
import Derived.Test.YtjjcoiicikaaiaaGreatPlaceWaysVRows
set_option linter.unusedVariables false
set_option linter.unusedSimpArgs false
set_option maxHeartbeats 4000000

namespace Go.Gm

def wantV (N : Net) (cores : List Int) (key : Int) (l : List Syn) (r : Nat) : Int := if ∃ s ∈ l, keyM N s.frm = key ∧ cores[s.to.toNat]? = some (r : Int) then 1 else 0

def wantA (N : Net) (cores : List Int) (key : Int) (l : List Syn) (n : Nat) : List Int := (List.range n).map fun r => wantV N cores key l r

def arrN (p : Nat) (A : List (Nat × Nat × Nat)) (r : Nat) : Nat := A.countP fun a => decide (a.1 = p ∧ a.2.1 = r)

def leftA (N : Net) (cores : List Int) (key : Int) (l : List Syn) (p : Nat) (A : List (Nat × Nat × Nat)) (n : Nat) : List Int := (List.range n).map fun r => wantV N cores key l r - (arrN p A r : Int)

theorem wantV_le (N : Net) (cores : List Int) (key : Int) (l : List Syn) (r : Nat) : 0 ≤ wantV N cores key l r ∧ wantV N cores key l r ≤ 1 := by
 unfold wantV; split <;> omega

theorem wantA_skip {N : Net} {cores : List Int} {key : Int} {l : List Syn} {s : Syn} {n : Nat} (h : keyM N s.frm ≠ key) : wantA N cores key (l ++ [s]) n = wantA N cores key l n := by
 unfold wantA
 refine List.map_congr_left fun r _ => ?_
 unfold wantV
 have : (∃ x ∈ l ++ [s], keyM N x.frm = key ∧ cores[x.to.toNat]? = some (r : Int)) ↔ ∃ x ∈ l, keyM N x.frm = key ∧ cores[x.to.toNat]? = some (r : Int) := by
  constructor
  ·rintro ⟨x, hx, h2⟩
   rcases List.mem_append.1 hx with hx | hx
   ·exact ⟨x, hx, h2⟩
   ·rw [List.mem_singleton] at hx; subst hx; exact absurd h2.1 h
  ·rintro ⟨x, hx, h2⟩
   exact ⟨x, List.mem_append_left _ hx, h2⟩
 by_cases h1 : ∃ x ∈ l, keyM N x.frm = key ∧ cores[x.to.toNat]? = some (r : Int)
 ·rw [if_pos (this.2 h1), if_pos h1]
 ·rw [if_neg (fun h => h1 (this.1 h)), if_neg h1]

theorem wantA_put {N : Net} {cores : List Int} {key : Int} {l : List Syn} {s : Syn} {n k : Nat} (h : keyM N s.frm = key) (hk : cores[s.to.toNat]? = some (k : Int)) (hkn : k < n) : wantA N cores key (l ++ [s]) n = (wantA N cores key l n).set k 1 := by
 unfold wantA
 apply List.ext_getElem?
 intro r
 rw [List.getElem?_set, List.length_map, List.length_range, List.getElem?_map, List.getElem?_map]
 rcases Nat.lt_or_ge r n with hrn | hrn
 ·rw [List.getElem?_range hrn, Option.map_some, Option.map_some]
  by_cases hr : k = r
  ·subst hr
   rw [if_pos rfl, if_pos hkn]
   unfold wantV
   rw [if_pos ⟨s, List.mem_append_right _ List.mem_cons_self, h, hk⟩]
  ·rw [if_neg hr]
   unfold wantV
   have : (∃ x ∈ l ++ [s], keyM N x.frm = key ∧ cores[x.to.toNat]? = some (r : Int)) ↔ ∃ x ∈ l, keyM N x.frm = key ∧ cores[x.to.toNat]? = some (r : Int) := by
    constructor
    ·rintro ⟨x, hx, h2⟩
     rcases List.mem_append.1 hx with hx | hx
     ·exact ⟨x, hx, h2⟩
     ·rw [List.mem_singleton] at hx
      subst hx
      have := h2.2.symm.trans hk
      simp only [Option.some.injEq] at this
      omega
    ·rintro ⟨x, hx, h2⟩
     exact ⟨x, List.mem_append_left _ hx, h2⟩
   by_cases h1 : ∃ x ∈ l, keyM N x.frm = key ∧ cores[x.to.toNat]? = some (r : Int)
   ·rw [if_pos (this.2 h1), if_pos h1]
   ·rw [if_neg (fun h => h1 (this.1 h)), if_neg h1]
 ·rw [List.getElem?_eq_none (by rw [List.length_range]; exact hrn), if_neg (by omega)]
  rfl

theorem arrN_snoc (p : Nat) (A : List (Nat × Nat × Nat)) (a : Nat × Nat × Nat) (r : Nat) : arrN p (A ++ [a]) r = arrN p A r + if a.1 = p ∧ a.2.1 = r then 1 else 0 := by
 unfold arrN
 rw [List.countP_append]
 by_cases h : a.1 = p ∧ a.2.1 = r
 ·rw [if_pos h]; simp [h]
 ·rw [if_neg h]; simp [h]

theorem arrN_le (p : Nat) (A : List (Nat × Nat × Nat)) (r : Nat) : arrN p A r ≤ A.length := List.countP_le_length

theorem leftA_nil (N : Net) (cores : List Int) (key : Int) (l : List Syn) (p n : Nat) : leftA N cores key l p [] n = wantA N cores key l n := by
 unfold leftA wantA
 refine List.map_congr_left fun r _ => ?_
 unfold arrN
 simp

theorem leftA_skip {N : Net} {cores : List Int} {key : Int} {l : List Syn} {p : Nat} {A : List (Nat × Nat × Nat)} {a : Nat × Nat × Nat} {n : Nat} (h : a.1 ≠ p) : leftA N cores key l p (A ++ [a]) n = leftA N cores key l p A n := by
 unfold leftA
 refine List.map_congr_left fun r _ => ?_
 rw [arrN_snoc, if_neg (fun h2 => h h2.1), Nat.add_zero]

theorem leftA_get {N : Net} {cores : List Int} {key : Int} {l : List Syn} {p : Nat} {A : List (Nat × Nat × Nat)} {n r : Nat} (hr : r < n) : (leftA N cores key l p A n)[r]? = some (wantV N cores key l r - (arrN p A r : Int)) := by
 unfold leftA
 rw [List.getElem?_map, List.getElem?_range hr]; rfl

theorem leftA_put {N : Net} {cores : List Int} {key : Int} {l : List Syn} {p : Nat} {A : List (Nat × Nat × Nat)} {a : Nat × Nat × Nat} {n : Nat} (h : a.1 = p) (hr : a.2.1 < n) : leftA N cores key l p (A ++ [a]) n = (leftA N cores key l p A n).set a.2.1 (wantV N cores key l a.2.1 - (arrN p A a.2.1 : Int) - 1) := by
 apply List.ext_getElem?
 intro r
 rw [List.getElem?_set]
 rcases Nat.lt_or_ge r n with hrn | hrn
 ·rw [leftA_get hrn, leftA_get hrn, arrN_snoc]
  by_cases h2 : a.2.1 = r
  ·rw [if_pos h2, if_pos ⟨h, h2⟩, if_pos (by unfold leftA; rw [List.length_map, List.length_range]; omega), h2]
   congr 1; omega
  ·rw [if_neg h2, if_neg (fun h3 => h2 h3.2), Nat.add_zero]
 ·have e : ∀ B, (leftA N cores key l p B n)[r]? = none := fun B => List.getElem?_eq_none (by unfold leftA; rw [List.length_map, List.length_range]; exact hrn)
  rw [e, e, if_neg (by omega)]

theorem wantA_get {N : Net} {cores : List Int} {key : Int} {l : List Syn} {n r : Nat} (hr : r < n) : (wantA N cores key l n)[r]? = some (wantV N cores key l r) := by
 unfold wantA
 rw [List.getElem?_map, List.getElem?_range hr]; rfl

end Go.Gm

namespace Go.Proofs

open Go Go.Vx Go.Gm

theorem home7_any (N : Net) (cores : List Int) (hcl : cores.length = N.ps.length) (hfew : cores.length ≤ 1000000) (pc : Option Addr) (cc bc oc : Nat) (w : World) (h1 : Sl w intV 1 cores pc cores.length bc oc) (m2 m3 m4 m5 m6 m7 m8 m9 m10 m11 m12 m13 m14 m15 : Value) (hone : oneAll [m2, m3, m4, m5, m6, m7, m8, m9, m10, m11, m12, m13, m14, m15] = true) (k : Nat) (hk : k ≤ 1000000) :
  Calls Tryz.prog 43 #[.agg #[.slice pc cores.length cc, m2, m3, m4, m5, m6, m7, m8, m9, m10, m11, m12, m13, m14, m15], .int .i64 (k : Int)] w fun e w' => e = .returned (.int .i64 (homeM N cores (k : Int))) ∧ St w [] [] w' := by
 refine enter (C := Tryz.cx) (F := Tryz.fx43) (args := [_, _]) Tryz.func43 rfl rfl rfl Tryz.ok43 (St.start w []) ?_
 unfold homeM
 rcases Nat.lt_or_ge k cores.length with hlt | hge
 ·obtain ⟨v, hv⟩ := h1.get hlt
  rw [if_pos (by omega), Int.toNat_natCast, hv, Option.getD_some]
  repeat' (conv => whnf); first | (refine VNew.mk fun b2 => ?_) | (refine VIx.is ?_; refine VIx.mk (h1.ptr (by omega)) (by omega) (by omega) ?_) | (refine VLd.is ?_; refine VLd.mk (Rd.cast (h1.rd0 (by simp) (fun _ => rfl) hv rfl) (by first | omega | (dsimp only; omega) | rfl)) ?_) | (refine VSeq.go ?_) | (refine VB.is ?_; refine VB.yes (by omega) fun _ => ?_) | (refine VLd.is ?_; refine VLd.mk (.row aT (by rfl)) ?_)
  all_goals (conv => whnf)
  exact ⟨fun w' hw' => ⟨rfl, hw'.le .nil⟩⟩
 ·rw [if_neg (by omega)]
  repeat' (conv => whnf); first | (refine VNew.mk fun b2 => ?_) | (refine VSeq.go ?_) | (refine VB.is ?_; refine VB.no (by omega) fun _ => ?_) | (refine VLd.is ?_; refine VLd.mk (.row aT (by rfl)) ?_)
  all_goals (conv => whnf)
  exact ⟨fun w' hw' => ⟨rfl, hw'.le .nil⟩⟩

theorem arrived_any (X : PlnX) (cores : List Int) (hA : AsgOk X.N X.C cores) (w : World) (hX : PlnRi X w) (pc : Option Addr) (cc bc oc : Nat) (h1 : Sl w intV 1 cores pc cores.length bc oc) (m2 m3 m4 m5 m6 m7 m8 m9 m10 m11 m12 m13 m14 m15 : Value) (hone : oneAll [m2, m3, m4, m5, m6, m7, m8, m9, m10, m11, m12, m13, m14, m15] = true)
  (key : Int) (hkr : 0 ≤ key ∧ key ≤ 65535) (p : Nat) (hp : p ≤ 65536) (A : List (Nat × Nat × Nat)) (hAl : A.length ≤ 1000000) (pa : Option Addr) (ca ba oa : Nat) (h2 : Sl w arV 3 A pa A.length ba oa)
  (hin : ∀ a ∈ A, a.2.1 < nCores X.C) (hq : ∀ r, r < nCores X.C → (arrN p A r : Int) = wantV X.N cores key X.N.syns r) :
  Calls Tryz.prog 45 #[.agg X.net.toArray, .agg #[.slice pc cores.length cc, m2, m3, m4, m5, m6, m7, m8, m9, m10, m11, m12, m13, m14, m15], .agg (chpC X.C X.pd X.cd).toArray, .int .i64 key, .int .i64 (p : Int), .slice pa A.length ca] w fun e w' => e = .returned (.bool true) ∧ St w [] [] w' := by
 obtain ⟨hcells, hn1, hn64⟩ := nCores_ok hA.plan.chip
 obtain ⟨n, hn⟩ : ∃ n, nCores X.C = n := ⟨_, rfl⟩
 rw [hn] at hcells hn1 hn64 hin hq
 have hOk := hA.plan.net
 have hsynl := hOk.syns
 have hfs := hOk.fewS
 have hcfew := hOk.few
 have hcl := hA.len
 have hcore := hA.core
 have hinp := hOk.inputs
 obtain ⟨bp, op, hss⟩ := hX.syns
 refine enter (C := Tryz.cx) (F := Tryz.fx45) (args := [_, _, _, _, _, _]) Tryz.func45 rfl rfl rfl Tryz.ok45 (St.start w []) ?_
 unfold PlnX.net chpC
 repeat' (conv => whnf); first | (refine VNew.mk fun bb => ?_) | (refine VAr.is ?_; refine VAr.is ?_; refine VAr.mul hcells.symm (by omega) (by omega) ?_) | (refine VMk.is ?_; refine VMk.mk (by omega) (by omega) (by (try dsimp only); omega) (by omega) fun gw => ?_) | (refine VSeq.go ?_) | (refine VLd.is ?_; refine VLd.mk (.row aT (by rfl)) ?_)
 all_goals (conv => whnf)
 rename_i b6 b7
 have hw0 : wantA X.N cores key (X.N.syns.take 0) n = List.replicate n 0 := range_const 0 n
 refine VLoop.mk (α := Nat) (fun i => i ≤ X.N.syns.length) (fun i => [(1000000, .tuple #[]), (3, .int .i64 key), (4, .int .i64 (p : Int)), (5, .slice pa A.length ca), (12, .bool false), (13, .int .i64 (n : Int)), (14, .slice (some ⟨gw, 0, none⟩) n n), (6, .pointer (some ⟨b6, 0, none⟩)), (7, .pointer (some ⟨b7, 0, none⟩)), (15, .int .i64 (i : Int))]) (fun i => .vec (some ⟨gw, 0, none⟩) n n 3 1 (flat intV (wantA X.N cores key (X.N.syns.take i) n)) :: .row b6 39 [.slice X.pn X.N.ps.length X.cn, .int .i64 X.N.inputs, .slice X.qs X.N.syns.length X.cs] :: [.row b7 57 [.slice pc cores.length cc, m2, m3, m4, m5, m6, m7, m8, m9, m10, m11, m12, m13, m14, m15]]) (fun i => X.N.syns.length - i) 0 (Nat.zero_le _) aE (by rw [hw0, ← flat_ints]; exact aH) ?_
 rintro i hi
 rcases Nat.lt_or_ge i X.N.syns.length with hlt | hge
 ·obtain ⟨s, hs⟩ := hss.get hlt
  have hso := hsynl s (List.mem_of_getElem? hs)
  have hfr := hso.1
  unfold srcOk at hfr
  have hto := hso.2.1
  have v0 : sub (synV s) 0 1 = some [.int .i64 s.frm] := rfl
  have v1 : sub (synV s) 1 1 = some [.int .i64 s.to] := rfl
  obtain ⟨t, ht⟩ : ∃ t : Nat, s.to = (t : Int) := ⟨s.to.toNat, by omega⟩
  rw [ht] at v1
  have htc : t < cores.length := by omega
  obtain ⟨kc, hkc⟩ := h1.get htc
  have hkc0 := (hcore kc (List.mem_of_getElem? hkc)).1
  obtain ⟨k, hk⟩ : ∃ k : Nat, kc = (k : Int) := ⟨kc.toNat, by omega⟩
  subst hk
  have hkn : k < n := by omega
  have hto2 : cores[s.to.toNat]? = some (k : Int) := by rw [ht, Int.toNat_natCast]; exact hkc
  have hky := fun (w' : World) => lkey_any X.N hcfew X.pn X.cn (.int .i64 X.N.inputs) (.slice X.qs X.N.syns.length X.cs) (by rfl) s.frm (by omega) w'
  have htk := take_snoc hs
  have hgt : (wantA X.N cores key (X.N.syns.take i) n)[k]? = some (wantV X.N cores key (X.N.syns.take i) k) := wantA_get hkn
  by_cases hkey : keyM X.N s.frm = key
  ·have hput := wantA_put (l := X.N.syns.take i) hkey hto2 hkn
   rw [← htk] at hput
   rw [hkey] at hky
   repeat' (conv => whnf); first | (refine VIx.is ?_; refine VIx.mk (hss.ptr (by omega)) (by omega) (by omega) ?_) | (refine VLd.is ?_; refine VLd.mk (Rd.cast (hss.rd (o := 0) (s := 1) (by simp) (fun _ => rfl) hs v0) (by first | omega | (dsimp only; omega) | rfl)) ?_) | (refine VLd.is ?_; refine VLd.mk (Rd.cast (hss.rd (o := 1) (s := 1) (by simp) (fun _ => rfl) hs v1) (by first | omega | (dsimp only; omega) | rfl)) ?_) | (refine VIx.is ?_; refine VIx.mk (h1.ptr (by omega)) (by omega) (by omega) ?_) | (refine VLd.is ?_; refine VLd.mk (Rd.cast (h1.rd0 (by simp) (fun _ => rfl) hkc rfl) (by first | omega | (dsimp only; omega) | rfl)) ?_) | (refine VIx.is ?_; refine VIx.mk rfl (by omega) (by omega) ?_) | (refine VCall.isF 32 ?_; (refine VCall.valR (fun w' hw' => hky w') ?_)) | (refine VSt.is ?_; refine VSt.is ?_; refine VSt.cast (off' := k * 1) (by first | omega | (dsimp only; omega) | rfl) (VSt.vec aT (upd_flat0 (f := intV) (k := 1) (y := (1 : Int)) (fun _ => rfl) hgt rfl) rfl ?_)) | (refine VSeq.go ?_) | (refine VB.is ?_; refine VB.yes (by omega) fun _ => ?_) | (refine VLd.is ?_; refine VLd.mk (.row aT (by rfl)) ?_) | (refine VAr.is ?_; refine oA ?_) | (refine VHs.mk _ (.refl _) ?_)
   all_goals (conv => whnf)
   exact VNext.mk (i + 1) (by omega) (by omega) aE (by rw [hput]; exact aH)
  ·have hskip := wantA_skip (cores := cores) (l := X.N.syns.take i) (n := n) hkey
   rw [← htk] at hskip
   obtain ⟨ky, hkye⟩ : ∃ ky, keyM X.N s.frm = ky := ⟨_, rfl⟩
   rw [hkye] at hky hkey
   repeat' (conv => whnf); first | (refine VIx.is ?_; refine VIx.mk (hss.ptr (by omega)) (by omega) (by omega) ?_) | (refine VLd.is ?_; refine VLd.mk (Rd.cast (hss.rd (o := 0) (s := 1) (by simp) (fun _ => rfl) hs v0) (by first | omega | (dsimp only; omega) | rfl)) ?_) | (refine VCall.isF 32 ?_; (refine VCall.valR (fun w' hw' => hky w') ?_)) | (refine VSeq.go ?_) | (refine VB.is ?_; refine VB.yes (by omega) fun _ => ?_) | (refine VB.is ?_; refine VB.no (by omega) fun _ => ?_) | (refine VLd.is ?_; refine VLd.mk (.row aT (by rfl)) ?_) | (refine VAr.is ?_; refine oA ?_) | (refine VHs.mk _ (.refl _) ?_)
   all_goals (conv => whnf)
   exact VNext.mk (i + 1) (by omega) (by omega) aE (by rw [hskip]; exact aH)
 have hie : i = X.N.syns.length := by omega
 subst hie
 rw [List.take_length]
 have hl0 : leftA X.N cores key X.N.syns p (A.take 0) n = wantA X.N cores key X.N.syns n := leftA_nil _ _ _ _ _ _
 repeat' (conv => whnf); first | (refine VSeq.go ?_) | (refine VB.is ?_; refine VB.no (by omega) fun _ => ?_) | (refine VLd.is ?_; refine VLd.mk (.row aT (by rfl)) ?_)
 all_goals (conv => whnf)
 refine VLoop.mk (α := Nat) (fun j => j ≤ A.length) (fun j => [(1000000, .tuple #[]), (3, .int .i64 key), (4, .int .i64 (p : Int)), (5, .slice pa A.length ca), (12, .bool false), (13, .int .i64 (n : Int)), (14, .slice (some ⟨gw, 0, none⟩) n n), (16, .int .i64 (j : Int))]) (fun j => [.vec (some ⟨gw, 0, none⟩) n n 3 1 (flat intV (leftA X.N cores key X.N.syns p (A.take j) n))]) (fun j => A.length - j) 0 (Nat.zero_le _) aE (by rw [hl0]; exact aH) ?_
 rintro j hj
 rcases Nat.lt_or_ge j A.length with hlt | hge2
 ·obtain ⟨a, ha⟩ := h2.get hlt
  have hai := hin a (List.mem_of_getElem? ha)
  have v0 : sub (arV a) 0 1 = some [.int .i64 (a.1 : Int)] := rfl
  have v1 : sub (arV a) 1 1 = some [.int .i64 (a.2.1 : Int)] := rfl
  have htk := take_snoc ha
  by_cases hap : a.1 = p
  ·have hput := leftA_put (N := X.N) (cores := cores) (key := key) (l := X.N.syns) (A := A.take j) hap hai
   rw [← htk] at hput
   have hgt : (leftA X.N cores key X.N.syns p (A.take j) n)[a.2.1]? = some (wantV X.N cores key X.N.syns a.2.1 - (arrN p (A.take j) a.2.1 : Int)) := leftA_get hai
   have hb1 := wantV_le X.N cores key X.N.syns a.2.1
   have hb2 := arrN_le p (A.take j) a.2.1
   rw [List.length_take] at hb2
   obtain ⟨x, hx⟩ : ∃ x, wantV X.N cores key X.N.syns a.2.1 - (arrN p (A.take j) a.2.1 : Int) = x := ⟨_, rfl⟩
   rw [hx] at hput hgt
   repeat' (conv => whnf); first | (refine VIx.is ?_; refine VIx.mk (h2.ptr (by omega)) (by omega) (by omega) ?_) | (refine VLd.is ?_; refine VLd.mk (Rd.cast (h2.rd (o := 0) (s := 1) (by simp) (fun _ => rfl) ha v0) (by first | omega | (dsimp only; omega) | rfl)) ?_) | (refine VLd.is ?_; refine VLd.mk (Rd.cast (h2.rd (o := 1) (s := 1) (by simp) (fun _ => rfl) ha v1) (by first | omega | (dsimp only; omega) | rfl)) ?_) | (refine VIx.is ?_; refine VIx.mk rfl (by omega) (by omega) ?_) | (refine VLd.is ?_; refine VLd.mk (Rd.cast (.vec aT (sub_flat0 (f := intV) (k := 1) (fun _ => rfl) hgt rfl)) (by first | omega | (dsimp only; omega) | rfl)) ?_) | (refine VSt.is ?_; refine VSt.is ?_; refine VSt.cast (off' := a.2.1 * 1) (by first | omega | (dsimp only; omega) | rfl) (VSt.vec aT (upd_flat0 (f := intV) (k := 1) (y := x - 1) (fun _ => rfl) hgt rfl) rfl ?_)) | (refine VSeq.go ?_) | (refine VB.is ?_; refine VB.yes (by omega) fun _ => ?_) | (refine VB.is ?_; refine VB.no (by omega) fun _ => ?_) | (refine VAr.is ?_; refine oA ?_)
   all_goals (conv => whnf)
   exact VNext.mk (j + 1) (by omega) (by omega) aE (by rw [hput]; exact aH)
  ·have hskip := leftA_skip (N := X.N) (cores := cores) (key := key) (l := X.N.syns) (A := A.take j) (n := n) hap
   rw [← htk] at hskip
   repeat' (conv => whnf); first | (refine VIx.is ?_; refine VIx.mk (h2.ptr (by omega)) (by omega) (by omega) ?_) | (refine VLd.is ?_; refine VLd.mk (Rd.cast (h2.rd (o := 0) (s := 1) (by simp) (fun _ => rfl) ha v0) (by first | omega | (dsimp only; omega) | rfl)) ?_) | (refine VSeq.go ?_) | (refine VB.is ?_; refine VB.yes (by omega) fun _ => ?_) | (refine VAr.is ?_; refine oA ?_)
   all_goals (conv => whnf)
   exact VNext.mk (j + 1) (by omega) (by omega) aE (by rw [hskip]; exact aH)
 have hja : j = A.length := by omega
 subst hja
 rw [List.take_length]
 repeat' (conv => whnf); first | (refine VSeq.go ?_) | (refine VB.is ?_; refine VB.no (by omega) fun _ => ?_) | (refine VLd.is ?_; refine VLd.mk (.row aT (by rfl)) ?_)
 all_goals (conv => whnf)
 refine VLoop.mk (α := Nat) (fun r => r ≤ n) (fun r => [(1000000, .tuple #[]), (12, .bool false), (13, .int .i64 (n : Int)), (14, .slice (some ⟨gw, 0, none⟩) n n), (17, .int .i64 (r : Int))]) (fun r => [.vec (some ⟨gw, 0, none⟩) n n 3 1 (flat intV (leftA X.N cores key X.N.syns p A n))]) (fun r => n - r) 0 (Nat.zero_le _) aE aH ?_
 rintro r hr
 rcases Nat.lt_or_ge r n with hlt | hge3
 ·have hgt : (leftA X.N cores key X.N.syns p A n)[r]? = some 0 := by
   rw [leftA_get hlt, hq r hlt]
   congr 1; omega
  repeat' (conv => whnf); first | (refine VIx.is ?_; refine VIx.mk rfl (by omega) (by omega) ?_) | (refine VLd.is ?_; refine VLd.mk (Rd.cast (.vec aT (sub_flat0 (f := intV) (k := 1) (fun _ => rfl) hgt rfl)) (by first | omega | (dsimp only; omega) | rfl)) ?_) | (refine VSeq.go ?_) | (refine VB.is ?_; refine VB.yes (by omega) fun _ => ?_) | (refine VB.is ?_; refine VB.no (by omega) fun _ => ?_) | (refine VAr.is ?_; refine oA ?_)
  all_goals (conv => whnf)
  exact VNext.mk (r + 1) (by omega) (by omega) aE aH
 have hrn : r = n := by omega
 subst hrn
 repeat' (conv => whnf); first | (refine VSeq.go ?_) | (refine VB.is ?_; refine VB.no (by omega) fun _ => ?_) | (refine VLd.is ?_; refine VLd.mk (.row aT (by rfl)) ?_)
 all_goals (conv => whnf)
 exact ⟨fun w' hw' => ⟨rfl, hw'.le .nil⟩⟩

end Go.Proofs
