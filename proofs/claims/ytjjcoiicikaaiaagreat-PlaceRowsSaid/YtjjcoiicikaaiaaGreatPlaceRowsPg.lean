import Derived.Test.YtjjcoiicikaaiaaGreatPlaceRowsPv
set_option linter.unusedVariables false
set_option linter.unusedSimpArgs false
set_option maxHeartbeats 4000000

namespace Go.Gm

structure EtyOk (x : Ety) : Prop where
 key : 0 ≤ x.key ∧ x.key ≤ 65535
 mask : 0 ≤ x.mask ∧ x.mask ≤ 65535
 fits : band x.key x.mask = x.key
 outs : 1 ≤ x.outs ∧ x.outs ≤ 31

theorem band_le (a b : Int) : 0 ≤ band a b ∧ band a b ≤ a.toNat ∧ band a b ≤ b.toNat := by
 unfold band
 have h1 : a.toNat &&& b.toNat ≤ a.toNat := Nat.and_le_left
 have h2 : a.toNat &&& b.toNat ≤ b.toNat := Nat.and_le_right
 omega

theorem bless_le (a b : Int) : 0 ≤ bless a b ∧ bless a b ≤ a.toNat := by
 unfold bless
 omega

theorem bxor_lt {a b : Int} (ha : 0 ≤ a ∧ a ≤ 65535) (hb : 0 ≤ b ∧ b ≤ 65535) : 0 ≤ bxor a b ∧ bxor a b ≤ 65535 := by
 unfold bxor
 have : a.toNat ^^^ b.toNat < 2 ^ 16 := Nat.xor_lt_two_pow (by omega) (by omega)
 omega

theorem or_add {a b : Nat} (h : a &&& b = 0) : a ||| b = a + b := by
 have hw : a + b < 2 ^ (a + b) := Nat.lt_two_pow_self
 have ha : a % 2 ^ (a + b) = a := Nat.mod_eq_of_lt (by omega)
 have hb : b % 2 ^ (a + b) = b := Nat.mod_eq_of_lt (by omega)
 have h1 := BitVec.add_eq_or_of_and_eq_zero (BitVec.ofNat (a + b) a) (BitVec.ofNat (a + b) b) (by
  apply BitVec.eq_of_toNat_eq
  rw [BitVec.toNat_and, BitVec.toNat_ofNat, BitVec.toNat_ofNat, ha, hb, h]; simp)
 have h2 := congrArg BitVec.toNat h1
 rw [BitVec.toNat_add, BitVec.toNat_or, BitVec.toNat_ofNat, BitVec.toNat_ofNat, ha, hb, Nat.mod_eq_of_lt hw] at h2
 exact h2.symm

theorem less_bit (a b i : Nat) : (a - (a &&& b)).testBit i = (a.testBit i && !b.testBit i) := by
 have h : a - (a &&& b) = a ^^^ (a &&& b) := by
  have h1 : (a ^^^ (a &&& b)) &&& (a &&& b) = 0 := by
   apply Nat.eq_of_testBit_eq
   intro j
   simp only [Nat.testBit_and, Nat.testBit_xor, Nat.zero_testBit]
   cases a.testBit j <;> cases b.testBit j <;> rfl
  have h2 : (a ^^^ (a &&& b)) ||| (a &&& b) = a := by
   apply Nat.eq_of_testBit_eq
   intro j
   simp only [Nat.testBit_and, Nat.testBit_xor, Nat.testBit_or]
   cases a.testBit j <;> cases b.testBit j <;> rfl
  have h3 := or_add h1
  omega
 rw [h, Nat.testBit_xor, Nat.testBit_and]
 cases a.testBit i <;> cases b.testBit i <;> rfl

theorem less_fits {k m d : Nat} (h : k &&& m = k) : (k - (k &&& d)) &&& (m - (m &&& d)) = k - (k &&& d) := by
 apply Nat.eq_of_testBit_eq
 intro i
 have hi := congrArg (fun x => x.testBit i) h
 simp only [Nat.testBit_and] at hi
 rw [Nat.testBit_and, less_bit, less_bit]
 revert hi
 cases k.testBit i <;> cases m.testBit i <;> cases d.testBit i <;> simp

theorem join_ok {x y z : Ety} (hx : EtyOk x) (h : joinE x y = some z) : EtyOk z := by
 unfold joinE at h
 split at h
 ·cases h
 ·cases h
  have h1 := bless_le x.key (bxor x.key y.key)
  have h2 := bless_le x.mask (bxor x.key y.key)
  have hk := hx.key
  have hm := hx.mask
  refine ⟨by dsimp only; omega, by dsimp only; omega, ?_, hx.outs⟩
  have hf := hx.fits
  unfold band bless at *
  dsimp only at *
  have e : x.key.toNat &&& x.mask.toNat = x.key.toNat := by omega
  have := less_fits (d := (bxor x.key y.key).toNat) e
  rw [Int.toNat_natCast, Int.toNat_natCast, this]

def hits (key : Int) (x : Ety) : Bool := decide (band key x.mask = x.key)

theorem findE_at {l : List Ety} {key : Int} {j : Nat} {x : Ety} (hj : l[j]? = some x) (h : hits key x = true) (hb : ∀ y ∈ l.take j, hits key y = false) : findE l key = some x.outs := by
 unfold findE
 have : l.find? (fun x => decide (band key x.mask = x.key)) = some x := by
  have hlt := (List.getElem?_eq_some_iff.1 hj).1
  rw [List.find?_eq_some_iff_append]
  refine ⟨h, l.take j, l.drop (j + 1), ?_, fun a ha => ?_⟩
  ·have e : l = l.take j ++ l.drop j := (List.take_append_drop j l).symm
   have e2 : l.drop j = x :: l.drop (j + 1) := by
    rw [List.drop_eq_getElem_cons hlt, (List.getElem?_eq_some_iff.1 hj).2]
   rw [← e2]; exact e
  ·have := hb a ha
   unfold hits at this
   simp [this]
 rw [this]; rfl

theorem findE_none {l : List Ety} {key : Int} (hb : ∀ y ∈ l, hits key y = false) : findE l key = none := by
 unfold findE
 have : l.find? (fun x => decide (band key x.mask = x.key)) = none := by
  rw [List.find?_eq_none]
  intro y hy
  have := hb y hy
  unfold hits at this
  simp [this]
 rw [this]; rfl

theorem findE_mem {l : List Ety} {key o : Int} (h : findE l key = some o) : ∃ x ∈ l, x.outs = o := by
 unfold findE at h
 cases hf : l.find? (fun x => decide (band key x.mask = x.key)) with
 | none => rw [hf] at h; cases h
 | some x =>
  rw [hf] at h
  simp only [Option.map_some, Option.some.injEq] at h
  exact ⟨x, List.mem_of_find?_eq_some hf, h⟩

theorem merged_ok {l : List Ety} (h : ∀ x ∈ l, EtyOk x) {k j : Nat} {z : Ety} (hz : EtyOk z) : ∀ x ∈ mergedAt l k j z, EtyOk x := by
 intro x hx
 unfold mergedAt at hx
 rcases List.mem_or_eq_of_mem_set hx with hx | rfl
 ·exact h x (List.mem_of_mem_eraseIdx hx)
 ·exact hz

theorem merged_len {l : List Ety} {k j : Nat} {z : Ety} (hj : j < l.length) : (mergedAt l k j z).length = l.length - 1 := by
 unfold mergedAt
 rw [List.length_set, List.length_eraseIdx_of_lt hj]

def tried (want l : List Ety) (keys : List Int) (k j : Nat) : Option (List Ety) := tryE want l keys (k, j)

theorem pairs_split (n k j : Nat) : ∀ p : Nat × Nat, p ∈ pairsM n ↔ p.1 < p.2 ∧ p.2 < n := by
 intro p
 unfold pairsM
 rw [List.mem_flatMap]
 constructor
 ·rintro ⟨k, hk, hp⟩
  rw [List.mem_map] at hp
  obtain ⟨j, hj, rfl⟩ := hp
  rw [List.mem_filter] at hj
  simp only [List.mem_range, decide_eq_true_eq] at hj hk
  exact ⟨hj.2, hj.1⟩
 ·rintro ⟨h1, h2⟩
  refine ⟨p.1, by simp; omega, ?_⟩
  rw [List.mem_map]
  refine ⟨p.2, ?_, rfl⟩
  rw [List.mem_filter]
  simp [h1, h2]

def bfrP (k j : Nat) (p : Nat × Nat) : Prop := p.1 < k ∨ (p.1 = k ∧ p.2 < j)

theorem pairs_asc (n : Nat) : (pairsM n).Pairwise fun p q => bfrP q.1 q.2 p := by
 unfold pairsM
 rw [List.pairwise_flatMap]
 refine ⟨fun k _ => ?_, ?_⟩
 ·rw [List.pairwise_map]
  refine (List.Pairwise.filter _ List.pairwise_lt_range).imp fun h => .inr ⟨rfl, h⟩
 ·refine List.pairwise_lt_range.imp fun h p hp q hq => ?_
  rw [List.mem_map] at hp hq
  obtain ⟨_, _, rfl⟩ := hp
  obtain ⟨_, _, rfl⟩ := hq
  exact .inl h

theorem pairs_take {n k j : Nat} (hj : k < j) (hjn : j < n) : ∃ A B, pairsM n = A ++ (k, j) :: B ∧ ∀ p, p ∈ A → (p ∈ pairsM n ∧ bfrP k j p) := by
 obtain ⟨A, B, e⟩ := List.append_of_mem ((pairs_split n 0 0 (k, j)).2 ⟨hj, hjn⟩)
 refine ⟨A, B, e, fun p hp => ⟨by rw [e]; exact List.mem_append_left _ hp, ?_⟩⟩
 have := pairs_asc n
 rw [e, List.pairwise_append] at this
 exact this.2.2 p hp (k, j) List.mem_cons_self

theorem mergeStep_at {want l : List Ety} {keys : List Int} {k j : Nat} {t : List Ety} (hk : k < j) (hj : j < l.length) (h : tried want l keys k j = some t) (hb : ∀ p, p.1 < p.2 → p.2 < l.length → bfrP k j p → tried want l keys p.1 p.2 = none) : mergeStep want l keys = some t := by
 obtain ⟨A, B, e, hA⟩ := pairs_take hk hj
 unfold mergeStep
 rw [e, List.findSome?_append]
 have : A.findSome? (tryE want l keys) = none := by
  rw [List.findSome?_eq_none_iff]
  intro p hp
  obtain ⟨h1, h2⟩ := hA p hp
  obtain ⟨h3, h4⟩ := (pairs_split l.length k j p).1 h1
  exact hb p h3 h4 h2
 rw [this, Option.none_or, List.findSome?_cons]
 unfold tried at h
 rw [h]

theorem mergeStep_none {want l : List Ety} {keys : List Int} (hb : ∀ p : Nat × Nat, p.1 < p.2 → p.2 < l.length → tried want l keys p.1 p.2 = none) : mergeStep want l keys = none := by
 unfold mergeStep
 rw [List.findSome?_eq_none_iff]
 intro p hp
 obtain ⟨h3, h4⟩ := (pairs_split l.length 0 0 p).1 hp
 exact hb p h3 h4

theorem tryE_some {want l : List Ety} {keys : List Int} {p : Nat × Nat} {t : List Ety} (h : tryE want l keys p = some t) : ∃ x y z, l[p.1]? = some x ∧ l[p.2]? = some y ∧ joinE x y = some z ∧ t = mergedAt l p.1 p.2 z ∧ sameE want t keys = true := by
 unfold tryE at h
 split at h
 ·rename_i x y h1 h2
  split at h
  ·rename_i z h3
   split at h
   ·rename_i h4
    cases h
    exact ⟨x, y, z, h1, h2, h3, rfl, h4⟩
   ·cases h
  ·cases h
 ·cases h

theorem mergeStep_some {want l : List Ety} {keys : List Int} {t : List Ety} (h : mergeStep want l keys = some t) : ∃ p : Nat × Nat, p.1 < p.2 ∧ p.2 < l.length ∧ tryE want l keys p = some t := by
 unfold mergeStep at h
 obtain ⟨p, hp, h1⟩ := List.exists_of_findSome?_eq_some h
 obtain ⟨h3, h4⟩ := (pairs_split l.length 0 0 p).1 hp
 exact ⟨p, h3, h4, h1⟩

theorem mergeStep_len {want l : List Ety} {keys : List Int} {t : List Ety} (h : mergeStep want l keys = some t) : t.length + 1 = l.length := by
 obtain ⟨p, h1, h2, h3⟩ := mergeStep_some h
 obtain ⟨x, y, z, _, _, _, rfl, _⟩ := tryE_some h3
 have := merged_len (l := l) (k := p.1) (z := z) h2
 omega

theorem mergeStep_ok {want l : List Ety} {keys : List Int} {t : List Ety} (hl : ∀ x ∈ l, EtyOk x) (h : mergeStep want l keys = some t) : (∀ x ∈ t, EtyOk x) ∧ sameE want t keys = true := by
 obtain ⟨p, h1, h2, h3⟩ := mergeStep_some h
 obtain ⟨x, y, z, hx, _, hj, rfl, hs⟩ := tryE_some h3
 exact ⟨merged_ok hl (join_ok (hl x (List.mem_of_getElem? hx)) hj), hs⟩

def mergeE (want : List Ety) (keys : List Int) (l : List Ety) : List Ety := mergeF want keys l.length l

theorem mergeE_step {want l : List Ety} {keys : List Int} {t : List Ety} (h : mergeStep want l keys = some t) : mergeE want keys l = mergeE want keys t := by
 have hlen := mergeStep_len h
 unfold mergeE
 rw [← hlen]
 simp only [mergeF, h]

theorem mergeE_stop {want l : List Ety} {keys : List Int} (h : mergeStep want l keys = none) : mergeE want keys l = l := by
 unfold mergeE
 cases hl : l.length with
 | zero => rfl
 | succ m => simp [mergeF, h]

theorem sameE_refl (l : List Ety) (keys : List Int) : sameE l l keys = true := by
 unfold sameE
 rw [List.all_eq_true]
 intro k _
 simp

theorem findE_pos {l : List Ety} (hl : ∀ x ∈ l, EtyOk x) {m : List Ety} (hm : ∀ x ∈ m, EtyOk x) (key : Int) : (findE l key).getD 0 = (findE m key).getD 0 ↔ findE l key = findE m key := by
 constructor
 ·intro h
  cases h1 : findE l key with
  | none =>
   cases h2 : findE m key with
   | none => rfl
   | some o =>
    obtain ⟨x, hx, rfl⟩ := findE_mem h2
    rw [h1, h2] at h
    have := (hm x hx).outs
    simp only [Option.getD_none, Option.getD_some] at h
    omega
  | some a =>
   obtain ⟨x, hx, rfl⟩ := findE_mem h1
   have h3 := (hl x hx).outs
   cases h2 : findE m key with
   | none =>
    rw [h1, h2] at h
    simp only [Option.getD_none, Option.getD_some] at h
    omega
   | some b =>
    rw [h1, h2] at h
    simp only [Option.getD_some] at h
    rw [h]
 ·intro h; rw [h]

theorem etyAt_some {T : Int → List Int} {r : Nat} {key : Int} {x : Ety} (h : etyAt T r key = some x) : x = ⟨key, 65535, (T key)[r]?.getD 0⟩ ∧ (T key)[r]?.getD 0 ≠ 0 := by
 unfold etyAt at h
 dsimp only at h
 split at h
 ·cases h
 ·rename_i h1
  cases h
  exact ⟨rfl, h1⟩

theorem table_ok {T : Int → List Int} (hT : ∀ k, OutsOk (T k)) {keys : List Int} (hk : ∀ k ∈ keys, 0 ≤ k ∧ k ≤ 65535) (r : Nat) : ∀ x ∈ tableM T keys r, EtyOk x := by
 intro x hx
 unfold tableM at hx
 rw [List.mem_filterMap] at hx
 obtain ⟨k, hkm, h⟩ := hx
 obtain ⟨rfl, h1⟩ := etyAt_some h
 have hr := hk k hkm
 refine ⟨hr, ⟨by dsimp only; omega, by dsimp only; omega⟩, ?_, ?_⟩
 ·unfold band
  dsimp only
  have : (65535 : Int).toNat = 2 ^ 16 - 1 := rfl
  rw [this, Nat.and_two_pow_sub_one_eq_mod, Nat.mod_eq_of_lt (by omega)]
  omega
 ·dsimp only
  cases hg : (T k)[r]? with
  | none => rw [hg] at h1; exact absurd rfl h1
  | some v =>
   rw [hg] at h1
   have := hT k v (List.mem_of_getElem? hg)
   simp only [Option.getD_some] at h1 ⊢
   omega

theorem table_keys (T : Int → List Int) (keys : List Int) (r : Nat) : (tableM T keys r).map (·.key) = keys.filter fun k => decide ((T k)[r]?.getD 0 ≠ 0) := by
 unfold tableM
 induction keys with
 | nil => rfl
 | cons k l ih =>
  rw [List.filterMap_cons, List.filter_cons]
  cases h : etyAt T r k with
  | none =>
   have : (T k)[r]?.getD 0 = 0 := by
    unfold etyAt at h
    dsimp only at h
    split at h
    ·assumption
    ·cases h
   rw [if_neg (by simp [this])]
   exact ih
  | some x =>
   obtain ⟨rfl, h1⟩ := etyAt_some h
   rw [if_pos (by simpa using h1), List.map_cons, ih]

theorem table_len (T : Int → List Int) (keys : List Int) (r : Nat) : (tableM T keys r).length ≤ keys.length := by
 have := congrArg List.length (table_keys T keys r)
 rw [List.length_map] at this
 rw [this]
 exact List.length_filter_le ..

end Go.Gm
