import Derived.Test.YtjjcoiicikaaiaaGreatPlaceRowsNa
import Derived.Test.YtjjcoiicikaaiaaGreatPlaceRowsPq
import Derived.Test.YtjjcoiicikaaiaaGreatPlaceRowsVb
set_option linter.unusedVariables false
set_option linter.unusedSimpArgs false
set_option maxHeartbeats 4000000
section

namespace Go.Vx

theorem VQ.gen {a b : Int} {k : Int → Prop} (ha : 0 ≤ a) (hb : 0 < b) (h2 : a ≤ 9223372036854775807) (hk : ∀ q, a / b = q → 0 ≤ q → q ≤ a → k q) : VQ .i64 a b k :=
 .pos ha hb h2 (hk _ rfl (Int.ediv_nonneg ha (Int.le_of_lt hb)) (Int.ediv_le_self b ha))

theorem VM.gen {a b : Int} {k : Int → Prop} (ha : 0 ≤ a) (hb : 0 < b) (hk : ∀ q, a % b = q → 0 ≤ q → q < b → k q) : VM a b k :=
 .pos ha hb (hk _ rfl (Int.emod_nonneg _ (by omega)) (Int.emod_lt_of_pos _ hb))

theorem VAr.mul {a b z : Int} {k : Int → Prop} (h : a * b = z) (h1 : -9223372036854775808 ≤ z) (h2 : z ≤ 9223372036854775807) (hk : k z) : VAr .i64 (a * b) k := h ▸ .i64 h1 h2 hk

theorem VShL.one {b : Int} {k : Int → Prop} (h0 : 0 ≤ b) (h1 : b ≤ 62) (hk : k (2 ^ b.toNat)) : VShL .i64 1 b k := by
 refine .mk h0 ?_
 have e : min b.toNat (IntKind.i64.bits) = b.toNat := by
  have : IntKind.i64.bits = 64 := rfl
  rw [this]; omega
 rw [e, Int.one_mul, wrap_i64]
 ·exact hk
 ·have : (0 : Int) < 2 ^ b.toNat := Int.pow_pos (by omega)
  omega
 ·have e2 : ((2 : Int) ^ b.toNat) = ((2 ^ b.toNat : Nat) : Int) := by simp
  have h3 : 2 ^ b.toNat ≤ 2 ^ 62 := Nat.pow_le_pow_right (by omega) (by omega)
  rw [e2]
  omega

theorem VShL.is {kd : IntKind} {a b : Int} {k : Int → Prop} (hh : VShL kd a b k) : VShL kd a b k := hh

theorem VSeq.isN {at_ : Nat} {H : HP} {A : (Env → HP → Prop) → Prop} {B : Env → HP → Prop} (n : Nat) (h : at_ = n) (hh : VSeq at_ H A B) : VSeq at_ H A B := hh

theorem VBit.is {op : BinOp} {kd : IntKind} {a b : Int} {k : Int → Prop} (hh : VBit op kd a b k) : VBit op kd a b k := hh

end Go.Vx

namespace Go.Proofs

open Go Go.Vx Go.Gm

theorem near_abs (w s : Int) : nearM w s = if w < 0 then 0 - ((2 * max w (0 - w) + s - 1) / (2 * s)) else (2 * max w (0 - w) + s - 1) / (2 * s) := by
 unfold nearM
 by_cases h : w < 0
 ·rw [if_pos h, if_pos h, show max w (0 - w) = -w by omega, Int.zero_sub]
 ·rw [if_neg h, if_neg h, show max w (0 - w) = w by omega]

theorem nearest_any (x s : Int) (hx : -1099511627776 ≤ x ∧ x ≤ 1099511627776) (hs : 1 ≤ s ∧ s ≤ 1099511627776) (w : World) : Calls Tryz.prog 56 #[.int .i64 x, .int .i64 s] w fun e w' => e = .returned (.int .i64 (nearM x s)) ∧ St w [] [] w' := by
 rw [near_abs]
 refine enter (C := Tryz.cx) (F := Tryz.fx56) (args := [_, _]) Tryz.func56 rfl rfl rfl Tryz.ok56 (St.start w []) ?_
 obtain ⟨m, hm⟩ : ∃ m, max x (0 - x) = m := ⟨_, rfl⟩
 have hm0 : 0 ≤ m ∧ m ≤ 1099511627776 := by omega
 repeat' (conv => whnf); first | (refine VCall.isF 57 ?_; refine VCall.inl (F := Tryz.fx57) Tryz.func57 rfl rfl rfl Tryz.ok57 ?_) | (refine VQ.is ?_; refine VQ.is ?_; rw [hm]; refine VQ.gen (by omega) (by omega) (by omega) fun q hq hq0 hq1 => ?_) | (refine VSeq.go ?_) | (refine VB.split (fun _ => ?_) (fun _ => ?_)) | (refine VAr.is ?_; refine oA ?_)
 all_goals (conv => whnf)
 ·exact ⟨fun w' hw' => ⟨by rw [if_pos ‹_›, hq]; rfl, hw'.le .nil⟩⟩
 ·exact ⟨fun w' hw' => ⟨by rw [if_neg ‹_›, hq]; rfl, hw'.le .nil⟩⟩

theorem mul_bound {a b A B : Int} (ha : -A ≤ a ∧ a ≤ A) (hb : 0 ≤ b ∧ b ≤ B) (hA : 0 ≤ A) : -(A * B) ≤ a * b ∧ a * b ≤ A * B := mul_le_of ha.1 ha.2 hb.1 hb.2 hA

theorem fits_any (lo hi s half : Int) (hlo : -32768 ≤ lo ∧ lo ≤ 0) (hhi : 0 ≤ hi ∧ hi ≤ 32768) (hs : 1 ≤ s ∧ s ≤ 65537) (hh : 2 ≤ half ∧ half ≤ 32768) (w : World) : Calls Tryz.prog 55 #[.int .i64 lo, .int .i64 hi, .int .i64 s, .int .i64 half] w fun e w' => ∃ b : Bool, e = .returned (.bool b) ∧ (b = true ↔ fitsM lo hi s half) ∧ St w [] [] w' := by
 have n1 := (near_small (w := lo) hs.1).2 hlo.2
 have n2 := (near_small (w := hi) hs.1).1 hhi.1
 refine enter (C := Tryz.cx) (F := Tryz.fx55) (args := [_, _, _, _]) Tryz.func55 rfl rfl rfl Tryz.ok55 (St.start w []) ?_
 unfold fitsM
 obtain ⟨a, ha⟩ : ∃ a, nearM lo s = a := ⟨_, rfl⟩
 obtain ⟨b, hb⟩ : ∃ b, nearM hi s = b := ⟨_, rfl⟩
 rw [ha] at n1 ⊢
 rw [hb] at n2 ⊢
 have m1 := mul_bound (a := a) (b := s) (A := 32768) (B := 65537) (by omega) (by omega) (by omega)
 have m2 := mul_bound (a := b) (b := s) (A := 32768) (B := 65537) (by omega) (by omega) (by omega)
 obtain ⟨c, hc⟩ : ∃ c, a * s = c := ⟨_, rfl⟩
 obtain ⟨d, hd⟩ : ∃ d, b * s = d := ⟨_, rfl⟩
 rw [hc] at m1 ⊢
 rw [hd] at m2 ⊢
 repeat' (conv => whnf); first | (refine VAr.is ?_; refine VAr.is ?_; refine VAr.mul hc (by omega) (by omega) ?_) | (refine VAr.is ?_; refine VAr.is ?_; refine VAr.mul hd (by omega) (by omega) ?_) | (refine VCall.isF 56 ?_; (refine VCall.valR (fun w' _ => nearest_any _ s (by omega) (by omega) w') ?_; first | rw [ha] | rw [hb])) | (refine VSeq.go ?_) | (refine VB.split (fun _ => ?_) (fun _ => ?_)) | (refine VAr.is ?_; refine oA ?_)
 all_goals (conv => whnf)
 all_goals exact ⟨fun w' hw' => ⟨_, rfl, by first | (constructor <;> intro h <;> first | omega | (cases h; done)) | (simp; omega), hw'.le .nil⟩⟩

end Go.Proofs
end

section
section


namespace Go.Proofs

open Go Go.Vx Go.Gm

theorem _root_.Go.Vx.VAr.wadd {a b : Int} {k : Int → Prop} (hk : k (Gm.wadd a b)) : VAr .i64 (a + b) k := by
 refine .wraps ?_
 rw [IntKind.wrap_i64]
 exact hk

structure ShOk (w : World) (M : List Nat) (x : SimM) : Prop where
 par : Sl w parV 8 x.N.ps (some ⟨x.pb, 0, none⟩) x.N.ps.length x.pb 0
 parM : x.pb ∉ M
 map : mapIs w x.bw (x.R.map wrowM)
 mapM : x.bw ∉ M
 rows : ∀ r ∈ x.R, ∃ g, r.p = some ⟨g, 0, none⟩ ∧ Sl w synV 4 r.l r.p r.l.length g 0 ∧ g ∉ M

def dupd (t : Nat) (D : List DRow) (s : Syn) : List DRow := D.modify ((t + s.dl.toNat) % 16) fun d => { d with l := d.l.modify s.to.toNat fun a => wadd a s.wt }

def dupds (t : Nat) (D : List DRow) (l : List Syn) : List DRow := l.foldl (dupd t) D

theorem dupd_V (t : Nat) (D : List DRow) (s : Syn) : (dupd t D s).map drowV = D.map drowV := by
 unfold dupd
 apply List.ext_getElem?
 intro i
 simp only [List.getElem?_map, List.getElem?_modify]
 split <;> cases D[i]? <;> simp [drowV]

theorem dupds_V (t : Nat) (l : List Syn) : ∀ D : List DRow, (dupds t D l).map drowV = D.map drowV := by
 induction l with
 | nil => intro D; rfl
 | cons s l ih => intro D; exact (ih _).trans (dupd_V t D s)

theorem drowV_len {D D' : List DRow} (h : D'.map drowV = D.map drowV) {i : Nat} {d : DRow} (hi : D'[i]? = some d) : ∃ d0, D[i]? = some d0 ∧ d0.l.length = d.l.length := by
 have := congrArg (fun l => l[i]?) h
 simp only [List.getElem?_map, hi, Option.map_some] at this
 cases hd : D[i]? with
 | none => simp [hd] at this
 | some d0 =>
  simp only [hd, Option.map_some, Option.some.injEq, drowV, Value.slice.injEq] at this
  exact ⟨d0, rfl, this.2.1.symm⟩

theorem look_cases (R : List WRow) (k : Int) : (∃ r ∈ R, mfind (R.map wrowM) k = some (wrowV r) ∧ wfind (R.map wrowK) k = r.l) ∨ (mfind (R.map wrowM) k = none ∧ wfind (R.map wrowK) k = []) := by
 induction R with
 | nil => exact .inr ⟨rfl, rfl⟩
 | cons z R ih =>
  by_cases h : z.key = k
  ·exact .inl ⟨z, by simp, by simp [mfind, wrowM, h], by simp [wfind, wrowK, h]⟩
  ·rcases ih with ⟨r, h1, h2, h3⟩ | ⟨h2, h3⟩
   ·exact .inl ⟨r, by simp [h1], by simpa [mfind, wrowM, h] using h2, by simpa [wfind, wrowK, h] using h3⟩
   ·exact .inr ⟨by simpa [mfind, wrowM, h] using h2, by simpa [wfind, wrowK, h] using h3⟩

theorem _root_.Go.Vx.VLk.val {m : List (Int × Value)} {j : Int} {z v : Value} {k : Value → Prop} (h : mfind m j = some v ∨ (mfind m j = none ∧ v = z)) (hk : k v) : VLk m j fun r => found false z r k := by
 rcases h with h | ⟨h, rfl⟩
 ·exact .has h hk
 ·exact .lacks h hk

theorem ShOk.look {w : World} {M : List Nat} {x : SimM} (h : ShOk w M x) (k : Int) : ∃ (p : Option Addr) (c g : Nat), (mfind (x.R.map wrowM) k = some (.slice p (wfind (x.R.map wrowK) k).length c) ∨ (mfind (x.R.map wrowM) k = none ∧ Value.slice p (wfind (x.R.map wrowK) k).length c = nilS)) ∧
  Sl w synV 4 (wfind (x.R.map wrowK) k) p (wfind (x.R.map wrowK) k).length g 0 ∧ g ∉ M := by
 rcases look_cases x.R k with ⟨r, h1, h2, h3⟩ | ⟨h2, h3⟩
 ·obtain ⟨g, hg, hsl, hM⟩ := h.rows r h1
  rw [h3]
  exact ⟨r.p, r.cap, g, .inl h2, hsl, hM⟩
 ·rw [h3]
  exact ⟨none, 0, x.pb, .inr ⟨h2, rfl⟩, .nil (.inl rfl), h.parM⟩

def simFire (x : SimM) : List (Sta × Bool) := fire x.N.ps x.sts ((x.D[x.tick % 16]?.map (·.l)).getD [])

def simSrcs (x : SimM) (ins : List Int) : List Int := spk (simFire x) ++ ins.map fun k => -1 - k

def simStep (x : SimM) (ins : List Int) : SimM :=
 { x with tick := x.tick + 1, sts := (simFire x).map (·.1),
          D := dupds x.tick (x.D.modify (x.tick % 16) fun d => ⟨d.g, d.cap, List.replicate d.l.length 0⟩) (yields (wire x.N.syns) (simSrcs x ins)) }

end Go.Proofs

end

section


namespace Go.Proofs

open Go Go.Vx Go.Gm

def StaAll (N : Net) (sts : List Sta) : Prop := ∀ (i : Nat) p s, N.ps[i]? = some p → sts[i]? = some s → staOk p s

end Go.Proofs

end

section


namespace Go.Proofs

open Go Go.Vx Go.Gm

theorem simStep_V (x : SimM) (ins : List Int) : (simStep x ins).D.map drowV = x.D.map drowV := by
 refine (dupds_V _ _ _).trans ?_
 apply List.ext_getElem?
 intro i
 simp only [List.getElem?_map, List.getElem?_modify]
 split <;> cases x.D[i]? <;> simp [drowV]

theorem SimOk.row {x : SimM} (hx : SimOk x) : ∃ d, x.D[x.tick % 16]? = some d ∧ d.l.length = x.N.ps.length := by
 have h := hx.due
 refine ⟨x.D[x.tick % 16]'(by omega), List.getElem?_eq_getElem _, hx.cells _ (List.getElem_mem _)⟩

theorem SimOk.fire {x : SimM} (hx : SimOk x) : (simFire x).length = x.N.ps.length := by
 obtain ⟨d, h1, h2⟩ := hx.row
 unfold simFire
 rw [h1]
 exact fire_length hx.sts h2

theorem SimOk.step {x : SimM} (hx : SimOk x) (ins : List Int) : SimOk (simStep x ins) := by
 have hV := simStep_V x ins
 have hl : (simStep x ins).D.length = x.D.length := by simpa using congrArg List.length hV
 refine ⟨hx.net, hx.rows, hx.wired, ?_, hl.trans hx.due, fun d hd => ?_, hx.sv⟩
 ·show ((simFire x).map (·.1)).length = x.N.ps.length
  rw [List.length_map, hx.fire]
 ·obtain ⟨i, hi⟩ := List.getElem?_of_mem hd
  obtain ⟨d0, h1, h2⟩ := drowV_len hV hi
  rw [← h2]
  exact hx.cells d0 (List.mem_of_getElem? h1)

theorem StaAll.step {x : SimM} (hx : SimOk x) (hs : StaAll x.N x.sts) (ins : List Int) : StaAll (simStep x ins).N (simStep x ins).sts := by
 intro i p s h1 h2
 change x.N.ps[i]? = some p at h1
 change ((simFire x).map (·.1))[i]? = some s at h2
 obtain ⟨d, g1, g2⟩ := hx.row
 have hlt : i < x.N.ps.length := (List.getElem?_eq_some_iff.1 h1).1
 have hsl := hx.sts
 have e1 : x.sts[i]? = some (x.sts[i]'(by omega)) := List.getElem?_eq_getElem _
 have e2 : d.l[i]? = some (d.l[i]'(by omega)) := List.getElem?_eq_getElem _
 have e3 := fire_get h1 e1 e2
 unfold simFire at h2
 rw [g1] at h2
 rw [Option.map_some, Option.getD_some, List.getElem?_map, e3] at h2
 simp only [Option.map_some, Option.some.injEq] at h2
 subst h2
 exact tick_ok (hx.net.ps p (List.mem_of_getElem? h1)) (hs i p _ h1 e1) _

def SimM.put (x : SimM) (t : Nat) (sts : List Sta) (D : List DRow) : SimM := { x with tick := t, sts := sts, D := D }

end Go.Proofs

end
end
