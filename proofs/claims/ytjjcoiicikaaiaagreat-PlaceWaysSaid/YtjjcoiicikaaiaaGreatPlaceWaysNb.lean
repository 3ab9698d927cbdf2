import Derived.Test.YtjjcoiicikaaiaaGreatPlaceWaysNa
import Derived.Test.YtjjcoiicikaaiaaGreatPlaceWaysVb
section

set_option linter.unusedVariables false
set_option linter.unusedSimpArgs false
set_option maxHeartbeats 4000000

namespace Go.Proofs

open Go Go.Vx Go.Gm

theorem _root_.Go.Vx.VAr.wadd {a b : Int} {k : Int → Prop} (hk : k (Gm.wadd a b)) : VAr .i64 (a + b) k := by
 refine .wraps ?_
 rw [IntKind.wrap_i64]
 exact hk

structure ShOk (w : World) (M : List Nat) (x : SimM) : Prop where
 par : Sl w parV 8 x.N.ps (some ⟨x.pb, 0, none⟩) x.N.ps.length x.pb 0
 parM : x.pb ∉ M
 map : mapIs w x.bw (x.R.map wrowM)
 mapM : x.bw ∉ M
 rows : ∀ r ∈ x.R, ∃ g, r.p = some ⟨g, 0, none⟩ ∧ Sl w synV 4 r.l r.p r.l.length g 0 ∧ g ∉ M

def dupd (t : Nat) (D : List DRow) (s : Syn) : List DRow := D.modify ((t + s.dl.toNat) % 16) fun d => { d with l := d.l.modify s.to.toNat fun a => wadd a s.wt }

def dupds (t : Nat) (D : List DRow) (l : List Syn) : List DRow := l.foldl (dupd t) D

theorem dupd_V (t : Nat) (D : List DRow) (s : Syn) : (dupd t D s).map drowV = D.map drowV := by
 unfold dupd
 apply List.ext_getElem?
 intro i
 simp only [List.getElem?_map, List.getElem?_modify]
 split <;> cases D[i]? <;> simp [drowV]

theorem dupds_V (t : Nat) (l : List Syn) : ∀ D : List DRow, (dupds t D l).map drowV = D.map drowV := by
 induction l with
 | nil => intro D; rfl
 | cons s l ih => intro D; exact (ih _).trans (dupd_V t D s)

theorem drowV_len {D D' : List DRow} (h : D'.map drowV = D.map drowV) {i : Nat} {d : DRow} (hi : D'[i]? = some d) : ∃ d0, D[i]? = some d0 ∧ d0.l.length = d.l.length := by
 have := congrArg (fun l => l[i]?) h
 simp only [List.getElem?_map, hi, Option.map_some] at this
 cases hd : D[i]? with
 | none => simp [hd] at this
 | some d0 =>
  simp only [hd, Option.map_some, Option.some.injEq, drowV, Value.slice.injEq] at this
  exact ⟨d0, rfl, this.2.1.symm⟩

theorem look_cases (R : List WRow) (k : Int) : (∃ r ∈ R, mfind (R.map wrowM) k = some (wrowV r) ∧ wfind (R.map wrowK) k = r.l) ∨ (mfind (R.map wrowM) k = none ∧ wfind (R.map wrowK) k = []) := by
 induction R with
 | nil => exact .inr ⟨rfl, rfl⟩
 | cons z R ih =>
  by_cases h : z.key = k
  ·exact .inl ⟨z, by simp, by simp [mfind, wrowM, h], by simp [wfind, wrowK, h]⟩
  ·rcases ih with ⟨r, h1, h2, h3⟩ | ⟨h2, h3⟩
   ·exact .inl ⟨r, by simp [h1], by simpa [mfind, wrowM, h] using h2, by simpa [wfind, wrowK, h] using h3⟩
   ·exact .inr ⟨by simpa [mfind, wrowM, h] using h2, by simpa [wfind, wrowK, h] using h3⟩

theorem _root_.Go.Vx.VLk.val {m : List (Int × Value)} {j : Int} {z v : Value} {k : Value → Prop} (h : mfind m j = some v ∨ (mfind m j = none ∧ v = z)) (hk : k v) : VLk m j fun r => found false z r k := by
 rcases h with h | ⟨h, rfl⟩
 ·exact .has h hk
 ·exact .lacks h hk

theorem ShOk.look {w : World} {M : List Nat} {x : SimM} (h : ShOk w M x) (k : Int) : ∃ (p : Option Addr) (c g : Nat), (mfind (x.R.map wrowM) k = some (.slice p (wfind (x.R.map wrowK) k).length c) ∨ (mfind (x.R.map wrowM) k = none ∧ Value.slice p (wfind (x.R.map wrowK) k).length c = nilS)) ∧
  Sl w synV 4 (wfind (x.R.map wrowK) k) p (wfind (x.R.map wrowK) k).length g 0 ∧ g ∉ M := by
 rcases look_cases x.R k with ⟨r, h1, h2, h3⟩ | ⟨h2, h3⟩
 ·obtain ⟨g, hg, hsl, hM⟩ := h.rows r h1
  rw [h3]
  exact ⟨r.p, r.cap, g, .inl h2, hsl, hM⟩
 ·rw [h3]
  exact ⟨none, 0, x.pb, .inr ⟨h2, rfl⟩, .nil (.inl rfl), h.parM⟩

def simFire (x : SimM) : List (Sta × Bool) := fire x.N.ps x.sts ((x.D[x.tick % 16]?.map (·.l)).getD [])

def simSrcs (x : SimM) (ins : List Int) : List Int := spk (simFire x) ++ ins.map fun k => -1 - k

def simStep (x : SimM) (ins : List Int) : SimM :=
 { x with tick := x.tick + 1, sts := (simFire x).map (·.1),
          D := dupds x.tick (x.D.modify (x.tick % 16) fun d => ⟨d.g, d.cap, List.replicate d.l.length 0⟩) (yields (wire x.N.syns) (simSrcs x ins)) }

end Go.Proofs

end

section


namespace Go.Proofs

open Go Go.Vx Go.Gm

def StaAll (N : Net) (sts : List Sta) : Prop := ∀ (i : Nat) p s, N.ps[i]? = some p → sts[i]? = some s → staOk p s

end Go.Proofs

end

section


namespace Go.Proofs

open Go Go.Vx Go.Gm

theorem simStep_V (x : SimM) (ins : List Int) : (simStep x ins).D.map drowV = x.D.map drowV := by
 refine (dupds_V _ _ _).trans ?_
 apply List.ext_getElem?
 intro i
 simp only [List.getElem?_map, List.getElem?_modify]
 split <;> cases x.D[i]? <;> simp [drowV]

theorem SimOk.row {x : SimM} (hx : SimOk x) : ∃ d, x.D[x.tick % 16]? = some d ∧ d.l.length = x.N.ps.length := by
 have h := hx.due
 refine ⟨x.D[x.tick % 16]'(by omega), List.getElem?_eq_getElem _, hx.cells _ (List.getElem_mem _)⟩

theorem SimOk.fire {x : SimM} (hx : SimOk x) : (simFire x).length = x.N.ps.length := by
 obtain ⟨d, h1, h2⟩ := hx.row
 unfold simFire
 rw [h1]
 exact fire_length hx.sts h2

theorem SimOk.step {x : SimM} (hx : SimOk x) (ins : List Int) : SimOk (simStep x ins) := by
 have hV := simStep_V x ins
 have hl : (simStep x ins).D.length = x.D.length := by simpa using congrArg List.length hV
 refine ⟨hx.net, hx.rows, hx.wired, ?_, hl.trans hx.due, fun d hd => ?_, hx.sv⟩
 ·show ((simFire x).map (·.1)).length = x.N.ps.length
  rw [List.length_map, hx.fire]
 ·obtain ⟨i, hi⟩ := List.getElem?_of_mem hd
  obtain ⟨d0, h1, h2⟩ := drowV_len hV hi
  rw [← h2]
  exact hx.cells d0 (List.mem_of_getElem? h1)

theorem StaAll.step {x : SimM} (hx : SimOk x) (hs : StaAll x.N x.sts) (ins : List Int) : StaAll (simStep x ins).N (simStep x ins).sts := by
 intro i p s h1 h2
 change x.N.ps[i]? = some p at h1
 change ((simFire x).map (·.1))[i]? = some s at h2
 obtain ⟨d, g1, g2⟩ := hx.row
 have hlt : i < x.N.ps.length := (List.getElem?_eq_some_iff.1 h1).1
 have hsl := hx.sts
 have e1 : x.sts[i]? = some (x.sts[i]'(by omega)) := List.getElem?_eq_getElem _
 have e2 : d.l[i]? = some (d.l[i]'(by omega)) := List.getElem?_eq_getElem _
 have e3 := fire_get h1 e1 e2
 unfold simFire at h2
 rw [g1] at h2
 rw [Option.map_some, Option.getD_some, List.getElem?_map, e3] at h2
 simp only [Option.map_some, Option.some.injEq] at h2
 subst h2
 exact tick_ok (hx.net.ps p (List.mem_of_getElem? h1)) (hs i p _ h1 e1) _

def SimM.put (x : SimM) (t : Nat) (sts : List Sta) (D : List DRow) : SimM := { x with tick := t, sts := sts, D := D }

structure RunS where
 t : Nat
 sts : List Sta
 D : List DRow
 k : Nat
 out : List Evt
 p : Option Addr
 cap : Nat

end Go.Proofs

end
