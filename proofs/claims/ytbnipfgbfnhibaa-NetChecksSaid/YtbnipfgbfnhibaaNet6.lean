/- Net6: a tick of a simulation, walked. -/
import Derived.Test.YtbnipfgbfnhibaaNet5
import Derived.Test.YtbnipfgbfnhibaaKit
set_option linter.unusedVariables false
set_option linter.unusedSimpArgs false
namespace Go.Proofs
open Go Go.Vx Go.Gm

theorem _root_.Go.Vx.VAr.wadd {a b : Int} {k : Int → Prop} (hk : k (Gm.wadd a b)) : VAr .i64 (a + b) k := by
  refine .wraps ?_
  rw [IntKind.wrap_i64]
  exact hk

/-- What the copies of a simulation share, as it is known in a world. -/
structure ShOk (w : World) (M : List Nat) (x : SimM) : Prop where
  par : Sl w parV 8 x.N.ps (some ⟨x.pb, 0, none⟩) x.N.ps.length x.pb 0
  parM : x.pb ∉ M
  map : mapIs w x.bw (x.R.map wrowM)
  mapM : x.bw ∉ M
  rows : ∀ r ∈ x.R, ∃ g, r.p = some ⟨g, 0, none⟩ ∧ Sl w synV 4 r.l r.p r.l.length g 0 ∧ g ∉ M

theorem ShOk.of {w0 w : World} {M : List Nat} {H : HP} {Z : HP → HP} {x : SimM} (hs : St w0 M H w) (h : AtS H (ownH x) Z) (hw : WOk x.R) (hin : ∀ y ∈ shrH x, y ∈ Z []) : ShOk w (ids (ownH x)) x := by
  have hp := h.perm
  have mem : ∀ y ∈ shrH x, y ∈ H := fun y hy => hp.mem_iff.2 (List.mem_append_right _ (hin y hy))
  have h1 : Ent.map x.bw (x.R.map wrowM) ∈ shrH x := by simp [shrH]
  have h2 : Ent.vec (some ⟨x.pb, 0, none⟩) x.N.ps.length x.pc 42 8 (flat parV x.N.ps) ∈ shrH x := by simp [shrH]
  refine ⟨Sl.own' hs (mem _ h2) (fun _ => rfl) rfl, hs.apartS h (hin _ h2) rfl, hs.own _ (mem _ h1), hs.apartS h (hin _ h1) rfl, fun r hr => ?_⟩
  obtain ⟨g, hg⟩ := hw.ptr r hr
  have h3 : wrowE r ∈ shrH x := by simp only [shrH, List.mem_cons, List.mem_map]; exact .inr (.inr ⟨r, hr, rfl⟩)
  have h4 := mem _ h3
  have h5 := hin _ h3
  unfold wrowE at h4 h5
  rw [hg] at h4 h5 ⊢
  exact ⟨g, rfl, Sl.own' hs h4 (fun _ => rfl) rfl, hs.apartS h h5 rfl⟩

theorem sub_due {x : SimM} {D : List DRow} (hD : D.map drowV = x.D.map drowV) {k : Nat} {d : DRow} (h : D[k]? = some d) : sub (simC x) (6 + k) 1 = some [drowV d] := by
  obtain ⟨hlt, rfl⟩ := List.getElem?_eq_some_iff.1 h
  rw [simC_eq, ← hD, sub_mk _ _ _ (by simp [six]; omega)]
  have h6 : (six x).length = 6 := rfl
  rw [List.drop_append, List.drop_eq_nil_of_le (by omega), List.nil_append, h6, Nat.add_sub_cancel_left]
  rw [← List.map_drop, List.drop_eq_getElem_cons hlt]
  rfl

/-- What a synapse adds, in the rows as they lie. -/
def dupd (t : Nat) (D : List DRow) (s : Syn) : List DRow := D.modify ((t + s.dl.toNat) % 16) fun d => { d with l := d.l.modify s.to.toNat fun a => wadd a s.wt }

def dupds (t : Nat) (D : List DRow) (l : List Syn) : List DRow := l.foldl (dupd t) D

theorem dupd_V (t : Nat) (D : List DRow) (s : Syn) : (dupd t D s).map drowV = D.map drowV := by
  unfold dupd
  apply List.ext_getElem?
  intro i
  simp only [List.getElem?_map, List.getElem?_modify]
  split <;> cases D[i]? <;> simp [drowV]

theorem dupds_V (t : Nat) (l : List Syn) : ∀ D : List DRow, (dupds t D l).map drowV = D.map drowV := by
  induction l with
  | nil => intro D; rfl
  | cons s l ih => intro D; exact (ih _).trans (dupd_V t D s)

theorem dupd_l (t : Nat) (D : List DRow) (s : Syn) : (dupd t D s).map (·.l) = due1 t (D.map (·.l)) s := by
  unfold dupd due1
  apply List.ext_getElem?
  intro i
  simp only [List.getElem?_map, List.getElem?_modify]
  split <;> cases D[i]? <;> simp

theorem dupds_l (t : Nat) (l : List Syn) : ∀ D : List DRow, (dupds t D l).map (·.l) = l.foldl (due1 t) (D.map (·.l)) := by
  induction l with
  | nil => intro D; rfl
  | cons s l ih => intro D; exact (ih _).trans (by rw [dupd_l]; rfl)

theorem dupds_snoc (t : Nat) (D : List DRow) (l : List Syn) (s : Syn) : dupds t D (l ++ [s]) = dupd t (dupds t D l) s := by simp [dupds]

theorem drowV_len {D D' : List DRow} (h : D'.map drowV = D.map drowV) {i : Nat} {d : DRow} (hi : D'[i]? = some d) : ∃ d0, D[i]? = some d0 ∧ d0.l.length = d.l.length := by
  have := congrArg (fun l => l[i]?) h
  simp only [List.getElem?_map, hi, Option.map_some] at this
  cases hd : D[i]? with
  | none => simp [hd] at this
  | some d0 =>
    simp only [hd, Option.map_some, Option.some.injEq, drowV, Value.slice.injEq] at this
    exact ⟨d0, rfl, this.2.1.symm⟩

theorem look_cases (R : List WRow) (k : Int) : (∃ r ∈ R, mfind (R.map wrowM) k = some (wrowV r) ∧ wfind (R.map wrowK) k = r.l) ∨ (mfind (R.map wrowM) k = none ∧ wfind (R.map wrowK) k = []) := by
  induction R with
  | nil => exact .inr ⟨rfl, rfl⟩
  | cons z R ih =>
    by_cases h : z.key = k
    · exact .inl ⟨z, by simp, by simp [mfind, wrowM, h], by simp [wfind, wrowK, h]⟩
    · rcases ih with ⟨r, h1, h2, h3⟩ | ⟨h2, h3⟩
      · exact .inl ⟨r, by simp [h1], by simpa [mfind, wrowM, h] using h2, by simpa [wfind, wrowK, h] using h3⟩
      · exact .inr ⟨by simpa [mfind, wrowM, h] using h2, by simpa [wfind, wrowK, h] using h3⟩

theorem _root_.Go.Vx.VLk.val {m : List (Int × Value)} {j : Int} {z v : Value} {k : Value → Prop} (h : mfind m j = some v ∨ (mfind m j = none ∧ v = z)) (hk : k v) : VLk m j fun r => found false z r k := by
  rcases h with h | ⟨h, rfl⟩
  · exact .has h hk
  · exact .lacks h hk

/-- What a look-up of a source finds. -/
theorem ShOk.look {w : World} {M : List Nat} {x : SimM} (h : ShOk w M x) (k : Int) : ∃ (p : Option Addr) (c g : Nat), (mfind (x.R.map wrowM) k = some (.slice p (wfind (x.R.map wrowK) k).length c) ∨ (mfind (x.R.map wrowM) k = none ∧ Value.slice p (wfind (x.R.map wrowK) k).length c = nilS)) ∧
    Sl w synV 4 (wfind (x.R.map wrowK) k) p (wfind (x.R.map wrowK) k).length g 0 ∧ g ∉ M := by
  rcases look_cases x.R k with ⟨r, h1, h2, h3⟩ | ⟨h2, h3⟩
  · obtain ⟨g, hg, hsl, hM⟩ := h.rows r h1
    rw [h3]
    exact ⟨r.p, r.cap, g, .inl h2, hsl, hM⟩
  · rw [h3]
    exact ⟨none, 0, x.pb, .inr ⟨h2, rfl⟩, .nil (.inl rfl), h.parM⟩

theorem modify_of_get {α : Type} {l : List α} {k : Nat} {a : α} (f : α → α) (h : l[k]? = some a) : l.modify k f = l.set k (f a) := by
  obtain ⟨hlt, rfl⟩ := List.getElem?_eq_some_iff.1 h
  apply List.ext_getElem?
  intro i
  rw [List.getElem?_modify, List.getElem?_set]
  by_cases hk : k = i
  · subst hk; simp [hlt]
  · simp [hk]

theorem dupd_set {t : Nat} {D : List DRow} {s : Syn} {d : DRow} {a : Int} {k : Nat} (hk : k = (t + s.dl.toNat) % 16) (hd : D[k]? = some d) (ha : d.l[s.to.toNat]? = some a) :
    D.set k ⟨d.g, d.cap, d.l.set s.to.toNat (wadd a s.wt)⟩ = dupd t D s := by
  subst hk
  unfold dupd
  rw [modify_of_get _ hd, modify_of_get _ ha]

theorem _root_.List.set_getElem?_self' {α : Type} {l : List α} {k : Nat} {a : α} (h : l[k]? = some a) : l.set k a = l := by
  obtain ⟨hlt, rfl⟩ := List.getElem?_eq_some_iff.1 h
  simp

theorem dupds_app (t : Nat) (D : List DRow) (a b : List Syn) : dupds t D (a ++ b) = dupds t (dupds t D a) b := by simp [dupds]

theorem yields_snoc (W : List (Int × List Syn)) (l : List Int) (k : Int) : yields W (l ++ [k]) = yields W l ++ wfind W k := by simp [yields]

/-- The states and the spikes of a tick. -/
def simFire (x : SimM) : List (Sta × Bool) := fire x.N.ps x.sts ((x.D[x.tick % 16]?.map (·.l)).getD [])

/-- The sources that send in a tick. -/
def simSrcs (x : SimM) (ins : List Int) : List Int := spk (simFire x) ++ ins.map fun k => -1 - k

/-- A simulation behind a tick. -/
def simStep (x : SimM) (ins : List Int) : SimM :=
  { x with tick := x.tick + 1, sts := (simFire x).map (·.1),
           D := dupds x.tick (x.D.modify (x.tick % 16) fun d => ⟨d.g, d.cap, List.replicate d.l.length 0⟩) (yields (wire x.N.syns) (simSrcs x ins)) }

theorem yields_app (W : List (Int × List Syn)) (a b : List Int) : yields W (a ++ b) = yields W a ++ yields W b := by simp [yields]


theorem step_any (x : SimM) (hx : SimOk x) (htick : x.tick < 10000) (hst : ∀ (i : Nat) p s, x.N.ps[i]? = some p → x.sts[i]? = some s → staOk p s) (ins : List Int) (hins : ∀ k ∈ ins, 0 ≤ k ∧ k ≤ 256) (hil : ins.length ≤ 65536) (pi : Option Addr) (ci bi oi : Nat) (w : World)
    (hs : St w (ids (ownH x)) (ownH x) w) (hsh : ShOk w (ids (ownH x)) x) (hin : Sl w intV 1 ins pi ins.length bi oi) (hbi : bi ∉ ids (ownH x)) :
    Calls Try.prog 60 #[.pointer (some ⟨x.b, 0, none⟩), .slice pi ins.length ci] w fun e w' => ∃ y : Option Addr × Nat, e = .returned (.slice y.1 (spk (simFire x)).length y.2) ∧
      (0 < (spk (simFire x)).length → ∃ g, y.1 = some ⟨g, 0, none⟩) ∧ St w (ids (ownH x)) (ownH (simStep x ins) ++ [.vec y.1 (spk (simFire x)).length y.2 3 1 (flat intV (spk (simFire x)))]) w' := by
  obtain ⟨b, N, pb, pc, sv, bw, R, tk, sb, sc, sts, D⟩ := x
  obtain ⟨hN, hR, hW, hsl, hDl, hcells⟩ := hx
  obtain ⟨hpar, hparM, hmap, hmapM, hrows⟩ := hsh
  dsimp only at *
  have hpos := hN.some
  have hfew := hN.few
  obtain ⟨d0, hd0⟩ : ∃ d0, D[tk % 16]? = some d0 := ⟨D[tk % 16]'(by omega), List.getElem?_eq_getElem _⟩
  have hd0l := hcells d0 (List.mem_of_getElem? hd0)
  obtain ⟨F, hF⟩ : ∃ F, fire N.ps sts d0.l = F := ⟨_, rfl⟩
  have hFl : F.length = sts.length := by rw [← hF, fire_length hsl hd0l, hsl]
  obtain ⟨Mx, hMx⟩ : ∃ Mx, ids (ownH ⟨b, N, pb, pc, sv, bw, R, tk, sb, sc, sts, D⟩) = Mx := ⟨_, rfl⟩
  have hSF : simFire ⟨b, N, pb, pc, sv, bw, R, tk, sb, sc, sts, D⟩ = F := by simp only [simFire, hd0, Option.map_some, Option.getD_some]; exact hF
  rw [hMx] at hs hbi hparM hmapM hrows ⊢
  rw [hSF]
  obtain ⟨cs, hcs⟩ : ∃ cs, simC ⟨b, N, pb, pc, sv, bw, R, tk, sb, sc, sts, D⟩ = cs := ⟨_, rfl⟩
  have hrow : sub cs (6 + (((tk : Int) + 0) % 16).toNat) 1 = some [drowV d0] := by
    have := sub_due (x := ⟨b, N, pb, pc, sv, bw, R, tk, sb, sc, sts, D⟩) rfl hd0
    rw [hcs] at this
    rw [show ((tk : Int) + 0) % 16 = ((tk % 16 : Nat) : Int) by omega]; exact this
  have h0 : sub cs 0 1 = some [.slice (some ⟨pb, 0, none⟩) N.ps.length pc] := by rw [← hcs]; rfl
  have h3 : sub cs 3 1 = some [.map (some bw)] := by rw [← hcs]; rfl
  have h4 : sub cs 4 1 = some [.int .i64 (tk : Int)] := by rw [← hcs]; rfl
  have h5 : sub cs 5 1 = some [.slice (some ⟨sb, 0, none⟩) sts.length sc] := by rw [← hcs, sub_mk _ _ _ (by simp [simC])]; rfl
  unfold ownH at hs
  dsimp only at hs
  rw [hcs] at hs
  refine enter (C := Try.cx) (F := Try.fx60) (args := [_, _]) Try.func60 rfl rfl rfl Try.ok60 hs ?_
  repeat' (conv => whnf); first
    | (refine VNew.is ?_; refine VNew.mk fun b2 => ?_)
    | (refine VCall.isF 86 ?_; refine VCall.inl (F := Try.fx86) Try.func86 rfl rfl rfl Try.ok86 ?_)
    | (refine VLd.is ?_; refine VLd.mk (Rd.cast (.row (by repeat (first | exact At.here | apply At.there | with_reducible apply At.app | with_reducible apply At.app2)) h4) (by first | omega | (dsimp only; omega) | rfl)) ?_)
    | (refine VLd.is ?_; refine VLd.mk (Rd.cast (.row (by repeat (first | exact At.here | apply At.there | with_reducible apply At.app | with_reducible apply At.app2)) hrow) (by first | omega | (dsimp only; omega) | rfl)) ?_)
    | (refine VSeq.is ?_; refine VSeq.go ?_)
    | (refine VB.is ?_; refine VB.split (fun _ => ?_) (fun h => absurd (by omega) h))
    | (refine VB.is ?_; refine VB.split (fun h => absurd h (by omega)) (fun _ => ?_))
    | (refine VB.is ?_; refine VB.split (fun _ => ?_) (fun _ => ?_))
    | (refine boolE_split (fun h => ?_) (fun h => ?_) <;> subst h)
    | (refine VLd.is ?_; refine VLd.mk (.row (by repeat (first | exact At.here | apply At.there | with_reducible apply At.app | with_reducible apply At.app2)) (by rfl)) ?_)
    | (refine VSt.is ?_; refine VSt.row (by repeat (first | exact At.here | apply At.there | with_reducible apply At.app | with_reducible apply At.app2)) (by rfl) (by first | rfl | assumption) ?_)
    | (refine VNew.is ?_; refine VNew.mk fun _ => ?_)
    | (refine VAr.is ?_; refine VAr.i64 (by omega) (by omega) ?_)
    | (refine VIx.is ?_; refine VIx.mk rfl (by omega) (by omega) ?_)
    | (refine VKeep.is ?_; refine VKeep.mk (by repeat (first | exact HLe.nil | exact HLe.refl _ | refine HLe.nilv ?_ | (with_reducible refine HLe.seg ?_ ?_; (focus (repeat (first | with_reducible exact AtS.here | with_reducible exact AtS.here2 | exact AtS.last | apply AtS.there | with_reducible apply AtS.app | with_reducible apply AtS.app2)))) | refine HLe.cons (by repeat (first | exact At.here | apply At.there | with_reducible apply At.app | with_reducible apply At.app2)) ?_ | refine HLe.seg (by repeat (first | with_reducible exact AtS.here | with_reducible exact AtS.here2 | exact AtS.last | apply AtS.there | with_reducible apply AtS.app | with_reducible apply AtS.app2)) ?_ | exact HLe.last (by repeat (first | with_reducible exact AtS.here | with_reducible exact AtS.here2 | exact AtS.last | apply AtS.there | with_reducible apply AtS.app | with_reducible apply AtS.app2)))) ?_)
    | (refine VHs.is ?_; refine VHs.mk _ (HLe.refl _) ?_)
    | (refine VQ.is ?_; refine VQ.pos (by omega) (by omega) (by omega) ?_)
    | (refine VM.is ?_; refine VM.pos (by omega) (by omega) ?_)
    | (refine And.intro ?_ ?_)
  all_goals (conv => whnf)
  refine VLoop.kp (α := Nat × Option Addr × Nat) [1000000, 1, 2, 4, 6, 15, 16] [0, 1] rfl rfl (fun x => x.1 ≤ N.ps.length ∧ (0 < (spk (F.take x.1)).length → ∃ g, x.2.1 = some ⟨g, 0, none⟩))
    (fun x K => (17, .int .i64 (x.1 : Int)) :: (5, .slice x.2.1 (spk (F.take x.1)).length x.2.2) :: K)
    (fun x R => .vec x.2.1 (spk (F.take x.1)).length x.2.2 3 1 (flat intV (spk (F.take x.1))) :: .vec (some ⟨sb, 0, none⟩) sts.length sc 98 2 (flat staV (mids F sts x.1)) :: (D.map drowE ++ R))
    (fun x => N.ps.length - x.1) (0, none, 0) ⟨by simp, by simp [spk, spkFrom]⟩ (by repeat (first | exact trivial | refine ⟨rfl, ?_⟩)) (by repeat (first | exact HLe.nil | exact HLe.refl _ | refine HLe.nilv ?_ | (with_reducible refine HLe.seg ?_ ?_; (focus (repeat (first | with_reducible exact AtS.here | with_reducible exact AtS.here2 | exact AtS.last | apply AtS.there | with_reducible apply AtS.app | with_reducible apply AtS.app2)))) | refine HLe.cons (by repeat (first | exact At.here | apply At.there | with_reducible apply At.app | with_reducible apply At.app2)) ?_ | refine HLe.seg (by repeat (first | with_reducible exact AtS.here | with_reducible exact AtS.here2 | exact AtS.last | apply AtS.there | with_reducible apply AtS.app | with_reducible apply AtS.app2)) ?_ | exact HLe.last (by repeat (first | with_reducible exact AtS.here | with_reducible exact AtS.here2 | exact AtS.last | apply AtS.there | with_reducible apply AtS.app | with_reducible apply AtS.app2)))) ?_
  · rintro ⟨i, p, cap⟩ ⟨hi, hp⟩
    dsimp only at *
    rcases Nat.lt_or_ge i N.ps.length with hlt | hge
    · obtain ⟨q, hq⟩ := hpar.get hlt
      obtain ⟨s, hsi⟩ : ∃ s, sts[i]? = some s := ⟨sts[i]'(by omega), List.getElem?_eq_getElem _⟩
      obtain ⟨xx, hxx⟩ : ∃ xx, d0.l[i]? = some xx := ⟨d0.l[i]'(by omega), List.getElem?_eq_getElem _⟩
      have hqo := hN.ps q (List.mem_of_getElem? hq)
      have hso := hst i q s hq hsi
      have hT := Tick_ok q s xx hqo hso
      have hFi : F[i]? = some (tick q s xx) := by rw [← hF]; exact fire_get hq hsi hxx
      obtain ⟨⟨s', fb⟩, htk⟩ : ∃ y, tick q s xx = y := ⟨_, rfl⟩
      rw [htk] at hT hFi
      dsimp only at hT
      have hmi : (mids F sts i)[i]? = some s := by rw [mids_get hFl (by omega)]; exact hsi
      have hset := mids_set hFi hFl
      have hspk := spk_take hFi
      have hlen := spk_length F i
      dsimp only at hset hspk
      repeat' (conv => whnf); first
        | (refine VCall.is ?_; refine VCall.val hT ?_)
        | (refine VLd.is ?_; refine VLd.mk (Rd.cast (Rd.seg (f := drowE) (l := D) (by repeat (first | with_reducible exact AtS.here | with_reducible exact AtS.here2 | exact AtS.last | apply AtS.there | with_reducible apply AtS.app | with_reducible apply AtS.app2)) hd0 rfl (sub_flat0 (f := intV) (k := 1) (fun _ => rfl) hxx rfl)) (by first | omega | (dsimp only; omega) | rfl)) ?_)
        | (refine VLd.is ?_; refine VLd.mk (Rd.cast (.row (by repeat (first | exact At.here | apply At.there | with_reducible apply At.app | with_reducible apply At.app2)) h0) (by first | omega | (dsimp only; omega) | rfl)) ?_)
        | (refine VLd.is ?_; refine VLd.mk (Rd.cast (.row (by repeat (first | exact At.here | apply At.there | with_reducible apply At.app | with_reducible apply At.app2)) h5) (by first | omega | (dsimp only; omega) | rfl)) ?_)
        | (refine VLd.is ?_; refine VLd.mk (Rd.cast (hpar.rd0 hparM (fun _ => rfl) hq rfl) (by first | omega | (dsimp only; omega) | rfl)) ?_)
        | (refine VLd.is ?_; refine VLd.mk (Rd.cast (.vec (by repeat (first | exact At.here | apply At.there | with_reducible apply At.app | with_reducible apply At.app2)) (sub_flat0 (f := staV) (k := 2) (fun _ => rfl) hmi rfl)) (by first | omega | (dsimp only; omega) | rfl)) ?_)
        | (refine VSt.is ?_; refine VSt.cast (off' := i * 2) (by first | omega | (dsimp only; omega)) (VSt.vec (by repeat (first | exact At.here | apply At.there | with_reducible apply At.app | with_reducible apply At.app2)) (upd_flat0 (f := staV) (k := 2) (y := s') (fun _ => rfl) hmi rfl) rfl ?_))
        | (refine VAp.is ?_; refine VAp.own (by repeat (first | exact At.here | apply At.there | with_reducible apply At.app | with_reducible apply At.app2)) (.at_ (.vec (by repeat (first | exact At.here | apply At.there | with_reducible apply At.app | with_reducible apply At.app2)) rfl)) (by simp [Value.oneCell']) (by (try dsimp only); omega) (by simp only [maxLen]; omega) fun p' cap' hp' => ?_)
        | (refine VSeq.is ?_; refine VSeq.go ?_)
        | (refine VB.is ?_; refine VB.split (fun _ => ?_) (fun h => absurd (by omega) h))
        | (refine VB.is ?_; refine VB.split (fun h => absurd h (by omega)) (fun _ => ?_))
        | (refine VB.is ?_; refine VB.split (fun _ => ?_) (fun _ => ?_))
        | (refine boolE_split (fun h => ?_) (fun h => ?_) <;> subst h)
        | (refine VLd.is ?_; refine VLd.mk (.row (by repeat (first | exact At.here | apply At.there | with_reducible apply At.app | with_reducible apply At.app2)) (by rfl)) ?_)
        | (refine VSt.is ?_; refine VSt.row (by repeat (first | exact At.here | apply At.there | with_reducible apply At.app | with_reducible apply At.app2)) (by rfl) (by first | rfl | assumption) ?_)
        | (refine VNew.is ?_; refine VNew.mk fun _ => ?_)
        | (refine VAr.is ?_; refine VAr.i64 (by omega) (by omega) ?_)
        | (refine VIx.is ?_; refine VIx.mk rfl (by omega) (by omega) ?_)
        | (refine VKeep.is ?_; refine VKeep.mk (by repeat (first | exact HLe.nil | exact HLe.refl _ | refine HLe.nilv ?_ | (with_reducible refine HLe.seg ?_ ?_; (focus (repeat (first | with_reducible exact AtS.here | with_reducible exact AtS.here2 | exact AtS.last | apply AtS.there | with_reducible apply AtS.app | with_reducible apply AtS.app2)))) | refine HLe.cons (by repeat (first | exact At.here | apply At.there | with_reducible apply At.app | with_reducible apply At.app2)) ?_ | refine HLe.seg (by repeat (first | with_reducible exact AtS.here | with_reducible exact AtS.here2 | exact AtS.last | apply AtS.there | with_reducible apply AtS.app | with_reducible apply AtS.app2)) ?_ | exact HLe.last (by repeat (first | with_reducible exact AtS.here | with_reducible exact AtS.here2 | exact AtS.last | apply AtS.there | with_reducible apply AtS.app | with_reducible apply AtS.app2)))) ?_)
        | (refine VHs.is ?_; refine VHs.mk _ (HLe.refl _) ?_)
        | (refine VQ.is ?_; refine VQ.pos (by omega) (by omega) (by omega) ?_)
        | (refine VM.is ?_; refine VM.pos (by omega) (by omega) ?_)
        | (refine And.intro ?_ ?_)
      all_goals (conv => whnf)
      all_goals first
        | (simp only [if_true] at hspk
           refine VNext.mk (i + 1, p', cap') ⟨by dsimp only; omega, fun _ => hp' (by omega)⟩ (by dsimp only; omega) ?_ ?_
           · dsimp only; rw [hspk, List.length_append]; repeat (first | exact trivial | refine ⟨rfl, ?_⟩)
           · dsimp only; rw [hspk, List.length_append, flat_append, ← hset]; repeat (first | exact HLe.nil | exact HLe.refl _ | refine HLe.nilv ?_ | (with_reducible refine HLe.seg ?_ ?_; (focus (repeat (first | with_reducible exact AtS.here | with_reducible exact AtS.here2 | exact AtS.last | apply AtS.there | with_reducible apply AtS.app | with_reducible apply AtS.app2)))) | refine HLe.cons (by repeat (first | exact At.here | apply At.there | with_reducible apply At.app | with_reducible apply At.app2)) ?_ | refine HLe.seg (by repeat (first | with_reducible exact AtS.here | with_reducible exact AtS.here2 | exact AtS.last | apply AtS.there | with_reducible apply AtS.app | with_reducible apply AtS.app2)) ?_ | exact HLe.last (by repeat (first | with_reducible exact AtS.here | with_reducible exact AtS.here2 | exact AtS.last | apply AtS.there | with_reducible apply AtS.app | with_reducible apply AtS.app2))))
        | (simp only [Bool.false_eq_true, if_false, List.append_nil] at hspk
           refine VNext.mk (i + 1, p, cap) ⟨by dsimp only; omega, by dsimp only; rw [hspk]; exact hp⟩ (by dsimp only; omega) ?_ ?_
           · dsimp only; rw [hspk]; repeat (first | exact trivial | refine ⟨rfl, ?_⟩)
           · dsimp only; rw [hspk, ← hset]; repeat (first | exact HLe.nil | exact HLe.refl _ | refine HLe.nilv ?_ | (with_reducible refine HLe.seg ?_ ?_; (focus (repeat (first | with_reducible exact AtS.here | with_reducible exact AtS.here2 | exact AtS.last | apply AtS.there | with_reducible apply AtS.app | with_reducible apply AtS.app2)))) | refine HLe.cons (by repeat (first | exact At.here | apply At.there | with_reducible apply At.app | with_reducible apply At.app2)) ?_ | refine HLe.seg (by repeat (first | with_reducible exact AtS.here | with_reducible exact AtS.here2 | exact AtS.last | apply AtS.there | with_reducible apply AtS.app | with_reducible apply AtS.app2)) ?_ | exact HLe.last (by repeat (first | with_reducible exact AtS.here | with_reducible exact AtS.here2 | exact AtS.last | apply AtS.there | with_reducible apply AtS.app | with_reducible apply AtS.app2))))
    · have hfull : F.take i = F := List.take_of_length_le (by omega)
      have hmid : mids F sts i = F.map (·.1) := by unfold mids; rw [hfull, List.drop_eq_nil_of_le (by omega), List.append_nil]
      rw [hfull, hmid]
      rw [hfull] at hp
      have hy : drowE ⟨d0.g, d0.cap, List.replicate d0.l.length 0⟩ = .vec (some ⟨d0.g, 0, none⟩) d0.l.length d0.cap 3 1 (repL [.int .i64 0] d0.l.length) := by
        have := flat_rep (f := intV) (x := 0) d0.l.length
        simp only [drowE, List.length_replicate, ← this]; rfl
      obtain ⟨D1, hD1⟩ : ∃ D1, D.set (tk % 16) ⟨d0.g, d0.cap, List.replicate d0.l.length 0⟩ = D1 := ⟨_, rfl⟩
      repeat' (conv => whnf); first
        | (refine VCl.is ?_; refine VCl.seg (f := drowE) (l := D) (by repeat (first | with_reducible exact AtS.here | with_reducible exact AtS.here2 | exact AtS.last | apply AtS.there | with_reducible apply AtS.app | with_reducible apply AtS.app2)) hd0 rfl hy ?_; rw [hD1])
        | (refine VLd.is ?_; refine VLd.mk (Rd.cast (.row (by repeat (first | exact At.here | apply At.there | with_reducible apply At.app | with_reducible apply At.app2)) h3) (by first | omega | (dsimp only; omega) | rfl)) ?_)
        | (refine VCall.isF 100 ?_; refine VCall.inl (F := Try.fx100) Try.func100 rfl rfl rfl Try.ok100 ?_)
        | (refine VRange.is ?_; refine VRange.go (ms := []) rfl fun hokx hoky l d L hL => ?_)
        | (refine VCall.isF 117 ?_; refine VCall.inl (F := Try.fx117) Try.func117 rfl rfl rfl Try.ok117 ?_)
        | (refine VSeq.is ?_; refine VSeq.go ?_)
        | (refine VB.is ?_; refine VB.split (fun _ => ?_) (fun h => absurd (by omega) h))
        | (refine VB.is ?_; refine VB.split (fun h => absurd h (by omega)) (fun _ => ?_))
        | (refine VB.is ?_; refine VB.split (fun _ => ?_) (fun _ => ?_))
        | (refine boolE_split (fun h => ?_) (fun h => ?_) <;> subst h)
        | (refine VLd.is ?_; refine VLd.mk (.row (by repeat (first | exact At.here | apply At.there | with_reducible apply At.app | with_reducible apply At.app2)) (by rfl)) ?_)
        | (refine VSt.is ?_; refine VSt.row (by repeat (first | exact At.here | apply At.there | with_reducible apply At.app | with_reducible apply At.app2)) (by rfl) (by first | rfl | assumption) ?_)
        | (refine VNew.is ?_; refine VNew.mk fun _ => ?_)
        | (refine VAr.is ?_; refine VAr.i64 (by omega) (by omega) ?_)
        | (refine VIx.is ?_; refine VIx.mk rfl (by omega) (by omega) ?_)
        | (refine VKeep.is ?_; refine VKeep.mk (by repeat (first | exact HLe.nil | exact HLe.refl _ | refine HLe.nilv ?_ | (with_reducible refine HLe.seg ?_ ?_; (focus (repeat (first | with_reducible exact AtS.here | with_reducible exact AtS.here2 | exact AtS.last | apply AtS.there | with_reducible apply AtS.app | with_reducible apply AtS.app2)))) | refine HLe.cons (by repeat (first | exact At.here | apply At.there | with_reducible apply At.app | with_reducible apply At.app2)) ?_ | refine HLe.seg (by repeat (first | with_reducible exact AtS.here | with_reducible exact AtS.here2 | exact AtS.last | apply AtS.there | with_reducible apply AtS.app | with_reducible apply AtS.app2)) ?_ | exact HLe.last (by repeat (first | with_reducible exact AtS.here | with_reducible exact AtS.here2 | exact AtS.last | apply AtS.there | with_reducible apply AtS.app | with_reducible apply AtS.app2)))) ?_)
        | (refine VHs.is ?_; refine VHs.mk _ (HLe.refl _) ?_)
        | (refine VQ.is ?_; refine VQ.pos (by omega) (by omega) (by omega) ?_)
        | (refine VM.is ?_; refine VM.pos (by omega) (by omega) ?_)
        | (refine And.intro ?_ ?_)
      all_goals (conv => whnf)
      rename_i b5 b6 b7 b8
      have hD1V : D1.map drowV = D.map drowV := by
        rw [← hD1, List.map_set]
        apply List.set_getElem?_self'
        simp [hd0, drowV]
      have hsum : ∀ (D' : List DRow) (k : Int), D'.map drowV = D.map drowV → ∀ j, (dupds tk D' ((wfind (wire N.syns) k).take j)).map drowV = D.map drowV := fun D' k h j => (dupds_V _ _ _).trans h
      have each : ∀ (D' : List DRow) (k : Int) (K : Value → HP → Prop), D'.map drowV = D.map drowV → K (.bool true) (.row b8 190 [.func (.yield l) #[] #[]] :: L .ready none :: .obj d (.deferred (some [])) :: .row b7 46 [.slice pi ins.length ci] :: .row b6 46 [.slice p (spk F).length cap] :: .row b5 100 [.map (some bw)] :: .vec p (spk F).length cap 3 1 (flat intV (spk F)) :: .vec (some ⟨sb, 0, none⟩) sts.length sc 98 2 (flat staV (F.map (·.1))) :: (List.map drowE (dupds tk D' (wfind (wire N.syns) k)) ++ [.row b2 67 [.pointer (some ⟨b, 0, none⟩)], .row b 104 cs])) →
          VCall Try.cx.P w Mx (.row b8 190 [.func (.yield l) #[] #[]] :: L .ready none :: .obj d (.deferred (some [])) :: .row b7 46 [.slice pi ins.length ci] :: .row b6 46 [.slice p (spk F).length cap] :: .row b5 100 [.map (some bw)] :: .vec p (spk F).length cap 3 1 (flat intV (spk F)) :: .vec (some ⟨sb, 0, none⟩) sts.length sc 98 2 (flat staV (F.map (·.1))) :: (List.map drowE (D') ++ [.row b2 67 [.pointer (some ⟨b, 0, none⟩)], .row b 104 cs])) 118 [.int .i64 k, .pointer (some ⟨b5, 0, none⟩), .pointer (some ⟨b8, 0, none⟩)] K := by
        intro D' k K hD' hK
        obtain ⟨ps, cps, g, hlk, hsl', hgM⟩ := ShOk.look (x := ⟨b, N, pb, pc, sv, bw, R, tk, sb, sc, sts, D⟩) ⟨hpar, hparM, hmap, hmapM, hrows⟩ k
        dsimp only at hlk hsl'
        rw [hW] at hlk hsl'
        obtain ⟨ys, hys⟩ : ∃ ys, wfind (wire N.syns) k = ys := ⟨_, rfl⟩
        have hyok : ∀ s ∈ ys, synOk N s := by
          intro s h
          rw [← hys, wfind_wire] at h
          exact hN.syns s (List.mem_filter.1 h).1
        have hylen : ys.length ≤ 8192 := by
          rw [← hys, wfind_wire]
          have := List.length_filter_le (fun s : Syn => decide (s.frm = k)) N.syns
          have := hN.fewS
          omega
        have hsk := hsum D' k hD'
        rw [hys] at hlk hsl' hK hsk
        refine VCall.inl (F := Try.fx118) Try.func118 rfl rfl rfl Try.ok118 ?_
        repeat' (conv => whnf); first
          | (refine VMp.is ?_; refine VMp.old hmap hmapM ?_)
          | (refine VLk.is ?_; refine VLk.val hlk ?_)
          | (refine VSeq.is ?_; refine VSeq.go ?_)
          | (refine VB.is ?_; refine VB.split (fun _ => ?_) (fun h => absurd (by omega) h))
          | (refine VB.is ?_; refine VB.split (fun h => absurd h (by omega)) (fun _ => ?_))
          | (refine VB.is ?_; refine VB.split (fun _ => ?_) (fun _ => ?_))
          | (refine boolE_split (fun h => ?_) (fun h => ?_) <;> subst h)
          | (refine VLd.is ?_; refine VLd.mk (.row (by repeat (first | exact At.here | apply At.there | with_reducible apply At.app | with_reducible apply At.app2)) (by rfl)) ?_)
          | (refine VSt.is ?_; refine VSt.row (by repeat (first | exact At.here | apply At.there | with_reducible apply At.app | with_reducible apply At.app2)) (by rfl) (by first | rfl | assumption) ?_)
          | (refine VNew.is ?_; refine VNew.mk fun _ => ?_)
          | (refine VAr.is ?_; refine VAr.i64 (by omega) (by omega) ?_)
          | (refine VIx.is ?_; refine VIx.mk rfl (by omega) (by omega) ?_)
          | (refine VKeep.is ?_; refine VKeep.mk (by repeat (first | exact HLe.nil | exact HLe.refl _ | refine HLe.nilv ?_ | (with_reducible refine HLe.seg ?_ ?_; (focus (repeat (first | with_reducible exact AtS.here | with_reducible exact AtS.here2 | exact AtS.last | apply AtS.there | with_reducible apply AtS.app | with_reducible apply AtS.app2)))) | refine HLe.cons (by repeat (first | exact At.here | apply At.there | with_reducible apply At.app | with_reducible apply At.app2)) ?_ | refine HLe.seg (by repeat (first | with_reducible exact AtS.here | with_reducible exact AtS.here2 | exact AtS.last | apply AtS.there | with_reducible apply AtS.app | with_reducible apply AtS.app2)) ?_ | exact HLe.last (by repeat (first | with_reducible exact AtS.here | with_reducible exact AtS.here2 | exact AtS.last | apply AtS.there | with_reducible apply AtS.app | with_reducible apply AtS.app2)))) ?_)
          | (refine VHs.is ?_; refine VHs.mk _ (HLe.refl _) ?_)
          | (refine VQ.is ?_; refine VQ.pos (by omega) (by omega) (by omega) ?_)
          | (refine VM.is ?_; refine VM.pos (by omega) (by omega) ?_)
          | (refine And.intro ?_ ?_)
        all_goals (conv => whnf)
        refine VLoop.kp (α := Nat) [1000000, 2, 4, 9, 10] [] rfl rfl (fun j => j ≤ ys.length) (fun j K => (11, .int .i64 (j : Int)) :: K)
          (fun j R => (.row b8 190 [.func (.yield l) #[] #[]] :: L .ready none :: .obj d (.deferred (some [])) :: .row b7 46 [.slice pi ins.length ci] :: .row b6 46 [.slice p (spk F).length cap] :: .row b5 100 [.map (some bw)] :: .vec p (spk F).length cap 3 1 (flat intV (spk F)) :: .vec (some ⟨sb, 0, none⟩) sts.length sc 98 2 (flat staV (F.map (·.1))) :: (List.map drowE (dupds tk D' (ys.take j)) ++ [.row b2 67 [.pointer (some ⟨b, 0, none⟩)], .row b 104 cs]))) (fun j => ys.length - j) 0 (by simp) (by repeat (first | exact trivial | refine ⟨rfl, ?_⟩)) (by repeat (first | exact HLe.nil | exact HLe.refl _ | refine HLe.nilv ?_ | (with_reducible refine HLe.seg ?_ ?_; (focus (repeat (first | with_reducible exact AtS.here | with_reducible exact AtS.here2 | exact AtS.last | apply AtS.there | with_reducible apply AtS.app | with_reducible apply AtS.app2)))) | refine HLe.cons (by repeat (first | exact At.here | apply At.there | with_reducible apply At.app | with_reducible apply At.app2)) ?_ | refine HLe.seg (by repeat (first | with_reducible exact AtS.here | with_reducible exact AtS.here2 | exact AtS.last | apply AtS.there | with_reducible apply AtS.app | with_reducible apply AtS.app2)) ?_ | exact HLe.last (by repeat (first | with_reducible exact AtS.here | with_reducible exact AtS.here2 | exact AtS.last | apply AtS.there | with_reducible apply AtS.app | with_reducible apply AtS.app2)))) ?_
        intro j hj
        rcases Nat.lt_or_ge j ys.length with hlt | hge
        · obtain ⟨s, hs'⟩ : ∃ s, ys[j]? = some s := ⟨ys[j], List.getElem?_eq_getElem _⟩
          have hso := hyok s (List.mem_of_getElem? hs')
          unfold synOk srcOk at hso
          obtain ⟨D2, hD2⟩ : ∃ D2, dupds tk D' (ys.take j) = D2 := ⟨_, rfl⟩
          have hsj := hsk j
          rw [hD2] at hsj
          have hl2 : D2.length = 16 := by have := congrArg List.length hsj; simp only [List.length_map] at this; omega
          obtain ⟨d1, hd1⟩ : ∃ d1, D2[(tk + s.dl.toNat) % 16]? = some d1 := ⟨D2[(tk + s.dl.toNat) % 16]'(by omega), List.getElem?_eq_getElem _⟩
          obtain ⟨d2, hd2, hd2l⟩ := drowV_len hsj hd1
          have hd1l := hcells d2 (List.mem_of_getElem? hd2)
          obtain ⟨av, ha⟩ : ∃ av, d1.l[s.to.toNat]? = some av := ⟨d1.l[s.to.toNat]'(by omega), List.getElem?_eq_getElem _⟩
          have hrow1 : sub cs (6 + (((tk : Int) + s.dl) % 16).toNat) 1 = some [drowV d1] := by
            have := sub_due (x := ⟨b, N, pb, pc, sv, bw, R, tk, sb, sc, sts, D⟩) hsj hd1
            rw [hcs] at this
            rw [show (((tk : Int) + s.dl) % 16).toNat = (tk + s.dl.toNat) % 16 by omega]; exact this
          have hset := dupd_set rfl hd1 ha
          have hsn : dupds tk D' (ys.take (j + 1)) = dupd tk D2 s := by
            rw [List.take_add_one, hs', Option.toList_some, dupds_snoc, hD2]
          rw [hD2]
          repeat' (conv => whnf); first
            | (refine VIx.is ?_; refine VIx.mk (hsl'.ptr (by omega)) (by omega) (by omega) ?_)
            | (refine VLd.is ?_; refine VLd.mk (Rd.cast (hsl'.rd0 hgM (fun _ => rfl) hs' rfl) (by first | omega | (dsimp only; omega) | rfl)) ?_)
            | (refine VYield.is ?_; refine VYield.go hL hokx hoky (by repeat (first | exact At.here | apply At.there | with_reducible apply At.app | with_reducible apply At.app2)) rfl ?_)
            | (refine VBegin.is ?_; refine VBegin.mk (by repeat (first | exact At.here | apply At.there | with_reducible apply At.app | with_reducible apply At.app2)) ?_)
            | (refine VRound.is ?_; refine VRound.mk (by repeat (first | exact At.here | apply At.there | with_reducible apply At.app | with_reducible apply At.app2)) ?_)
            | (refine VCall.isF 86 ?_; refine VCall.inl (F := Try.fx86) Try.func86 rfl rfl rfl Try.ok86 ?_)
            | (refine VLd.is ?_; refine VLd.mk (Rd.cast (.row (by repeat (first | exact At.here | apply At.there | with_reducible apply At.app | with_reducible apply At.app2)) (h4)) (by first | omega | (dsimp only; omega) | rfl)) ?_)
            | (refine VLd.is ?_; refine VLd.mk (Rd.cast (.row (by repeat (first | exact At.here | apply At.there | with_reducible apply At.app | with_reducible apply At.app2)) (hrow1)) (by first | omega | (dsimp only; omega) | rfl)) ?_)
            | (refine VIx.is ?_; refine VIx.mk rfl (by omega) (by omega) ?_)
            | (refine VLd.is ?_; refine VLd.mk (Rd.cast (Rd.seg (f := drowE) (l := D2) (by repeat (first | with_reducible exact AtS.here | with_reducible exact AtS.here2 | exact AtS.last | apply AtS.there | with_reducible apply AtS.app | with_reducible apply AtS.app2)) hd1 rfl (sub_flat0 (f := intV) (k := 1) (fun _ => rfl) ha rfl)) (by first | omega | (dsimp only; omega) | rfl)) ?_)
            | (refine VAr.is ?_; refine VAr.i64 (by omega) (by omega) ?_)
            | (refine VAr.is ?_; refine VAr.wadd ?_)
            | (refine VSt.is ?_; refine VSt.cast (off' := s.to.toNat * 1) (by first | omega | (dsimp only; omega)) (VSt.seg (f := drowE) (l := D2) (y := ⟨d1.g, d1.cap, d1.l.set s.to.toNat (wadd av s.wt)⟩) (by repeat (first | with_reducible exact AtS.here | with_reducible exact AtS.here2 | exact AtS.last | apply AtS.there | with_reducible apply AtS.app | with_reducible apply AtS.app2)) hd1 rfl (upd_flat0 (f := intV) (k := 1) (y := wadd av s.wt) (fun _ => rfl) ha rfl) (by simp [drowE]) rfl ?_))
            | (refine VSeq.is ?_; refine VSeq.go ?_)
            | (refine VB.is ?_; refine VB.split (fun _ => ?_) (fun h => absurd (by omega) h))
            | (refine VB.is ?_; refine VB.split (fun h => absurd h (by omega)) (fun _ => ?_))
            | (refine VB.is ?_; refine VB.split (fun _ => ?_) (fun _ => ?_))
            | (refine boolE_split (fun h => ?_) (fun h => ?_) <;> subst h)
            | (refine VLd.is ?_; refine VLd.mk (.row (by repeat (first | exact At.here | apply At.there | with_reducible apply At.app | with_reducible apply At.app2)) (by rfl)) ?_)
            | (refine VSt.is ?_; refine VSt.row (by repeat (first | exact At.here | apply At.there | with_reducible apply At.app | with_reducible apply At.app2)) (by rfl) (by first | rfl | assumption) ?_)
            | (refine VNew.is ?_; refine VNew.mk fun _ => ?_)
            | (refine VAr.is ?_; refine VAr.i64 (by omega) (by omega) ?_)
            | (refine VIx.is ?_; refine VIx.mk rfl (by omega) (by omega) ?_)
            | (refine VKeep.is ?_; refine VKeep.mk (by repeat (first | exact HLe.nil | exact HLe.refl _ | refine HLe.nilv ?_ | (with_reducible refine HLe.seg ?_ ?_; (focus (repeat (first | with_reducible exact AtS.here | with_reducible exact AtS.here2 | exact AtS.last | apply AtS.there | with_reducible apply AtS.app | with_reducible apply AtS.app2)))) | refine HLe.cons (by repeat (first | exact At.here | apply At.there | with_reducible apply At.app | with_reducible apply At.app2)) ?_ | refine HLe.seg (by repeat (first | with_reducible exact AtS.here | with_reducible exact AtS.here2 | exact AtS.last | apply AtS.there | with_reducible apply AtS.app | with_reducible apply AtS.app2)) ?_ | exact HLe.last (by repeat (first | with_reducible exact AtS.here | with_reducible exact AtS.here2 | exact AtS.last | apply AtS.there | with_reducible apply AtS.app | with_reducible apply AtS.app2)))) ?_)
            | (refine VHs.is ?_; refine VHs.mk _ (HLe.refl _) ?_)
            | (refine VQ.is ?_; refine VQ.pos (by omega) (by omega) (by omega) ?_)
            | (refine VM.is ?_; refine VM.pos (by omega) (by omega) ?_)
            | (refine And.intro ?_ ?_)
          all_goals (conv => whnf)
          rw [hset, ← hsn]
          exact VNext.mk (j + 1) (by omega) (by omega) (by repeat (first | exact trivial | refine ⟨rfl, ?_⟩)) (by repeat (first | exact HLe.nil | exact HLe.refl _ | refine HLe.nilv ?_ | (with_reducible refine HLe.seg ?_ ?_; (focus (repeat (first | with_reducible exact AtS.here | with_reducible exact AtS.here2 | exact AtS.last | apply AtS.there | with_reducible apply AtS.app | with_reducible apply AtS.app2)))) | refine HLe.cons (by repeat (first | exact At.here | apply At.there | with_reducible apply At.app | with_reducible apply At.app2)) ?_ | refine HLe.seg (by repeat (first | with_reducible exact AtS.here | with_reducible exact AtS.here2 | exact AtS.last | apply AtS.there | with_reducible apply AtS.app | with_reducible apply AtS.app2)) ?_ | exact HLe.last (by repeat (first | with_reducible exact AtS.here | with_reducible exact AtS.here2 | exact AtS.last | apply AtS.there | with_reducible apply AtS.app | with_reducible apply AtS.app2))))
        · have hfull : ys.take j = ys := List.take_of_length_le hge
          rw [hfull]
          repeat' (conv => whnf); first
            | (refine VSeq.is ?_; refine VSeq.go ?_)
            | (refine VB.is ?_; refine VB.split (fun _ => ?_) (fun h => absurd (by omega) h))
            | (refine VB.is ?_; refine VB.split (fun h => absurd h (by omega)) (fun _ => ?_))
            | (refine VB.is ?_; refine VB.split (fun _ => ?_) (fun _ => ?_))
            | (refine boolE_split (fun h => ?_) (fun h => ?_) <;> subst h)
            | (refine VLd.is ?_; refine VLd.mk (.row (by repeat (first | exact At.here | apply At.there | with_reducible apply At.app | with_reducible apply At.app2)) (by rfl)) ?_)
            | (refine VSt.is ?_; refine VSt.row (by repeat (first | exact At.here | apply At.there | with_reducible apply At.app | with_reducible apply At.app2)) (by rfl) (by first | rfl | assumption) ?_)
            | (refine VNew.is ?_; refine VNew.mk fun _ => ?_)
            | (refine VAr.is ?_; refine VAr.i64 (by omega) (by omega) ?_)
            | (refine VIx.is ?_; refine VIx.mk rfl (by omega) (by omega) ?_)
            | (refine VKeep.is ?_; refine VKeep.mk (by repeat (first | exact HLe.nil | exact HLe.refl _ | refine HLe.nilv ?_ | (with_reducible refine HLe.seg ?_ ?_; (focus (repeat (first | with_reducible exact AtS.here | with_reducible exact AtS.here2 | exact AtS.last | apply AtS.there | with_reducible apply AtS.app | with_reducible apply AtS.app2)))) | refine HLe.cons (by repeat (first | exact At.here | apply At.there | with_reducible apply At.app | with_reducible apply At.app2)) ?_ | refine HLe.seg (by repeat (first | with_reducible exact AtS.here | with_reducible exact AtS.here2 | exact AtS.last | apply AtS.there | with_reducible apply AtS.app | with_reducible apply AtS.app2)) ?_ | exact HLe.last (by repeat (first | with_reducible exact AtS.here | with_reducible exact AtS.here2 | exact AtS.last | apply AtS.there | with_reducible apply AtS.app | with_reducible apply AtS.app2)))) ?_)
            | (refine VHs.is ?_; refine VHs.mk _ (HLe.refl _) ?_)
            | (refine VQ.is ?_; refine VQ.pos (by omega) (by omega) (by omega) ?_)
            | (refine VM.is ?_; refine VM.pos (by omega) (by omega) ?_)
            | (refine And.intro ?_ ?_)
          all_goals (conv => whnf)
          exact hK
      refine VLoop.kp (α := Nat) [1000000, 3, 5, 11, 12] [] rfl rfl (fun j => j ≤ (spk F).length) (fun j K => (13, .int .i64 (j : Int)) :: K)
        (fun j R => (.row b8 190 [.func (.yield l) #[] #[]] :: L .ready none :: .obj d (.deferred (some [])) :: .row b7 46 [.slice pi ins.length ci] :: .row b6 46 [.slice p (spk F).length cap] :: .row b5 100 [.map (some bw)] :: .vec p (spk F).length cap 3 1 (flat intV (spk F)) :: .vec (some ⟨sb, 0, none⟩) sts.length sc 98 2 (flat staV (F.map (·.1))) :: (List.map drowE (dupds tk D1 (yields (wire N.syns) ((spk F).take j))) ++ [.row b2 67 [.pointer (some ⟨b, 0, none⟩)], .row b 104 cs]))) (fun j => (spk F).length - j) 0 (by simp) (by repeat (first | exact trivial | refine ⟨rfl, ?_⟩)) (by repeat (first | exact HLe.nil | exact HLe.refl _ | refine HLe.nilv ?_ | (with_reducible refine HLe.seg ?_ ?_; (focus (repeat (first | with_reducible exact AtS.here | with_reducible exact AtS.here2 | exact AtS.last | apply AtS.there | with_reducible apply AtS.app | with_reducible apply AtS.app2)))) | refine HLe.cons (by repeat (first | exact At.here | apply At.there | with_reducible apply At.app | with_reducible apply At.app2)) ?_ | refine HLe.seg (by repeat (first | with_reducible exact AtS.here | with_reducible exact AtS.here2 | exact AtS.last | apply AtS.there | with_reducible apply AtS.app | with_reducible apply AtS.app2)) ?_ | exact HLe.last (by repeat (first | with_reducible exact AtS.here | with_reducible exact AtS.here2 | exact AtS.last | apply AtS.there | with_reducible apply AtS.app | with_reducible apply AtS.app2)))) ?_
      intro j hj
      have hspl : (spk F).length ≤ 1024 := by have := spk_length F F.length; rw [List.take_length] at this; omega
      rcases Nat.lt_or_ge j (spk F).length with hlt | hge
      · obtain ⟨k, hk⟩ : ∃ k, (spk F)[j]? = some k := ⟨(spk F)[j], List.getElem?_eq_getElem _⟩
        have hVj : (dupds tk D1 (yields (wire N.syns) ((spk F).take j))).map drowV = D.map drowV := (dupds_V _ _ _).trans hD1V
        have hsn : dupds tk (dupds tk D1 (yields (wire N.syns) ((spk F).take j))) (wfind (wire N.syns) k) = dupds tk D1 (yields (wire N.syns) ((spk F).take (j + 1))) := by
          rw [List.take_add_one, hk, Option.toList_some, ← dupds_app, ← yields_snoc]
        obtain ⟨gp, hgp⟩ := hp (by omega)
        subst hgp
        repeat' (conv => whnf); first
          | (refine VIx.is ?_; refine VIx.mk rfl (by omega) (by omega) ?_)
          | (refine VLd.is ?_; refine VLd.mk (Rd.cast (.vec (by repeat (first | exact At.here | apply At.there | with_reducible apply At.app | with_reducible apply At.app2)) (sub_flat0 (f := intV) (k := 1) (fun _ => rfl) hk rfl)) (by first | omega | (dsimp only; omega) | rfl)) ?_)
          | (refine VCall.isF 118 ?_; refine each _ _ _ hVj ?_)
          | (refine VSeq.is ?_; refine VSeq.go ?_)
          | (refine VB.is ?_; refine VB.split (fun _ => ?_) (fun h => absurd (by omega) h))
          | (refine VB.is ?_; refine VB.split (fun h => absurd h (by omega)) (fun _ => ?_))
          | (refine VB.is ?_; refine VB.split (fun _ => ?_) (fun _ => ?_))
          | (refine boolE_split (fun h => ?_) (fun h => ?_) <;> subst h)
          | (refine VLd.is ?_; refine VLd.mk (.row (by repeat (first | exact At.here | apply At.there | with_reducible apply At.app | with_reducible apply At.app2)) (by rfl)) ?_)
          | (refine VSt.is ?_; refine VSt.row (by repeat (first | exact At.here | apply At.there | with_reducible apply At.app | with_reducible apply At.app2)) (by rfl) (by first | rfl | assumption) ?_)
          | (refine VNew.is ?_; refine VNew.mk fun _ => ?_)
          | (refine VAr.is ?_; refine VAr.i64 (by omega) (by omega) ?_)
          | (refine VIx.is ?_; refine VIx.mk rfl (by omega) (by omega) ?_)
          | (refine VKeep.is ?_; refine VKeep.mk (by repeat (first | exact HLe.nil | exact HLe.refl _ | refine HLe.nilv ?_ | (with_reducible refine HLe.seg ?_ ?_; (focus (repeat (first | with_reducible exact AtS.here | with_reducible exact AtS.here2 | exact AtS.last | apply AtS.there | with_reducible apply AtS.app | with_reducible apply AtS.app2)))) | refine HLe.cons (by repeat (first | exact At.here | apply At.there | with_reducible apply At.app | with_reducible apply At.app2)) ?_ | refine HLe.seg (by repeat (first | with_reducible exact AtS.here | with_reducible exact AtS.here2 | exact AtS.last | apply AtS.there | with_reducible apply AtS.app | with_reducible apply AtS.app2)) ?_ | exact HLe.last (by repeat (first | with_reducible exact AtS.here | with_reducible exact AtS.here2 | exact AtS.last | apply AtS.there | with_reducible apply AtS.app | with_reducible apply AtS.app2)))) ?_)
          | (refine VHs.is ?_; refine VHs.mk _ (HLe.refl _) ?_)
          | (refine VQ.is ?_; refine VQ.pos (by omega) (by omega) (by omega) ?_)
          | (refine VM.is ?_; refine VM.pos (by omega) (by omega) ?_)
          | (refine And.intro ?_ ?_)
        all_goals (conv => whnf)
        rw [hsn]
        exact VNext.mk (j + 1) (by omega) (by omega) (by repeat (first | exact trivial | refine ⟨rfl, ?_⟩)) (by repeat (first | exact HLe.nil | exact HLe.refl _ | refine HLe.nilv ?_ | (with_reducible refine HLe.seg ?_ ?_; (focus (repeat (first | with_reducible exact AtS.here | with_reducible exact AtS.here2 | exact AtS.last | apply AtS.there | with_reducible apply AtS.app | with_reducible apply AtS.app2)))) | refine HLe.cons (by repeat (first | exact At.here | apply At.there | with_reducible apply At.app | with_reducible apply At.app2)) ?_ | refine HLe.seg (by repeat (first | with_reducible exact AtS.here | with_reducible exact AtS.here2 | exact AtS.last | apply AtS.there | with_reducible apply AtS.app | with_reducible apply AtS.app2)) ?_ | exact HLe.last (by repeat (first | with_reducible exact AtS.here | with_reducible exact AtS.here2 | exact AtS.last | apply AtS.there | with_reducible apply AtS.app | with_reducible apply AtS.app2))))
      · have hfull : (spk F).take j = spk F := List.take_of_length_le hge
        rw [hfull]
        obtain ⟨D2, hD2⟩ : ∃ D2, dupds tk D1 (yields (wire N.syns) (spk F)) = D2 := ⟨_, rfl⟩
        have hD2V : D2.map drowV = D.map drowV := by rw [← hD2]; exact (dupds_V _ _ _).trans hD1V
        rw [hD2]
        repeat' (conv => whnf); first
          | (refine VSeq.is ?_; refine VSeq.go ?_)
          | (refine VB.is ?_; refine VB.split (fun _ => ?_) (fun h => absurd (by omega) h))
          | (refine VB.is ?_; refine VB.split (fun h => absurd h (by omega)) (fun _ => ?_))
          | (refine VB.is ?_; refine VB.split (fun _ => ?_) (fun _ => ?_))
          | (refine boolE_split (fun h => ?_) (fun h => ?_) <;> subst h)
          | (refine VLd.is ?_; refine VLd.mk (.row (by repeat (first | exact At.here | apply At.there | with_reducible apply At.app | with_reducible apply At.app2)) (by rfl)) ?_)
          | (refine VSt.is ?_; refine VSt.row (by repeat (first | exact At.here | apply At.there | with_reducible apply At.app | with_reducible apply At.app2)) (by rfl) (by first | rfl | assumption) ?_)
          | (refine VNew.is ?_; refine VNew.mk fun _ => ?_)
          | (refine VAr.is ?_; refine VAr.i64 (by omega) (by omega) ?_)
          | (refine VIx.is ?_; refine VIx.mk rfl (by omega) (by omega) ?_)
          | (refine VKeep.is ?_; refine VKeep.mk (by repeat (first | exact HLe.nil | exact HLe.refl _ | refine HLe.nilv ?_ | (with_reducible refine HLe.seg ?_ ?_; (focus (repeat (first | with_reducible exact AtS.here | with_reducible exact AtS.here2 | exact AtS.last | apply AtS.there | with_reducible apply AtS.app | with_reducible apply AtS.app2)))) | refine HLe.cons (by repeat (first | exact At.here | apply At.there | with_reducible apply At.app | with_reducible apply At.app2)) ?_ | refine HLe.seg (by repeat (first | with_reducible exact AtS.here | with_reducible exact AtS.here2 | exact AtS.last | apply AtS.there | with_reducible apply AtS.app | with_reducible apply AtS.app2)) ?_ | exact HLe.last (by repeat (first | with_reducible exact AtS.here | with_reducible exact AtS.here2 | exact AtS.last | apply AtS.there | with_reducible apply AtS.app | with_reducible apply AtS.app2)))) ?_)
          | (refine VHs.is ?_; refine VHs.mk _ (HLe.refl _) ?_)
          | (refine VQ.is ?_; refine VQ.pos (by omega) (by omega) (by omega) ?_)
          | (refine VM.is ?_; refine VM.pos (by omega) (by omega) ?_)
          | (refine And.intro ?_ ?_)
        all_goals (conv => whnf)
        refine VLoop.kp (α := Nat) [1000000, 5, 22, 23] [] rfl rfl (fun j => j ≤ ins.length) (fun j K => (24, .int .i64 (j : Int)) :: K)
          (fun j R => (.row b8 190 [.func (.yield l) #[] #[]] :: L .ready none :: .obj d (.deferred (some [])) :: .row b7 46 [.slice pi ins.length ci] :: .row b6 46 [.slice p (spk F).length cap] :: .row b5 100 [.map (some bw)] :: .vec p (spk F).length cap 3 1 (flat intV (spk F)) :: .vec (some ⟨sb, 0, none⟩) sts.length sc 98 2 (flat staV (F.map (·.1))) :: (List.map drowE (dupds tk D2 (yields (wire N.syns) ((ins.map fun k => -1 - k).take j))) ++ [.row b2 67 [.pointer (some ⟨b, 0, none⟩)], .row b 104 cs]))) (fun j => ins.length - j) 0 (by simp) (by repeat (first | exact trivial | refine ⟨rfl, ?_⟩)) (by repeat (first | exact HLe.nil | exact HLe.refl _ | refine HLe.nilv ?_ | (with_reducible refine HLe.seg ?_ ?_; (focus (repeat (first | with_reducible exact AtS.here | with_reducible exact AtS.here2 | exact AtS.last | apply AtS.there | with_reducible apply AtS.app | with_reducible apply AtS.app2)))) | refine HLe.cons (by repeat (first | exact At.here | apply At.there | with_reducible apply At.app | with_reducible apply At.app2)) ?_ | refine HLe.seg (by repeat (first | with_reducible exact AtS.here | with_reducible exact AtS.here2 | exact AtS.last | apply AtS.there | with_reducible apply AtS.app | with_reducible apply AtS.app2)) ?_ | exact HLe.last (by repeat (first | with_reducible exact AtS.here | with_reducible exact AtS.here2 | exact AtS.last | apply AtS.there | with_reducible apply AtS.app | with_reducible apply AtS.app2)))) ?_
        intro j hj
        rcases Nat.lt_or_ge j ins.length with hlt | hge
        · obtain ⟨k, hk⟩ := hin.get hlt
          have hkb := hins k (List.mem_of_getElem? hk)
          have hVj : (dupds tk D2 (yields (wire N.syns) ((ins.map fun k => -1 - k).take j))).map drowV = D.map drowV := (dupds_V _ _ _).trans hD2V
          have hsn : dupds tk (dupds tk D2 (yields (wire N.syns) ((ins.map fun k => -1 - k).take j))) (wfind (wire N.syns) (-1 - k)) = dupds tk D2 (yields (wire N.syns) ((ins.map fun k => -1 - k).take (j + 1))) := by
            rw [List.take_add_one, List.getElem?_map, hk, Option.map_some, Option.toList_some, ← dupds_app, ← yields_snoc]
          repeat' (conv => whnf); first
            | (refine VIx.is ?_; refine VIx.mk (hin.ptr (by omega)) (by omega) (by omega) ?_)
            | (refine VLd.is ?_; refine VLd.mk (Rd.cast (hin.rd0 hbi (fun _ => rfl) hk rfl) (by first | omega | (dsimp only; omega) | rfl)) ?_)
            | (refine VCall.isF 118 ?_; refine each _ _ _ hVj ?_)
            | (refine VSeq.is ?_; refine VSeq.go ?_)
            | (refine VB.is ?_; refine VB.split (fun _ => ?_) (fun h => absurd (by omega) h))
            | (refine VB.is ?_; refine VB.split (fun h => absurd h (by omega)) (fun _ => ?_))
            | (refine VB.is ?_; refine VB.split (fun _ => ?_) (fun _ => ?_))
            | (refine boolE_split (fun h => ?_) (fun h => ?_) <;> subst h)
            | (refine VLd.is ?_; refine VLd.mk (.row (by repeat (first | exact At.here | apply At.there | with_reducible apply At.app | with_reducible apply At.app2)) (by rfl)) ?_)
            | (refine VSt.is ?_; refine VSt.row (by repeat (first | exact At.here | apply At.there | with_reducible apply At.app | with_reducible apply At.app2)) (by rfl) (by first | rfl | assumption) ?_)
            | (refine VNew.is ?_; refine VNew.mk fun _ => ?_)
            | (refine VAr.is ?_; refine VAr.i64 (by omega) (by omega) ?_)
            | (refine VIx.is ?_; refine VIx.mk rfl (by omega) (by omega) ?_)
            | (refine VKeep.is ?_; refine VKeep.mk (by repeat (first | exact HLe.nil | exact HLe.refl _ | refine HLe.nilv ?_ | (with_reducible refine HLe.seg ?_ ?_; (focus (repeat (first | with_reducible exact AtS.here | with_reducible exact AtS.here2 | exact AtS.last | apply AtS.there | with_reducible apply AtS.app | with_reducible apply AtS.app2)))) | refine HLe.cons (by repeat (first | exact At.here | apply At.there | with_reducible apply At.app | with_reducible apply At.app2)) ?_ | refine HLe.seg (by repeat (first | with_reducible exact AtS.here | with_reducible exact AtS.here2 | exact AtS.last | apply AtS.there | with_reducible apply AtS.app | with_reducible apply AtS.app2)) ?_ | exact HLe.last (by repeat (first | with_reducible exact AtS.here | with_reducible exact AtS.here2 | exact AtS.last | apply AtS.there | with_reducible apply AtS.app | with_reducible apply AtS.app2)))) ?_)
            | (refine VHs.is ?_; refine VHs.mk _ (HLe.refl _) ?_)
            | (refine VQ.is ?_; refine VQ.pos (by omega) (by omega) (by omega) ?_)
            | (refine VM.is ?_; refine VM.pos (by omega) (by omega) ?_)
            | (refine And.intro ?_ ?_)
          all_goals (conv => whnf)
          rw [hsn]
          exact VNext.mk (j + 1) (by omega) (by omega) (by repeat (first | exact trivial | refine ⟨rfl, ?_⟩)) (by repeat (first | exact HLe.nil | exact HLe.refl _ | refine HLe.nilv ?_ | (with_reducible refine HLe.seg ?_ ?_; (focus (repeat (first | with_reducible exact AtS.here | with_reducible exact AtS.here2 | exact AtS.last | apply AtS.there | with_reducible apply AtS.app | with_reducible apply AtS.app2)))) | refine HLe.cons (by repeat (first | exact At.here | apply At.there | with_reducible apply At.app | with_reducible apply At.app2)) ?_ | refine HLe.seg (by repeat (first | with_reducible exact AtS.here | with_reducible exact AtS.here2 | exact AtS.last | apply AtS.there | with_reducible apply AtS.app | with_reducible apply AtS.app2)) ?_ | exact HLe.last (by repeat (first | with_reducible exact AtS.here | with_reducible exact AtS.here2 | exact AtS.last | apply AtS.there | with_reducible apply AtS.app | with_reducible apply AtS.app2))))
        · have hfull : (ins.map fun k => -1 - k).take j = ins.map fun k => -1 - k := List.take_of_length_le (by simpa using hge)
          rw [hfull]
          obtain ⟨D3, hD3⟩ : ∃ D3, dupds tk D2 (yields (wire N.syns) (ins.map fun k => -1 - k)) = D3 := ⟨_, rfl⟩
          have hD3V : D3.map drowV = D.map drowV := by rw [← hD3]; exact (dupds_V _ _ _).trans hD2V
          rw [hD3]
          have hSt : simStep ⟨b, N, pb, pc, sv, bw, R, tk, sb, sc, sts, D⟩ ins = ⟨b, N, pb, pc, sv, bw, R, tk + 1, sb, sc, F.map (·.1), D3⟩ := by
            unfold simStep simSrcs
            rw [hSF, yields_app, dupds_app, ← hD3, ← hD2, modify_of_get _ hd0, hD1]
          have hup : upd cs 4 [.int .i64 ((tk : Int) + 1)] = some (simC ⟨b, N, pb, pc, sv, bw, R, tk + 1, sb, sc, F.map (·.1), D3⟩) := by
            rw [← hcs]
            simp only [simC, hD3V, List.length_map, hFl]
            rfl
          repeat' (conv => whnf); first
            | (refine VEnd.is ?_; refine VEnd.mk (by repeat (first | exact At.here | apply At.there | with_reducible apply At.app | with_reducible apply At.app2)) (by simp) ?_)
            | (refine VLd.is ?_; refine VLd.mk (Rd.cast (.row (by repeat (first | exact At.here | apply At.there | with_reducible apply At.app | with_reducible apply At.app2)) (h4)) (by first | omega | (dsimp only; omega) | rfl)) ?_)
            | (refine VSt.is ?_; refine VSt.cast (off' := 4) (by first | omega | (dsimp only; omega)) (VSt.row (by repeat (first | exact At.here | apply At.there | with_reducible apply At.app | with_reducible apply At.app2)) hup rfl ?_))
            | (refine VUn.is ?_; refine VUn.mk (by repeat (first | exact At.here | apply At.there | with_reducible apply At.app | with_reducible apply At.app2)) ?_)
            | (refine VSeq.is ?_; refine VSeq.go ?_)
            | (refine VB.is ?_; refine VB.split (fun _ => ?_) (fun h => absurd (by omega) h))
            | (refine VB.is ?_; refine VB.split (fun h => absurd h (by omega)) (fun _ => ?_))
            | (refine VB.is ?_; refine VB.split (fun _ => ?_) (fun _ => ?_))
            | (refine boolE_split (fun h => ?_) (fun h => ?_) <;> subst h)
            | (refine VLd.is ?_; refine VLd.mk (.row (by repeat (first | exact At.here | apply At.there | with_reducible apply At.app | with_reducible apply At.app2)) (by rfl)) ?_)
            | (refine VSt.is ?_; refine VSt.row (by repeat (first | exact At.here | apply At.there | with_reducible apply At.app | with_reducible apply At.app2)) (by rfl) (by first | rfl | assumption) ?_)
            | (refine VNew.is ?_; refine VNew.mk fun _ => ?_)
            | (refine VAr.is ?_; refine VAr.i64 (by omega) (by omega) ?_)
            | (refine VIx.is ?_; refine VIx.mk rfl (by omega) (by omega) ?_)
            | (refine VKeep.is ?_; refine VKeep.mk (by repeat (first | exact HLe.nil | exact HLe.refl _ | refine HLe.nilv ?_ | (with_reducible refine HLe.seg ?_ ?_; (focus (repeat (first | with_reducible exact AtS.here | with_reducible exact AtS.here2 | exact AtS.last | apply AtS.there | with_reducible apply AtS.app | with_reducible apply AtS.app2)))) | refine HLe.cons (by repeat (first | exact At.here | apply At.there | with_reducible apply At.app | with_reducible apply At.app2)) ?_ | refine HLe.seg (by repeat (first | with_reducible exact AtS.here | with_reducible exact AtS.here2 | exact AtS.last | apply AtS.there | with_reducible apply AtS.app | with_reducible apply AtS.app2)) ?_ | exact HLe.last (by repeat (first | with_reducible exact AtS.here | with_reducible exact AtS.here2 | exact AtS.last | apply AtS.there | with_reducible apply AtS.app | with_reducible apply AtS.app2)))) ?_)
            | (refine VHs.is ?_; refine VHs.mk _ (HLe.refl _) ?_)
            | (refine VQ.is ?_; refine VQ.pos (by omega) (by omega) (by omega) ?_)
            | (refine VM.is ?_; refine VM.pos (by omega) (by omega) ?_)
            | (refine And.intro ?_ ?_)
          all_goals (conv => whnf)
          refine ⟨fun w' hw' => ⟨(p, cap), rfl, hp, ?_⟩⟩
          rw [hSt]
          unfold ownH
          simp only [List.length_map, hFl]
          exact hw'.le (by repeat (first | exact HLe.nil | exact HLe.refl _ | refine HLe.nilv ?_ | (with_reducible refine HLe.seg ?_ ?_; (focus (repeat (first | with_reducible exact AtS.here | with_reducible exact AtS.here2 | exact AtS.last | apply AtS.there | with_reducible apply AtS.app | with_reducible apply AtS.app2)))) | refine HLe.cons (by repeat (first | exact At.here | apply At.there | with_reducible apply At.app | with_reducible apply At.app2)) ?_ | refine HLe.seg (by repeat (first | with_reducible exact AtS.here | with_reducible exact AtS.here2 | exact AtS.last | apply AtS.there | with_reducible apply AtS.app | with_reducible apply AtS.app2)) ?_ | exact HLe.last (by repeat (first | with_reducible exact AtS.here | with_reducible exact AtS.here2 | exact AtS.last | apply AtS.there | with_reducible apply AtS.app | with_reducible apply AtS.app2))))

end Go.Proofs
