import Derived.Test.YtjjcoiicikaaiaaGreatPlaceImprovesBt
import Derived.Test.YtjjcoiicikaaiaaGreatPlaceImprovesMi
import Derived.Test.YtjjcoiicikaaiaaGreatPlaceImprovesNa
import Derived.Test.YtjjcoiicikaaiaaGreatPlaceImprovesVb
section
set_option linter.unusedVariables false

set_option linter.unusedSimpArgs false

namespace Go.Proofs

open Go Go.Vx Go.Gm

theorem _root_.Go.Vx.VShR.zero32 {a : Nat} (h : a < 4294967296) {k : Int → Prop} (hk : k ((0 : Nat) : Int)) : VShR .u64 (a : Int) 32 k :=
  VShR.natU (a := a) 32 (by omega) fun c hc _ => by
    have : c = 0 := by rw [hc, Nat.shiftRight_eq_div_pow]; exact Nat.div_eq_of_lt h
    rw [this]; exact hk

theorem _root_.Go.Vx.VBit.mask32 {a : Nat} (h : a < 4294967296) {k : Int → Prop} (hk : k (a : Int)) : VBit .and .u64 (a : Int) 4294967295 k :=
  VBit.andU (b := 4294967295) (by omega) (by omega) fun c hc _ => by
    have : c = a := by
      rw [hc]
      have : (4294967295 : Nat) = 2 ^ 32 - 1 := rfl
      rw [this, Nat.and_two_pow_sub_one_eq_mod, Nat.mod_eq_of_lt (by omega)]
    rw [this]; exact hk

theorem bitsMul_one (n : Nat) (hn : n < 65536) (w : World) : Calls Tryz.prog 108 #[.int .u64 ((1 : Nat) : Int), .int .u64 (n : Int)] w fun e w' => e = .returned (.tuple #[.int .u64 ((0 : Nat) : Int), .int .u64 (n : Int)]) ∧ St w [] [] w' := by
  refine enter (C := Tryz.cx) (F := Tryz.fx108) (args := [_, _]) Tryz.func108 rfl rfl rfl Tryz.ok108 (St.start w []) ?_
  repeat' (conv => whnf); first | (refine VCall.isF 147 ?_; refine VCall.inl (F := Tryz.fx147) Tryz.func147 rfl rfl rfl Tryz.ok147 ?_) | (refine VShR.is ?_; refine VShR.is ?_; refine VShR.zero32 (by omega) ?_) | (refine VBit.is ?_; refine VBit.is ?_; refine VBit.mask32 (by omega) ?_) | (refine VAr.is ?_; refine VAr.is ?_; refine VAr.u64g (by omega) (by omega) fun c hc => ?_; first | (have e : c = 0 := (by omega); subst e; clear hc) | (have e : n = c := (by omega); subst e; clear hc)) | (refine VSeq.go ?_) | (refine VB.is ?_; refine VB.yes (by omega) fun _ => ?_) | (refine VB.is ?_; refine VB.no (by omega) fun _ => ?_) | (refine VB.split (fun _ => ?_) (fun _ => ?_)) | (refine boolE_split (fun h => ?_) (fun h => ?_) <;> subst h) | (refine VLd.is ?_; refine VLd.mk (.row aT (by rfl)) ?_) | (refine VSt.is ?_; refine VSt.row aT (by rfl) (by first | rfl | assumption) ?_) | (refine VNew.mk fun _ => ?_) | (refine VAr.is ?_; refine oA ?_) | (refine VIx.is ?_; refine VIx.mk rfl (by omega) (by omega) ?_) | (refine VKeep.is ?_; refine VKeep.mk aH ?_) | (refine VHs.mk _ (.refl _) ?_) | (refine VQ.is ?_; refine oQ ?_) | (refine VM.is ?_; refine oM ?_) | (refine And.intro ?_ ?_)
  all_goals (conv => whnf)
  exact ⟨fun w' hw' => ⟨rfl, hw'.le .nil⟩⟩

theorem rep_upd {n j m : Nat} {v : Int} (h : j + m ≤ n) : upd (flat intV (List.replicate j v ++ List.replicate (n - j) 0)) (j * 1) (flat intV (List.replicate m v)) = some (flat intV (List.replicate (j + m) v ++ List.replicate (n - (j + m)) 0)) := by
  have e1 : ∀ q (a : Int), (flat intV (List.replicate q a)).length = q := fun q a => by rw [flat_length (k := 1) (fun _ => rfl), List.length_replicate, Nat.mul_one]
  have h1 : (flat intV (List.replicate j v ++ List.replicate (n - j) 0)).length = n := by rw [flat_append, List.length_append, e1, e1]; omega
  rw [upd_mk _ _ _ (by rw [h1, e1]; omega)]
  congr 1
  rw [Nat.mul_one, flat_append, flat_append]
  have e2 : (flat intV (List.replicate j v) ++ flat intV (List.replicate (n - j) 0)).take j = flat intV (List.replicate j v) := by
    have := List.take_left (l₁ := flat intV (List.replicate j v)) (l₂ := flat intV (List.replicate (n - j) 0))
    rw [e1] at this; exact this
  have e3 : (flat intV (List.replicate j v) ++ flat intV (List.replicate (n - j) 0)).drop (j + (flat intV (List.replicate m v)).length) = flat intV (List.replicate (n - (j + m)) 0) := by
    have e4 : List.replicate (n - j) (0 : Int) = List.replicate m 0 ++ List.replicate (n - (j + m)) 0 := by rw [List.replicate_append_replicate]; congr 1; omega
    rw [e4, flat_append, ← List.append_assoc]
    have := List.drop_left (l₁ := flat intV (List.replicate j v) ++ flat intV (List.replicate m (0 : Int))) (l₂ := flat intV (List.replicate (n - (j + m)) (0 : Int)))
    rw [List.length_append, e1, e1] at this
    rw [e1]; exact this
  rw [e2, e3, ← flat_append, List.replicate_append_replicate]

theorem rep_sub {n j m : Nat} {v : Int} (h : j ≤ n) (hm : m ≤ j) : sub (flat intV (List.replicate j v ++ List.replicate (n - j) 0)) 0 (m * 1) = some (flat intV (List.replicate m v)) := by
  have e1 : ∀ q (a : Int), (flat intV (List.replicate q a)).length = q := fun q a => by rw [flat_length (k := 1) (fun _ => rfl), List.length_replicate, Nat.mul_one]
  rw [sub_mk _ _ _ (by rw [flat_append, List.length_append, e1, e1]; omega), Nat.mul_one, List.drop_zero]
  congr 1
  have e4 : List.replicate j v ++ List.replicate (n - j) (0 : Int) = List.replicate m v ++ (List.replicate (j - m) v ++ List.replicate (n - j) 0) := by
    rw [← List.append_assoc, List.replicate_append_replicate]; congr 2; omega
  rw [e4, flat_append]
  have := List.take_left (l₁ := flat intV (List.replicate m v)) (l₂ := flat intV (List.replicate (j - m) v ++ List.replicate (n - j) (0 : Int)))
  rw [e1] at this; exact this

theorem oneAll_ints : ∀ l : List Int, oneAll (flat intV l) = true
  | [] => rfl
  | x :: l => by
    have := oneAll_ints l
    simpa [flat, oneAll, intV, Value.oneCell'] using this

theorem repeat_any (v : Int) (n : Nat) (hn : n < 65536) (b o c : Nat) (w : World) (h1 : Sl w intV 1 [v] (some ⟨b, o, none⟩) 1 b o) :
    Calls Tryz.prog 70 #[.slice (some ⟨b, o, none⟩) 1 c, .int .i64 (n : Int)] w fun e w' => ∃ g : Nat, e = .returned (.slice (some ⟨g, 0, none⟩) n n) ∧ True ∧ St w [] [.vec (some ⟨g, 0, none⟩) n n 3 1 (flat intV (List.replicate n v))] w' := by
  have hmul := fun w' => bitsMul_one n hn w'
  refine enter (C := Tryz.cx) (F := Tryz.fx70) (args := [_, _]) Tryz.func70 rfl rfl rfl Tryz.ok70 (St.start w []) ?_
  repeat' (conv => whnf); first | (refine VCall.isF 108 ?_; (refine VCall.valR (fun w' _ => hmul w') ?_)) | (refine VAr.is ?_; refine VAr.is ?_; refine VAr.u64g (by omega) (by omega) fun c hc => ?_; first | (have e : c = 1 := (by omega); subst e; clear hc) | (have e : n = c := (by omega); subst e; clear hc)) | (refine VMk.is ?_; refine VMk.mk (by omega) (by omega) (by (try dsimp only); omega) (by omega) fun g => ?_) | (refine VSeq.go ?_) | (refine VB.is ?_; refine VB.yes (by omega) fun _ => ?_) | (refine VB.is ?_; refine VB.no (by omega) fun _ => ?_) | (refine VB.split (fun _ => ?_) (fun _ => ?_)) | (refine boolE_split (fun h => ?_) (fun h => ?_) <;> subst h) | (refine VLd.is ?_; refine VLd.mk (.row aT (by rfl)) ?_) | (refine VSt.is ?_; refine VSt.row aT (by rfl) (by first | rfl | assumption) ?_) | (refine VNew.mk fun _ => ?_) | (refine VAr.is ?_; refine oA ?_) | (refine VIx.is ?_; refine VIx.mk rfl (by omega) (by omega) ?_) | (refine VKeep.is ?_; refine VKeep.mk aH ?_) | (refine VHs.mk _ (.refl _) ?_) | (refine VQ.is ?_; refine oQ ?_) | (refine VM.is ?_; refine oM ?_) | (refine And.intro ?_ ?_)
  all_goals (conv => whnf)
  have hsrc : ∀ H, Src w [] H (some ⟨b, o, none⟩) (min 1 n) 1 (flat intV (List.replicate (min 1 n) v)) := fun H => by
    by_cases h0 : n = 0
    · subst h0; exact .none0
    · have : min 1 n = 1 := by omega
      rw [this]
      exact h1.src (by simp) (fun _ => rfl)
  have hu0 := rep_upd (n := n) (j := 0) (m := min 1 n) (v := v) (by omega)
  rw [Nat.zero_mul, Nat.zero_add, List.replicate_zero, List.nil_append, Nat.sub_zero, ← flat_rep] at hu0
  refine VCp.into (off := 0) rfl (hsrc _) (VSt.vec aT hu0 (oneAll_ints _) ?_)
  repeat' (conv => whnf); first | (refine VSeq.go ?_) | (refine VB.is ?_; refine VB.yes (by omega) fun _ => ?_) | (refine VB.is ?_; refine VB.no (by omega) fun _ => ?_) | (refine VB.split (fun _ => ?_) (fun _ => ?_)) | (refine boolE_split (fun h => ?_) (fun h => ?_) <;> subst h) | (refine VLd.is ?_; refine VLd.mk (.row aT (by rfl)) ?_) | (refine VSt.is ?_; refine VSt.row aT (by rfl) (by first | rfl | assumption) ?_) | (refine VNew.mk fun _ => ?_) | (refine VAr.is ?_; refine oA ?_) | (refine VIx.is ?_; refine VIx.mk rfl (by omega) (by omega) ?_) | (refine VKeep.is ?_; refine VKeep.mk aH ?_) | (refine VHs.mk _ (.refl _) ?_) | (refine VQ.is ?_; refine oQ ?_) | (refine VM.is ?_; refine oM ?_) | (refine And.intro ?_ ?_)
  all_goals (conv => whnf)
  refine VLoop.mk (α := Nat) (fun j => j ≤ n ∧ (1 ≤ j ∨ n = 0)) (fun j => [(1000000, .tuple #[]), (4, .slice none 0 0), (7, .slice (some ⟨g, 0, none⟩) n n), (8, .int .i64 (j : Int))])
    (fun j => [.vec (some ⟨g, 0, none⟩) n n 3 1 (flat intV (List.replicate j v ++ List.replicate (n - j) 0))]) (fun j => n - j) (min 1 n) ⟨by omega, by omega⟩ aE aH ?_
  rintro j ⟨hj, hj1⟩
  rcases Nat.lt_or_ge j n with hlt | hge
  · have hu := rep_upd (n := n) (j := j) (m := min j (n - j)) (v := v) (by omega)
    have hs := rep_sub (n := n) (j := j) (m := min j (n - j)) (v := v) (by omega) (by omega)
    repeat' (conv => whnf); first | (refine VSl.is ?_; refine VSl.is ?_; first | refine VSl.cut0 (m := j) (cap := n) (by omega) ?_ | (refine VSl.off (l := j) (h := n) (c := n) rfl rfl rfl (by omega) (by omega) fun off hoff => ?_; have hoe := hoff (by omega); subst hoe)) | (refine VCp.is ?_; refine VCp.is ?_; refine VCp.into rfl (.at_ (.vec aT hs)) (VSt.cast (off' := j * 1) (by first | omega | (dsimp only; omega) | rfl) (VSt.vec aT hu (oneAll_ints _) ?_))) | (refine VSeq.go ?_) | (refine VB.is ?_; refine VB.yes (by omega) fun _ => ?_) | (refine VB.is ?_; refine VB.no (by omega) fun _ => ?_) | (refine VB.split (fun _ => ?_) (fun _ => ?_)) | (refine boolE_split (fun h => ?_) (fun h => ?_) <;> subst h) | (refine VLd.is ?_; refine VLd.mk (.row aT (by rfl)) ?_) | (refine VSt.is ?_; refine VSt.row aT (by rfl) (by first | rfl | assumption) ?_) | (refine VNew.mk fun _ => ?_) | (refine VAr.is ?_; refine oA ?_) | (refine VIx.is ?_; refine VIx.mk rfl (by omega) (by omega) ?_) | (refine VKeep.is ?_; refine VKeep.mk aH ?_) | (refine VHs.mk _ (.refl _) ?_) | (refine VQ.is ?_; refine oQ ?_) | (refine VM.is ?_; refine oM ?_) | (refine And.intro ?_ ?_)
    all_goals (conv => whnf)
    have e : (j : Int) + ((min j (n - j) : Nat) : Int) = ((j + min j (n - j) : Nat) : Int) := by omega
    rw [e]
    exact VNext.mk (j + min j (n - j)) ⟨by omega, by omega⟩ (by omega) aE aH
  have hjn : j = n := by omega
  subst hjn
  rw [Nat.sub_self, List.replicate_zero, List.append_nil]
  repeat' (conv => whnf); first | (refine VSeq.go ?_) | (refine VB.is ?_; refine VB.yes (by omega) fun _ => ?_) | (refine VB.is ?_; refine VB.no (by omega) fun _ => ?_) | (refine VB.split (fun _ => ?_) (fun _ => ?_)) | (refine boolE_split (fun h => ?_) (fun h => ?_) <;> subst h) | (refine VLd.is ?_; refine VLd.mk (.row aT (by rfl)) ?_) | (refine VSt.is ?_; refine VSt.row aT (by rfl) (by first | rfl | assumption) ?_) | (refine VNew.mk fun _ => ?_) | (refine VAr.is ?_; refine oA ?_) | (refine VIx.is ?_; refine VIx.mk rfl (by omega) (by omega) ?_) | (refine VKeep.is ?_; refine VKeep.mk aH ?_) | (refine VHs.mk _ (.refl _) ?_) | (refine VQ.is ?_; refine oQ ?_) | (refine VM.is ?_; refine oM ?_) | (refine And.intro ?_ ?_)
  all_goals (conv => whnf)
  exact ⟨fun w' hw' => ⟨g, rfl, trivial, hw'.le aH⟩⟩

end Go.Proofs
end

section
section

set_option linter.unusedVariables false

set_option linter.unusedSimpArgs false

namespace Go.Proofs

open Go Go.Vx Go.Gm

theorem _root_.Go.Vx.VAr.wadd {a b : Int} {k : Int → Prop} (hk : k (Gm.wadd a b)) : VAr .i64 (a + b) k := by
  refine .wraps ?_
  rw [IntKind.wrap_i64]
  exact hk

structure ShOk (w : World) (M : List Nat) (x : SimM) : Prop where
  par : Sl w parV 8 x.N.ps (some ⟨x.pb, 0, none⟩) x.N.ps.length x.pb 0
  parM : x.pb ∉ M
  map : mapIs w x.bw (x.R.map wrowM)
  mapM : x.bw ∉ M
  rows : ∀ r ∈ x.R, ∃ g, r.p = some ⟨g, 0, none⟩ ∧ Sl w synV 4 r.l r.p r.l.length g 0 ∧ g ∉ M

def dupd (t : Nat) (D : List DRow) (s : Syn) : List DRow := D.modify ((t + s.dl.toNat) % 16) fun d => { d with l := d.l.modify s.to.toNat fun a => wadd a s.wt }

def dupds (t : Nat) (D : List DRow) (l : List Syn) : List DRow := l.foldl (dupd t) D

theorem dupd_V (t : Nat) (D : List DRow) (s : Syn) : (dupd t D s).map drowV = D.map drowV := by
  unfold dupd
  apply List.ext_getElem?
  intro i
  simp only [List.getElem?_map, List.getElem?_modify]
  split <;> cases D[i]? <;> simp [drowV]

theorem dupds_V (t : Nat) (l : List Syn) : ∀ D : List DRow, (dupds t D l).map drowV = D.map drowV := by
  induction l with
  | nil => intro D; rfl
  | cons s l ih => intro D; exact (ih _).trans (dupd_V t D s)

theorem drowV_len {D D' : List DRow} (h : D'.map drowV = D.map drowV) {i : Nat} {d : DRow} (hi : D'[i]? = some d) : ∃ d0, D[i]? = some d0 ∧ d0.l.length = d.l.length := by
  have := congrArg (fun l => l[i]?) h
  simp only [List.getElem?_map, hi, Option.map_some] at this
  cases hd : D[i]? with
  | none => simp [hd] at this
  | some d0 =>
    simp only [hd, Option.map_some, Option.some.injEq, drowV, Value.slice.injEq] at this
    exact ⟨d0, rfl, this.2.1.symm⟩

theorem look_cases (R : List WRow) (k : Int) : (∃ r ∈ R, mfind (R.map wrowM) k = some (wrowV r) ∧ wfind (R.map wrowK) k = r.l) ∨ (mfind (R.map wrowM) k = none ∧ wfind (R.map wrowK) k = []) := by
  induction R with
  | nil => exact .inr ⟨rfl, rfl⟩
  | cons z R ih =>
    by_cases h : z.key = k
    · exact .inl ⟨z, by simp, by simp [mfind, wrowM, h], by simp [wfind, wrowK, h]⟩
    · rcases ih with ⟨r, h1, h2, h3⟩ | ⟨h2, h3⟩
      · exact .inl ⟨r, by simp [h1], by simpa [mfind, wrowM, h] using h2, by simpa [wfind, wrowK, h] using h3⟩
      · exact .inr ⟨by simpa [mfind, wrowM, h] using h2, by simpa [wfind, wrowK, h] using h3⟩

theorem _root_.Go.Vx.VLk.val {m : List (Int × Value)} {j : Int} {z v : Value} {k : Value → Prop} (h : mfind m j = some v ∨ (mfind m j = none ∧ v = z)) (hk : k v) : VLk m j fun r => found false z r k := by
  rcases h with h | ⟨h, rfl⟩
  · exact .has h hk
  · exact .lacks h hk

theorem ShOk.look {w : World} {M : List Nat} {x : SimM} (h : ShOk w M x) (k : Int) : ∃ (p : Option Addr) (c g : Nat), (mfind (x.R.map wrowM) k = some (.slice p (wfind (x.R.map wrowK) k).length c) ∨ (mfind (x.R.map wrowM) k = none ∧ Value.slice p (wfind (x.R.map wrowK) k).length c = nilS)) ∧
    Sl w synV 4 (wfind (x.R.map wrowK) k) p (wfind (x.R.map wrowK) k).length g 0 ∧ g ∉ M := by
  rcases look_cases x.R k with ⟨r, h1, h2, h3⟩ | ⟨h2, h3⟩
  · obtain ⟨g, hg, hsl, hM⟩ := h.rows r h1
    rw [h3]
    exact ⟨r.p, r.cap, g, .inl h2, hsl, hM⟩
  · rw [h3]
    exact ⟨none, 0, x.pb, .inr ⟨h2, rfl⟩, .nil (.inl rfl), h.parM⟩

def simFire (x : SimM) : List (Sta × Bool) := fire x.N.ps x.sts ((x.D[x.tick % 16]?.map (·.l)).getD [])

def simSrcs (x : SimM) (ins : List Int) : List Int := spk (simFire x) ++ ins.map fun k => -1 - k

def simStep (x : SimM) (ins : List Int) : SimM :=
  { x with tick := x.tick + 1, sts := (simFire x).map (·.1),
           D := dupds x.tick (x.D.modify (x.tick % 16) fun d => ⟨d.g, d.cap, List.replicate d.l.length 0⟩) (yields (wire x.N.syns) (simSrcs x ins)) }

end Go.Proofs

end

section

set_option linter.unusedVariables false

set_option linter.unusedSimpArgs false

namespace Go.Proofs

open Go Go.Vx Go.Gm

def StaAll (N : Net) (sts : List Sta) : Prop := ∀ (i : Nat) p s, N.ps[i]? = some p → sts[i]? = some s → staOk p s

end Go.Proofs

end

section

set_option linter.unusedVariables false

set_option linter.unusedSimpArgs false

namespace Go.Proofs

open Go Go.Vx Go.Gm

theorem simStep_V (x : SimM) (ins : List Int) : (simStep x ins).D.map drowV = x.D.map drowV := by
  refine (dupds_V _ _ _).trans ?_
  apply List.ext_getElem?
  intro i
  simp only [List.getElem?_map, List.getElem?_modify]
  split <;> cases x.D[i]? <;> simp [drowV]

theorem SimOk.row {x : SimM} (hx : SimOk x) : ∃ d, x.D[x.tick % 16]? = some d ∧ d.l.length = x.N.ps.length := by
  have h := hx.due
  refine ⟨x.D[x.tick % 16]'(by omega), List.getElem?_eq_getElem _, hx.cells _ (List.getElem_mem _)⟩

theorem SimOk.fire {x : SimM} (hx : SimOk x) : (simFire x).length = x.N.ps.length := by
  obtain ⟨d, h1, h2⟩ := hx.row
  unfold simFire
  rw [h1]
  exact fire_length hx.sts h2

theorem SimOk.step {x : SimM} (hx : SimOk x) (ins : List Int) : SimOk (simStep x ins) := by
  have hV := simStep_V x ins
  have hl : (simStep x ins).D.length = x.D.length := by simpa using congrArg List.length hV
  refine ⟨hx.net, hx.rows, hx.wired, ?_, hl.trans hx.due, fun d hd => ?_, hx.sv⟩
  · show ((simFire x).map (·.1)).length = x.N.ps.length
    rw [List.length_map, hx.fire]
  · obtain ⟨i, hi⟩ := List.getElem?_of_mem hd
    obtain ⟨d0, h1, h2⟩ := drowV_len hV hi
    rw [← h2]
    exact hx.cells d0 (List.mem_of_getElem? h1)

theorem StaAll.step {x : SimM} (hx : SimOk x) (hs : StaAll x.N x.sts) (ins : List Int) : StaAll (simStep x ins).N (simStep x ins).sts := by
  intro i p s h1 h2
  change x.N.ps[i]? = some p at h1
  change ((simFire x).map (·.1))[i]? = some s at h2
  obtain ⟨d, g1, g2⟩ := hx.row
  have hlt : i < x.N.ps.length := (List.getElem?_eq_some_iff.1 h1).1
  have hsl := hx.sts
  have e1 : x.sts[i]? = some (x.sts[i]'(by omega)) := List.getElem?_eq_getElem _
  have e2 : d.l[i]? = some (d.l[i]'(by omega)) := List.getElem?_eq_getElem _
  have e3 := fire_get h1 e1 e2
  unfold simFire at h2
  rw [g1] at h2
  rw [Option.map_some, Option.getD_some, List.getElem?_map, e3] at h2
  simp only [Option.map_some, Option.some.injEq] at h2
  subst h2
  exact tick_ok (hx.net.ps p (List.mem_of_getElem? h1)) (hs i p _ h1 e1) _

def SimM.put (x : SimM) (t : Nat) (sts : List Sta) (D : List DRow) : SimM := { x with tick := t, sts := sts, D := D }

end Go.Proofs

end
end
