import Derived.Test.YtjjcoiicikaaiaaGreatPlaceWaysKt
import Derived.Test.YtjjcoiicikaaiaaGreatPlaceWaysMe
set_option linter.unusedVariables false
set_option linter.unusedSimpArgs false
set_option maxHeartbeats 4000000
section

namespace Go.Gm

structure Prt where
 r : Nat
 o : Nat
 c : Nat
deriving DecidableEq

structure Pkt where
 src : Nat
 key : Int

structure RunS where
 q : Nat → Nat → List Nat
 co : Nat → Nat → Option Nat
 arr : List (Nat × Nat × Nat)
 drp : List (Nat × Nat × Int × Nat)

def pow2 (o : Nat) : Int := ((2 ^ o : Nat) : Int)

def backO (o : Nat) : Nat := (o + 2) % 4

theorem backO_lt (o : Nat) : backO o < 4 := Nat.mod_lt _ (by omega)

theorem backO_inj {a b : Nat} (ha : a < 4) (hb : b < 4) (h : backO a = backO b) : a = b := by
 unfold backO at h
 omega

def upQ (f : Nat → Nat → List Nat) (r o : Nat) (l : List Nat) : Nat → Nat → List Nat := fun a b => if a = r ∧ b = o then l else f a b

def upC (f : Nat → Nat → Option Nat) (r o : Nat) (x : Option Nat) : Nat → Nat → Option Nat := fun a b => if a = r ∧ b = o then x else f a b

def enterO (s : Spc) (t r p : Nat) (outs : Int) (st : RunS) (o : Nat) : RunS :=
 if hasB outs (pow2 o) then
  if ¬ leadM s.wide s.high (r : Int) (pow2 o) ∨ ((st.q r o).length : Int) = s.room then { st with drp := st.drp ++ [(p, r, pow2 o, t)] }
  else { st with q := upQ st.q r o (st.q r o ++ [p]) }
 else st

def enterP (s : Spc) (tabs : List (List Ety)) (pk : List Pkt) (t r : Nat) (st : RunS) (p : Nat) : RunS :=
 match findE ((tabs[r]?).getD []) ((pk[p]?.map (·.key)).getD 0) with
 | none => { st with drp := st.drp ++ [(p, r, 0, t)] }
 | some outs => (List.range 5).foldl (enterO s t r p outs) st

def cominR (st : RunS) (r : Nat) : List Nat := (List.range 4).filterMap fun o => st.co r o

def sentsR (pk : List Pkt) (r : Nat) : List Nat := (List.range pk.length).filter fun p => decide ((pk[p]?.map (·.src)).getD 0 = r)

def clearR (st : RunS) (r : Nat) : RunS := { st with co := fun a b => if a = r then none else st.co a b }

def inR (s : Spc) (tabs : List (List Ety)) (pk : List Pkt) (t : Nat) (st : RunS) (r : Nat) : RunS :=
 (cominR st r ++ if t = 0 then sentsR pk r else []).foldl (enterP s tabs pk t r) (clearR st r)

def sendO (s : Spc) (t r : Nat) (st : RunS) (o : Nat) : RunS :=
 match st.q r o with
 | [] => st
 | p :: l =>
  if o = 4 then { st with q := upQ st.q r o l, arr := st.arr ++ [(p, r, t)] }
  else { st with q := upQ st.q r o l, co := upC st.co (nextM s.wide (r : Int) (pow2 o)).toNat (backO o) (some p) }

def sendR (s : Spc) (t : Nat) (st : RunS) (r : Nat) : RunS := (List.range 5).foldl (sendO s t r) st

def tickR (s : Spc) (tabs : List (List Ety)) (pk : List Pkt) (n : Nat) (st : RunS) (t : Nat) : RunS :=
 (List.range n).foldl (sendR s t) ((List.range n).foldl (inR s tabs pk t) st)

def run0 : RunS := ⟨fun _ _ => [], fun _ _ => none, [], []⟩

def runM (s : Spc) (tabs : List (List Ety)) (pk : List Pkt) (n ticks : Nat) : RunS := (List.range ticks).foldl (tickR s tabs pk n) run0

end Go.Gm

namespace Go.Proofs

open Go Go.Vx Go.Gm

def threeFields (fs : List (Nat × TypeId)) (ok : Bool) : Bool := decide (fs = [(0, 3), (1, 3), (2, 3)]) && ok

theorem key_three {T : TypeId} (hrow : T < Tryz.prog.types.size) (hdeep : Tryz.prog.keyType T = true) (hf : (match Tryz.prog.underlying T with | some (.struct fs) => threeFields (fs.toList.map fun f => (f.offset, f.type)) (fs.all (·.name != "_")) | _ => false) = true)
  (hc : Tryz.prog.cellsOf T = 3) (a b c : Int) (ha : I64 a) (hb : I64 b) (hcc : I64 c) : ∃ l, keyOf Tryz.prog T (.agg #[.int .i64 a, .int .i64 b, .int .i64 c]) = some l := by
 have hpos : ∃ d, Tryz.prog.types.size + 1 = d + 2 := ⟨Tryz.prog.types.size - 1, by have h : 0 < Tryz.prog.types.size := Nat.lt_of_le_of_lt (Nat.zero_le _) hrow; omega⟩
 obtain ⟨d, hd⟩ := hpos
 unfold keyOf
 rw [hdeep, hd]
 cases hu : Tryz.prog.underlying T with
 | none => rw [hu] at hf; cases hf
 | some td =>
  rw [hu] at hf
  cases td <;> try (cases hf; done)
  rename_i fs
  simp only [threeFields, Bool.and_eq_true, decide_eq_true_eq] at hf
  obtain ⟨h1, h2⟩ := hf
  have hform : (Value.agg #[.int .i64 a, .int .i64 b, .int .i64 c]).formed Tryz.prog T = true := by
   simp [Value.formed, hu, hc]
  simp only [hform, Bool.and_self, if_true]
  unfold Program.keyLits
  rw [hu]
  dsimp only
  have h3 : (Value.agg #[.int .i64 a, .int .i64 b, .int .i64 c]).cells.toList = [.int .i64 a, .int .i64 b, .int .i64 c] := rfl
  rw [h3, if_pos ⟨by rw [hc]; rfl, h2⟩]
  obtain ⟨L, hL⟩ : ∃ L, fs.toList = L := ⟨_, rfl⟩
  rw [hL] at h1 ⊢
  rcases L with _ | ⟨f, _ | ⟨g, _ | ⟨e, _ | ⟨k, L⟩⟩⟩⟩
  ·simp at h1
  ·simp at h1
  ·simp at h1
  rotate_left
  ·simp at h1
  ·simp only [List.map_cons, List.map_nil, List.cons.injEq, Prod.mk.injEq, and_true] at h1
   obtain ⟨⟨f1, f2⟩, ⟨g1, g2⟩, e1, e2⟩ := h1
   simp only [List.mapM_cons, List.mapM_nil, f1, f2, g1, g2, e1, e2, Tryz.cellsIK, List.drop_zero, List.drop_succ_cons, List.take_succ_cons, List.take_zero]
   rw [keyLits_intK d a ha, keyLits_intK d b hb, keyLits_intK d c hcc]
   exact ⟨_, rfl⟩

def prtA (k : Prt) : Value := .agg #[.int .i64 (k.r : Int), .int .i64 (pow2 k.o), .int .i64 (k.c : Int)]

def prtW (k : Prt) : Prop := k.r < 65536 ∧ k.o < 5 ∧ k.c < 2

theorem pow2_lt {o : Nat} (h : o < 5) : 1 ≤ pow2 o ∧ pow2 o ≤ 16 := by
 unfold pow2
 have h1 : 2 ^ o ≤ 2 ^ 4 := Nat.pow_le_pow_right (by omega) (by omega)
 have h2 : 0 < 2 ^ o := Nat.two_pow_pos o
 omega

theorem pow2_inj {a b : Nat} (h : pow2 a = pow2 b) : a = b := by
 unfold pow2 at h
 exact (Nat.pow_right_inj (by omega : 1 < 2)).1 (Int.ofNat.inj h)

theorem prtA_inj (x y : Prt) (h : prtA x = prtA y) : x = y := by
 obtain ⟨a, b, c⟩ := x
 obtain ⟨d, e, f⟩ := y
 simp only [prtA, Value.agg.injEq, Array.mk.injEq, List.cons.injEq, Value.int.injEq, true_and, and_true] at h
 obtain ⟨h1, h2, h3⟩ := h
 have := pow2_inj h2
 congr 1
 ·omega
 ·omega

theorem Tryz.rowPt : (196 : TypeId) < Tryz.prog.types.size := of_decide_eq_true (by kernel_rfl)

theorem Tryz.kindPt : (match Tryz.prog.underlying 196 with | some (.array _ _) | some (.struct _) => true | _ => false) = true := by kernel_rfl

set_option maxRecDepth 100000 in
theorem Tryz.lawPt : WideMaps.KeyLaw Tryz.prog 196 := deep_law_laid Tryz.laidK (m := 2) (by omega) Tryz.rowPt (by kernel_rfl) Tryz.kindPt

set_option maxRecDepth 100000 in
theorem Tryz.deepPt : Tryz.prog.keyType 196 = true := by kernel_rfl

theorem Tryz.fldPt : (match Tryz.prog.underlying 196 with | some (.struct fs) => threeFields (fs.toList.map fun f => (f.offset, f.type)) (fs.all (·.name != "_")) | _ => false) = true := by kernel_rfl

theorem Tryz.cellsPt : Tryz.prog.cellsOf 196 = 3 := by kernel_rfl

theorem keyPt : KeyTy 196 prtA prtW := ⟨Tryz.lawPt, fun x hx => key_three Tryz.rowPt Tryz.deepPt Tryz.fldPt Tryz.cellsPt _ _ _ (by have := hx.1; unfold I64; omega) (by have := pow2_lt hx.2.1; unfold I64; omega) (by have := hx.2.2; unfold I64; omega), prtA_inj⟩

end Go.Proofs
end

section

namespace Go.Gm

inductive QSh where
 | nil (p : Option Go.Addr)
 | at_ (g d cap : Nat) (l : List Nat)

structure QE where
 k : Prt
 b : Nat
 s : QSh

def QSh.cont : QSh → List Nat
 | .nil _ => []
 | .at_ _ d _ l => l.drop d

def QSh.ok : QSh → Prop
 | .nil _ => True
 | .at_ _ d cap l => d ≤ l.length ∧ l.length ≤ cap

def qPtr (qs : List QE) (k : Prt) : Option Nat := (qs.find? fun e => decide (e.k = k)).map (·.b)

theorem qPtr_some {qs : List QE} {k : Prt} {b : Nat} (h : qPtr qs k = some b) : ∃ (j : Nat) (e : QE), qs[j]? = some e ∧ e.k = k ∧ e.b = b := by
 unfold qPtr at h
 cases hf : qs.find? fun e => decide (e.k = k) with
 | none => rw [hf] at h; cases h
 | some e =>
  rw [hf] at h
  have h1 := List.mem_of_find?_eq_some hf
  have h2 := List.find?_some hf
  obtain ⟨j, hj⟩ := List.getElem?_of_mem h1
  exact ⟨j, e, hj, of_decide_eq_true h2, Option.some.inj h⟩

theorem qPtr_none {qs : List QE} {k : Prt} (h : qPtr qs k = none) : ∀ e ∈ qs, e.k ≠ k := by
 unfold qPtr at h
 rw [Option.map_eq_none_iff, List.find?_eq_none] at h
 intro e he hk
 have := h e he
 simp [hk] at this

theorem qPtr_snoc {qs : List QE} {e : QE} (h : qPtr qs e.k = none) (k : Prt) : qPtr (qs ++ [e]) k = if k = e.k then some e.b else qPtr qs k := by
 by_cases hk : k = e.k
 ·subst hk
  rw [if_pos rfl]
  unfold qPtr at *
  rw [Option.map_eq_none_iff] at h
  rw [List.find?_append, h]
  simp
 ·rw [if_neg hk]
  unfold qPtr
  rw [List.find?_append]
  have : [e].find? (fun e => decide (e.k = k)) = none := by
   rw [List.find?_eq_none]
   intro x hx
   rw [List.mem_singleton] at hx
   subst hx
   simpa using fun h => hk h.symm
  rw [this, Option.or_none]

theorem qPtr_set {qs : List QE} {j : Nat} {e e' : QE} (hj : qs[j]? = some e) (hk : e'.k = e.k) (hb : e'.b = e.b) (k : Prt) : qPtr (qs.set j e') k = qPtr qs k := by
 have h : ∀ (qs : List QE) (j : Nat), qs[j]? = some e → qPtr (qs.set j e') k = qPtr qs k := by
  intro qs
  induction qs with
  | nil => intro j h; cases h
  | cons x l ih =>
   intro j h
   cases j with
   | zero =>
    simp only [List.getElem?_cons_zero, Option.some.injEq] at h
    subst h
    unfold qPtr
    rw [List.set_cons_zero, List.find?_cons, List.find?_cons, hk]
    cases decide (x.k = k)
    ·rfl
    ·simp [hb]
   | succ j =>
    rw [List.getElem?_cons_succ] at h
    have := ih j h
    unfold qPtr at *
    rw [List.set_cons_succ, List.find?_cons, List.find?_cons]
    cases decide (x.k = k)
    ·exact this
    ·rfl
 exact h qs j hj

end Go.Gm

namespace Go.Proofs

open Go Go.Vx Go.Gm

def nV (n : Nat) : List Value := [.int .i64 (n : Int)]

def QSh.val : QSh → Value
 | .nil p => .slice p 0 0
 | .at_ g d cap l => .slice (some ⟨g, d, none⟩) (l.length - d) (cap - d)

def QSh.mem : QSh → HP
 | .nil _ => []
 | .at_ g d cap l => [.vec (some ⟨g, 0, none⟩) l.length cap 3 1 (flat nV l)]

def qeH (e : QE) : HP := .row e.b 199 [QSh.val e.s] :: QSh.mem e.s

def ptrV (b : Nat) : Value := .pointer (some ⟨b, 0, none⟩)

abbrev QMap (m : List (Value × Value)) (qs : List QE) : Prop := MapF prtA prtW ptrV m (qPtr qs)

structure QMore (qs qs' : List QE) (k : Prt) (j : Nat) (e : QE) : Prop where
 at_ : qs'[j]? = some e
 key : e.k = k
 or_ : qs' = qs ∨ (qs' = qs ++ [e] ∧ (∀ x ∈ qs, x.k ≠ k) ∧ e.s = .nil none)

theorem _root_.Go.Vx.VCall.takeQ {P : Program} {w0 : World} {M : List Nat} {H S R : HP} {f : Nat} {args : List Value} {K : Value → HP → Prop} (htk : Take H S R) (h : VCall P w0 M (S ++ R) f args K) : VCall P w0 M H f args K := by
 obtain ⟨h⟩ := h
 exact .mk fun w hw => h w (hw.perm htk.perm)

theorem _root_.Go.Vx.VCall.leK {P : Program} {w0 : World} {M : List Nat} {H : HP} {f : Nat} {args : List Value} {K : Value → HP → Prop} (h : VCall P w0 M H f args fun v H' => ∃ H'', HLe H'' H' ∧ K v H'') : VCall P w0 M H f args K := by
 obtain ⟨h⟩ := h
 exact .mk fun w hw => (h w hw).mono fun e w' ⟨v, H', he, hs, H'', hl, hk⟩ => ⟨v, H'', he, hs.le hl, hk⟩

theorem queue_vc {w0 : World} {H R : HP} {K : Value → HP → Prop} (wb qb : Nat) (t1 t2 t3 t4 t5 t6 t8 t9 t10 t11 t12 : Value) (hone : oneAll [t1, t2, t3, t4, t5, t6, t8, t9, t10, t11, t12] = true) (m : List (Value × Value)) (qs : List QE) (hm : QMap m qs) (k : Prt) (hk : prtW k)
  (hT : Take H (.row wb 190 [t1, t2, t3, t4, t5, t6, .map (some qb), t8, t9, t10, t11, t12] :: .mapk qb m :: qs.flatMap qeH) R)
  (hK : ∀ m' qs' j e, QMap m' qs' → QMore qs qs' k j e → K (.pointer (some ⟨e.b, 0, none⟩)) (.row wb 190 [t1, t2, t3, t4, t5, t6, .map (some qb), t8, t9, t10, t11, t12] :: .mapk qb m' :: (qs'.flatMap qeH ++ R))) :
  VCall Tryz.cx.P w0 [] H 138 [.pointer (some ⟨wb, 0, none⟩), prtA k] K := by
 refine VCall.takeQ hT (VCall.leK ?_)
 have hp := pow2_lt hk.2.1
 unfold prtA
 refine VCall.inl (F := Tryz.fx138) Tryz.func138 rfl rfl rfl Tryz.ok138 ?_
 have hkA : (Value.agg #[.int .i64 (k.r : Int), .int .i64 (pow2 k.o), .int .i64 (k.c : Int)]) = prtA k := rfl
 cases hq : qPtr qs k with
 | some b =>
  obtain ⟨j, e, hj, hek, heb⟩ := qPtr_some hq
  have hlk := fun {H : HP} {u : Ent → HP} {r : HP} {kk : Option Value → Prop} (hat : At H (.mapk qb m) u r) (hkk : kk (some (.pointer (some ⟨b, 0, none⟩)))) => MapF.get (T := 196) (k := kk) keyPt hat hm k hk (fun h0 => absurd (h0.symm.trans hq) (by simp)) (fun y hy => by rw [hq] at hy; cases hy; exact hkk)
  unfold prtA at hlk
  repeat' (conv => whnf); first | (refine VNew.mk fun b3 => ?_) | (refine VLkK.is ?_; refine VLkK.is ?_; refine hlk aT ?_) | (refine VSeq.go ?_) | (refine VLd.is ?_; refine VLd.mk (.row aT (by rfl)) ?_) | (refine VHs.mk _ (.refl _) ?_)
  all_goals (conv => whnf)
  rw [← heb]
  exact ⟨_, by exact aH, hK m qs j e hm ⟨hj, hek, .inl rfl⟩⟩
 | none =>
  have hno := qPtr_none hq
  have hlk := fun {H : HP} {u : Ent → HP} {r : HP} {kk : Option Value → Prop} (hat : At H (.mapk qb m) u r) (hkk : kk none) => MapF.get (T := 196) (k := kk) keyPt hat hm k hk (fun _ => hkk) (fun y hy => absurd (hq.symm.trans hy) (by simp))
  have hput := fun {H : HP} {u : Ent → HP} {r : HP} {kk : HP → Prop} (b : Nat) (hat : At H (.mapk qb m) u r) hkk => MapF.put (T := 196) (k := kk) keyPt hat hm k hk b hkk
  have hlk2 := fun {H : HP} {u : Ent → HP} {r : HP} {kk : Option Value → Prop} {m2 : List (Value × Value)} {b : Nat} (hm2 : MapF prtA prtW ptrV m2 fun z => if z = k then some b else qPtr qs z) (hat : At H (.mapk qb m2) u r) (hkk : kk (some (.pointer (some ⟨b, 0, none⟩)))) => MapF.get (T := 196) (k := kk) keyPt hat hm2 k hk (fun h0 => absurd h0 (by simp)) (fun y hy => by rw [if_pos rfl] at hy; cases hy; exact hkk)
  unfold prtA at hlk hlk2 hput
  unfold ptrV at hput
  repeat' (conv => whnf); first | (refine VNew.mk fun bq => ?_) | (refine VLkK.is ?_; refine VLkK.is ?_; first | refine hlk2 hm2 aT ?_ | refine hlk aT ?_) | (refine VUpK.is ?_; refine VUpK.is ?_; refine hput bq aT fun m2 hm2 => ?_) | (refine VSeq.go ?_) | (refine VLd.is ?_; refine VLd.mk (.row aT (by rfl)) ?_) | (refine VKeep.is ?_; refine VKeep.mk aH ?_) | (refine VHs.mk _ (.refl _) ?_)
  all_goals (conv => whnf)
  have hm3 : QMap m2 (qs ++ [⟨k, bq, .nil none⟩]) := hm2.congr fun q => qPtr_snoc (e := ⟨k, bq, .nil none⟩) hq q
  refine ⟨_, ?_, hK m2 (qs ++ [⟨k, bq, .nil none⟩]) qs.length ⟨k, bq, .nil none⟩ hm3 ⟨by simp, rfl, .inr ⟨rfl, hno, rfl⟩⟩⟩
  rw [List.flatMap_append, List.flatMap_singleton, List.append_assoc]
  unfold qeH
  dsimp only [QSh.val, QSh.mem]
  exact aH

end Go.Proofs
end

section

namespace Go.Proofs

open Go Go.Vx Go.Gm

theorem qflat_drop {α : Type} {f : α → List Value} {k : Nat} (hk : ∀ x, (f x).length = k) : ∀ (l : List α) (m : Nat), flat f (l.drop m) = (flat f l).drop (m * k)
 | [], m => by simp [flat]
 | x :: l, 0 => by simp
 | x :: l, m + 1 => by
  have e : flat f (x :: l) = f x ++ flat f l := by simp [flat]
  rw [List.drop_succ_cons, qflat_drop hk l m, e, Nat.succ_mul, Nat.add_comm, ← List.drop_drop, List.drop_left' (hk x)]

theorem take_vc {w0 : World} {H R : HP} {K : Value → HP → Prop} (e : QE) (he : e.s.ok) {p : Nat} {l' : List Nat} (hc : e.s.cont = p :: l') (hT : Take H (qeH e) R)
  (hK : ∀ s' : QSh, s'.ok → s'.cont = l' → K (.int .i64 (p : Int)) (qeH ⟨e.k, e.b, s'⟩ ++ R)) :
  VCall Tryz.cx.P w0 [] H 141 [.pointer (some ⟨e.b, 0, none⟩)] K := by
 obtain ⟨k, b, s⟩ := e
 cases s with
 | nil q => cases hc
 | at_ g d cap l =>
  dsimp only at hc hK he ⊢
  obtain ⟨h1, h2⟩ := he
  have hc' : l.drop d = p :: l' := hc
  have hlt : d < l.length := by
   have := congrArg List.length hc'
   rw [List.length_drop, List.length_cons] at this
   omega
  have hget : l[d]? = some p := by
   have := congrArg (fun L => L[0]?) hc'
   rw [List.getElem?_drop] at this
   simpa using this
  have hdrop : l.drop (d + 1) = l' := by
   have := congrArg (List.drop 1) hc'
   rw [List.drop_drop] at this
   simpa [Nat.add_comm] using this
  refine VCall.takeQ hT (VCall.leK ?_)
  unfold qeH
  dsimp only [QSh.val, QSh.mem]
  refine VCall.inl (F := Tryz.fx141) Tryz.func141 rfl rfl rfl Tryz.ok141 ?_
  repeat' (conv => whnf); first | (refine VIx.is ?_; refine VIx.mk rfl (by omega) (by omega) ?_) | (refine VLd.is ?_; refine VLd.mk (Rd.cast (.vec aT (sub_flat0 (f := nV) (k := 1) (fun _ => rfl) hget rfl)) (by first | omega | (dsimp only; omega) | rfl)) ?_) | (refine VSl.is ?_; refine VSl.is ?_; refine VSl.mk (by omega) (by omega) (by omega) fun q hq1 hq2 => ?_) | (refine VSeq.go ?_) | (refine VLd.is ?_; refine VLd.mk (.row aT (by rfl)) ?_) | (refine VSt.is ?_; refine VSt.row aT (by rfl) (by first | rfl | assumption) ?_)
  all_goals (conv => whnf)
  have e1 : (((l.length - d : Nat) : Int)).toNat - (1 : Int).toNat = l.length - (d + 1) := by
   have : (1 : Int).toNat = 1 := rfl
   omega
  have e2 : (((cap - d : Nat) : Int)).toNat - (1 : Int).toNat = cap - (d + 1) := by
   have : (1 : Int).toNat = 1 := rfl
   omega
  rw [e1, e2]
  by_cases hcp : d + 1 < cap
  ·have hq : q = some ⟨g, d + 1, none⟩ := by rw [hq1 (by omega)]; rfl
   refine ⟨_, ?_, hK (.at_ g (d + 1) cap l) ⟨by omega, h2⟩ hdrop⟩
   unfold qeH
   dsimp only [QSh.val, QSh.mem]
   rw [hq]
   exact aH
  ·have e3 : l.length - (d + 1) = 0 := by omega
   have e4 : cap - (d + 1) = 0 := by omega
   have hl' : l' = [] := by rw [← hdrop]; exact List.drop_eq_nil_of_le (by omega)
   refine ⟨_, ?_, hK (.nil q) trivial hl'.symm⟩
   unfold qeH
   dsimp only [QSh.val, QSh.mem]
   rw [e3, e4]
   exact aH

theorem put_vc {w0 : World} {H R : HP} {K : Value → HP → Prop} (e : QE) (he : e.s.ok) (hl : e.s.cont.length ≤ 65536) (p : Nat) (hT : Take H (qeH e) R)
  (hK : ∀ s' : QSh, s'.ok → s'.cont = e.s.cont ++ [p] → K (.tuple #[]) (qeH ⟨e.k, e.b, s'⟩ ++ R)) :
  VCall Tryz.cx.P w0 [] H 140 [.pointer (some ⟨e.b, 0, none⟩), .int .i64 (p : Int)] K := by
 obtain ⟨k, b, s⟩ := e
 cases s with
 | nil q =>
  dsimp only at hK he ⊢
  refine VCall.takeQ hT (VCall.leK ?_)
  unfold qeH
  dsimp only [QSh.val, QSh.mem]
  refine VCall.inl (F := Tryz.fx140) Tryz.func140 rfl rfl rfl Tryz.ok140 ?_
  repeat' (conv => whnf); first | (refine VNew.mk fun bn => ?_) | (refine VAp.is ?_; refine VAp.zero rfl rfl (by omega) (.at_ (.vec aT rfl)) (by simp [Value.oneCell']) (by (try dsimp only); omega) (by simp only [maxLen]; omega) fun b1 c1 hc1 => ?_) | (refine VLd.is ?_; refine VLd.mk (.row aT (by rfl)) ?_) | (refine VSt.is ?_; refine VSt.row aT (by rfl) (by first | rfl | assumption) ?_)
  all_goals (conv => whnf)
  refine ⟨_, ?_, hK (.at_ b1 0 c1 [p]) ⟨Nat.zero_le _, hc1⟩ rfl⟩
  unfold qeH
  dsimp only [QSh.val, QSh.mem]
  exact aH
 | at_ g d cap l =>
  dsimp only at hK he hl ⊢
  obtain ⟨h1, h2⟩ := he
  have hll : (l.drop d).length ≤ 65536 := hl
  rw [List.length_drop] at hll
  refine VCall.takeQ hT (VCall.leK ?_)
  unfold qeH
  dsimp only [QSh.val, QSh.mem]
  refine VCall.inl (F := Tryz.fx140) Tryz.func140 rfl rfl rfl Tryz.ok140 ?_
  repeat' (conv => whnf); first | (refine VNew.mk fun bn => ?_) | (refine VAp.is ?_; refine VAp.tail (d := d) (N := l.length) (capB := cap) aT (by rw [Nat.mul_one]) rfl (by omega) (.at_ (.vec aT rfl)) (by simp [Value.oneCell']) (by (try dsimp only); omega) (by simp only [maxLen]; omega) (fun hcp => ?_) fun b1 c1 hc1 => ?_) | (refine VLd.is ?_; refine VLd.mk (.row aT (by rfl)) ?_) | (refine VSt.is ?_; refine VSt.row aT (by rfl) (by first | rfl | assumption) ?_)
  all_goals (conv => whnf)
  ·refine ⟨_, ?_, hK (.at_ g d cap (l ++ [p])) ⟨by rw [List.length_append]; omega, by rw [List.length_append]; exact hcp⟩ ?_⟩
   ·unfold qeH
    dsimp only [QSh.val, QSh.mem]
    rw [flat_append, List.length_append]
    have e1 : l.length - d + 1 = l.length + [p].length - d := by rw [List.length_singleton]; omega
    rw [← e1]
    exact aH
   ·show (l ++ [p]).drop d = l.drop d ++ [p]
    rw [List.drop_append_of_le_length h1]
  ·refine ⟨_, ?_, hK (.at_ b1 0 c1 (l.drop d ++ [p])) ⟨Nat.zero_le _, by rw [List.length_append, List.length_drop]; exact hc1⟩ rfl⟩
   unfold qeH
   dsimp only [QSh.val, QSh.mem]
   rw [flat_append, List.length_append, List.length_drop]
   have e1 : l.length - d + 1 = l.length - d + [p].length - 0 := rfl
   have e2 : (flat nV l).drop (d * 1) = flat nV (l.drop d) := (qflat_drop (f := nV) (k := 1) (fun _ => rfl) l d).symm
   rw [← e1, ← e2]
   exact aH

end Go.Proofs
end
