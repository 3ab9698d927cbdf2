/- Vx10: code, loops, functions. -/
import Derived.Test.YtbnipfgbfnhibaaVx9
import Derived.RangeFuncRecord
set_option linter.unusedSimpArgs false
set_option linter.unusedVariables false
namespace Go.Vx
open Go Go.RowKit

structure RPlan where
  ex : List Nat
  mu : List Nat
  p : Plan

abbrev Plans := List (Nat × RPlan)

def planAt : Plans → Nat → Option RPlan
  | [], _ => none
  | (k, x) :: r, t => match Nat.beq k t with
    | true => some x
    | false => planAt r t

/-- What reads are taken from, in a region whose order is open. -/
inductive VHs (H : HP) (k : HP → Prop) : Prop
  | mk (Hs : HP) (h : HLe Hs H) (hk : k Hs)

/-- What a function's frame is: how many slots; which are looked at beyond their region; the plans. -/
structure Fx where
  n : Nat
  keep : List Nat
  plans : Plans

abbrev Post := Exit → Env → HP → Prop

def thenE (next : Env → HP → Prop) (Q : Post) : Post
  | .normal, env, H => next env H
  | e, env, H => Q e env H

def blockE (id : Nat) (Q : Post) : Post
  | .exit j, env, H =>
    match Nat.beq j id with
    | true => Q .normal env H
    | false => Q (.exit j) env H
  | e, env, H => Q e env H

/-- A round's end: the loop's state is met again. -/
inductive VNext {α : Type} (I : α → Prop) (E : α → Env) (G : α → HP) (μ : α → Nat) (x : α) (env : Env) (H : HP) : Prop
  | mk (y : α) (hI : I y) (hμ : μ y < μ x) (hE : EnvLe (E y) env) (hG : HLe (G y) H)

def roundE {α : Type} (I : α → Prop) (E : α → Env) (G : α → HP) (μ : α → Nat) (x : α) (Q : Post) : Post
  | .normal, env, H => VNext I E G μ x env H
  | e, env, H => Q e env H

/-- A loop: its state is x; I holds of it, its slots are E x, its memory is G x. -/
inductive VLoop (B : Post → Env → HP → Prop) (Q : Post) (env : Env) (H : HP) : Prop
  | mk {α : Type} (I : α → Prop) (E : α → Env) (G : α → HP) (μ : α → Nat) (x0 : α) (hI : I x0) (hE : EnvLe (E x0) env) (hG : HLe (G x0) H)
      (round : ∀ x, I x → B (roundE I E G μ x Q) (E x) (G x))

/-- A statement's end: the state that was chosen is met. -/
inductive VMid {α : Type} (I : α → Prop) (E : α → Env) (G : α → HP) (env : Env) (H : HP) : Prop
  | mk (y : α) (hI : I y) (hE : EnvLe (E y) env) (hG : HLe (G y) H)

/-- The first region of a statement. -/
def codeHead : Code → Nat
  | .region id _ _ => id
  | .seq a _ => codeHead a
  | .cond _ a _ => codeHead a
  | .block _ c => codeHead c
  | .loop c => codeHead c
  | .scope c => codeHead c
  | _ => 1000000

/-- One statement behind the other (the second one begins with the region at_): straight on; or all ways through the first meet in a chosen state. -/
inductive VSeq (at_ : Nat) (A : (Env → HP → Prop) → Prop) (B : Env → HP → Prop) : Prop
  | go (h : A B)
  | cut {α : Type} (I : α → Prop) (E : α → Env) (G : α → HP) (h1 : A (VMid I E G)) (h2 : ∀ y, I y → B (E y) (G y))

def lift (n : Nat) (w0 : World) (M : List Nat) (Q : Post) : Exit → Act → World → Prop
  | .panic _, _, _ => False
  | .outgrown, _, _ => False
  | e, a, w => ∃ env H, Rep n env a ∧ St w0 M H w ∧ Q e env H

/-- The statement 'for .. := range g' over a function: VRange.go, VRange.nest. -/
inductive VRange (C : Cx) (F : Fx) (rd : Option Nat) (w0 : World) (M : List Nat) (g : Operand) (ps : Array Tmp) (assign body : Code) (ok : Bool) (Q : Post) (env : Env) (H : HP) : Prop
  | mk (h : ok = true → ∀ a w, Rep F.n env a → St w0 M H w → (Code.rangeFunc g ps assign body).wpIn (fw rd) 0 C.P (lift F.n w0 M Q) a w)

/-- The plans of a function's code are plans. -/
def okCode (F : Fx) : Code → Bool
  | .region id ops draw =>
    match draw with
    | false => true
    | true =>
      match planAt F.plans id with
      | some r => noDefer ops.toList && (Region.noSelect ops && planOk ops.toList r.ex r.mu ops.toList.length (Array.replicate ops.toList.length false) true r.p)
      | none => false
  | .seq a b => okCode F a && okCode F b
  | .cond _ a b => okCode F a && okCode F b
  | .block _ c => okCode F c
  | .loop c => okCode F c
  | .scope c => okCode F c
  | .rangeFunc _ _ a b => okCode F a && okCode F b
  | _ => true

def codeE (C : Cx) (F : Fx) (rd : Option Nat) (w0 : World) (M : List Nat) : Code → Post → Env → HP → Prop
  | .skip => fun Q env H => Q .normal env H
  | .label _ => fun Q env H => Q .normal env H
  | .region id ops draw => fun Q env H =>
    match draw with
    | false => seqE C F.n w0 M ops.toList ops.toList env H fun env' H' => Q .normal env' H'
    | true =>
      match planAt F.plans id with
      | some r => VHs H fun Hs => planE C F.n w0 M ops.toList r.mu Hs r.p env H fun env' H' => Q .normal env' H'
      | none => False
  | .seq a b => fun Q env H => VSeq (codeHead b) (fun k => codeE C F rd w0 M a (thenE k Q) env H) (codeE C F rd w0 M b Q)
  | .cond c a b => fun Q env H =>
    match ev env c with
    | some (.bool t) => boolE t (codeE C F rd w0 M a Q env H) (codeE C F rd w0 M b Q env H)
    | _ => False
  | .block id c => fun Q env H => codeE C F rd w0 M c (blockE id Q) env H
  | .loop c => fun Q env H => VLoop (codeE C F rd w0 M c) Q env H
  | .exit id => fun Q env H => Q (.exit id) env H
  | .ret => fun Q env H => Q .ret env H
  | .rangeFunc g ps x y => fun Q env H => VRange C F rd w0 M g ps x y (okCode F x && okCode F y) Q env H
  | _ => fun _ _ _ => False

theorem wpIn_loop_ghost {rd : Option Nat} {P : Program} {α : Type} {c : Code} {Q : Exit → Act → World → Prop} (I : α → Act → World → Prop) (μ : α → Nat)
    (round : ∀ x a w, I x a w → c.wpIn (fw rd) 0 P (Exit.then (fun a' w' => ∃ y, I y a' w' ∧ μ y < μ x) Q) a w) : ∀ x a w, I x a w → (Code.loop c).wpIn (fw rd) 0 P Q a w := by
  intro x a w hI b k cs hro hb hr
  have key : ∀ j x a w, μ x = j → I x a w →
      ∃ e a' w', Q e a' w' ∧ ArrivesIn (Machine.fenced P (fw rd)) P (lone (b.atR a (.code c :: .inLoop c :: k)) cs w) b k cs e a' w' := by
    intro j
    induction j using Nat.strongRecOn with
    | _ j ih =>
      intro x a w hn hI
      obtain ⟨e, a₁, w₁, hq, harr⟩ := round x a w hI b (.inLoop c :: k) cs hro hb hr
      cases e with
      | normal =>
        obtain ⟨y, hI₁, hlt⟩ := hq
        obtain ⟨e₂, a₂, w₂, hq₂, harr₂⟩ := ih (μ y) (hn ▸ hlt) y a₁ w₁ rfl hI₁
        exact ⟨e₂, a₂, w₂, hq₂, .of_steps (StepsIn.trans harr (.one (fenced_calm hb hr rfl) stepR_inLoop)) harr₂⟩
      | exit id => exact ⟨_, a₁, w₁, hq, .pass (x := .inLoop c) rfl (fun _ _ => .inl (by simp)) harr⟩
      | goto l => exact ⟨_, a₁, w₁, hq, .pass (x := .inLoop c) rfl (fun _ _ => .inl (by simp)) harr⟩
      | ret => exact ⟨_, a₁, w₁, hq, .pass (x := .inLoop c) rfl (fun _ _ => .inl (by simp)) harr⟩
      | panic ch => exact ⟨_, a₁, w₁, hq, .pass (x := .inLoop c) rfl (fun _ _ => .inl (by simp)) harr⟩
      | outgrown => exact ⟨_, a₁, w₁, hq, .pass (x := .inLoop c) rfl (fun _ _ => .inl (by simp)) harr⟩
  obtain ⟨e, a', w', hq, harr⟩ := key _ x a w rfl hI
  exact ⟨e, a', w', hq, .of_steps (.one (fenced_calm hb hr rfl) stepR_loop) harr⟩

theorem codeE_use {C : Cx} {F : Fx} {rd : Option Nat} {w0 : World} {M : List Nat} : ∀ (c : Code) (Q : Post) (env : Env) (H : HP) (a : Act) (w : World), okCode F c = true →
    Rep F.n env a → St w0 M H w → codeE C F rd w0 M c Q env H → c.wpIn (fw rd) 0 C.P (lift F.n w0 M Q) a w
  | .skip, Q, env, H, a, w, _, hr, hs, h => wpIn_skip ⟨env, H, hr, hs, h⟩
  | .label l, Q, env, H, a, w, _, hr, hs, h => wpIn_label ⟨env, H, hr, hs, h⟩
  | .region id ops false, Q, env, H, a, w, _, hr, hs, h => by
    have := seqE_use (rd := rd) (Q := lift F.n w0 M Q) (K := fun env' H' => Q .normal env' H') (fun a w ⟨env, H, h1, h2, h3⟩ => ⟨env, H, h1, h2, h3⟩) ops.toList env H a w hr hs h
    exact wpIn_region_list (by simpa using this)
  | .region id ops true, Q, env, H, a, w, hok, hr, hs, h => by
    simp only [codeE] at h
    simp only [okCode] at hok
    cases hp : planAt F.plans id with
    | none => simp [hp] at h
    | some r =>
      simp only [hp] at h hok
      cases h with
      | mk Hs hl hk =>
        have := region_draw_use (rd := rd) (C := C) (ops := ops.toList) (id := id) (Q := lift F.n w0 M Q) (by simpa using hok) hr hs hl hk (fun a w ⟨env, H, h1, h2, h3⟩ => ⟨env, H, h1, h2, h3⟩)
        simpa using this
  | .seq x y, Q, env, H, a, w, hok, hr, hs, h => by
    simp only [okCode, Bool.and_eq_true] at hok
    cases h with
    | go h =>
      refine wpIn_seq (wpIn_mono (codeE_use x _ env H a w hok.1 hr hs h) fun e a' w' hq => ?_)
      cases e with
      | normal => obtain ⟨env', H', hr', hs', hq⟩ := hq; exact codeE_use y Q env' H' a' w' hok.2 hr' hs' hq
      | _ => exact hq
    | cut I E G h1 h2 =>
      refine wpIn_seq (wpIn_mono (codeE_use x _ env H a w hok.1 hr hs h1) fun e a' w' hq => ?_)
      cases e with
      | normal =>
        obtain ⟨env', H', hr', hs', hq⟩ := hq
        cases hq with
        | mk z g1 g2 g3 => exact codeE_use y Q (E z) (G z) a' w' hok.2 (hr'.le g2) (hs'.le g3) (h2 z g1)
      | _ => exact hq
  | .cond c x y, Q, env, H, a, w, hok, hr, hs, h => by
    simp only [okCode, Bool.and_eq_true] at hok
    simp only [codeE] at h
    split at h
    · rename_i t ht
      refine wpIn_cond (t := t) (hr.eval ht) ?_
      have := boolE_use h
      cases t
      · exact codeE_use y Q env H a w hok.2 hr hs (by simpa using this)
      · exact codeE_use x Q env H a w hok.1 hr hs (by simpa using this)
    · exact h.elim
  | .block id c, Q, env, H, a, w, hok, hr, hs, h => by
    refine wpIn_block (wpIn_mono (codeE_use c _ env H a w (by simpa [okCode] using hok) hr hs h) fun e a' w' hq => ?_)
    cases e with
    | exit j =>
      obtain ⟨env', H', hr', hs', hq⟩ := hq
      simp only [blockE] at hq
      cases hb : Nat.beq j id with
      | true =>
        simp only [hb] at hq
        have := Nat.eq_of_beq_eq_true hb
        simp only [Exit.inBlock, this, if_true]
        exact ⟨env', H', hr', hs', hq⟩
      | false =>
        simp only [hb] at hq
        have := Nat.ne_of_beq_eq_false hb
        simp only [Exit.inBlock, this, if_false]
        exact ⟨env', H', hr', hs', hq⟩
    | _ => exact hq
  | .loop c, Q, env, H, a, w, hok, hr, hs, h => by
    cases h with
    | @mk α I E G μ x0 hI hE hG round =>
      refine wpIn_loop_ghost (fun x a w => I x ∧ Rep F.n (E x) a ∧ St w0 M (G x) w) μ (fun x a w ⟨h1, h2, h3⟩ => ?_) x0 a w ⟨hI, hr.le hE, hs.le hG⟩
      refine wpIn_mono (codeE_use c _ (E x) (G x) a w (by simpa [okCode] using hok) h2 h3 (round x h1)) fun e a' w' hq => ?_
      cases e with
      | normal =>
        obtain ⟨env', H', hr', hs', hq⟩ := hq
        cases hq with
        | mk y g1 g2 g3 g4 => exact ⟨y, ⟨g1, hr'.le g3, hs'.le g4⟩, g2⟩
      | _ => exact hq
  | .exit id, Q, env, H, a, w, _, hr, hs, h => wpIn_exit ⟨env, H, hr, hs, h⟩
  | .ret, Q, env, H, a, w, _, hr, hs, h => wpIn_ret ⟨env, H, hr, hs, h⟩
  | .rangeFunc g ps x y, Q, env, H, a, w, hok, hr, hs, h => by
    cases h with
    | mk h => exact h hok a w hr hs
  | .scope _, Q, env, H, a, w, _, hr, hs, h => h.elim
  | .goto _, Q, env, H, a, w, _, hr, hs, h => h.elim
  | .refuse _, Q, env, H, a, w, _, hr, hs, h => h.elim

/-! ### Functions -/

def argsE : Nat → List Value → Env
  | _, [] => [(dk, .tuple #[])]
  | i, v :: r => (i, v) :: argsE (i + 1) r

/-- The function returns v. -/
inductive VRet (w0 : World) (M : List Nat) (R : Ending → World → Prop) (H : HP) (v : Value) : Prop
  | mk (h : ∀ w, St w0 M H w → R (.returned v) w)

def resE (L : Lay) (w0 : World) (M : List Nat) (env : Env) (H : HP) : List ResultVar → List Value → (List Value → Prop) → Prop
  | [], acc, k => k acc
  | .tmp t :: r, acc, k =>
    match look env t with
    | some v => resE L w0 M env H r (acc ++ [v]) k
    | none => False
  | .cell t ty :: r, acc, k => loadE L w0 M H env ty (.tmp t) fun v => resE L w0 M env H r (acc ++ [v]) k

def packE : List Value → Value
  | [v] => v
  | l => .tuple l.toArray

/-- A mark is come to: the block for the rounds' deferred calls is taken. -/
inductive VUn (H : HP) (b : Nat) (k : HP → Prop) : Prop
  | mk {u : Ent → HP} {r : HP} (hat : At H (.obj b (.deferred (some []))) u r) (hk : k r)

def unE : List Value → HP → (HP → Prop) → Prop
  | [], H, k => k H
  | v :: r, H, k =>
    match v with
    | .pointer (some a) => VUn H a.block fun H' => unE r H' k
    | _ => False

def finE (C : Cx) (w0 : World) (M : List Nat) (rs : List ResultVar) (K : Value → HP → Prop) : Post := fun e env H =>
  match e with
  | .normal | .ret =>
    match find env 1000000 with
    | some (.tuple ms) => unE ms.toList H fun H' => resE C.L w0 M env H' rs [] fun vs => K (packE vs) H'
    | _ => False
  | _ => False

def oneRes (tmps : Array Value) : ResultVar → Sem Value
  | .tmp t => pure (tmps.getD t undef)
  | .cell p t => do loadVar t (← asAddr (tmps.getD p undef))

theorem resE_use {C : Cx} {n : Nat} {w0 : World} {M : List Nat} {env : Env} {H : HP} {a : Act} {w : World} (hr : Rep n env a) (hs : St w0 M H w) :
    ∀ (rs : List ResultVar) (acc : List Value) (k : List Value → Prop), resE C.L w0 M env H rs acc k →
      ∃ vs, k (acc ++ vs) ∧ (rs.mapM (oneRes a.tmps) : Sem (List Value)).run C.P w = .ok vs w
  | [], acc, k, h => ⟨[], by simpa [resE] using h, by simp⟩
  | .tmp t :: r, acc, k, h => by
    simp only [resE] at h
    cases h1 : look env t with
    | none => simp [h1] at h
    | some v =>
      simp only [h1] at h
      obtain ⟨vs, g1, g2⟩ := resE_use hr hs r _ k h
      have := hr.get t v h1
      refine ⟨v :: vs, by simpa using g1, ?_⟩
      have h1 : (oneRes a.tmps (.tmp t)).run C.P w = .ok v w := by simp [oneRes, this]
      simp only [List.mapM_cons, Sem.run_bind, Sem.run_pure, Result.andThen_ok, g2, h1]
  | .cell t ty :: r, acc, k, h => by
    simp only [resE] at h
    have hrd : readE C w0 M H (.load ty (.tmp t)) env (fun v => resE C.L w0 M env H r (acc ++ [v]) k) := h
    obtain ⟨v, g1, g2⟩ := readE_use (o := ⟨none, .load ty (.tmp t), 0, "", #[], none⟩) hr hrd
    obtain ⟨vs, g3, g4⟩ := resE_use hr hs r _ k g1
    have h2 := g2 w hs
    refine ⟨v :: vs, by simpa using g3, ?_⟩
    unfold loadE at h
    split at h
    · rename_i b off hb
      have hb' := hr.get t _ hb
      have hload : (loadVar ty ⟨b, off, none⟩).run C.P w = .ok v w := by
        simp only [execOp, Act.eval, Instr.loadAt, Sem.run_bind, hb', Array.getD_eq_getD_getElem?, Option.getD_some, Instr.sureAddr, Sem.run_pure, Result.andThen_ok] at h2
        generalize (loadVar ty ⟨b, off, none⟩).run C.P w = q at h2
        cases q with
        | ok x w' => simp at h2; obtain ⟨rfl, rfl⟩ := h2; rfl
        | halt x w' => simp [Result.andThen] at h2
      have h1 : (oneRes a.tmps (.cell t ty)).run C.P w = .ok v w := by
        simp only [oneRes, Array.getD_eq_getD_getElem?, hb', Option.getD_some, asAddr, Sem.run_bind, Sem.run_pure, Result.andThen_ok, hload]
      simp only [List.mapM_cons, Sem.run_bind, Sem.run_pure, Result.andThen_ok, g4, h1]
    · exact h.elim

theorem argsE_find : ∀ (vs : List Value) (i t : Nat) (v : Value), find (argsE i vs) t = some v → t ≠ dk → i ≤ t ∧ vs[t - i]? = some v
  | [], i, t, v, h, hne => by
    simp only [argsE, find] at h
    cases hb : Nat.beq dk t with
    | true => exact absurd (Nat.eq_of_beq_eq_true hb).symm hne
    | false => simp [hb] at h
  | x :: r, i, t, v, h, hne => by
    simp only [argsE, find] at h
    cases hb : Nat.beq i t with
    | true =>
      simp only [hb, Option.some.injEq] at h
      have := Nat.eq_of_beq_eq_true hb
      subst this
      simp [h]
    | false =>
      simp only [hb] at h
      have hne' := Nat.ne_of_beq_eq_false hb
      obtain ⟨h1, h2⟩ := argsE_find r (i + 1) t v h hne
      refine ⟨by omega, ?_⟩
      rw [show t - i = (t - (i + 1)) + 1 from by omega]
      simpa using h2

theorem argsE_dk : ∀ (vs : List Value) (i : Nat) (v : Value), i + vs.length ≤ dk → find (argsE i vs) dk = some v → v = .tuple #[]
  | [], i, v, _, h => by simp [argsE, find] at h; exact h.symm
  | x :: r, i, v, hl, h => by
    simp only [argsE, find] at h
    simp only [List.length_cons] at hl
    cases hb : Nat.beq i dk with
    | true => have := Nat.eq_of_beq_eq_true hb; omega
    | false => simp only [hb] at h; exact argsE_dk r (i + 1) v (by omega) h

theorem St.putObj {w0 : World} {M : List Nat} {x y : Ent} {r : HP} {w : World} {b : Nat} {o : Obj} (h : St w0 M (x :: r) w) (hx : x.id = some b) (hy : y.id = some b) (hs : y.sat (w.putObj b o)) : St w0 M (y :: r) (w.putObj b o) :=
  h.step rfl rfl rfl (by simp) (fun c _ hne => World.putObj_heap_other (fun e => hne (by rw [hx, e]))) hs (fun c hc => .inl (by rw [hx, ← hy, hc]))

theorem unE_use {C : Cx} {w0 : World} {M : List Nat} {fn : Func} {tmps : Array Value} {R : Ending → World → Prop} {k : HP → Prop} (hk : ∀ H w, St w0 M H w → k H → ∃ v, (results fn tmps).run C.P w = .ok v w ∧ R (.returned v) w) :
    ∀ (ms : List Value) (H : HP) (w : World), St w0 M H w → unE ms H k → LeavesInM Fence.wide 0 C.P fn tmps R (ms.filterMap markOf) .returning w
  | [], H, w, hs, h => hk H w hs h
  | v :: ms, H, w, hs, h => by
    simp only [unE] at h
    split at h
    · rename_i a
      cases h with
      | mk hat hk' =>
        have hp := hs.perm hat.perm
        have hb : w.heap[a.block]? = some (.deferred (some [])) := hp.own (.obj a.block (.deferred (some []))) (by simp)
        simp only [List.filterMap_cons, markOf]
        refine ⟨by simp, .inl ⟨a.block, _, rfl, run_takeDeferred hb, ?_⟩⟩
        refine unE_use hk ms _ _ ?_ hk'
        exact (hp.putObj (b := a.block) (y := .obj a.block (.deferred none)) rfl rfl (World.putObj_heap_same (Array.getElem?_eq_some_iff.1 hb).1)).tail
    · exact h.elim

/-- **A function's contract, out of its code in the symbolic state.** -/
theorem calls_of {C : Cx} {F : Fx} {f : Nat} {fn : Func} {c : Code} {args : List Value} {M : List Nat} {H : HP} {w0 w : World} {K : Value → HP → Prop}
    (hf : C.P.funcs[f]? = some fn) (hb : fn.body = some c) (hn : fn.ntmps = F.n) (hargs : args.length ≤ F.n) (hdk : F.n ≤ dk) (hok : okCode F c = true) (hs : St w0 M H w)
    (h : codeE C F none w0 M c (finE C w0 M fn.results.toList K) (argsE 0 args) H) : Calls C.P f args.toArray w fun e w' => ∃ v H', e = .returned v ∧ St w0 M H' w' ∧ K v H' := by
  refine (callsIn_wide (n := 0)).1 (callsIn_of_wp_marks hf hb trivial ?_)
  have hr : Rep F.n (argsE 0 args) { tmps := args.toArray ++ Array.replicate (fn.ntmps - args.toArray.size) undef, defers := [] } := by
    refine ⟨by simp [hn]; omega, hdk, fun v hv => ?_, fun t v ht => ?_⟩
    · rw [argsE_dk args 0 v (by omega) hv]; rfl
    · obtain ⟨ht, hne⟩ := look_find ht
      obtain ⟨_, h2⟩ := argsE_find args 0 t v ht hne
      simp only [Nat.sub_zero] at h2
      have hlt := (List.getElem?_eq_some_iff.1 h2).1
      simp only [Array.getElem?_append, List.size_toArray, hlt, if_true, List.getElem?_toArray, h2]
  refine wpIn_mono (codeE_use c _ _ H _ w hok hr hs h) fun e a' w' hq => ?_
  have fin : ∀ env H, Rep F.n env a' → St w0 M H w' → (match find env 1000000 with
      | some (.tuple ms) => unE ms.toList H fun H' => resE C.L w0 M env H' fn.results.toList [] fun vs => K (packE vs) H'
      | _ => False) → LeavesInM Fence.wide 0 C.P fn a'.tmps (fun e w' => ∃ v H', e = .returned v ∧ St w0 M H' w' ∧ K v H') a'.defers .returning w' := by
    intro env H hr' hs' hres
    split at hres
    · rename_i ms hms
      rw [hr'.defers _ hms]
      refine unE_use (C := C) (fun H'' w'' hs'' hres => ?_) ms.toList H w' hs' hres
      obtain ⟨vs, g1, g2⟩ := resE_use hr' hs'' _ _ _ hres
      refine ⟨packE vs, ?_, ?_⟩
      · have hm : (fn.results.mapM (oneRes a'.tmps) : Sem (Array Value)).run C.P w'' = .ok vs.toArray w'' := by
          rw [Array.mapM_eq_mapM_toList]
          simp [g2]
        show ((fn.results.mapM (oneRes a'.tmps) >>= fun vs => pure (if h : vs.size = 1 then vs[0] else .tuple vs)) : Sem Value).run C.P w'' = _
        rw [Sem.run_bind, hm, Result.andThen_ok, Sem.run_pure]
        congr 1
        match vs with
        | [] => simp [packE]
        | [v] => simp [packE]
        | x :: y :: r => simp [packE]
      · exact ⟨_, H'', rfl, hs'', by simpa using g1⟩
    · exact hres.elim
  cases e with
  | normal => obtain ⟨env, H, h1, h2, h3⟩ := hq; exact fin env H h1 h2 h3
  | ret => obtain ⟨env, H, h1, h2, h3⟩ := hq; exact fin env H h1 h2 h3
  | panic _ => exact hq.elim
  | outgrown => exact hq.elim
  | exit _ => obtain ⟨_, _, _, _, h⟩ := hq; exact h.elim
  | goto _ => obtain ⟨_, _, _, _, h⟩ := hq; exact h.elim

/-- The same, the code taken out of the function. -/
theorem enter {C : Cx} {F : Fx} {f : Nat} {fn : Func} {args : List Value} {M : List Nat} {H : HP} {w : World} {R : Ending → World → Prop}
    (hf : C.P.funcs[f]? = some fn) (hb : fn.body.isSome = true) (hn : fn.ntmps = F.n) (hargs : (Nat.ble (lenL args) F.n && Nat.ble F.n dk) = true) (hok : okCode F (fn.body.getD .skip) = true) (hs : St w M H w)
    (h : codeE C F none w M (fn.body.getD .skip) (finE C w M fn.results.toList fun v H => VRet w M R H v) (argsE 0 args) H) : Calls C.P f args.toArray w R := by
  simp only [Bool.and_eq_true] at hargs
  cases hc : fn.body with
  | none => simp [hc] at hb
  | some c =>
    rw [hc] at hok h
    refine Calls.mono (calls_of hf hc hn (by rw [← lenL_eq]; exact Nat.le_of_ble_eq_true hargs.1) (Nat.le_of_ble_eq_true hargs.2) hok hs h) fun e w' he => ?_
    obtain ⟨v, H', rfl, hs', hk⟩ := he
    cases hk with
    | mk h => exact h w' hs'

/-- A callee walked in place. -/
theorem VCall.inl {C : Cx} {F : Fx} {f : Nat} {fn : Func} {args : List Value} {w0 : World} {M : List Nat} {H : HP} {K : Value → HP → Prop}
    (hf : C.P.funcs[f]? = some fn) (hb : fn.body.isSome = true) (hn : fn.ntmps = F.n) (hargs : (Nat.ble (lenL args) F.n && Nat.ble F.n dk) = true) (hok : okCode F (fn.body.getD .skip) = true)
    (h : codeE C F none w0 M (fn.body.getD .skip) (finE C w0 M fn.results.toList K) (argsE 0 args) H) : VCall C.P w0 M H f args K := by
  simp only [Bool.and_eq_true] at hargs
  cases hc : fn.body with
  | none => simp [hc] at hb
  | some c =>
    rw [hc] at hok h
    exact .mk fun w hs => calls_of hf hc hn (by rw [← lenL_eq]; exact Nat.le_of_ble_eq_true hargs.1) (Nat.le_of_ble_eq_true hargs.2) hok hs h

/-! ### Calls by contracts -/

/-- A callee that returns v and makes memory alone. -/
theorem VCall.val {P : Program} {w0 : World} {M : List Nat} {H : HP} {f : Nat} {args : List Value} {v : Value} {K : Value → HP → Prop}
    (hc : ∀ w, Calls P f args.toArray w fun e w' => e = .returned v ∧ St w [] [] w') (hk : K v H) : VCall P w0 M H f args K :=
  .mk fun w hw => (hc w).mono fun e w' ⟨he, h'⟩ => ⟨v, H, he, hw.call_fresh h', hk⟩

/-- A callee that returns a truth value and makes memory alone. -/
theorem VCall.bool {P : Program} {w0 : World} {M : List Nat} {H : HP} {f : Nat} {args : List Value} {p : Prop} {K : Value → HP → Prop}
    (hc : ∀ w, Calls P f args.toArray w fun e w' => ∃ b : Bool, e = .returned (.bool b) ∧ (b = true ↔ p) ∧ St w [] [] w') (hk : VB p fun b => K (.bool b) H) : VCall P w0 M H f args K :=
  .mk fun w hw => (hc w).mono fun e w' ⟨b, he, hb, h'⟩ => ⟨.bool b, H, he, hw.call_fresh h', hk.use b hb⟩

/-- A callee that returns some v x, of which p x is known, and makes memory alone. -/
theorem VCall.ex {P : Program} {w0 : World} {M : List Nat} {H : HP} {f : Nat} {args : List Value} {α : Type} {v : α → Value} {p : α → Prop} {K : Value → HP → Prop}
    (hc : ∀ w, Calls P f args.toArray w fun e w' => ∃ x : α, e = .returned (v x) ∧ p x ∧ St w [] [] w') (hk : ∀ x, p x → K (v x) H) : VCall P w0 M H f args K :=
  .mk fun w hw => (hc w).mono fun e w' ⟨x, he, hb, h'⟩ => ⟨v x, H, he, hw.call_fresh h', hk x hb⟩

/-- A callee that makes memory, of which G x is known. -/
theorem VCall.gen {P : Program} {w0 : World} {M : List Nat} {H : HP} {f : Nat} {args : List Value} {α : Type} {v : α → Value} {p : α → Prop} {G : α → HP} {K : Value → HP → Prop}
    (hc : ∀ w, Calls P f args.toArray w fun e w' => ∃ x : α, e = .returned (v x) ∧ p x ∧ St w [] (G x) w') (hk : ∀ x, p x → K (v x) (G x ++ H)) : VCall P w0 M H f args K :=
  .mk fun w hw => (hc w).mono fun e w' ⟨x, he, hb, h'⟩ => ⟨v x, G x ++ H, he, hw.call_fresh h', hk x hb⟩

theorem St.call_at {w0 : World} {M : List Nat} {H H1 r : HP} {x : Ent} {u : Ent → HP} {b : Nat} {w w' : World} (h : St w0 M H w) (hat : At H x u r) (hb : x.id = some b) (h1 : St w [b] H1 w') : St w0 M (H1 ++ r) w' := by
  have hp := h.perm hat.perm
  refine hp.tail.call h1 (HLe.refl r) (fun c hc => ?_) (fun c hc hcb => ?_)
  · simp only [List.mem_singleton] at hc
    subst hc
    exact hp.from_ c (by rw [ids_cons, hb]; simp)
  · simp only [List.mem_singleton] at hcb
    subst hcb
    exact hp.apart hb hc

/-- A callee that turns one block of ours, and makes memory. -/
theorem VCall.turn {P : Program} {w0 : World} {M : List Nat} {H r : HP} {f : Nat} {args : List Value} {α : Type} {v : α → Value} {p : α → Prop} {G : α → HP} {K : Value → HP → Prop} {b e : Nat} {cs : List Value} {u : Ent → HP}
    (hat : At H (.row b e cs) u r)
    (hc : ∀ w, w.heap[b]? = some (.cells cs.toArray e (0, 0)) → Calls P f args.toArray w fun e w' => ∃ x : α, e = .returned (v x) ∧ p x ∧ St w [b] (G x) w') (hk : ∀ x, p x → K (v x) (G x ++ r)) : VCall P w0 M H f args K :=
  .mk fun w hw => (hc w (hw.own _ hat.mem)).mono fun e w' ⟨x, he, hb, h'⟩ => ⟨v x, G x ++ r, he, hw.call_at hat rfl h', hk x hb⟩

/-- A call begins with a block that it may turn. -/
theorem St.start1 {w : World} {b e : Nat} {cs : List Value} (h : w.heap[b]? = some (.cells cs.toArray e (0, 0))) : St w [b] [.row b e cs] w :=
  ⟨rfl, rfl, rfl, Nat.le_refl _, fun _ _ _ => rfl, by intro x hx; simp only [List.mem_singleton] at hx; subst hx; exact h, by simp [ids, Ent.id], by simp [ids, Ent.id]⟩

end Go.Vx
