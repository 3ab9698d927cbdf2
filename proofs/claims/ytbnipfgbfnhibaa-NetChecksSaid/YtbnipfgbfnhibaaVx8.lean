/- Vx8: regions: in the text's order, and by a plan where the order is open. -/
import Derived.Test.YtbnipfgbfnhibaaVx7
import Derived.OrdersIn
import Derived.TacticsIn
import Derived.RangeFuncIn
import Derived.RangeFuncCalls
set_option linter.unusedSimpArgs false
set_option linter.unusedVariables false
namespace Go.Vx
open Go Go.RowKit

/-! ### Whatever order is picked -/
section
variable {P : Program} {ops : Array Oper} {Q : Exit → Act → World → Prop} {md : Region.Mode} {S : World → Prop} {Ex Mu : List Nat}

/-- What must hold behind operation i: it is one of Ex: S; it is neither of Ex nor of Mu: the world is as it was. -/
def Kept (S : World → Prop) (Ex Mu : List Nat) (i : Nat) (w w' : World) : Prop := (i ∈ Ex → S w') ∧ (i ∉ Ex → i ∉ Mu → w' = w)

/-- Whatever order is picked. -/
def wpAnyM (P : Program) (md : Region.Mode) (ops : Array Oper) (Q : Exit → Act → World → Prop) (S : World → Prop) (Ex Mu : List Nat) : Nat → Array Bool → Act → World → Prop
  | 0, listed, a, w => Region.ready md ops listed = [] ∧ Q .normal a w
  | fuel + 1, listed, a, w =>
    (Region.ready md ops listed = [] → Q .normal a w) ∧
    ∀ i ∈ Region.ready md ops listed, wpOp P ops Q i (fun a' w' => Kept S Ex Mu i w w' ∧ wpAnyM P md ops Q S Ex Mu fuel (listed.setIfInBounds i true) a' w') a w

theorem wpAny_of_M : ∀ (fuel : Nat) (listed : Array Bool) (a : Act) (w : World), wpAnyM P md ops Q S Ex Mu fuel listed a w → wpAny P md ops Q fuel listed a w
  | 0, _, _, _, h => h
  | fuel + 1, _, _, _, h => ⟨h.1, fun i hi => wpOp_mono (fun a' w' h' => wpAny_of_M fuel _ a' w' h'.2) (h.2 i hi)⟩

theorem ready_waits {i j : Nat} {listed : Array Bool} (hr : i ∈ Region.ready md ops listed) {oj : Oper} (hall : ∀ e ∈ oj.after, Region.binds md e = true → listed.getD e.on false = true) :
    ∀ e ∈ oj.after, Region.binds md e = true → e.on ≠ i := fun e he hb heq => by
  have h1 := hall e he hb
  have h0 := (mem_ready.1 hr).1
  rw [heq] at h1
  rcases Nat.lt_or_ge i listed.size with h' | h'
  · simp [h'] at h0 h1; rw [h0] at h1; cases h1
  · simp [Array.getElem?_eq_none h'] at h1

/-- An operation that yields its value in whatever world may be taken first. -/
theorem wpAnyM_pure {i : Nat} {oi : Oper} {v : Value} (hi : ops[i]? = some oi) (hsel : ∀ (j : Nat) (o : Oper) cs b, ops[j]? = some o → o.op ≠ .select cs b)
    (hQ : ∀ c a w, Q (.panic c) (a.put oi.dst v) w → Q (.panic c) a w) (hE : i ∉ Ex) :
    ∀ (fuel : Nat) (listed : Array Bool) (a : Act) (w : World),
      (∀ j oj, ops[j]? = some oj → j ≠ i → listed.getD j true = false → (∀ e ∈ oj.after, Region.binds md e = true → e.on ≠ i) → oi.apart ops oj = true) →
      i ∈ Region.ready md ops listed → Yields P ops oi v a →
      wpAnyM P md ops Q S Ex Mu fuel (listed.setIfInBounds i true) (a.put oi.dst v) w → wpAnyM P md ops Q S Ex Mu (fuel + 1) listed a w := by
  intro fuel
  induction fuel with
  | zero =>
    intro listed a w _ hr hy H
    refine ⟨fun h => (by rw [h] at hr; cases hr), fun j hj => ?_⟩
    by_cases hji : j = i
    · subst hji; exact hy.wpOp hi ⟨⟨fun h => absurd h hE, fun _ _ => rfl⟩, H⟩
    · have := ready_mono hj hji
      rw [H.1] at this
      cases this
  | succ fuel ih =>
    intro listed a w hfree hr hy H
    refine ⟨fun h => (by rw [h] at hr; cases hr), fun j hj => ?_⟩
    by_cases hji : j = i
    · subst hji; exact hy.wpOp hi ⟨⟨fun h => absurd h hE, fun _ _ => rfl⟩, H⟩
    · have h1 := H.2 j (ready_mono hj hji)
      obtain ⟨hjun, oj, hoj, hall⟩ := mem_ready.1 hj
      have h2 := wpOp_put hoj (hfree j oj hoj hji hjun (ready_waits (j := j) hr hall)) (fun cs b => hsel i oi cs b hi) (fun cs b => hsel j oj cs b hoj) hQ hy h1
      have hfree' : ∀ k ok, ops[k]? = some ok → k ≠ i → (listed.setIfInBounds j true).getD k true = false →
          (∀ e ∈ ok.after, Region.binds md e = true → e.on ≠ i) → oi.apart ops ok = true := fun k ok hk hki hun hno => by
        refine hfree k ok hk hki ?_ hno
        by_cases hjk : j = k
        · subst hjk; exact hjun
        · rw [getD_set_ne true hjk] at hun; exact hun
      refine wpOp_mono (fun a' w' h3 => ⟨h3.2.1, ih (listed.setIfInBounds j true) a' w' hfree' (ready_mono hr (Ne.symm hji)) h3.1 ?_⟩) h2
      rw [Array.setIfInBounds_comm _ _ hji]
      exact h3.2.2

/-- An operation that yields its value in every world that meets S may be taken first, if all of Mu wait for it. -/
theorem wpAnyM_read {i : Nat} {oi : Oper} {v : Value} (hi : ops[i]? = some oi) (hsel : ∀ (j : Nat) (o : Oper) cs b, ops[j]? = some o → o.op ≠ .select cs b)
    (hQ : ∀ c a w, Q (.panic c) (a.put oi.dst v) w → Q (.panic c) a w) (hE : i ∉ Ex)
    (W : List Nat) (hW : ∀ m ∈ W, m = i ∨ ∃ om, ops[m]? = some om ∧ ∃ e ∈ om.after, Region.binds md e = true ∧ e.on ∈ W) :
    ∀ (fuel : Nat) (listed : Array Bool) (a : Act) (w : World),
      (∀ j oj, ops[j]? = some oj → j ≠ i → listed.getD j true = false → (∀ e ∈ oj.after, Region.binds md e = true → e.on ≠ i) → oi.apart ops oj = true) →
      (∀ m ∈ W, listed.getD m false = false) → (∀ m ∈ Mu, listed.getD m true = true ∨ m ∈ W) →
      i ∈ Region.ready md ops listed → YieldsIf P ops S oi v a → S w →
      wpAnyM P md ops Q S Ex Mu fuel (listed.setIfInBounds i true) (a.put oi.dst v) w → wpAnyM P md ops Q S Ex Mu (fuel + 1) listed a w := by
  intro fuel
  induction fuel with
  | zero =>
    intro listed a w _ _ _ hr hy hS H
    refine ⟨fun h => (by rw [h] at hr; cases hr), fun j hj => ?_⟩
    by_cases hji : j = i
    · subst hji; exact hy.wpOp hi hS ⟨⟨fun h => absurd h hE, fun _ _ => rfl⟩, H⟩
    · have := ready_mono hj hji
      rw [H.1] at this
      cases this
  | succ fuel ih =>
    intro listed a w hfree hWu hMu hr hy hS H
    refine ⟨fun h => (by rw [h] at hr; cases hr), fun j hj => ?_⟩
    by_cases hji : j = i
    · subst hji; exact hy.wpOp hi hS ⟨⟨fun h => absurd h hE, fun _ _ => rfl⟩, H⟩
    · have h1 := H.2 j (ready_mono hj hji)
      obtain ⟨hjun, oj, hoj, hall⟩ := mem_ready.1 hj
      have hjW : j ∉ W := fun hjW => by
        rcases hW j hjW with h | ⟨om, hom, e, he, hb, hon⟩
        · exact hji h
        · have : om = oj := Option.some.inj (hom.symm.trans hoj)
          subst this
          have h3 := hall e he hb
          rw [hWu e.on hon] at h3
          cases h3
      have hjMu : j ∉ Mu := fun h => by
        rcases hMu j h with h3 | h3
        · rw [hjun] at h3; cases h3
        · exact hjW h3
      have h2 := wpOp_putIf hoj (hfree j oj hoj hji hjun (ready_waits (j := j) hr hall)) (fun cs b => hsel i oi cs b hi) (fun cs b => hsel j oj cs b hoj) hQ hy h1
      have hfree' : ∀ k ok, ops[k]? = some ok → k ≠ i → (listed.setIfInBounds j true).getD k true = false →
          (∀ e ∈ ok.after, Region.binds md e = true → e.on ≠ i) → oi.apart ops ok = true := fun k ok hk hki hun hno => by
        refine hfree k ok hk hki ?_ hno
        by_cases hjk : j = k
        · subst hjk; exact hjun
        · rw [getD_set_ne true hjk] at hun; exact hun
      refine wpOp_mono (fun a' w' h3 => ⟨h3.2.1, ih (listed.setIfInBounds j true) a' w' hfree' (fun m hm => ?_) (fun m hm => ?_) (ready_mono hr (Ne.symm hji)) h3.1 ?_ ?_⟩) h2
      · have hmj : j ≠ m := fun e => hjW (e ▸ hm)
        rw [getD_set_ne false hmj]; exact hWu m hm
      · rcases hMu m hm with h4 | h4
        · left
          by_cases hjm : j = m
          · subst hjm; rw [hjun] at h4; cases h4
          · rw [getD_set_ne true hjm]; exact h4
        · exact .inr h4
      · by_cases hjE : j ∈ Ex
        · exact h3.2.1.1 hjE
        · rw [h3.2.1.2 hjE hjMu]; exact hS
      · rw [Array.setIfInBounds_comm _ _ hji]
        exact h3.2.2

end

/-! ### Operations in the symbolic state -/

def dstOf : List Oper → Nat → Option Nat
  | [], _ => none
  | o :: _, 0 => o.dst
  | _ :: r, j + 1 => dstOf r j

def nthO : List Oper → Nat → Option Oper
  | [], _ => none
  | o :: _, 0 => some o
  | _ :: r, j + 1 => nthO r j

theorem nthO_eq : ∀ (l : List Oper) (j : Nat), nthO l j = l[j]?
  | [], _ => by simp [nthO]
  | o :: r, 0 => by simp [nthO]
  | o :: r, j + 1 => by simp [nthO, nthO_eq r j]

theorem dstOf_eq : ∀ (l : List Oper) (j : Nat), dstOf l j = (l[j]?).bind (·.dst)
  | [], _ => by simp [dstOf]
  | o :: r, 0 => by simp [dstOf]
  | o :: r, j + 1 => by simp [dstOf, dstOf_eq r j]

def putE (n : Nat) (d : Option Nat) (v : Value) (env : Env) (K : Env → Prop) : Prop :=
  match d with
  | some d =>
    match Nat.blt d n with
    | true => K ((d, v) :: env)
    | false => False
  | none => K env

/-- A guarded operation: A where it is wanted, B where it is passed over. -/
def guardE (ops : List Oper) (env : Env) (g : Option (Nat × Bool)) (A B : Prop) : Prop :=
  match g with
  | none => A
  | some (j, want) =>
    match dstOf ops j with
    | some t =>
      match look env t with
      | some (.bool b) =>
        match want with
        | true => boolE b A B
        | false => boolE b B A
      | some (.tuple _) => B
      | _ => False
    | none => False

theorem guardE_use {n : Nat} {env : Env} {a : Act} (hr : Rep n env a) {ops : List Oper} {o : Oper} {A B : Prop} (h : guardE ops env o.guard A B) :
    (Region.wanted o (yielded ops.toArray a.tmps) = true ∧ A) ∨ (Region.wanted o (yielded ops.toArray a.tmps) = false ∧ B) := by
  unfold guardE at h
  unfold Region.wanted
  split at h
  · rename_i hg; rw [hg]; exact .inl ⟨rfl, h⟩
  · rename_i j want hg
    rw [hg]
    cases h1 : dstOf ops j with
    | none => simp [h1] at h
    | some t =>
      simp only [h1] at h
      rw [dstOf_eq] at h1
      have hy : yielded ops.toArray a.tmps j = match a.tmps[t]? with | some (.bool b) => some b | _ => none := by
        unfold yielded
        simp only [List.getElem?_toArray, h1, Option.bind_some]
        rfl
      split at h
      · rename_i b hb
        have := hr.get t _ hb
        rw [this] at hy
        simp only at hy
        dsimp only
        rw [hy]
        cases want <;> cases b <;> simp [boolE] at h <;> simp [h]
      · rename_i vs hb
        have := hr.get t _ hb
        rw [this] at hy
        simp only at hy
        dsimp only
        rw [hy]
        cases want <;> simp [h]
      · exact h.elim

inductive Kind where
  | pure | read | eff

def kindOf : Op → Kind
  | .move _ | .assign _ | .pick .. | .fieldAddr .. | .indexAddr .. | .nilCheck _ | .binOp .. | .unOp .. | .convert .. | .extract .. | .makeFunc .. | .build .. => .pure
  | .slice _ _ _ _ none => .pure
  | .call { callee := .builtin .cap, .. } | .call { callee := .builtin .min, .. } | .call { callee := .builtin .max, .. } => .pure
  | .load .. | .lookup .. => .read
  | .call { callee := .builtin .len, .. } => .read
  | _ => .eff

/-- An operation in the symbolic state. -/
def opE (C : Cx) (w0 : World) (M : List Nat) (H : HP) (op : Op) (env : Env) (K : Value → HP → Prop) : Prop :=
  match kindOf op with
  | .pure => pureE C op env fun v => K v H
  | .read => readE C w0 M H op env fun v => K v H
  | .eff => effE C w0 M H op env K

theorem opE_use {C : Cx} {n : Nat} {env : Env} {a : Act} {w0 w : World} {M : List Nat} {H : HP} {K : Value → HP → Prop} {o : Oper} (hr : Rep n env a) (hs : St w0 M H w) (h : opE C w0 M H o.op env K) :
    o.wp C.P a w (After w0 M o a K) Never := by
  unfold opE at h
  split at h
  · obtain ⟨v, h1, h2⟩ := pureE_use hr h
    exact wp_value (h2 w) ⟨v, H, rfl, hs, h1⟩
  · obtain ⟨v, h1, h2⟩ := readE_use hr h
    exact wp_value (h2 w hs) ⟨v, H, rfl, hs, h1⟩
  · exact effE_use hr hs h

theorem putE_use {n : Nat} {d : Option Nat} {v : Value} {env : Env} {K : Env → Prop} {a : Act} (hr : Rep n env a) (h : putE n d v env K) : ∃ env', Rep n env' (a.put d v) ∧ K env' := by
  unfold putE at h
  split at h
  · rename_i d
    split at h
    · rename_i hb
      refine ⟨_, hr.put ?_ v, h⟩
      unfold Nat.blt at hb
      exact Nat.le_of_ble_eq_true hb
    · exact h.elim
  · exact ⟨env, hr, h⟩

/-- What lies behind a region. -/
def Behind (n : Nat) (w0 : World) (M : List Nat) (K : Env → HP → Prop) (a : Act) (w : World) : Prop := ∃ env H, Rep n env a ∧ St w0 M H w ∧ K env H

theorem wp_never {P : Program} {o : Oper} {a : Act} {w : World} {X X' : Act → World → Prop} {Q : Exit → Act → World → Prop} (h : o.wp P a w X Never) (hx : ∀ a w, X a w → X' a w) : o.wp P a w X' Q := by
  unfold Oper.wp at *
  generalize (execOp a.eval o).run P w = r at *
  cases r with
  | ok nx w' =>
    cases nx <;> simp only [Oper.upon] at h ⊢ <;>
      first
        | exact hx _ _ h
        | exact Calls.mono h (fun e w'' he => by
            cases e
            · exact hx _ _ he
            · exact he.elim
            · exact he.elim (fun _ h => h.elim (fun _ h => h.elim)))
        | exact Rows.mono h (fun _ _ he => hx _ _ he)
  | halt x w' => cases x <;> simp only [Oper.upon] at h ⊢ <;> exact h.elim

/-! ### In whatever frame: of a function (none), of a round of loop l (some l) -/

/-- No fence, but the kind of frame. -/
def fw (rd : Option Nat) : Fence := { Fence.wide with round := rd }

theorem fw_none : fw none = Fence.wide := rfl
theorem fw_fn (rd : Option Nat) (f : FuncId) : (fw rd).fn f := trivial
theorem fw_depth (rd : Option Nat) {q : Prop} : (fw rd).depth.isSome = true → q := fun h => by simp [fw, Fence.wide] at h

theorem callsIn_fw {rd : Option Nat} {n : Nat} {P : Program} {f : FuncId} {args : Array Value} {w : World} {R : Ending → World → Prop} (h : Calls P f args w R) : CallsIn (fw rd) n P f args w R :=
  (callsIn_wide (n := n)).2 h

theorem rowsIn_fw {rd : Option Nat} {n : Nat} {P : Program} {row : String} {args : Array Value} {w : World} {R : Value → World → Prop} (h : Rows P row args w R) : RowsIn (fw rd) n P row args w R :=
  fun c cs _ => let ⟨v, w', r, s⟩ := h c cs; ⟨v, w', r, stepsIn_wide.2 s⟩

theorem wpIn_of_wp {rd : Option Nat} {P : Program} {o : Oper} {a : Act} {w : World} {X X' : Act → World → Prop} {Q : Exit → Act → World → Prop} (hnd : ∀ c, o.op ≠ .defer c)
    (h : o.wp P a w X Never) (hx : ∀ a w, X a w → X' a w) : o.wpIn (fw rd) 0 P a w X' Q := by
  unfold Oper.wp at h
  refine ⟨fun f _ => trivial, ?_⟩
  rw [Oper.semAt_eq _ _ _ hnd]
  generalize (execOp a.eval o).run P w = r at *
  cases r with
  | ok nx w' =>
    cases nx <;> simp only [Oper.upon] at h <;> simp only [Oper.uponIn] <;>
      first
        | exact hx _ _ h
        | exact ⟨fw_depth rd, callsIn_fw (Calls.mono h (fun e w'' he => by
            cases e
            · exact hx _ _ he
            · exact he.elim
            · exact he.elim (fun _ h => h.elim (fun _ h => h.elim))))⟩
        | exact ⟨fw_depth rd, rowsIn_fw (Rows.mono h (fun _ _ he => hx _ _ he))⟩
        | exact h.elim
  | halt x w' => cases x <;> simp only [Oper.upon] at h <;> exact h.elim

theorem opE_nd {C : Cx} {w0 : World} {M : List Nat} {H : HP} {op : Op} {env : Env} {K : Value → HP → Prop} (h : opE C w0 M H op env K) : ∀ c, op ≠ .defer c := by
  rintro c rfl
  simp only [opE, kindOf, effE] at h

/-- A call of yield: a round is asked for. -/
inductive VYield (P : Program) (w0 : World) (M : List Nat) (H : HP) (l : Nat) (args : List Value) (K : Value → HP → Prop) : Prop
  | mk (h : ∀ w, St w0 M H w → ∃ fn tmps assign body, (Instr.yield l args.toArray).run P w = .ok (.round l fn tmps assign body) w ∧
      RoundIn Fence.wide 0 P l fn tmps assign body w fun e w' => ∃ v H', e = .returned v ∧ St w0 M H' w' ∧ K v H')

/-- An operation in the symbolic state, calls of yield besides. -/
def opY (C : Cx) (w0 : World) (M : List Nat) (H : HP) (op : Op) (env : Env) (K : Value → HP → Prop) : Prop :=
  match op with
  | .call { callee := .value f, args, .. } =>
    match ev env f with
    | some (.func (.yield l) first captured) =>
      match evs env args.toList with
      | some vs => VYield C.P w0 M H l (first.toList ++ vs) K
      | none => False
    | _ => opE C w0 M H op env K
  | _ => opE C w0 M H op env K

theorem opY_use {rd : Option Nat} {C : Cx} {n : Nat} {env : Env} {a : Act} {w0 w : World} {M : List Nat} {H : HP} {K : Value → HP → Prop} {o : Oper} {X : Act → World → Prop} {Q : Exit → Act → World → Prop}
    (hr : Rep n env a) (hs : St w0 M H w) (h : opY C w0 M H o.op env K) (hx : ∀ a' w', After w0 M o a K a' w' → X a' w') : o.wpIn (fw rd) 0 C.P a w X Q := by
  have old : opE C w0 M H o.op env K → o.wpIn (fw rd) 0 C.P a w X Q := fun h => wpIn_of_wp (opE_nd h) (opE_use hr hs h) hx
  unfold opY at h
  split at h
  · rename_i f args ts hop
    split at h
    · rename_i l first captured hf
      split at h
      · rename_i vs hvs
        cases h with
        | mk h =>
          obtain ⟨fn, tmps, assign, body, hy, hround⟩ := h w hs
          have hrun : (execOp a.eval o).run C.P w = .ok (.round l fn tmps assign body) w := by
            have hvs' : args.map a.eval = vs.toArray := evs_two hr hvs
            simp only [execOp, hop, resolve, hr.eval hf, hvs', invoke]
            have he : first ++ vs.toArray = (first.toList ++ vs).toArray := by
              apply Array.toList_inj.1; simp
            simp [Sem.run_bind, Deferred.ofValue, invoke, he, hy]
          refine ⟨fun f _ => trivial, ?_⟩
          rw [Oper.semAt_eq _ _ _ (by intro c; rw [hop]; nofun), hrun]
          refine ⟨fw_depth rd, ?_⟩
          refine RoundIn.mono (R := fun e w' => ∃ v H', e = .returned v ∧ St w0 M H' w' ∧ K v H') hround fun e w' he => ?_
          obtain ⟨v, H', rfl, hs', hk⟩ := he
          exact hx _ _ ⟨v, H', rfl, hs', hk⟩
      · exact h.elim
    · exact old h
  · exact old h

/-- The operations in the text's order. -/
def seqE (C : Cx) (n : Nat) (w0 : World) (M : List Nat) (ops : List Oper) : List Oper → Env → HP → (Env → HP → Prop) → Prop
  | [], env, H, K => K env H
  | o :: r, env, H, K =>
    guardE ops env o.guard
      (opY C w0 M H o.op env fun v H' => putE n o.dst v env fun env' => seqE C n w0 M ops r env' H' K)
      (putE n o.dst undef env fun env' => seqE C n w0 M ops r env' H K)

theorem seqE_use {rd : Option Nat} {C : Cx} {n : Nat} {w0 : World} {M : List Nat} {ops : List Oper} {Q : Exit → Act → World → Prop} {K : Env → HP → Prop} (hQ : ∀ a w, Behind n w0 M K a w → Q .normal a w) :
    ∀ (l : List Oper) (env : Env) (H : HP) (a : Act) (w : World), Rep n env a → St w0 M H w → seqE C n w0 M ops l env H K → wpListIn (fw rd) 0 C.P ops.toArray Q l a w
  | [], env, H, a, w, hr, hs, h => hQ a w ⟨env, H, hr, hs, h⟩
  | o :: r, env, H, a, w, hr, hs, h => by
    simp only [seqE] at h
    simp only [wpListIn]
    rcases guardE_use hr h with ⟨hw, h⟩ | ⟨hw, h⟩
    · rw [if_pos hw]
      refine opY_use hr hs h fun a' w' ha => ?_
      obtain ⟨v, H', rfl, hs', h'⟩ := ha
      obtain ⟨env', hr', h''⟩ := putE_use hr h'
      exact seqE_use hQ r env' H' _ w' hr' hs' h''
    · rw [if_neg (by simp [hw])]
      obtain ⟨env', hr', h''⟩ := putE_use hr h
      exact ⟨fun _ _ => trivial, seqE_use hQ r env' H _ w hr' hs h''⟩

end Go.Vx
