/- Vx11: ranges over functions. -/
import Derived.Test.YtbnipfgbfnhibaaVx10
set_option linter.unusedSimpArgs false
set_option linter.unusedVariables false
namespace Go.Vx
open Go Go.RowKit

/-- The jump that a round has left. -/
def jumpE (Q : Post) (env : Env) (H : HP) : Option Code → Prop
  | none => Q .normal env H
  | some .ret => Q .ret env H
  | some (.exit id) => Q (.exit id) env H
  | some (.goto t) => Q (.goto t) env H
  | _ => False

/-- The record of the loop, as it is known. -/
abbrev LRec := LoopState → Option Code → Ent

/-- The function that was ranged over has returned. -/
inductive VEnd (L : LRec) (H : HP) (k : Option Code → HP → Prop) : Prop
  | mk {s : LoopState} {pe : Option Code} {u : Ent → HP} {r : HP} (hat : At H (L s pe) u r) (hs : s ≠ .busy) (hk : k pe r)

def rangeCallE (C : Cx) (w0 : World) (M : List Nat) (env : Env) (H : HP) (g : Operand) (l : Nat) (K : Value → HP → Prop) : Prop :=
  match ev env g with
  | some (.func (.func f) first captured) =>
    match memB C.fns f with
    | true => VCall C.P w0 M H f (first.toList ++ (.func (.yield l) #[] #[] :: captured.toList)) K
    | false => False
  | _ => False

section
variable {C : Cx} {F : Fx} {w0 : World} {M : List Nat} {g : Operand} {ps : Array Tmp} {x y : Code} {Q : Post} {env : Env} {H : HP}

/-- The one call. -/
theorem rangeCall_use {rd : Option Nat} {n : Nat} {a : Act} {w : World} {l : Nat} {K : Value → HP → Prop} (hr : Rep n env a) (hs : St w0 M H w) (h : rangeCallE C w0 M env H g l K) :
    ∃ (d : Deferred) (f : Nat) (args : Array Value), (resolve a.eval (rangeCall g l) 0).run C.P w = .ok d w ∧ (invoke d.target d.args).run C.P w = .ok (.enter f args) w ∧
      CallsIn (fw rd) (0 - 1) C.P f args w fun e w' => ∃ v H', e = .returned v ∧ St w0 M H' w' ∧ K v H' := by
  unfold rangeCallE at h
  split at h
  · rename_i f first captured hf
    cases h1 : memB C.fns f with
    | false => simp [h1] at h
    | true =>
      simp only [h1] at h
      obtain ⟨fn, g1, g2, g3⟩ := C.okF f (memB_iff.1 h1)
      cases h with
      | mk h =>
        have hargs : first ++ #[.func (.yield l) #[] #[]] ++ captured = (first.toList ++ (.func (.yield l) #[] #[] :: captured.toList)).toArray := by
          apply Array.toList_inj.1; simp
        refine ⟨{ target := .fn (.func f) captured, args := first ++ #[.func (.yield l) #[] #[]] }, f, _, ?_, ?_, callsIn_fw (h w hs)⟩
        · have hc : a.eval (.const (.func (.yield l) #[] #[])) = .func (.yield l) #[] #[] := rfl
          simp [resolve, rangeCall, Deferred.ofValue, hr.eval hf, hc]
        · rw [← hargs]
          simp [invoke, callFunc_run g1 g2 g3]
  · exact h.elim

theorem jump_use {rd : Option Nat} {pe : Option Code} {a : Act} {w : World} (hr : Rep F.n env a) (hs : St w0 M H w) (h : jumpE Q env H pe) :
    (pe = none → lift F.n w0 M Q .normal a w) ∧ ∀ c, pe = some c → c.wpIn (fw rd) 0 C.P (lift F.n w0 M Q) a w := by
  unfold jumpE at h
  split at h
  · exact ⟨fun _ => ⟨env, H, hr, hs, h⟩, by simp⟩
  · exact ⟨by simp, fun c hc => by cases hc; exact wpIn_ret ⟨env, H, hr, hs, h⟩⟩
  · exact ⟨by simp, fun c hc => by cases hc; exact wpIn_exit ⟨env, H, hr, hs, h⟩⟩
  · exact ⟨by simp, fun c hc => by cases hc; exact wpIn_goto ⟨env, H, hr, hs, h⟩⟩
  · exact h.elim

/-- What is asked of the marks before the loop. -/
def marksE (env : Env) (k : List Value → Prop) : Prop :=
  match find env 1000000 with
  | some (.tuple ms) => k ms.toList
  | _ => False

/-- **An outermost range over a function.** The record is L, the block for deferred calls d. -/
theorem VRange.go {ms : List Value} (hm : marksE env (ms = ·))
    (h : okCode F x = true → okCode F y = true → ∀ (l d : Nat) (L : LRec), (L = fun s pe => .loop l s pe F.n env ps x y d) →
      rangeCallE C w0 M env (L .ready none :: .obj d (.deferred (some [])) :: H) g l fun _ H' => VEnd L H' fun pe r => jumpE Q ((1000000, .tuple (markV d :: ms).toArray) :: env) r pe) :
    VRange C F none w0 M g ps x y (okCode F x && okCode F y) Q env H := by
  refine .mk fun hok a w hr hs => wpIn_rangeFunc fun fn _ => ?_
  simp only [Bool.and_eq_true] at hok
  have hd : a.defers = ms.filterMap markOf := by
    unfold marksE at hm
    split at hm
    · rename_i vs hv
      rw [hr.defers _ hv, hm]; rfl
    · exact hm.elim
  have hs1 : St w0 M (.obj w.heap.size (.deferred (some [])) :: H) (w.alloc (.deferred (some []))) :=
    hs.new rfl rfl rfl (by simp) (fun b hb => Below.heap_alloc w _ b hb) (World.alloc_heap_new w _) (fun b hb => by cases hb; exact Nat.le_refl _)
  have hs2 : St w0 M (.loop (w.heap.size + 1) .ready none F.n env ps x y w.heap.size :: .obj w.heap.size (.deferred (some [])) :: H)
      ((w.alloc (.deferred (some []))).alloc (.loop { state := .ready, pending := none, fn, tmps := a.tmps, params := ps, assign := x, body := y, defers := w.heap.size })) := by
    refine hs1.new rfl rfl rfl (by simp) (fun b hb => Below.heap_alloc _ _ b hb) ⟨fn, a.tmps, hr.size, hr.small, hr.get, ?_⟩ (fun b hb => by cases hb; simp)
    have := World.alloc_heap_new (w.alloc (.deferred (some []))) (.loop { state := .ready, pending := none, fn, tmps := a.tmps, params := ps, assign := x, body := y, defers := w.heap.size })
    rwa [World.size_alloc] at this
  obtain ⟨dd, f, args, h1, h2, h3⟩ := rangeCall_use (rd := none) hr hs2 (h hok.1 hok.2 (w.heap.size + 1) w.heap.size _ rfl)
  refine ⟨w.heap.size + 1, [{ target := .collected w.heap.size, args := #[] }], _, dd, _, f, args, _, run_enterLoop_outer _ _ _ _ _, h1, fun _ _ => trivial, h2, fw_depth none, h3.mono fun e w' he => ?_⟩
  obtain ⟨v, H', rfl, hs', hk⟩ := he
  cases hk with
  | @mk s pe u r hat hne hk =>
    have hp := hs'.perm hat.perm
    obtain ⟨fn', tmps', _, _, _, hl⟩ := hp.own (.loop (w.heap.size + 1) s pe F.n env ps x y w.heap.size) (by simp)
    have hst := (hp.putObj (b := w.heap.size + 1) (y := .obj (w.heap.size + 1) (.loop { state := .exhausted, pending := pe, fn := fn', tmps := tmps', params := ps, assign := x, body := y, defers := w.heap.size })) rfl rfl (World.putObj_heap_same (Array.getElem?_eq_some_iff.1 hl).1)).tail
    have hrep : Rep F.n ((1000000, .tuple (markV w.heap.size :: ms).toArray) :: env) { a with defers := [{ target := .collected w.heap.size, args := #[] }] ++ a.defers } := ?_
    · have hj := jump_use (C := C) (rd := none) hrep hst hk
      refine ⟨pe, _, run_endLoop hl hne, ?_⟩
      cases pe with
      | none => exact hj.1 rfl
      | some c => exact hj.2 c rfl
    refine ⟨hr.size, hr.small, fun v hv => ?_, fun t v ht => ?_⟩
    · simp only [find] at hv
      have : Nat.beq 1000000 dk = true := rfl
      simp only [this, Option.some.injEq] at hv
      subst hv
      simp [marksOf, markOf, markV, hd]
    · obtain ⟨ht, hne⟩ := look_find ht
      simp only [find] at ht
      cases hb : Nat.beq 1000000 t with
      | true => exact absurd (Nat.eq_of_beq_eq_true hb).symm hne
      | false => simp only [hb] at ht; exact hr.get t v (find_look ht hne)

/-- **A range over a function within a round of loop l0.** -/
theorem VRange.nest {l0 : Nat} {s0 : LoopState} {pe0 : Option Code} {n0 : Nat} {e0 : Env} {p0 : Array Tmp} {x0 y0 : Code} {d : Nat} {u0 : Ent → HP} {r0 : HP} (hat0 : At H (.loop l0 s0 pe0 n0 e0 p0 x0 y0 d) u0 r0)
    (h : okCode F x = true → okCode F y = true → ∀ (l : Nat) (L : LRec), (L = fun s pe => .loop l s pe F.n env ps x y d) →
      rangeCallE C w0 M env (L .ready none :: H) g l fun _ H' => VEnd L H' fun pe r => jumpE Q env r pe) :
    VRange C F (some l0) w0 M g ps x y (okCode F x && okCode F y) Q env H := by
  refine .mk fun hok a w hr hs => wpIn_rangeFunc fun fn _ => ?_
  simp only [Bool.and_eq_true] at hok
  obtain ⟨fn0, tmps0, _, _, _, hl0⟩ := hs.own _ hat0.mem
  have hs2 : St w0 M (.loop w.heap.size .ready none F.n env ps x y d :: H)
      (w.alloc (.loop { state := .ready, pending := none, fn, tmps := a.tmps, params := ps, assign := x, body := y, defers := d })) :=
    hs.new rfl rfl rfl (by simp) (fun b hb => Below.heap_alloc _ _ b hb) ⟨fn, a.tmps, hr.size, hr.small, hr.get, World.alloc_heap_new w _⟩ (fun b hb => by cases hb; exact Nat.le_refl _)
  obtain ⟨dd, f, args, h1, h2, h3⟩ := rangeCall_use (rd := some l0) hr hs2 (h hok.1 hok.2 w.heap.size _ rfl)
  have hen : (Instr.enterLoop fn a.tmps ps x y (some l0)).run C.P w = .ok (w.heap.size, []) (w.alloc (.loop { state := .ready, pending := none, fn, tmps := a.tmps, params := ps, assign := x, body := y, defers := d })) := by
    unfold Instr.enterLoop
    simp only [Sem.run_bind, run_getLoop hl0, run_newObj_alloc, Result.andThen, Sem.run_pure]
  refine ⟨w.heap.size, [], _, dd, _, f, args, _, hen, h1, fun _ _ => trivial, h2, fw_depth (some l0), h3.mono fun e w' he => ?_⟩
  obtain ⟨v, H', rfl, hs', hk⟩ := he
  cases hk with
  | @mk s pe u r hat hne hk =>
    have hp := hs'.perm hat.perm
    obtain ⟨fn', tmps', _, _, _, hl⟩ := hp.own (.loop w.heap.size s pe F.n env ps x y d) (by simp)
    have hst := (hp.putObj (b := w.heap.size) (y := .obj w.heap.size (.loop { state := .exhausted, pending := pe, fn := fn', tmps := tmps', params := ps, assign := x, body := y, defers := d })) rfl rfl (World.putObj_heap_same (Array.getElem?_eq_some_iff.1 hl).1)).tail
    have hj := jump_use (C := C) (rd := some l0) (a := { a with defers := [] ++ a.defers }) ⟨hr.size, hr.small, hr.defers, hr.get⟩ hst hk
    refine ⟨pe, _, run_endLoop hl hne, ?_⟩
    cases pe with
    | none => exact hj.1 rfl
    | some c => exact hj.2 c rfl

/-! ### A round -/

/-- yield's arguments in the loop's parameters. -/
def zipE (n : Nat) : List Tmp → List Value → Env → Option Env
  | [], [], env => some env
  | p :: ps, v :: vs, env =>
    match Nat.blt p n with
    | true => zipE n ps vs ((p, v) :: env)
    | false => none
  | _, _, _ => none

theorem zipE_use {n : Nat} : ∀ (ps : List Tmp) (vs : List Value) (env env' : Env) (ts : Array Value), n ≤ dk → ts.size = n → (∀ t v, look env t = some v → ts[t]? = some v) → zipE n ps vs env = some env' →
    vs.length = ps.length ∧ ((ps.zip vs).foldl (fun tmps (p : Nat × Value) => tmps.setIfInBounds p.1 p.2) ts).size = n ∧ ∀ t v, look env' t = some v → ((ps.zip vs).foldl (fun tmps (p : Nat × Value) => tmps.setIfInBounds p.1 p.2) ts)[t]? = some v
  | [], [], env, env', ts, hdk, hsz, hget, h => by
    simp only [zipE, Option.some.injEq] at h
    subst h
    exact ⟨rfl, hsz, hget⟩
  | p :: ps, v :: vs, env, env', ts, hdk, hsz, hget, h => by
    simp only [zipE] at h
    cases hb : Nat.blt p n with
    | false => simp [hb] at h
    | true =>
      simp only [hb] at h
      have hlt : p < n := Nat.le_of_ble_eq_true hb
      have hr : Rep n env { tmps := ts, defers := (match find env dk with | some v => marksOf v | none => []) } := ⟨hsz, hdk, fun v hv => by simp [hv], hget⟩
      have hp := hr.put hlt v
      have := zipE_use ps vs _ env' (ts.setIfInBounds p v) hdk hp.size hp.get h
      exact ⟨by simp [this.1], by simpa using this.2⟩
  | [], _ :: _, _, _, _, _, _, _, h => by simp [zipE] at h
  | _ :: _, [], _, _, _, _, _, _, h => by simp [zipE] at h

/-- A round begins. -/
inductive VBegin (L : LRec) (H : HP) (k : HP → Prop) : Prop
  | mk {pe : Option Code} {u : Ent → HP} {r : HP} (hat : At H (L .ready pe) u r) (hk : k (u (L .busy pe)))

/-- A round ends. -/
inductive VRound (L : LRec) (j : Option Code) (H : HP) (k : HP → Prop) : Prop
  | mk {s : LoopState} {pe : Option Code} {u : Ent → HP} {r : HP} (hat : At H (L s pe) u r) (hk : k (u (L (match j with | none => .ready | some _ => .done) j)))

def roundP (L : LRec) (K : Value → HP → Prop) : Post := fun e _ H =>
  match e with
  | .normal => VRound L none H fun H' => K (.bool true) H'
  | .ret => VRound L (some .ret) H fun H' => K (.bool false) H'
  | .exit id => VRound L (some (.exit id)) H fun H' => K (.bool false) H'
  | .goto t => VRound L (some (.goto t)) H fun H' => K (.bool false) H'
  | _ => False

def beginP (C : Cx) (F : Fx) (w0 : World) (M : List Nat) (l : Nat) (L : LRec) (body : Code) (K : Value → HP → Prop) : Post := fun e env H =>
  match e with
  | .normal => VBegin L H fun H' => codeE C F (some l) w0 M body (roundP L K) env H'
  | _ => False

theorem round_use {l : Nat} {env0 : Env} {d : Nat} {L : LRec} (hL : L = fun s pe => .loop l s pe F.n env0 ps x y d) {j : Option Code} {w : World} {H : HP} {K : Value → HP → Prop} {b : Bool} (hb : j.isNone = b) (hs : St w0 M H w)
    (h : VRound L j H fun H' => K (.bool b) H') : ∃ v w', (Instr.endRound l j).run C.P w = .ok v w' ∧ ∃ v' H', (Ending.returned v) = .returned v' ∧ St w0 M H' w' ∧ K v' H' := by
  subst hL
  cases h with
  | @mk s pe u r hat hk =>
    have hp := hs.perm hat.perm
    obtain ⟨fn, tmps, q1, q2, q3, hl⟩ := hp.own (.loop l s pe F.n env0 ps x y d) (by simp)
    refine ⟨_, _, run_endRound j hl, .bool b, _, by rw [hb], ?_, hk⟩
    refine hs.turn hat fun hx => hx.putObj rfl rfl ?_
    refine ⟨fn, tmps, q1, q2, q3, ?_⟩
    rw [World.putObj_heap_same (Array.getElem?_eq_some_iff.1 hl).1]
    cases j <;> simp

/-- **One round of the loop.** -/
theorem VYield.go {l : Nat} {env0 env' : Env} {d : Nat} {L : LRec} {args : List Value} {pe : Option Code} {u : Ent → HP} {r : HP} {K : Value → HP → Prop} (hL : L = fun s pe => .loop l s pe F.n env0 ps x y d)
    (hx : okCode F x = true) (hy : okCode F y = true) (hat : At H (L .ready pe) u r) (hz : zipE F.n ps.toList args env0 = some env')
    (h : codeE C F (some l) w0 M x (beginP C F w0 M l L y K) ((1000000, .tuple #[]) :: env') H) : VYield C.P w0 M H l args K := by
  refine .mk fun w hs => ?_
  have hat' := hat
  rw [hL] at hat'
  obtain ⟨fn, tmps, q1, q2, q3, hl⟩ := hs.own _ hat'.mem
  obtain ⟨z1, z2, z3⟩ := zipE_use ps.toList args env0 env' tmps q2 q1 q3 hz
  refine ⟨fn, _, x, y, run_yield hl (by simpa using z1), roundIn_of_wpIn trivial ?_⟩
  have hzip : (ps.zip args.toArray).foldl (fun tmps (t, a) => tmps.setIfInBounds t a) tmps = (ps.toList.zip args).foldl (fun tmps (p : Nat × Value) => tmps.setIfInBounds p.1 p.2) tmps := by
    rw [← Array.foldl_toList, Array.toList_zip]
  simp only [hzip]
  have hr : Rep F.n ((1000000, .tuple #[]) :: env') { tmps := (ps.toList.zip args).foldl (fun tmps (p : Nat × Value) => tmps.setIfInBounds p.1 p.2) tmps, defers := [] } := by
    refine ⟨z2, q2, fun v hv => ?_, fun t v ht => ?_⟩
    · simp only [find] at hv
      have : Nat.beq 1000000 dk = true := rfl
      simp only [this, Option.some.injEq] at hv
      subst hv; rfl
    · obtain ⟨ht, hne⟩ := look_find ht
      simp only [find] at ht
      cases hb : Nat.beq 1000000 t with
      | true => exact absurd (Nat.eq_of_beq_eq_true hb).symm hne
      | false => simp only [hb] at ht; exact z3 t v (find_look ht hne)
  refine wpIn_mono (codeE_use (rd := some l) x _ _ H _ w hx hr hs h) fun e a' w' hq => ?_
  cases e with
  | normal =>
    obtain ⟨env1, H1, hr1, hs1, hq⟩ := hq
    cases hq with
    | @mk pe1 u1 r1 hat1 hk =>
      have hat1' := hat1
      rw [hL] at hat1'
      obtain ⟨fn1, tmps1, p1, p2, p3, hl1⟩ := hs1.own _ hat1'.mem
      refine ⟨_, run_beginRound hl1 rfl, ?_⟩
      have hs2 : St w0 M (u1 (L .busy pe1)) (w'.putObj l (.loop { state := .busy, pending := pe1, fn := fn1, tmps := tmps1, params := ps, assign := x, body := y, defers := d })) := by
        refine hs1.turn hat1 fun hx => ?_
        rw [hL] at hx ⊢
        exact hx.putObj rfl rfl ⟨fn1, tmps1, p1, p2, p3, World.putObj_heap_same (Array.getElem?_eq_some_iff.1 hl1).1⟩
      refine wpIn_mono (codeE_use (rd := some l) y _ env1 _ a' _ hy hr1 hs2 hk) fun e a'' w'' hq => ?_
      cases e with
      | normal => obtain ⟨_, H2, _, hs3, hq⟩ := hq; exact round_use hL rfl hs3 hq
      | ret => obtain ⟨_, H2, _, hs3, hq⟩ := hq; exact round_use hL rfl hs3 hq
      | exit id => obtain ⟨_, H2, _, hs3, hq⟩ := hq; exact round_use hL rfl hs3 hq
      | goto t => obtain ⟨_, H2, _, hs3, hq⟩ := hq; exact round_use hL rfl hs3 hq
      | panic _ => exact hq.elim
      | outgrown => exact hq.elim
  | ret => obtain ⟨_, _, _, _, hq⟩ := hq; exact hq.elim
  | exit _ => obtain ⟨_, _, _, _, hq⟩ := hq; exact hq.elim
  | goto _ => obtain ⟨_, _, _, _, hq⟩ := hq; exact hq.elim
  | panic _ => exact hq.elim
  | outgrown => exact hq.elim
end

end Go.Vx
