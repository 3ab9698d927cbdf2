/- Vx2: what one operation does, in the symbolic state: operations that read no memory (pureE), and that they do it (pureE_sound). -/
import Derived.Test.YtbnipfgbfnhibaaVx1
import Derived.Laws.Tables
import Derived.Laws.StructEq
namespace Go.Vx
open Go Go.RowKit

/-- The shape of a type, as far as the operations look at it. -/
inductive TD where
  | int (k : IntKind)
  | bool
  | pointer
  | slice (e : TypeId)
  | array (n : Nat) (e : TypeId)
  | map (k e : TypeId)
  | struct (fs : List (Nat × TypeId))
  | other
  deriving DecidableEq

def shapeOf : TypeDesc → TD
  | .int k => .int k
  | .bool => .bool
  | .pointer _ => .pointer
  | .slice e => .slice e
  | .array n e => .array n e
  | .map k e => .map k e
  | .struct fs => .struct (fs.toList.map fun f => (f.offset, f.type))
  | _ => .other

structure TI where
  td : TD
  size : Nat
  bytes : Nat
  zero : Value

structure TI.ok (P : Program) (t : TypeId) (x : TI) : Prop where
  td : (P.underlying t).map shapeOf = some x.td
  info : (P.info? t).map (fun i => (i.size, i.bytes, i.zero)) = some (x.size, x.bytes, some x.zero)

abbrev Lay := List (Nat × TI)

def lay : Lay → Nat → Option TI
  | [], _ => none
  | (k, x) :: r, t => match Nat.beq k t with
    | true => some x
    | false => lay r t

def LayOk (P : Program) : Lay → Prop
  | [] => True
  | p :: r => p.2.ok P p.1 ∧ LayOk P r

theorem LayOk.at {P : Program} : ∀ {L : Lay}, LayOk P L → ∀ {t : Nat} {x : TI}, lay L t = some x → x.ok P t
  | [], _, t, x, h => by simp [lay] at h
  | (k, y) :: r, ⟨h1, h2⟩, t, x, h => by
    simp only [lay] at h
    cases hb : Nat.beq k t with
    | true =>
      simp only [hb, Option.some.injEq] at h
      have := Nat.eq_of_beq_eq_true hb
      subst this; subst h; exact h1
    | false => simp only [hb] at h; exact LayOk.at h2 h

section ti
variable {P : Program} {t : TypeId} {x : TI}
theorem TI.ok.info' (h : x.ok P t) : ∃ i, P.info? t = some i ∧ i.size = x.size ∧ i.bytes = x.bytes ∧ i.zero = some x.zero := by
  have := h.info
  cases hi : P.info? t with
  | none => simp [hi] at this
  | some i => simp [hi] at this; exact ⟨i, rfl, this.1, this.2.1, this.2.2⟩
theorem TI.ok.under (h : x.ok P t) : ∃ d, P.underlying t = some d ∧ shapeOf d = x.td := by
  have := h.td
  cases hi : P.underlying t with
  | none => simp [hi] at this
  | some d => simp [hi] at this; exact ⟨d, rfl, this⟩
theorem TI.ok.int {k : IntKind} (h : x.ok P t) (ht : x.td = .int k) : P.underlying t = some (.int k) := by
  obtain ⟨d, hd, hs⟩ := h.under
  rw [ht] at hs; cases d <;> simp [shapeOf] at hs; subst hs; exact hd
theorem TI.ok.slice {e : TypeId} (h : x.ok P t) (ht : x.td = .slice e) : P.underlying t = some (.slice e) := by
  obtain ⟨d, hd, hs⟩ := h.under
  rw [ht] at hs; cases d <;> simp [shapeOf] at hs; subst hs; exact hd
theorem TI.ok.array {n : Nat} {e : TypeId} (h : x.ok P t) (ht : x.td = .array n e) : P.underlying t = some (.array n e) := by
  obtain ⟨d, hd, hs⟩ := h.under
  rw [ht] at hs; cases d <;> simp [shapeOf] at hs; obtain ⟨rfl, rfl⟩ := hs; exact hd
theorem TI.ok.map {n : TypeId} {e : TypeId} (h : x.ok P t) (ht : x.td = .map n e) : P.underlying t = some (.map n e) := by
  obtain ⟨d, hd, hs⟩ := h.under
  rw [ht] at hs; cases d <;> simp [shapeOf] at hs; obtain ⟨rfl, rfl⟩ := hs; exact hd
theorem TI.ok.struct {fs : List (Nat × TypeId)} (h : x.ok P t) (ht : x.td = .struct fs) : ∃ fields : Array Field, P.underlying t = some (.struct fields) ∧ fields.toList.map (fun f => (f.offset, f.type)) = fs := by
  obtain ⟨d, hd, hs⟩ := h.under
  rw [ht] at hs; cases d <;> simp [shapeOf] at hs; subst hs; exact ⟨_, hd, by simp⟩
theorem TI.ok.bool (h : x.ok P t) (ht : x.td = .bool) : P.underlying t = some .bool := by
  obtain ⟨d, hd, hs⟩ := h.under
  rw [ht] at hs; cases d <;> simp [shapeOf] at hs; exact hd
theorem TI.ok.pointer (h : x.ok P t) (ht : x.td = .pointer) : ∃ e, P.underlying t = some (.pointer e) := by
  obtain ⟨d, hd, hs⟩ := h.under
  rw [ht] at hs; cases d <;> simp [shapeOf] at hs; exact ⟨_, hd⟩
end ti

def eqTy (P : Program) (t : TypeId) : Bool :=
  !P.eqGuardType P.depth t && !P.stoodInHeld t && (P.fieldsOf t).toList.all fun f => f.name != "_"

/-- A program, with what is known of its types and of the functions that it may enter. -/
structure Cx where
  P : Program
  L : Lay
  fns : List Nat
  /-- structs that may be compared: no field is blank, none holds what the model stands in for -/
  eqs : List Nat
  okL : LayOk P L
  okF : ∀ f ∈ fns, ∃ fn, P.funcs[f]? = some fn ∧ fn.body.isNone = false ∧ (fn.name == "runtime.NumGoroutine") = false
  okE : ∀ t ∈ eqs, eqTy P t = true
  mixed : P.follows .mixedOrders = true

/-! ### The forms in which a step asks for something -/

/-- A truth value, of which it is known when it is true. -/
inductive VB (p : Prop) (k : Bool → Prop) : Prop
  | mk (h : ∀ b : Bool, (b = true ↔ p) → k b)

theorem VB.split {p : Prop} {k : Bool → Prop} (h1 : p → k true) (h2 : ¬ p → k false) : VB p k :=
  .mk fun b hb => by
    cases b
    · exact h2 fun hp => by have := hb.2 hp; cases this
    · exact h1 (hb.1 rfl)

theorem VB.use {p : Prop} {k : Bool → Prop} (h : VB p k) (b : Bool) (hb : b = true ↔ p) : k b := h.1 b hb

/-- The result of a sum, a difference, a product: it fits, or it is wrapped. -/
inductive VAr (kd : IntKind) (z : Int) (k : Int → Prop) : Prop
  | fits (h : kd.wrap z = z) (hk : k z)
  | wraps (hk : k (kd.wrap z))

theorem VAr.use {kd : IntKind} {z : Int} {k : Int → Prop} (h : VAr kd z k) : k (kd.wrap z) := by
  cases h with
  | fits h hk => rw [h]; exact hk
  | wraps hk => exact hk

theorem wrap_i64 {z : Int} (h1 : -9223372036854775808 ≤ z) (h2 : z ≤ 9223372036854775807) : IntKind.i64.wrap z = z := by
  rw [IntKind.wrap_i64]
  omega

theorem VAr.i64 {z : Int} {k : Int → Prop} (h1 : -9223372036854775808 ≤ z) (h2 : z ≤ 9223372036854775807) (hk : k z) : VAr .i64 z k :=
  .fits (wrap_i64 h1 h2) hk

/-- Whether or not it fits. -/
theorem VAr.any {z : Int} {k : Int → Prop} (h : ∀ c, (-9223372036854775808 ≤ z ∧ z ≤ 9223372036854775807 → c = z) → k c) : VAr .i64 z k :=
  .wraps (h _ fun ⟨h1, h2⟩ => wrap_i64 h1 h2)

/-- A quotient. -/
inductive VQ (kd : IntKind) (a b : Int) (k : Int → Prop) : Prop
  | mk (hb : b ≠ 0) (h : VAr kd (a.tdiv b) k)

theorem VQ.pos {a b : Int} {k : Int → Prop} (ha : 0 ≤ a) (hb : 0 < b) (h2 : a ≤ 9223372036854775807) (hk : k (a / b)) : VQ .i64 a b k := by
  refine .mk (by omega) ?_
  rw [Int.tdiv_eq_ediv_of_nonneg ha]
  refine .i64 ?_ ?_ hk
  · have := Int.ediv_nonneg ha (Int.le_of_lt hb); omega
  · have := Int.ediv_le_self b ha; omega

theorem tdiv_bounds {a b : Int} : -a.natAbs ≤ a.tdiv b ∧ a.tdiv b ≤ a.natAbs := by
  have h1 : (a.tdiv b).natAbs ≤ a.natAbs := by
    rw [Int.natAbs_tdiv]
    exact Nat.div_le_self _ _
  omega

theorem VQ.any {a b : Int} {k : Int → Prop} (hb : 0 < b) (h1 : -9223372036854775807 ≤ a) (h2 : a ≤ 9223372036854775807) (hk : k (a.tdiv b)) : VQ .i64 a b k := by
  have := tdiv_bounds (a := a) (b := b)
  exact .mk (by omega) (.i64 (by omega) (by omega) hk)

/-- A remainder. -/
inductive VM (a b : Int) (k : Int → Prop) : Prop
  | mk (hb : b ≠ 0) (h : k (a.tmod b))

theorem VM.pos {a b : Int} {k : Int → Prop} (ha : 0 ≤ a) (hb : 0 < b) (hk : k (a % b)) : VM a b k := by
  refine .mk (by omega) ?_
  rw [Int.tmod_eq_emod_of_nonneg ha]
  exact hk

/-- A bound, and what follows. -/
inductive VRg (lo j hi : Int) (p : Prop) : Prop
  | mk (h1 : lo ≤ j) (h2 : j < hi) (hk : p)

/-- Which way a test goes. -/
def boolE (b : Bool) (A B : Prop) : Prop :=
  match b with
  | true => A
  | false => B

theorem boolE_split {b : Bool} {A B : Prop} (h1 : b = true → A) (h2 : b = false → B) : boolE b A B := by
  cases b
  · exact h2 rfl
  · exact h1 rfl

/-! ### Operations that read no memory -/

def lenL : List Value → Nat
  | [] => 0
  | _ :: r => lenL r + 1

theorem lenL_eq : ∀ l : List Value, lenL l = l.length
  | [] => rfl
  | _ :: r => by simp [lenL, lenL_eq r]

def valE (env : Env) (x : Operand) (k : Value → Prop) : Prop :=
  match ev env x with
  | some v => k v
  | none => False

def pickE (env : Env) (c a b : Operand) (k : Value → Prop) : Prop :=
  match ev env c with
  | some (.bool t) => boolE t (valE env a k) (valE env b k)
  | _ => False

def fieldE (L : Lay) (env : Env) (s : TypeId) (x : Operand) (f : Nat) (k : Value → Prop) : Prop :=
  match ev env x with
  | some (.pointer (some ⟨b, off, none⟩)) =>
    match lay L s with
    | some ti =>
      match ti.td with
      | .struct fs =>
        match fs[f]? with
        | some (o, ty) =>
          match lay L ty with
          | some fi =>
            match Nat.beq fi.size 0 with
            | true => False
            | false => k (.pointer (some ⟨b, off + o, none⟩))
          | none => False
        | none => False
      | _ => False
    | none => False
  | _ => False

/-- Element j of n, each of so many cells, behind p. -/
inductive VIx (p : Option Addr) (n size : Nat) (j : Int) (k : Value → Prop) : Prop
  | mk {b off : Nat} (hp : p = some ⟨b, off, none⟩) (h1 : 0 ≤ j) (h2 : j < n) (hk : k (.pointer (some ⟨b, off + j.toNat * size, none⟩)))

def indexE (L : Lay) (env : Env) (t : TypeId) (x i : Operand) (k : Value → Prop) : Prop :=
  match ev env i with
  | some (.int _ j) =>
    match lay L t with
    | some ti =>
      match ti.td with
      | .slice e =>
        match lay L e with
        | some ei =>
          match ev env x with
          | some (.slice p n _) => VIx p n ei.size j k
          | _ => False
        | none => False
      | .array n e =>
        match lay L e with
        | some ei =>
          match ev env x with
          | some (.pointer p) => VIx p n ei.size j k
          | _ => False
        | none => False
      | _ => False
    | none => False
  | _ => False

def nilE (env : Env) (x : Operand) (k : Value → Prop) : Prop :=
  match ev env x with
  | some (.pointer (some a)) => k (.pointer (some a))
  | some (.func (.func f) a b) => k (.func (.func f) a b)
  | some (.func (.yield f) a b) => k (.func (.yield f) a b)
  | _ => False

def intE (op : BinOp) (kd : IntKind) (a b : Int) (k : Value → Prop) : Prop :=
  match op with
  | .add => VAr kd (a + b) fun c => k (.int kd c)
  | .sub => VAr kd (a - b) fun c => k (.int kd c)
  | .mul => VAr kd (a * b) fun c => k (.int kd c)
  | .quo => VQ kd a b fun c => k (.int kd c)
  | .rem => VM a b fun c => k (.int kd c)
  | .eql => VB (a = b) fun c => k (.bool c)
  | .neq => VB (a ≠ b) fun c => k (.bool c)
  | .lss => VB (a < b) fun c => k (.bool c)
  | .leq => VB (a ≤ b) fun c => k (.bool c)
  | .gtr => VB (b < a) fun c => k (.bool c)
  | .geq => VB (b ≤ a) fun c => k (.bool c)
  | _ => False

/-- Two structs of integers, field by field. -/
def intsEq : List Value → List Value → Option Prop
  | [], [] => some True
  | .int .i64 a :: xs, .int .i64 b :: ys =>
    match intsEq xs ys with
    | some p => some (a = b ∧ p)
    | none => none
  | _, _ => none

def cmpE (op : BinOp) (p : Prop) (k : Value → Prop) : Prop :=
  match op with
  | .eql => VB p fun c => k (.bool c)
  | .neq => VB (¬ p) fun c => k (.bool c)
  | _ => False

/-- Is the type a struct of ints, its cells one after the other? -/
def intFields (L : Lay) : List (Nat × TypeId) → Nat → Bool
  | [], _ => true
  | (o, t) :: r, j =>
    match Nat.beq o j with
    | false => false
    | true =>
      match lay L t with
      | some ti =>
        match ti.td with
        | .int .i64 => intFields L r (j + 1)
        | _ => false
      | none => false

def isNilE (op : BinOp) (nil : Bool) (k : Value → Prop) : Prop :=
  match op with
  | .eql => k (.bool nil)
  | .neq => k (.bool (!nil))
  | _ => False

def binE (L : Lay) (eqs : List Nat) (op : BinOp) (t : TypeId) (x y : Value) (k : Value → Prop) : Prop :=
  match x, y with
  | .int ka a, .int kb b =>
    match decide (ka = kb) with
    | true => intE op ka a b k
    | false => False
  | .bool a, .bool b =>
    match lay L t with
    | some ti =>
      match ti.td with
      | .bool => cmpE op (a = b) k
      | _ => False
    | none => False
  | .agg xs, .agg ys =>
    match lay L t with
    | some ti =>
      match ti.td with
      | .struct fs =>
        match intFields L fs 0 with
        | true =>
          match intsEq xs.toList ys.toList with
          | some p =>
            match Nat.beq (fs.length) (lenL xs.toList) with
            | true =>
              match memB eqs t with
              | true => cmpE op p k
              | false => False
            | false => False
          | none => False
        | false => False
      | _ => False
    | none => False
  | .slice p _ _, .slice none _ _ =>
    match lay L t with
    | some ti =>
      match ti.td with
      | .slice _ => isNilE op p.isNone k
      | _ => False
    | none => False
  | .map p, .map none =>
    match lay L t with
    | some ti =>
      match ti.td with
      | .map _ _ => isNilE op p.isNone k
      | _ => False
    | none => False
  | .pointer p, .pointer none =>
    match lay L t with
    | some ti =>
      match ti.td with
      | .pointer => isNilE op p.isNone k
      | _ => False
    | none => False
  | _, _ => False

def binOpE (L : Lay) (eqs : List Nat) (env : Env) (op : BinOp) (t : TypeId) (x y : Operand) (k : Value → Prop) : Prop :=
  match ev env x with
  | some vx =>
    match ev env y with
    | some vy => binE L eqs op t vx vy k
    | none => False
  | none => False

def unOpE (env : Env) (op : UnOp) (x : Operand) (k : Value → Prop) : Prop :=
  match op with
  | .not =>
    match ev env x with
    | some (.bool b) => boolE b (k (.bool false)) (k (.bool true))
    | _ => False
  | .neg =>
    match ev env x with
    | some (.int kd a) => VAr kd (0 - a) fun c => k (.int kd c)
    | _ => False
  | _ => False

def convE (L : Lay) (env : Env) (s d : TypeId) (x : Operand) (k : Value → Prop) : Prop :=
  match ev env x with
  | some (.int _ a) =>
    match lay L s with
    | some si =>
      match si.td with
      | .int _ =>
        match lay L d with
        | some di =>
          match di.td with
          | .int kd => VAr kd a fun c => k (.int kd c)
          | _ => False
        | none => False
      | _ => False
    | none => False
  | _ => False

def nthL : List Value → Nat → Option Value
  | [], _ => none
  | v :: _, 0 => some v
  | _ :: r, n + 1 => nthL r n

theorem nthL_eq : ∀ (l : List Value) (n : Nat), nthL l n = l[n]?
  | [], _ => by simp [nthL]
  | v :: r, 0 => by simp [nthL]
  | v :: r, n + 1 => by simp [nthL, nthL_eq r n]

def extractE (env : Env) (x : Operand) (i : Nat) (k : Value → Prop) : Prop :=
  match ev env x with
  | some (.tuple vs) =>
    match nthL vs.toList i with
    | some v => k v
    | none => False
  | _ => False

def funcE (env : Env) (fn : Fn) (first captured : List Operand) (k : Value → Prop) : Prop :=
  match evs env first with
  | some fs =>
    match evs env captured with
    | some cs => k (.func fn fs.toArray cs.toArray)
    | none => False
  | none => False

def minL : Int → List Value → Option Int
  | a, [] => some a
  | a, .int .i64 b :: r => minL (min a b) r
  | _, _ => none
def maxL : Int → List Value → Option Int
  | a, [] => some a
  | a, .int .i64 b :: r => maxL (max a b) r
  | _, _ => none

/-- The cells of a value. -/
def cellsL : Value → List Value
  | .agg cs => cs.toList
  | v => [v]

/-- Cells off .. off + vs.length of cs become vs. -/
def upd : List Value → Nat → List Value → Option (List Value)
  | cs, 0, [] => some cs
  | [], 0, _ :: _ => none
  | _ :: r, 0, v :: vs =>
    match upd r 0 vs with
    | some l => some (v :: l)
    | none => none
  | [], _ + 1, _ => none
  | c :: r, o + 1, vs =>
    match upd r o vs with
    | some l => some (c :: l)
    | none => none

def sub : List Value → Nat → Nat → Option (List Value)
  | _, 0, 0 => some []
  | [], 0, _ + 1 => none
  | v :: r, 0, s + 1 =>
    match sub r 0 s with
    | some l => some (v :: l)
    | none => none
  | [], _ + 1, _ => none
  | _ :: r, o + 1, s => sub r o s

theorem upd_spec : ∀ (cs : List Value) (o : Nat) (vs cs' : List Value), upd cs o vs = some cs' → o + vs.length ≤ cs.length ∧ cs' = cs.take o ++ vs ++ cs.drop (o + vs.length)
  | cs, 0, [], cs', h => by
    cases cs <;> simp [upd] at h <;> subst h <;> simp
  | [], 0, _ :: _, cs', h => by simp [upd] at h
  | c :: r, 0, v :: vs, cs', h => by
    simp only [upd] at h
    cases h1 : upd r 0 vs with
    | none => simp [h1] at h
    | some l =>
      simp only [h1, Option.some.injEq] at h
      subst h
      obtain ⟨h2, h3⟩ := upd_spec r 0 vs l h1
      refine ⟨by simp at h2 ⊢; omega, ?_⟩
      simp at h3
      simp [h3]
  | [], _ + 1, _, cs', h => by simp [upd] at h
  | c :: r, o + 1, vs, cs', h => by
    simp only [upd] at h
    cases h1 : upd r o vs with
    | none => simp [h1] at h
    | some l =>
      simp only [h1, Option.some.injEq] at h
      subst h
      obtain ⟨h2, h3⟩ := upd_spec r o vs l h1
      refine ⟨by simp; omega, ?_⟩
      rw [h3, show o + 1 + vs.length = (o + vs.length) + 1 from by omega]
      simp

theorem sub_spec : ∀ (cs : List Value) (o s : Nat) (vs : List Value), sub cs o s = some vs → vs.length = s ∧ ∀ j v, vs[j]? = some v → cs[o + j]? = some v
  | cs, 0, 0, vs, h => by
    cases cs <;> simp [sub] at h <;> subst h <;> simp
  | [], 0, _ + 1, vs, h => by simp [sub] at h
  | c :: r, 0, s + 1, vs, h => by
    simp only [sub] at h
    cases h1 : sub r 0 s with
    | none => simp [h1] at h
    | some l =>
      simp only [h1, Option.some.injEq] at h
      subst h
      obtain ⟨h2, h3⟩ := sub_spec r 0 s l h1
      refine ⟨by simp [h2], fun j v hj => ?_⟩
      cases j with
      | zero => simpa using hj
      | succ j =>
        have := h3 j v (by simpa using hj)
        simpa using this
  | [], _ + 1, _, vs, h => by simp [sub] at h
  | c :: r, o + 1, s, vs, h => by
    simp only [sub] at h
    obtain ⟨h2, h3⟩ := sub_spec r o s vs h
    refine ⟨h2, fun j v hj => ?_⟩
    rw [show o + 1 + j = (o + j) + 1 from by omega]
    simpa using h3 j v hj

/-- Where the fields lie, and how many cells each takes. -/
def placesL (L : Lay) : List (Nat × TypeId) → Option (List (Nat × Nat))
  | [] => some []
  | ot :: r =>
    match lay L ot.2 with
    | some fi =>
      match placesL L r with
      | some l => some ((ot.1, fi.size) :: l)
      | none => none
    | none => none

def nthP : List (Nat × Nat) → Nat → Option (Nat × Nat)
  | [], _ => none
  | v :: _, 0 => some v
  | _ :: r, n + 1 => nthP r n

/-- A struct out of its parts. -/
def fillL (pl : List (Nat × Nat)) : List (Nat × Value) → List Value → Option (List Value)
  | [], cs => some cs
  | (i, v) :: r, cs =>
    match nthP pl i with
    | some (o, s) =>
      match Nat.beq (lenL (cellsL v)) s with
      | true =>
        match upd cs o (cellsL v) with
        | some cs' => fillL pl r cs'
        | none => none
      | false => none
    | none => none

def evp (env : Env) : List (Nat × Operand) → Option (List (Nat × Value))
  | [] => some []
  | (i, x) :: r =>
    match ev env x with
    | some v =>
      match evp env r with
      | some l => some ((i, v) :: l)
      | none => none
    | none => none

def buildE (L : Lay) (env : Env) (t : TypeId) (parts : List (Nat × Operand)) (k : Value → Prop) : Prop :=
  match lay L t with
  | some ti =>
    match ti.td with
    | .struct fs =>
      match evp env parts with
      | some ps =>
        match placesL L fs with
        | some pl =>
          match fillL pl ps (cellsL ti.zero) with
          | some cs => k (.agg cs.toArray)
          | none => False
        | none => False
      | none => False
    | _ => False
  | none => False

/-- A cut of a slice: from l to h, of a slice of n elements at p with room for c. -/
inductive VSl (p : Option Addr) (size : Nat) (l h c : Int) (k : Option Addr → Nat → Nat → Prop) : Prop
  | mk (h1 : 0 ≤ l) (h2 : l ≤ h) (h3 : h ≤ c)
      (hk : ∀ q, (l < c → q = p.map (fun a => a.add (l.toNat * size))) → (l = c → q = p) → k q (h.toNat - l.toNat) (c.toNat - l.toNat))

def optInt (env : Env) (x : Option Operand) (d : Int) : Option Int :=
  match x with
  | none => some d
  | some o =>
    match ev env o with
    | some (.int _ j) => some j
    | _ => none

def sliceE (L : Lay) (env : Env) (t : TypeId) (x : Operand) (lo hi : Option Operand) (k : Value → Prop) : Prop :=
  match lay L t with
  | some ti =>
    match ti.td with
    | .slice e =>
      match lay L e with
      | some ei =>
        match ev env x with
        | some (.slice p n c) =>
          match optInt env lo 0 with
          | some l =>
            match optInt env hi n with
            | some h => VSl p ei.size l h c fun q n' c' => k (.slice q n' c')
            | none => False
          | none => False
        | _ => False
      | none => False
    | _ => False
  | none => False

def isSliceT (L : Lay) : List TypeId → Bool
  | [t] =>
    match lay L t with
    | some ti =>
      match ti.td with
      | .slice _ => true
      | _ => false
    | none => false
  | _ => false

def builtinE (L : Lay) (env : Env) (b : Builtin) (args : List Operand) (ts : List TypeId) (k : Value → Prop) : Prop :=
  match b with
  | .len =>
    match isSliceT L ts with
    | true =>
      match evs env args with
      | some [.slice _ n _] => k (.int .i64 n)
      | _ => False
    | false => False
  | .cap =>
    match isSliceT L ts with
    | true =>
      match evs env args with
      | some [.slice _ _ c] => k (.int .i64 c)
      | _ => False
    | false => False
  | .min =>
    match evs env args with
    | some (.int .i64 a :: r) =>
      match minL a r with
      | some c => k (.int .i64 c)
      | none => False
    | _ => False
  | .max =>
    match evs env args with
    | some (.int .i64 a :: r) =>
      match maxL a r with
      | some c => k (.int .i64 c)
      | none => False
    | _ => False
  | _ => False

/-- May the operation be one of these? -/
def isPure : Op → Bool
  | .move _ | .assign _ | .pick .. | .fieldAddr .. | .indexAddr .. | .nilCheck _ | .binOp .. | .unOp .. | .convert .. | .extract .. | .makeFunc .. | .build .. => true
  | .slice _ _ _ _ none => true
  | .call { callee := .builtin .cap, .. } | .call { callee := .builtin .min, .. } | .call { callee := .builtin .max, .. } => true
  | _ => false

def pureE (C : Cx) (op : Op) (env : Env) (k : Value → Prop) : Prop :=
  match op with
  | .move x => valE env x k
  | .assign x => valE env x k
  | .pick c a b => pickE env c a b k
  | .fieldAddr s x f => fieldE C.L env s x f k
  | .indexAddr t x i => indexE C.L env t x i k
  | .nilCheck x => nilE env x k
  | .binOp op t x y _ => binOpE C.L C.eqs env op t x y k
  | .unOp op _ x => unOpE env op x k
  | .convert s d x => convE C.L env s d x k
  | .extract x i => extractE env x i k
  | .makeFunc fn f c => funcE env fn f.toList c.toList k
  | .build t parts => buildE C.L env t parts.toList k
  | .slice t x lo hi none => sliceE C.L env t x lo hi k
  | .call { callee := .builtin b, args, argTypes } => builtinE C.L env b args.toList argTypes.toList k
  | _ => False

end Go.Vx
