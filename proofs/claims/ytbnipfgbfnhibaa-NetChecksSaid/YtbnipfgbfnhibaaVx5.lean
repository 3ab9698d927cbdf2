/- Vx5: operations that write or make memory, and calls (effE), and that they do it. -/
import Derived.Test.YtbnipfgbfnhibaaVx4
set_option linter.unusedSimpArgs false
set_option linter.unusedVariables false
namespace Go.Vx
open Go Go.RowKit

/-- A new block. -/
inductive VNew (k : Nat → Prop) : Prop
  | mk (h : ∀ b, k b)

def boxE (env : Env) (H : HP) (e : TypeId) (x : Operand) (K : Value → HP → Prop) : Prop :=
  match ev env x with
  | some v => VNew fun b => K (.pointer (some ⟨b, 0, none⟩)) (.row b e (cellsL v) :: H)
  | none => False

def allocE (L : Lay) (H : HP) (e : TypeId) (K : Value → HP → Prop) : Prop :=
  match lay L e with
  | some ei => VNew fun b => K (.pointer (some ⟨b, 0, none⟩)) (.row b e (cellsL ei.zero) :: H)
  | none => False

/-- n times the cells of a zero. -/
def repL (zs : List Value) : Nat → List Value
  | 0 => []
  | n + 1 => zs ++ repL zs n

def fillS (size : Nat) : List (Nat × Value) → List Value → Option (List Value)
  | [], cs => some cs
  | (i, v) :: r, cs =>
    match Nat.beq (lenL (cellsL v)) size with
    | true =>
      match upd cs (i * size) (cellsL v) with
      | some cs' => fillS size r cs'
      | none => none
    | false => none

def buildSliceE (L : Lay) (env : Env) (H : HP) (t : TypeId) (len : Nat) (parts : List (Nat × Operand)) (K : Value → HP → Prop) : Prop :=
  match lay L t with
  | some ti =>
    match ti.td with
    | .slice e =>
      match lay L e with
      | some ei =>
        match evp env parts with
        | some ps =>
          match Nat.beq (lenL (cellsL ei.zero)) ei.size with
          | true =>
            match Nat.ble (len * ei.size + len) 1000 with
            | true =>
              match fillS ei.size ps (repL (cellsL ei.zero) len) with
              | some cs => VNew fun b => K (.slice (some ⟨b, 0, none⟩) len len) (.vec (some ⟨b, 0, none⟩) len len e ei.size cs :: H)
              | none => False
            | false => False
          | false => False
        | none => False
      | none => False
    | _ => False
  | none => False

/-- make([]T, l, c). -/
inductive VMk (bytes : Nat) (l c : Int) (k : Nat → Prop) : Prop
  | mk (h1 : 0 ≤ l) (h2 : l ≤ c) (h3 : bytes * c ≤ 281474976710656) (h4 : c ≤ 9223372036854775807) (hk : ∀ b, k b)

def makeSliceE (L : Lay) (env : Env) (H : HP) (t : TypeId) (x y : Operand) (K : Value → HP → Prop) : Prop :=
  match lay L t with
  | some ti =>
    match ti.td with
    | .slice e =>
      match lay L e with
      | some ei =>
        match Nat.beq (lenL (cellsL ei.zero)) ei.size with
        | true =>
          match ev env x with
          | some (.int _ l) =>
            match ev env y with
            | some (.int _ c) =>
              VMk ei.bytes l c fun b => K (.slice (some ⟨b, 0, none⟩) l.toNat c.toNat) (.vec (some ⟨b, 0, none⟩) l.toNat c.toNat e ei.size (repL (cellsL ei.zero) l.toNat) :: H)
            | _ => False
          | _ => False
        | false => False
      | none => False
    | _ => False
  | none => False

def makeMapE (H : HP) (K : Value → HP → Prop) : Prop := VNew fun b => K (.map (some b)) (.map b [] :: H)

def oneAll : List Value → Bool
  | [] => true
  | v :: r =>
    match v.oneCell' with
    | true => oneAll r
    | false => false

theorem oneAll_spec : ∀ {vs : List Value}, oneAll vs = true → ∀ v ∈ vs, v.oneCell' = true
  | [], _, v, hv => by simp at hv
  | x :: r, h, v, hv => by
    simp only [oneAll] at h
    cases hx : x.oneCell' with
    | false => simp [hx] at h
    | true =>
      simp only [hx] at h
      simp only [List.mem_cons] at hv
      rcases hv with rfl | hv
      · exact hx
      · exact oneAll_spec h v hv

inductive VSt (H : HP) (b off : Nat) (vs : List Value) (k : HP → Prop) : Prop
  | row {e : TypeId} {cs cs' : List Value} {u : Ent → HP} {r : HP} (hat : At H (.row b e cs) u r) (h : upd cs off vs = some cs') (h1 : oneAll vs = true) (hk : k (u (.row b e cs')))
  | vec {n cap e size : Nat} {xs xs' : List Value} {u : Ent → HP} {r : HP} (hat : At H (.vec (some ⟨b, 0, none⟩) n cap e size xs) u r) (h : upd xs off vs = some xs') (h1 : oneAll vs = true) (hk : k (u (.vec (some ⟨b, 0, none⟩) n cap e size xs')))

def storeE (L : Lay) (env : Env) (H : HP) (t : TypeId) (x y : Operand) (K : Value → HP → Prop) : Prop :=
  match ev env x with
  | some (.pointer (some ⟨b, off, none⟩)) =>
    match ev env y with
    | some v =>
      match lay L t with
      | some ti =>
        match Nat.beq (lenL (cellsL v)) ti.size with
        | true =>
          VSt H b off (cellsL v) fun H' => K undef H'
        | false => False
      | none => False
    | none => False
  | _ => False

inductive VMpU (H : HP) (b : Nat) (k : List (Int × Value) → (Ent → HP) → Prop) : Prop
  | mk {m : List (Int × Value)} {u : Ent → HP} {r : HP} (hat : At H (.map b m) u r) (hk : k m u)

def mapUpdE (L : Lay) (env : Env) (H : HP) (t : TypeId) (m i x : Operand) (K : Value → HP → Prop) : Prop :=
  match mapT L t with
  | some _ =>
    match ev env m with
    | some (.map (some b)) =>
      match ev env i with
      | some (.int .i64 j) =>
        match ev env x with
        | some v => VMpU H b fun mm u => K undef (u (.map b (mset mm j v)))
        | none => False
      | _ => False
    | _ => False
  | none => False

def deleteE (L : Lay) (env : Env) (H : HP) (args : List Operand) (ts : List TypeId) (K : Value → HP → Prop) : Prop :=
  match ts with
  | t :: _ =>
    match mapT L t with
    | some _ =>
      match evs env args with
      | some [.map (some b), .int .i64 j] => VMpU H b fun mm u => K (.tuple #[]) (u (.map b (mdel mm j)))
      | _ => False
    | none => False
  | [] => False

/-- The first m elements behind q are news. -/
inductive Src (w0 : World) (M : List Nat) (H : HP) : Option Addr → Nat → Nat → List Value → Prop
  | empty {size : Nat} : Src w0 M H none 0 size []
  | none0 {b off size : Nat} : Src w0 M H (some ⟨b, off, none⟩) 0 size []
  | at_ {b off m size : Nat} {news : List Value} (h : Rd w0 M H b off (m * size) news) : Src w0 M H (some ⟨b, off, none⟩) m size news

inductive VAp (w0 : World) (M : List Nat) (H : HP) (p : Option Addr) (n cap e size bytes : Nat) (q : Option Addr) (m : Nat) (K : Value → HP → Prop) : Prop
  | own {xs news : List Value} {u : Ent → HP} {r : HP} (hat : At H (.vec p n cap e size xs) u r) (hs : Src w0 M H q m size news) (h1 : ∀ v ∈ news, v.oneCell' = true)
      (hb : (n + m) * bytes ≤ 140737488355328) (h63 : n + m ≤ maxLen) (hk : ∀ p' cap', (0 < n + m → ∃ b, p' = some ⟨b, 0, none⟩) → K (.slice p' (n + m) cap') (.vec p' (n + m) cap' e size (xs ++ news) :: r))
  | nil {news : List Value} (hp : p = none) (hn : n = 0) (hc : cap = 0) (hs : Src w0 M H q m size news) (h1 : ∀ v ∈ news, v.oneCell' = true)
      (hb : m * bytes ≤ 140737488355328) (h63 : m ≤ maxLen) (hk : ∀ p' cap', (0 < m → ∃ b, p' = some ⟨b, 0, none⟩) → K (.slice p' m cap') (.vec p' m cap' e size news :: H))

def appendE (L : Lay) (w0 : World) (M : List Nat) (env : Env) (H : HP) (args : List Operand) (ts : List TypeId) (K : Value → HP → Prop) : Prop :=
  match ts with
  | [t, t'] =>
    match Nat.beq t t' with
    | true =>
      match lay L t with
      | some ti =>
        match ti.td with
        | .slice e =>
          match lay L e with
          | some ei =>
            match Nat.beq (lenL (cellsL ei.zero)) ei.size with
            | true =>
              match Nat.ble 1 ei.size with
              | true =>
                match evs env args with
                | some [.slice p n cap, .slice q m _] => VAp w0 M H p n cap e ei.size ei.bytes q m K
                | _ => False
              | false => False
            | false => False
          | none => False
        | _ => False
      | none => False
    | false => False
  | _ => False

inductive VCp (w0 : World) (M : List Nat) (H : HP) (p : Option Addr) (n cap e size : Nat) (q : Option Addr) (m : Nat) (K : Value → HP → Prop) : Prop
  | own {xs news : List Value} {u : Ent → HP} {r : HP} (hat : At H (.vec p n cap e size xs) u r) (hs : Src w0 M H q (min m n) size news) (h1 : ∀ v ∈ news, v.oneCell' = true)
      (hk : K (.int .i64 (min m n : Nat)) (u (.vec p n cap e size (news ++ xs.drop (min m n * size)))))
  | zero (h : min m n = 0) (hk : K (.int .i64 0) H)

def copyE (L : Lay) (w0 : World) (M : List Nat) (env : Env) (H : HP) (args : List Operand) (ts : List TypeId) (K : Value → HP → Prop) : Prop :=
  match ts with
  | [t, _] =>
    match lay L t with
    | some ti =>
      match ti.td with
      | .slice e =>
        match lay L e with
        | some ei =>
          match evs env args with
          | some [.slice p n cap, .slice q m _] => VCp w0 M H p n cap e ei.size q m K
          | _ => False
        | none => False
      | _ => False
    | none => False
  | _ => False

inductive VCl (H : HP) (p : Option Addr) (n cap e size : Nat) (zs : List Value) (K : Value → HP → Prop) : Prop
  | own {xs : List Value} {u : Ent → HP} {r : HP} (hat : At H (.vec p n cap e size xs) u r) (hk : K (.tuple #[]) (u (.vec p n cap e size (repL zs n))))

def clearE (L : Lay) (env : Env) (H : HP) (args : List Operand) (ts : List TypeId) (K : Value → HP → Prop) : Prop :=
  match ts with
  | [t] =>
    match lay L t with
    | some ti =>
      match ti.td with
      | .slice e =>
        match lay L e with
        | some ei =>
          match Nat.beq (lenL (cellsL ei.zero)) ei.size with
          | true =>
            match oneAll (cellsL ei.zero) with
            | true =>
              match evs env args with
              | some [.slice p n cap] => VCl H p n cap e ei.size (cellsL ei.zero) K
              | _ => False
            | false => False
          | false => False
        | none => False
      | _ => False
    | none => False
  | _ => False

/-- A call of function f: a contract is asked for. -/
inductive VCall (P : Program) (w0 : World) (M : List Nat) (H : HP) (f : Nat) (args : List Value) (K : Value → HP → Prop) : Prop
  | mk (h : ∀ w, St w0 M H w → Calls P f args.toArray w fun e w' => ∃ v H', e = .returned v ∧ St w0 M H' w' ∧ K v H')

def callE (C : Cx) (w0 : World) (M : List Nat) (env : Env) (H : HP) (f : Operand) (args : List Operand) (K : Value → HP → Prop) : Prop :=
  match ev env f with
  | some (.func (.func g) first captured) =>
    match memB C.fns g with
    | true =>
      match evs env args with
      | some vs => VCall C.P w0 M H g (first.toList ++ (vs ++ captured.toList)) K
      | none => False
    | false => False
  | _ => False

def effE (C : Cx) (w0 : World) (M : List Nat) (H : HP) (op : Op) (env : Env) (K : Value → HP → Prop) : Prop :=
  match op with
  | .box e x => boxE env H e x K
  | .alloc e => allocE C.L H e K
  | .buildSlice t len parts => buildSliceE C.L env H t len parts.toList K
  | .makeSlice t l c => makeSliceE C.L env H t l c K
  | .makeMap _ none => makeMapE H K
  | .store t x y => storeE C.L env H t x y K
  | .mapUpdate t m i x => mapUpdE C.L env H t m i x K
  | .call { callee := .builtin .append, args, argTypes } => appendE C.L w0 M env H args.toList argTypes.toList K
  | .call { callee := .builtin .copy, args, argTypes } => copyE C.L w0 M env H args.toList argTypes.toList K
  | .call { callee := .builtin .clear, args, argTypes } => clearE C.L env H args.toList argTypes.toList K
  | .call { callee := .builtin .delete, args, argTypes } => deleteE C.L env H args.toList argTypes.toList K
  | .call { callee := .value f, args, .. } => callE C w0 M env H f args.toList K
  | _ => False

end Go.Vx
