/- Vx4: operations that read memory (readE), and that they do it. -/
import Derived.Test.YtbnipfgbfnhibaaVx3
import Derived.MapKept
set_option linter.unusedSimpArgs false
set_option linter.unusedVariables false
namespace Go.Vx
open Go Go.RowKit

/-- The cells from off on in block b are vs. -/
def Cells (w : World) (b off : Nat) (vs : List Value) : Prop := ∀ (j : Nat) (v : Value), vs[j]? = some v → w.cell? ⟨b, off + j, none⟩ = some v

/-- It can be read off the symbolic state that the s cells from off on in block b are vs. -/
inductive Rd (w0 : World) (M : List Nat) (H : HP) (b off s : Nat) : List Value → Prop
  | row {e : TypeId} {cs : List Value} {u : Ent → HP} {r : HP} {vs : List Value} (hat : At H (.row b e cs) u r) (h : sub cs off s = some vs) : Rd w0 M H b off s vs
  | vec {n cap e size : Nat} {xs : List Value} {u : Ent → HP} {r : HP} {vs : List Value} (hat : At H (.vec (some ⟨b, 0, none⟩) n cap e size xs) u r) (h : sub xs off s = some vs) : Rd w0 M H b off s vs
  | old {vs : List Value} (h : Cells w0 b off vs) (hl : vs.length = s) (hM : b ∉ M) : Rd w0 M H b off s vs

theorem cells_row {w : World} {b off s : Nat} {cur : Array Value} {e : TypeId} {fr : Nat × Nat} {cs vs : List Value} (hg : w.heap[b]? = some (.cells cur e fr)) (hc : ∀ (j : Nat) (v : Value), cs[j]? = some v → cur[j]? = some v)
    (h : sub cs off s = some vs) : Cells w b off vs := by
  intro j v hj
  have := hc _ _ ((sub_spec _ _ _ _ h).2 j v hj)
  simp [World.cell?, hg, this]

theorem vec_some {w : World} {a : Addr} {n cap e size : Nat} {xs : List Value} (h : (Ent.vec (some a) n cap e size xs).sat w) :
    ∃ g cur, a = ⟨g, 0, none⟩ ∧ w.heap[g]? = some (.cells cur e (0, 0)) ∧ n ≤ cap ∧ cap ≤ maxLen ∧ cur.size = cap * size ∧ cur.toList.take (n * size) = xs ∧ xs.length = n * size := by
  obtain ⟨h1, h2⟩ := h
  rcases h2 with ⟨h2, _⟩ | ⟨g, c, cur, hv, _, hg, hn, hc, hs, ht⟩
  · cases h2
  · simp only [Value.slice.injEq, Option.some.injEq, true_and] at hv
    obtain ⟨rfl, rfl⟩ := hv
    exact ⟨g, cur, rfl, hg, hn, hc, hs, ht, h1⟩

theorem Rd.len {w0 : World} {M : List Nat} {H : HP} {b off s : Nat} {vs : List Value} (h : Rd w0 M H b off s vs) : vs.length = s := by
  cases h with
  | row hat h => exact (sub_spec _ _ _ _ h).1
  | vec hat h => exact (sub_spec _ _ _ _ h).1
  | old h hl hM => exact hl

theorem Rd.use {w0 : World} {M : List Nat} {H : HP} {w : World} {b off s : Nat} {vs : List Value} (hs : St w0 M H w) (h : Rd w0 M H b off s vs) : Cells w b off vs := by
  cases h with
  | row hat h =>
    have hrow : w.heap[b]? = _ := hs.own _ hat.mem
    exact cells_row hrow (fun j v hj => by simpa using hj) h
  | vec hat h =>
    obtain ⟨g, cur, hg, hh, _, _, _, ht, _⟩ := vec_some (hs.own _ hat.mem)
    cases hg
    refine cells_row hh (fun j v hj => ?_) h
    rw [← ht, List.getElem?_take] at hj
    split at hj
    · simpa using hj
    · cases hj
  | old h hl hM =>
    intro j v hj
    have h1 := h j v hj
    have hlt := block_lt_of_cell h1
    have := hs.old b hlt hM
    rw [World.cell?_of_block (w := w0) (w' := w) (a := ⟨b, off + j, none⟩) this]
    exact h1

theorem Cells.load {P : Program} {w : World} {b off : Nat} {vs : List Value} (h : Cells w b off vs) : (loadCells ⟨b, off, none⟩ vs.length).run P w = .ok vs.toArray w :=
  run_loadCells_list w ⟨b, off, none⟩ vs fun j v hj => by rw [addr_add]; exact h j v hj

inductive VLd (w0 : World) (M : List Nat) (H : HP) (b off s : Nat) (k : List Value → Prop) : Prop
  | mk {vs : List Value} (h : Rd w0 M H b off s vs) (hk : k vs)

def aggT : TD → Bool
  | .struct _ => true
  | .array _ _ => true
  | _ => false

def oneV (vs : List Value) (k : Value → Prop) : Prop :=
  match vs with
  | [v] => k v
  | _ => False

def loadE (L : Lay) (w0 : World) (M : List Nat) (H : HP) (env : Env) (t : TypeId) (x : Operand) (k : Value → Prop) : Prop :=
  match ev env x with
  | some (.pointer (some ⟨b, off, none⟩)) =>
    match lay L t with
    | some ti =>
      match aggT ti.td with
      | true => VLd w0 M H b off ti.size fun vs => k (.agg vs.toArray)
      | false => VLd w0 M H b off 1 fun vs => oneV vs k
    | none => False
  | _ => False

/-! ### Maps with integer keys -/
def mfind : List (Int × Value) → Int → Option Value
  | [], _ => none
  | p :: r, j => if p.1 = j then some p.2 else mfind r j

def mset : List (Int × Value) → Int → Value → List (Int × Value)
  | [], j, v => [(j, v)]
  | p :: r, j, v => if p.1 = j then (j, v) :: r else p :: mset r j v

def mdel : List (Int × Value) → Int → List (Int × Value)
  | [], _ => []
  | p :: r, j => if p.1 = j then r else p :: mdel r j

inductive VLk (m : List (Int × Value)) (j : Int) (k : Option Value → Prop) : Prop
  | has {v : Value} (h : mfind m j = some v) (hk : k (some v))
  | lacks (h : mfind m j = none) (hk : k none)

theorem VLk.use {m : List (Int × Value)} {j : Int} {k : Option Value → Prop} (h : VLk m j k) : k (mfind m j) := by
  cases h with
  | has h hk => rw [h]; exact hk
  | lacks h hk => rw [h]; exact hk

theorem VLk.split {m : List (Int × Value)} {j : Int} {k : Option Value → Prop} (h1 : ∀ v, mfind m j = some v → k (some v)) (h2 : mfind m j = none → k none) : VLk m j k := by
  cases h : mfind m j with
  | none => exact .lacks h (h2 h)
  | some v => exact .has h (h1 v h)

/-- A map is at hand. -/
inductive VMp (w0 : World) (M : List Nat) (H : HP) (b : Nat) (k : List (Int × Value) → Prop) : Prop
  | mk {m : List (Int × Value)} {u : Ent → HP} {r : HP} (hat : At H (.map b m) u r) (hk : k m)
  | old {m : List (Int × Value)} (h : mapIs w0 b m) (hM : b ∉ M) (hk : k m)

theorem mapIs.keep {w0 w : World} {M : List Nat} {H : HP} {b : Nat} {m : List (Int × Value)} (h : mapIs w0 b m) (hs : St w0 M H w) (hM : b ∉ M) : mapIs w b m := by
  obtain ⟨es, cl, h1, h2⟩ := h
  exact ⟨es, cl, by rw [hs.old b (Array.getElem?_eq_some_iff.1 h1).1 hM]; exact h1, h2⟩

theorem VMp.use {w0 : World} {M : List Nat} {H : HP} {b : Nat} {k : List (Int × Value) → Prop} (h : VMp w0 M H b k) : ∃ m, k m ∧ ∀ w, St w0 M H w → mapIs w b m := by
  cases h with
  | @mk m u r hat hk => exact ⟨m, hk, fun w hw => hw.own _ hat.mem⟩
  | @old m h hM hk => exact ⟨m, hk, fun w hw => h.keep hw hM⟩

def found (ok : Bool) (zero : Value) (x : Option Value) (k : Value → Prop) : Prop :=
  match x with
  | some v =>
    match ok with
    | true => k (.tuple #[v, .bool true])
    | false => k v
  | none =>
    match ok with
    | true => k (.tuple #[zero, .bool false])
    | false => k zero

def mapT (L : Lay) (t : TypeId) : Option TypeId :=
  match lay L t with
  | some ti =>
    match ti.td with
    | .map kt et =>
      match lay L kt with
      | some ki =>
        match ki.td with
        | .int .i64 => some et
        | _ => none
      | none => none
    | _ => none
  | none => none

def lookE (L : Lay) (w0 : World) (M : List Nat) (H : HP) (env : Env) (t : TypeId) (x i : Operand) (ok : Bool) (k : Value → Prop) : Prop :=
  match mapT L t with
  | some et =>
    match lay L et with
    | some ei =>
      match ev env i with
      | some (.int .i64 j) =>
        match ev env x with
        | some (.map none) => found ok ei.zero none k
        | some (.map (some b)) => VMp w0 M H b fun m => VLk m j fun r => found ok ei.zero r k
        | _ => False
      | _ => False
    | none => False
  | none => False

def lenMapE (L : Lay) (w0 : World) (M : List Nat) (H : HP) (env : Env) (args : List Operand) (ts : List TypeId) (k : Value → Prop) : Prop :=
  match ts with
  | [t] =>
    match mapT L t with
    | some _ =>
      match evs env args with
      | some [.map none] => k (.int .i64 0)
      | some [.map (some b)] => VMp w0 M H b fun m => k (.int .i64 m.length)
      | _ => False
    | none => False
  | _ => False

def readE (C : Cx) (w0 : World) (M : List Nat) (H : HP) (op : Op) (env : Env) (k : Value → Prop) : Prop :=
  match op with
  | .load t x => loadE C.L w0 M H env t x k
  | .lookup t x i ok => lookE C.L w0 M H env t x i ok k
  | .call { callee := .builtin .len, args, argTypes } =>
    match isSliceT C.L argTypes.toList with
    | true => builtinE C.L env .len args.toList argTypes.toList k
    | false => lenMapE C.L w0 M H env args.toList argTypes.toList k
  | _ => False

/-! ### Soundness -/
def mIdx : List (Int × Value) → Int → Option Nat
  | [], _ => none
  | p :: r, j => if p.1 = j then some 0 else (mIdx r j).map (· + 1)

theorem mIdx_none : ∀ {m : List (Int × Value)} {j : Int}, mIdx m j = none → mfind m j = none ∧ mset m j = fun v => m ++ [(j, v)]
  | [], j, _ => ⟨rfl, rfl⟩
  | p :: r, j, h => by
    simp only [mIdx] at h
    split at h
    · cases h
    · rename_i hne
      have := mIdx_none (m := r) (j := j) (by simpa using h)
      exact ⟨by simp [mfind, hne, this.1], by funext v; simp [mset, hne, this.2]⟩

theorem mIdx_some : ∀ {m : List (Int × Value)} {j : Int} {i : Nat}, mIdx m j = some i → ∃ v, m[i]? = some (j, v) ∧ mfind m j = some v ∧ (∀ u, mset m j u = m.set i (j, u)) ∧ mdel m j = m.eraseIdx i
  | [], j, i, h => by simp [mIdx] at h
  | p :: r, j, i, h => by
    simp only [mIdx] at h
    split at h
    · rename_i he
      cases h
      obtain ⟨p1, p2⟩ := p
      simp only at he
      subst he
      exact ⟨p2, by simp, by simp [mfind], by simp [mset], by simp [mdel]⟩
    · rename_i hne
      cases hi : mIdx r j with
      | none => simp [hi] at h
      | some i' =>
        simp only [hi, Option.map_some, Option.some.injEq] at h
        subst h
        obtain ⟨v, h1, h2, h3, h4⟩ := mIdx_some hi
        exact ⟨v, by simpa using h1, by simp [mfind, hne, h2], fun u => by simp [mset, hne, h3], by simp [mdel, hne, h4]⟩

theorem findNow_map (j : Int) : ∀ (es : List MapEntry) (m : List (Int × Value)) (i : Nat), es.map (fun x => (x.key, x.val)) = m.map (fun x => (Value.int .i64 x.1, x.2)) →
    Instr.findNow (.int .i64) (.int .i64 j) es i = some (match mIdx m j with | none => none | some q => (mfind m j).map fun v => (i + q, v))
  | [], m, i, h => by
    cases m with
    | nil => simp [Instr.findNow, mIdx]
    | cons p r => simp at h
  | e :: es, m, i, h => by
    cases m with
    | nil => simp at h
    | cons p r =>
      simp only [List.map_cons, List.cons.injEq, Prod.mk.injEq] at h
      obtain ⟨⟨hk, hv⟩, hr⟩ := h
      have ih := findNow_map j es r (i + 1) hr
      simp only [Instr.findNow, hk, Instr.sameNow, if_true]
      by_cases hj : p.1 = j
      · have : (j == p.1) = true := by simp [hj]
        simp only [this, mIdx, mfind, hj, if_true]
        simp [hv]
      · have : (j == p.1) = false := by simp [Ne.symm hj]
        simp only [this, ih, mIdx, mfind, hj, if_false]
        cases mIdx r j with
        | none => rfl
        | some q => simp only [Option.map_some]; cases mfind r j <;> simp [Nat.add_assoc, Nat.add_comm 1 q]

theorem mapT_spec {P : Program} {L : Lay} (hL : LayOk P L) {t et : TypeId} (h : mapT L t = some et) : ∃ kt, P.underlying t = some (.map kt et) ∧ P.underlying kt = some (.int .i64) := by
  unfold mapT at h
  cases h1 : lay L t with
  | none => simp [h1] at h
  | some ti =>
    simp only [h1] at h
    cases h2 : ti.td <;> simp only [h2] at h <;> try (cases h; done)
    rename_i kt et'
    cases h3 : lay L kt with
    | none => simp [h3] at h
    | some ki =>
      simp only [h3] at h
      split at h
      · rename_i h4
        cases h
        exact ⟨kt, (hL.at h1).map h2, (hL.at h3).int h4⟩
      · cases h

theorem found_use {ok : Bool} {zero : Value} {x : Option Value} {k : Value → Prop} (h : found ok zero x k) :
    k (if ok then .tuple #[x.getD zero, .bool x.isSome] else x.getD zero) := by
  cases x <;> cases ok <;> simpa [found] using h

theorem run_lookup_map {P : Program} {t kt et : TypeId} {i : TypeInfo} {z : Value} (hm : P.underlying t = some (.map kt et)) (hk : P.underlying kt = some (.int .i64)) (hi : P.info? et = some i) (hz : i.zero = some z)
    {w : World} {b : Nat} {m : List (Int × Value)} (hb : mapIs w b m) (j : Int) (ok : Bool) :
    (Instr.lookup t (.map (some b)) (.int .i64 j) ok).run P w = .ok (if ok then .tuple #[(mfind m j).getD z, .bool (mfind m j).isSome] else (mfind m j).getD z) w := by
  obtain ⟨es, clock, h1, h2⟩ := hb
  have hkey : MapKept.IsKey (.int .i64) (.int .i64 j) := rfl
  have hf := findNow_map j es.toList m 0 h2
  have hfk := MapKept.run_findKey (P := P) (w := w) hk hf
  have hck : ∀ e, (Instr.checkKey e 10000 kt (.int .i64 j)).run P w = .ok () w := fun e => MapKept.run_checkKey hk hkey e 9999
  cases hx : mIdx m j with
  | none =>
    rw [hx] at hfk
    simp [Instr.lookup, run_underlying hm, MapKept.run_getObj_map h1, hck, hfk, (mIdx_none hx).1, zeroValue, typeInfo, hi, hz]
  | some q =>
    obtain ⟨v, _, hv, _⟩ := mIdx_some hx
    rw [hx] at hfk
    simp only [hv, Option.map_some] at hfk
    simp [Instr.lookup, run_underlying hm, MapKept.run_getObj_map h1, hck, hfk, hv]

theorem run_lookup_nil {P : Program} {t kt et : TypeId} {i : TypeInfo} {z : Value} (hm : P.underlying t = some (.map kt et)) (hk : P.underlying kt = some (.int .i64)) (hi : P.info? et = some i) (hz : i.zero = some z)
    {w : World} (j : Int) (ok : Bool) :
    (Instr.lookup t (.map none) (.int .i64 j) ok).run P w = .ok (if ok then .tuple #[z, .bool false] else z) w := by
  have hkey : MapKept.IsKey (.int .i64) (.int .i64 j) := rfl
  have hfk := MapKept.run_findKey (P := P) (w := w) (l := []) (k := .int .i64 j) (a := none) hk rfl
  have hck : ∀ e, (Instr.checkKey e 10000 kt (.int .i64 j)).run P w = .ok () w := fun e => MapKept.run_checkKey hk hkey e 9999
  simp [Instr.lookup, run_underlying hm, hck, hfk, zeroValue, typeInfo, hi, hz]

theorem aggT_run {P : Program} {t : TypeId} {ti : TI} (h : ti.ok P t) (w : World) : (isAgg t).run P w = .ok (aggT ti.td) w := by
  obtain ⟨d, hu, hs⟩ := h.under
  cases d <;> simp [isAgg, run_underlying hu, ← hs, shapeOf, aggT]

theorem readE_use {C : Cx} {n : Nat} {env : Env} {a : Act} {o : Oper} {w0 : World} {M : List Nat} {H : HP} {k : Value → Prop} (hr : Rep n env a) (h : readE C w0 M H o.op env k) :
    ∃ v, k v ∧ ∀ w, St w0 M H w → (execOp a.eval o).run C.P w = .ok (.value v) w := by
  obtain ⟨dst, op, type, pos, after, guard⟩ := o
  simp only at h
  unfold readE at h
  split at h
  · rename_i t x
    unfold loadE at h
    split at h
    · rename_i b off h1
      cases h2 : lay C.L t with
      | none => simp [h2] at h
      | some ti =>
        simp only [h2] at h
        have hok := C.okL.at h2
        obtain ⟨ii, hi, hi1, _, _⟩ := hok.info'
        cases h3 : aggT ti.td with
        | true =>
          simp only [h3] at h
          cases h with
          | mk hrd hk =>
            refine ⟨_, hk, fun w hw => ?_⟩
            have hload := (hrd.use hw).load (P := C.P)
            rw [hrd.len] at hload
            simp [execOp, hr.eval h1, Instr.loadAt, Instr.sureAddr, loadVar, aggT_run hok, h3, sizeOf, typeInfo, hi, hi1, hload]
        | false =>
          simp only [h3] at h
          cases h with
          | @mk vs hrd hk =>
            unfold oneV at hk
            split at hk
            · rename_i v
              refine ⟨v, hk, fun w hw => ?_⟩
              have := hrd.use hw 0 v rfl
              simp only [Nat.add_zero] at this
              simp [execOp, hr.eval h1, Instr.loadAt, Instr.sureAddr, loadVar, aggT_run hok, h3, load, Sem.run, this]
            · exact hk.elim
    · exact h.elim
  · rename_i t x i ok
    unfold lookE at h
    cases h1 : mapT C.L t with
    | none => simp [h1] at h
    | some et =>
      simp only [h1] at h
      obtain ⟨kt, hm, hkt⟩ := mapT_spec C.okL h1
      cases h2 : lay C.L et with
      | none => simp [h2] at h
      | some ei =>
        simp only [h2] at h
        obtain ⟨ii, hi, _, _, hz⟩ := (C.okL.at h2).info'
        split at h
        · rename_i j h3
          split at h
          · rename_i h4
            have := found_use h
            refine ⟨_, this, fun w hw => ?_⟩
            have hrun := run_lookup_nil (P := C.P) hm hkt hi hz (w := w) j ok
            simp only [execOp, hr.eval h3, hr.eval h4, Sem.run_bind, hrun, Result.andThen_ok, Sem.run_pure]
            cases ok <;> simp
          · rename_i b h4
            obtain ⟨m, hk, hmap⟩ := h.use
            · have := found_use hk.use
              refine ⟨_, this, fun w hw => ?_⟩
              have hrun := run_lookup_map (P := C.P) hm hkt hi hz (w := w) (b := b) (m := m) (hmap w hw) j ok
              simp only [execOp, hr.eval h3, hr.eval h4, Sem.run_bind, hrun, Result.andThen_ok, Sem.run_pure]
          · exact h.elim
        · exact h.elim
  · rename_i args ts
    split at h
    · have hp : pureE C (.call { callee := .builtin .len, args := args, argTypes := ts }) env k := h
      obtain ⟨v, h1, h2⟩ := pureE_use (o := ⟨dst, .call { callee := .builtin .len, args := args, argTypes := ts }, type, pos, after, guard⟩) hr hp
      exact ⟨v, h1, fun w _ => h2 w⟩
    · unfold lenMapE at h
      split at h
      · rename_i t hts
        have hts' : ts = #[t] := Array.toList_inj.1 (by simpa using hts)
        subst hts'
        cases h1 : mapT C.L t with
        | none => simp [h1] at h
        | some et =>
          simp only [h1] at h
          obtain ⟨kt, hm, hkt⟩ := mapT_spec C.okL h1
          split at h
          · rename_i h2
            exact ⟨_, h, fun w _ => by simp [execOp, resolve, invoke, builtin, evs_two hr h2, Builtin.len_, run_underlying hm, goInt]⟩
          · rename_i b h2
            obtain ⟨m, hk, hmap⟩ := h.use
            · refine ⟨_, hk, fun w hw => ?_⟩
              obtain ⟨es, clock, hb, hes⟩ := hmap w hw
              have hsz : (es.size : Int) = m.length := by have := congrArg List.length hes; simp at this; omega
              simp [execOp, resolve, invoke, builtin, evs_two hr h2, Builtin.len_, run_underlying hm, goInt, MapKept.run_getObj_map hb, hsz]
          · exact h.elim
      · exact h.elim
  · exact h.elim

end Go.Vx
