/- Vx7: what effE says of an operation, it does. -/
import Derived.Test.YtbnipfgbfnhibaaVx6
set_option linter.unusedSimpArgs false
set_option linter.unusedVariables false
namespace Go.Vx
open Go Go.RowKit

section
variable {C : Cx} {n : Nat} {env : Env} {a : Act} {w0 w : World} {M : List Nat} {H : HP} {K : Value → HP → Prop}

theorem st_map {b : Nat} {m m' : List (Int × Value)} {r : HP} {es' : Array MapEntry} {clock' : Nat} (hs : St w0 M (.map b m :: r) w)
    (he : es'.toList.map (fun x => (x.key, x.val)) = m'.map (fun x => (Value.int .i64 x.1, x.2))) : St w0 M (.map b m' :: r) { w with heap := w.heap.setIfInBounds b (.map es' clock') } := by
  obtain ⟨es, clock, h1, h2⟩ := hs.own (.map b m) (by simp)
  have hset := MapKept.heap_set (o' := .map es' clock') h1
  refine hs.step rfl rfl rfl (by simp) (fun c hc hne => hset.2 c (fun e => hne (by simp [Ent.id, e]))) ⟨es', clock', hset.1, he⟩ (fun c hc => .inl hc)

theorem vec_ptr {w : World} {p : Option Addr} {n cap e size : Nat} {xs : List Value} (h : (Ent.vec p n cap e size xs).sat w) (hn : 0 < n) : ∃ b, p = some ⟨b, 0, none⟩ := by
  cases p with
  | none =>
    obtain ⟨_, h2⟩ := h
    rcases h2 with ⟨_, h2⟩ | ⟨g, c, cur, hv, _⟩
    · have : n = 0 := by simpa using h2
      omega
    · cases hv
  | some a =>
    obtain ⟨g, cur, hg, _⟩ := vec_some h
    exact ⟨g, by rw [hg]⟩

theorem mapUpdate_run {P : Program} {t kt et : TypeId} (hm : P.underlying t = some (.map kt et)) (hk : P.underlying kt = some (.int .i64)) {b : Nat} {m : List (Int × Value)} {r : HP} (hs : St w0 M (.map b m :: r) w) (j : Int) (v : Value) :
    ∃ w', (Instr.mapUpdate t (.map (some b)) (.int .i64 j) v).run P w = .ok () w' ∧ St w0 M (.map b (mset m j v) :: r) w' := by
  obtain ⟨es, clock, h1, h2⟩ := hs.own (.map b m) (by simp)
  have hkey : MapKept.IsKey (.int .i64) (.int .i64 j) := rfl
  have hf := findNow_map j es.toList m 0 h2
  have hfk := MapKept.run_findKey (P := P) (w := w) hk hf
  have hck : ∀ e, (Instr.checkKey e 10000 kt (.int .i64 j)).run P w = .ok () w := fun e => MapKept.run_checkKey hk hkey e 9999
  cases hx : mIdx m j with
  | none =>
    rw [hx] at hfk
    refine ⟨{ w with heap := w.heap.setIfInBounds b (.map (es.push { key := .int .i64 j, val := v, born := clock }) (clock + 1)) }, ?_, st_map hs ?_⟩
    · simp [Instr.mapUpdate, run_underlying hm, MapKept.run_getObj_map h1, hck, hfk, MapKept.run_setObj_map _ h1]
    · rw [(mIdx_none hx).2]
      simp [h2]
  | some q =>
    obtain ⟨u, hq, hv, hset, _⟩ := mIdx_some hx
    rw [hx] at hfk
    simp only [hv, Option.map_some, Nat.zero_add] at hfk
    have hkq : ∃ e, es[q]? = some e ∧ e.key = .int .i64 j := by
      have := congrArg (fun l => l[q]?) h2
      simp only [List.getElem?_map, hq, Option.map_some] at this
      cases he : es.toList[q]? with
      | none => simp [he] at this
      | some e => simp [he] at this; exact ⟨e, by simpa using he, this.1⟩
    obtain ⟨e, he, hek⟩ := hkq
    refine ⟨{ w with heap := w.heap.setIfInBounds b (.map (es.modify q fun e => { e with key := .int .i64 j, val := v }) clock) }, ?_, st_map hs ?_⟩
    · simp [Instr.mapUpdate, run_underlying hm, MapKept.run_getObj_map h1, hck, hfk, he, hek, MapKept.run_keyThatStays hkey, MapKept.run_setObj_map _ h1]
    · rw [hset]
      apply List.ext_getElem?
      intro i
      have := congrArg (fun l => l[i]?) h2
      simp only [List.getElem?_map] at this
      simp only [List.getElem?_map, Array.toList_modify, List.getElem?_modify, List.getElem?_set]
      by_cases hi : q = i
      · subst hi
        have hlt : q < m.length := (List.getElem?_eq_some_iff.1 hq).1
        have he' : es.toList[q]? = some e := by simpa using he
        simp [he', hlt]
      · simp only [hi, if_false]
        cases hes : es.toList[i]? <;> simp [hes] at this ⊢ <;> exact this

theorem delete_run {P : Program} {t ty kt et : TypeId} (hm : P.underlying t = some (.map kt et)) (hk : P.underlying kt = some (.int .i64)) {b : Nat} {m : List (Int × Value)} {r : HP} (hs : St w0 M (.map b m :: r) w) (j : Int) (ts : List TypeId) :
    ∃ w', (Builtin.delete_ (t :: ts).toArray ty #[.map (some b), .int .i64 j]).run P w = .ok (.tuple #[]) w' ∧ St w0 M (.map b (mdel m j) :: r) w' := by
  obtain ⟨es, clock, h1, h2⟩ := hs.own (.map b m) (by simp)
  have hkey : MapKept.IsKey (.int .i64) (.int .i64 j) := rfl
  have hf := findNow_map j es.toList m 0 h2
  have hfk := MapKept.run_findKey (P := P) (w := w) hk hf
  have hck : ∀ e, (Instr.checkKey e 10000 kt (.int .i64 j)).run P w = .ok () w := fun e => MapKept.run_checkKey hk hkey e 9999
  cases hx : mIdx m j with
  | none =>
    rw [hx] at hfk
    refine ⟨{ w with heap := w.heap.setIfInBounds b (.map es clock) }, ?_, st_map hs ?_⟩
    · simp [Builtin.delete_, run_underlying hm, MapKept.run_getObj_map h1, hck, hfk, MapKept.run_setObj_map _ h1]
    · have : ∀ {m : List (Int × Value)}, mIdx m j = none → mdel m j = m := by
        intro m
        induction m with
        | nil => simp [mdel]
        | cons p r ih =>
          intro h
          simp only [mIdx] at h
          split at h
          · cases h
          · rename_i hne; simp only [mdel, hne, if_false]; rw [ih (by simpa using h)]
      rw [this hx, h2]
  | some q =>
    obtain ⟨u, hq, hv, _, hdel⟩ := mIdx_some hx
    rw [hx] at hfk
    simp only [hv, Option.map_some, Nat.zero_add] at hfk
    refine ⟨{ w with heap := w.heap.setIfInBounds b (.map (es.eraseIdxIfInBounds q) clock) }, ?_, st_map hs ?_⟩
    · simp [Builtin.delete_, run_underlying hm, MapKept.run_getObj_map h1, hck, hfk, MapKept.run_setObj_map _ h1]
    · rw [hdel]
      have hme : ∀ {α β : Type} (f : α → β) (l : List α) (i : Nat), (l.eraseIdx i).map f = (l.map f).eraseIdx i := by
        intro α β f l
        induction l with
        | nil => intro i; simp
        | cons x r ih => intro i; cases i <;> simp [ih]
      rw [hme, ← h2, ← hme]
      simp

theorem callFunc_run {P : Program} {f : Nat} {fn : Func} (h1 : P.funcs[f]? = some fn) (h2 : fn.body.isNone = false) (h3 : (fn.name == "runtime.NumGoroutine") = false) (args : Array Value) (w : World) :
    (callFunc f args).run P w = .ok (.enter f args) w := by
  simp only [callFunc, Sem.run_bind, run_program, Result.andThen_ok, h1, h2, h3, Bool.false_eq_true, if_false, Sem.run_pure]

/-- **What effE says of an operation, it does.** -/
theorem effE_use {o : Oper} (hr : Rep n env a) (hs : St w0 M H w) (h : effE C w0 M H o.op env K) :
    o.wp C.P a w (After w0 M o a K) Never := by
  obtain ⟨dst, op, type, pos, after, guard⟩ := o
  simp only at h
  unfold effE at h
  split at h
  · -- box
    rename_i e x
    unfold boxE at h
    cases h1 : ev env x with
    | none => simp [h1] at h
    | some v =>
      simp only [h1] at h
      cases h with
      | mk h =>
        refine wp_value (v := .pointer (some ⟨w.heap.size, 0, none⟩)) (w' := w.alloc (.cells v.cells e)) ?_ ⟨_, _, rfl, st_alloc (y := .row w.heap.size e (cellsL v)) hs (fun w' hw' => ?_) (by simp [Ent.id]), h _⟩
        · simp [execOp, hr.eval h1, Instr.box, newVar, newRow]
        · show w'.heap[_]? = _
          rw [hw', ← cellsL_eq]
  · -- alloc
    rename_i e
    unfold allocE at h
    cases h1 : lay C.L e with
    | none => simp [h1] at h
    | some ei =>
      simp only [h1] at h
      obtain ⟨ii, hi, _, _, hz⟩ := (C.okL.at h1).info'
      cases h with
      | mk h =>
        refine wp_value (v := .pointer (some ⟨w.heap.size, 0, none⟩)) (w' := w.alloc (.cells ei.zero.cells e)) ?_ ⟨_, _, rfl, st_alloc (y := .row w.heap.size e (cellsL ei.zero)) hs (fun w' hw' => ?_) (by simp [Ent.id]), h _⟩
        · simp [execOp, Instr.alloc, zeroValue, typeInfo, hi, hz, newVar, newRow]
        · show w'.heap[_]? = _
          rw [hw', ← cellsL_eq]
  · -- buildSlice
    rename_i t len parts
    unfold buildSliceE at h
    cases h1 : lay C.L t with
    | none => simp [h1] at h
    | some ti =>
      simp only [h1] at h
      cases h2 : ti.td <;> simp only [h2] at h <;> try (exact h.elim)
      rename_i e
      have hu := (C.okL.at h1).slice h2
      cases h3 : lay C.L e with
      | none => simp [h3] at h
      | some ei =>
        simp only [h3] at h
        obtain ⟨ii, hi, hi1, _, hz⟩ := (C.okL.at h3).info'
        cases h4 : evp env parts.toList with
        | none => simp [h4] at h
        | some ps =>
          simp only [h4] at h
          cases h5 : Nat.beq (lenL (cellsL ei.zero)) ei.size with
          | false => simp [h5] at h
          | true =>
            simp only [h5] at h
            have hzs : ei.zero.cells.size = ei.size := by
              have := Nat.eq_of_beq_eq_true h5
              rw [lenL_eq, ← cellsL_eq] at this
              simpa using this
            cases h6 : Nat.ble (len * ei.size + len) 1000 with
            | false => simp [h6] at h
            | true =>
              simp only [h6] at h
              have hsm : len * ei.size + len ≤ 1000 := Nat.le_of_ble_eq_true h6
              cases h7 : fillS ei.size ps (repL (cellsL ei.zero) len) with
              | none => simp [h7] at h
              | some cs =>
                simp only [h7] at h
                cases h with
                | mk h =>
                  obtain ⟨hf, hcl⟩ := fillS_spec ei.size ps _ _ h7
                  have hzl : (cellsL ei.zero).length = ei.size := by rw [← cellsL_eq]; simpa using hzs
                  rw [repL_length, hzl] at hcl
                  have hps : parts.map (fun (x : Nat × Operand) => (x.1, a.eval x.2)) = ps.toArray := by
                    apply Array.toList_inj.1
                    simpa using evp_spec hr h4
                  have hmade := made_eq ei.zero.cells len ei.size hzs
                  rw [cellsL_eq] at hmade
                  refine wp_value (v := .slice (some ⟨w.heap.size, 0, none⟩) len len) (w' := w.alloc (.cells cs.toArray e)) ?_
                    ⟨_, _, rfl, st_alloc (y := .vec (some ⟨w.heap.size, 0, none⟩) len len e ei.size cs) hs (fun w' hw' => ?_) (by simp [Ent.id]), h _⟩
                  · have hn24 : ¬ 16777216 < len * ei.size := by omega
                    simp only [execOp, hps]
                    by_cases hzero : len * ei.size = 0
                    · have hr0 : repL (cellsL ei.zero) len = [] := List.eq_nil_of_length_eq_zero (by rw [repL_length, ← cellsL_eq]; simp [hzs, hzero])
                      rw [hr0] at hf
                      have hz0 : ∀ f : Nat → Value, (Array.range 0).map f = #[] := fun f => Array.eq_empty_of_size_eq_zero (by simp)
                      simp [Instr.buildSlice, run_underlying hu, sizeOf, typeInfo, hi, hi1, hzero, hz0, hf, newRow]
                    · rw [← hmade] at hf
                      unfold madeCells at hf
                      simp [Instr.buildSlice, run_underlying hu, sizeOf, typeInfo, hi, hi1, hn24, hzero, zeroValue, hz, hf, newRow]
                  · refine ownsRow_mk hw' (Nat.le_refl _) (by simp only [maxLen]; omega) (by simpa using hcl) ?_
                    rw [List.toList_toArray, ← hcl, List.take_length]
  · -- makeSlice
    rename_i t x y
    unfold makeSliceE at h
    cases h1 : lay C.L t with
    | none => simp [h1] at h
    | some ti =>
      simp only [h1] at h
      cases h2 : ti.td <;> simp only [h2] at h <;> try (exact h.elim)
      rename_i e
      have hu := (C.okL.at h1).slice h2
      cases h3 : lay C.L e with
      | none => simp [h3] at h
      | some ei =>
        simp only [h3] at h
        obtain ⟨ii, hi, hi1, hi2, hz⟩ := (C.okL.at h3).info'
        cases h5 : Nat.beq (lenL (cellsL ei.zero)) ei.size with
        | false => simp [h5] at h
        | true =>
          simp only [h5] at h
          have hzs : ei.zero.cells.size = ei.size := by
            have := Nat.eq_of_beq_eq_true h5
            rw [lenL_eq, ← cellsL_eq] at this
            simpa using this
          split at h
          · rename_i kl l hx
            split at h
            · rename_i kc c hy
              cases h with
              | mk g1 g2 g3 g4 hk =>
                have hrun := run_make (P := C.P) w t e ii ei.zero hu hi hz kl kc l c g1 g2 (by rw [hi2]; exact g3) g4
                refine wp_value (v := .slice (some ⟨w.heap.size, 0, none⟩) l.toNat c.toNat) (w' := w.alloc (.cells (madeCells ei.zero.cells (c.toNat * ii.size)) e)) ?_
                  ⟨_, _, rfl, st_alloc (y := .vec (some ⟨w.heap.size, 0, none⟩) l.toNat c.toNat e ei.size (repL (cellsL ei.zero) l.toNat)) hs (fun w' hw' => ?_) (by simp [Ent.id]), hk _⟩
                · simp [execOp, hr.eval hx, hr.eval hy, hrun]
                · rw [hi1, made_eq ei.zero.cells c.toNat ei.size hzs, cellsL_eq] at hw'
                  have hzl : (cellsL ei.zero).length = ei.size := by rw [← cellsL_eq]; simpa using hzs
                  refine ownsRow_mk hw' (by omega) (by simp only [maxLen]; omega) (by simp [repL_length, hzl]) ?_
                  rw [List.toList_toArray]
                  have : ∀ (zs : List Value) (p q : Nat), p ≤ q → (repL zs q).take (p * zs.length) = repL zs p := by
                    intro zs p
                    induction p with
                    | zero => intro q _; simp [repL]
                    | succ p ih =>
                      intro q hq
                      cases q with
                      | zero => omega
                      | succ q =>
                        simp only [repL]
                        rw [Nat.add_mul, Nat.one_mul, Nat.add_comm, List.take_length_add_append, ih q (by omega)]
                  rw [← hzl]
                  exact this _ _ _ (by omega)
            · exact h.elim
          · exact h.elim
  · -- makeMap
    unfold makeMapE at h
    cases h with
    | mk h =>
      refine wp_value (v := .map (some w.heap.size)) (w' := w.alloc (.map #[] 0)) ?_ ⟨_, _, rfl, st_alloc (y := .map w.heap.size []) hs (fun w' hw' => ⟨_, _, hw', by simp⟩) (by simp [Ent.id]), h _⟩
      have hmm : ∀ t, (Instr.makeMap t none).run C.P w = .ok (.map (some w.heap.size)) (w.alloc (.map #[] 0)) := fun _ => rfl
      simp [execOp, hmm]
  · -- store
    rename_i t x y
    unfold storeE at h
    split at h
    · rename_i b off hx
      cases hy : ev env y with
      | none => simp [hy] at h
      | some v =>
        simp only [hy] at h
        cases h1 : lay C.L t with
        | none => simp [h1] at h
        | some ti =>
          simp only [h1] at h
          obtain ⟨ii, hi, hi1, _, hz⟩ := (C.okL.at h1).info'
          cases h2 : Nat.beq (lenL (cellsL v)) ti.size with
          | false => simp [h2] at h
          | true =>
            simp only [h2] at h
            · have hvs : v.cells.size = ti.size := by
                have := Nat.eq_of_beq_eq_true h2
                rw [lenL_eq, ← cellsL_eq] at this
                simpa using this
              obtain ⟨w', H', hrun, hst, hk⟩ := h.use (P := C.P) hs
              refine wp_skip' (w' := w') ?_ ⟨_, _, rfl, hst, hk⟩
              rw [← cellsL_eq] at hrun
              simp [execOp, hr.eval hx, hr.eval hy, Instr.storeAt, Instr.sureAddr, storeVar, sizeOf, typeInfo, hi, hi1, hvs, hrun]
    · exact h.elim
  · -- mapUpdate
    rename_i t m i x
    unfold mapUpdE at h
    cases h1 : mapT C.L t with
    | none => simp [h1] at h
    | some et =>
      simp only [h1] at h
      obtain ⟨kt, hm, hkt⟩ := mapT_spec C.okL h1
      split at h
      · rename_i b hm'
        split at h
        · rename_i j hj
          cases hx : ev env x with
          | none => simp [hx] at h
          | some v =>
            simp only [hx] at h
            cases h with
            | mk hat hk =>
              obtain ⟨w', hrun, hst⟩ := mapUpdate_run (P := C.P) hm hkt (hs.perm hat.perm) j v
              refine wp_skip' (w' := w') ?_ ⟨_, _, rfl, hst.perm (hat.permU _).symm, hk⟩
              simp [execOp, hr.eval hm', hr.eval hj, hr.eval hx, hrun]
        · exact h.elim
      · exact h.elim
  · -- append
    rename_i args ts
    unfold appendE at h
    split at h
    · rename_i t t' hts
      cases h0 : Nat.beq t t' with
      | false => simp [h0] at h
      | true =>
        simp only [h0] at h
        have := Nat.eq_of_beq_eq_true h0
        subst this
        have hts' : ts = #[t, t] := Array.toList_inj.1 (by simpa using hts)
        subst hts'
        cases h1 : lay C.L t with
        | none => simp [h1] at h
        | some ti =>
          simp only [h1] at h
          cases h2 : ti.td <;> simp only [h2] at h <;> try (exact h.elim)
          rename_i e
          have hu := (C.okL.at h1).slice h2
          cases h3 : lay C.L e with
          | none => simp [h3] at h
          | some ei =>
            simp only [h3] at h
            obtain ⟨ii, hi, hi1, hi2, hz⟩ := (C.okL.at h3).info'
            cases h5 : Nat.beq (lenL (cellsL ei.zero)) ei.size with
            | false => simp [h5] at h
            | true =>
              simp only [h5] at h
              have hzs : ei.zero.cells.size = ei.size := by
                have := Nat.eq_of_beq_eq_true h5
                rw [lenL_eq, ← cellsL_eq] at this
                simpa using this
              cases h6 : Nat.ble 1 ei.size with
              | false => simp [h6] at h
              | true =>
                simp only [h6] at h
                split at h
                · rename_i p nn cap q m c hargs
                  cases h with
                  | @own xs news u r hat hsrc g1 g2 g3 hk =>
                    obtain ⟨p', cap', w', hrun, hst⟩ := append_run (P := C.P) (ty := type) (c := c) hu hi hi1 hi2 hz hzs (hs.perm hat.perm) hsrc hs g1 g2 g3
                    refine wp_value (v := .slice p' (nn + m) cap') (w' := w') ?_ ⟨_, _, rfl, hst, hk p' cap' (vec_ptr (hst.own _ (List.mem_cons_self ..)))⟩
                    simp [execOp, resolve, invoke, builtin, evs_two hr hargs, hrun]
                  | @nil news hp hn hc hsrc g1 g2 g3 hk =>
                    subst hp; subst hn; subst hc
                    obtain ⟨p', cap', w', hrun, hst⟩ := append_run (P := C.P) (ty := type) (c := c) hu hi hi1 hi2 hz hzs (hs.nil e ei.size) hsrc hs g1 (by simpa using g2) (by simpa using g3)
                    simp only [Nat.zero_add, List.nil_append] at hrun hst
                    refine wp_value (v := .slice p' m cap') (w' := w') ?_ ⟨_, _, rfl, hst, hk p' cap' (vec_ptr (hst.own _ (List.mem_cons_self ..)))⟩
                    simp [execOp, resolve, invoke, builtin, evs_two hr hargs, hrun]
                · exact h.elim
    · exact h.elim
  · -- copy
    rename_i args ts
    unfold copyE at h
    split at h
    · rename_i t t' hts
      have hts' : ts = #[t, t'] := Array.toList_inj.1 (by simpa using hts)
      subst hts'
      cases h1 : lay C.L t with
      | none => simp [h1] at h
      | some ti =>
        simp only [h1] at h
        cases h2 : ti.td <;> simp only [h2] at h <;> try (exact h.elim)
        rename_i e
        have hu := (C.okL.at h1).slice h2
        cases h3 : lay C.L e with
        | none => simp [h3] at h
        | some ei =>
          simp only [h3] at h
          obtain ⟨ii, hi, hi1, hi2, hz⟩ := (C.okL.at h3).info'
          split at h
          · rename_i p nn cap q m c hargs
            obtain ⟨v, w', H', hrun, hst, hk⟩ := copy_run (P := C.P) (t' := t') (ty := type) (c := c) hu hi hi1 hs h
            refine wp_value (v := v) (w' := w') ?_ ⟨_, _, rfl, hst, hk⟩
            simp [execOp, resolve, invoke, builtin, evs_two hr hargs, hrun]
          · exact h.elim
    · exact h.elim
  · -- clear
    rename_i args ts
    unfold clearE at h
    split at h
    · rename_i t hts
      have hts' : ts = #[t] := Array.toList_inj.1 (by simpa using hts)
      subst hts'
      cases h1 : lay C.L t with
      | none => simp [h1] at h
      | some ti =>
        simp only [h1] at h
        cases h2 : ti.td <;> simp only [h2] at h <;> try (exact h.elim)
        rename_i e
        have hu := (C.okL.at h1).slice h2
        cases h3 : lay C.L e with
        | none => simp [h3] at h
        | some ei =>
          simp only [h3] at h
          obtain ⟨ii, hi, hi1, hi2, hz⟩ := (C.okL.at h3).info'
          cases h5 : Nat.beq (lenL (cellsL ei.zero)) ei.size with
          | false => simp [h5] at h
          | true =>
            simp only [h5] at h
            have hzs : ei.zero.cells.size = ei.size := by
              have := Nat.eq_of_beq_eq_true h5
              rw [lenL_eq, ← cellsL_eq] at this
              simpa using this
            cases h6 : oneAll (cellsL ei.zero) with
            | false => simp [h6] at h
            | true =>
              simp only [h6] at h
              split at h
              · rename_i p nn cap hargs
                obtain ⟨v, w', H', hrun, hst, hk⟩ := clear_run (P := C.P) (ty := type) hu hi hi1 hz hzs (oneAll_spec h6) hs h
                refine wp_value (v := v) (w' := w') ?_ ⟨_, _, rfl, hst, hk⟩
                simp [execOp, resolve, invoke, builtin, evs_two hr hargs, hrun]
              · exact h.elim
    · exact h.elim
  · -- delete
    rename_i args ts
    unfold deleteE at h
    split at h
    · rename_i t ts' hts
      cases h1 : mapT C.L t with
      | none => simp [h1] at h
      | some et =>
        simp only [h1] at h
        obtain ⟨kt, hm, hkt⟩ := mapT_spec C.okL h1
        split at h
        · rename_i b j hargs
          cases h with
          | mk hat hk =>
            obtain ⟨w', hrun, hst⟩ := delete_run (P := C.P) (ty := type) hm hkt (hs.perm hat.perm) j ts'
            refine wp_value (v := .tuple #[]) (w' := w') ?_ ⟨_, _, rfl, hst.perm (hat.permU _).symm, hk⟩
            have hts' : ts = (t :: ts').toArray := Array.toList_inj.1 (by simpa using hts)
            simp [execOp, resolve, invoke, builtin, evs_two hr hargs, hts', hrun]
        · exact h.elim
    · exact h.elim
  · -- a call
    rename_i f args ts
    unfold callE at h
    split at h
    · rename_i g first captured hf
      cases h1 : memB C.fns g with
      | false => simp [h1] at h
      | true =>
        simp only [h1] at h
        obtain ⟨fn, g1, g2, g3⟩ := C.okF g (memB_iff.1 h1)
        cases h2 : evs env args.toList with
        | none => simp [h2] at h
        | some vs =>
          simp only [h2] at h
          cases h with
          | mk h =>
            have hcalls := h w hs
            have hargs : first ++ vs.toArray ++ captured = (first.toList ++ (vs ++ captured.toList)).toArray := by
              apply Array.toList_inj.1; simp
            have hrun : (execOp a.eval { dst := dst, op := .call { callee := .value f, args := args, argTypes := ts }, type := type, pos := pos, after := after, guard := guard }).run C.P w = .ok (.enter g (first.toList ++ (vs ++ captured.toList)).toArray) w := by
              rw [← hargs]
              simp [execOp, resolve, Deferred.ofValue, invoke, hr.eval hf, evs_two hr h2, callFunc_run g1 g2 g3]
            unfold Oper.wp
            rw [hrun]
            refine Calls.mono hcalls fun e w' he => ?_
            obtain ⟨v, H', rfl, hst, hk⟩ := he
            exact ⟨v, H', rfl, hst, hk⟩
    · exact h.elim
  · exact h.elim

end
end Go.Vx
