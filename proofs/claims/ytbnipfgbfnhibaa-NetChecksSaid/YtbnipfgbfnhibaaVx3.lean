/- Vx3: the operations that read no memory do what pureE says. -/
import Derived.Test.YtbnipfgbfnhibaaVx2
set_option linter.unusedSimpArgs false
set_option linter.unusedVariables false
namespace Go.Vx
open Go Go.RowKit

section
variable {P : Program} {L : Lay} {env : Env} {a : Act} {n : Nat} {k : Value → Prop}

theorem valE_use {x : Operand} (h : valE env x k) : ∃ v, ev env x = some v ∧ k v := by
  unfold valE at h
  cases hx : ev env x with
  | none => simp [hx] at h
  | some v => simp only [hx] at h; exact ⟨v, rfl, h⟩

theorem boolE_use {b : Bool} {A B : Prop} (h : boolE b A B) : if b then A else B := by
  cases b <;> simpa [boolE] using h

theorem run_fieldAt_of (hL : LayOk P L) {s : TypeId} {f : Nat} {b off : Nat} {ti fi : TI} {fs : List (Nat × TypeId)} {ot : Nat × TypeId}
    (h1 : lay L s = some ti) (h2 : ti.td = .struct fs) (h3 : fs[f]? = some ot) (h4 : lay L ot.2 = some fi) (h5 : Nat.beq fi.size 0 = false) (w : World) :
    (Instr.fieldAt s (.pointer (some ⟨b, off, none⟩)) f).run P w = .ok (.pointer (some ⟨b, off + ot.1, none⟩)) w := by
  obtain ⟨fields, hu, hm⟩ := (hL.at h1).struct h2
  obtain ⟨i, hi, hi1, _, _⟩ := (hL.at h4).info'
  rw [← hm] at h3
  rw [List.getElem?_map] at h3
  cases hf : fields.toList[f]? with
  | none => simp [hf] at h3
  | some fd =>
    simp only [hf, Option.map_some, Option.some.injEq] at h3
    subst h3
    have hf' : fields[f]? = some fd := by simpa using hf
    have hne : i.size ≠ 0 := by rw [hi1]; exact Nat.ne_of_beq_eq_false h5
    have hadd : (⟨b, off, none⟩ : Addr).add fd.offset = ⟨b, off + fd.offset, none⟩ := by unfold Addr.add; split <;> simp_all
    simp [Instr.fieldAt, run_underlying hu, hf', Instr.sureAddr, fieldPlace, sizeOf, typeInfo, hi, hne, hadd]

theorem addr_add (b off m : Nat) : (⟨b, off, none⟩ : Addr).add m = ⟨b, off + m, none⟩ := by unfold Addr.add; split <;> simp_all

theorem intE_use {op : BinOp} {kd : IntKind} {x y : Int} {t : TypeId} (h : intE op kd x y k) : ∃ v, k v ∧ ∀ w, (binOp op t (.int kd x) (.int kd y)).run P w = .ok v w := by
  cases op <;> simp only [intE] at h
  case add => exact ⟨_, h.use, fun w => by simp [binOp, Op.intArith]⟩
  case sub => exact ⟨_, h.use, fun w => by simp [binOp, Op.intArith]⟩
  case mul => exact ⟨_, h.use, fun w => by simp [binOp, Op.intArith]⟩
  case quo =>
    cases h with
    | mk hb h => exact ⟨_, h.use, fun w => by simp [binOp, Op.intDiv, hb]⟩
  case rem =>
    cases h with
    | mk hb h => exact ⟨_, h, fun w => by simp [binOp, Op.intDiv, hb]⟩
  case eql => exact ⟨_, h.use (x == y) (by simp), fun w => by simp [binOp, Op.intCmp]⟩
  case neq => exact ⟨_, h.use (x != y) (by simp), fun w => by simp [binOp, Op.intCmp]⟩
  case lss => exact ⟨_, h.use (decide (x < y)) (by simp), fun w => by simp [binOp, Op.intCmp]⟩
  case leq => exact ⟨_, h.use (decide (x ≤ y)) (by simp), fun w => by simp [binOp, Op.intCmp]⟩
  case gtr => exact ⟨_, h.use (decide (x > y)) (by simp), fun w => by simp [binOp, Op.intCmp]⟩
  case geq => exact ⟨_, h.use (decide (x ≥ y)) (by simp), fun w => by simp [binOp, Op.intCmp]⟩

theorem minL_run : ∀ (r : List Value) (x c : Int) (w : World), minL x r = some c → (r.foldlM Builtin.min2 (.int .i64 x)).run P w = .ok (.int .i64 c) w
  | [], x, c, w, h => by simp [minL] at h; simp [h]
  | v :: r, x, c, w, h => by
    cases v with
    | int kd b =>
      cases kd <;> simp only [minL] at h <;> try (cases h; done)
      have := minL_run r (min x b) c w h
      simp only [List.foldlM_cons, Builtin.min2, Sem.run_bind, Sem.run_pure, Result.andThen_ok]
      rw [show (if b < x then b else x) = min x b from by rw [Int.min_def]; split <;> split <;> omega]
      exact this
    | _ => simp [minL] at h

theorem maxL_run : ∀ (r : List Value) (x c : Int) (w : World), maxL x r = some c → (r.foldlM Builtin.max2 (.int .i64 x)).run P w = .ok (.int .i64 c) w
  | [], x, c, w, h => by simp [maxL] at h; simp [h]
  | v :: r, x, c, w, h => by
    cases v with
    | int kd b =>
      cases kd <;> simp only [maxL] at h <;> try (cases h; done)
      have := maxL_run r (max x b) c w h
      simp only [List.foldlM_cons, Builtin.max2, Sem.run_bind, Sem.run_pure, Result.andThen_ok]
      rw [show (if b > x then b else x) = max x b from by rw [Int.max_def]; split <;> split <;> omega]
      exact this
    | _ => simp [maxL] at h

theorem cellsL_eq (v : Value) : v.cells.toList = cellsL v := by cases v <;> simp [Value.cells, cellsL]

/-- 'fill' of the model, by lists. -/
theorem fill_one (vs : List Value) : ∀ (j off : Nat) (cs : Array Value), off + j + vs.length ≤ cs.size →
    (vs.zipIdx j).foldl (fun cs (x : Value × Nat) => cs.setIfInBounds (off + x.2) x.1) cs = (cs.toList.take (off + j) ++ vs ++ cs.toList.drop (off + j + vs.length)).toArray := by
  induction vs with
  | nil => intro j off cs h; simp
  | cons v vs ih =>
    intro j off cs h
    simp only [List.length_cons] at h
    have := ih (j + 1) off (cs.setIfInBounds (off + j) v) (by simp; omega)
    simp only [List.zipIdx_cons, List.foldl_cons]
    rw [this]
    apply congrArg List.toArray
    have hlt : off + j < cs.toList.length := by simp; omega
    rw [Array.toList_setIfInBounds]
    apply List.ext_getElem?
    intro q
    simp only [List.getElem?_append, List.length_take, List.length_set, List.getElem?_take, List.getElem?_drop, List.length_append, List.length_cons, List.getElem?_set, List.getElem?_cons]
    rcases Nat.lt_trichotomy q (off + j) with hq | hq | hq
    · have e1 : q < off + (j + 1) := by omega
      have e2 : ¬ off + j = q := by omega
      have e3 : q < min (off + (j + 1)) cs.toList.length := by omega
      have e4 : q < min (off + j) cs.toList.length := by omega
      have e5 : q < off + (j + 1) + vs.length := by omega
      have e6 : q < off + j + (vs.length + 1) := by omega
      have m1 : min (off + (j + 1)) cs.toList.length = off + j + 1 := by omega
      have m2 : min (off + j) cs.toList.length = off + j := by omega
      simp only [m1, m2]
      simp [e1, e2, hq, e6, show q < off + j + 1 from by omega, show q < off + j + 1 + vs.length from by omega]
    · subst hq
      have m1 : min (off + (j + 1)) cs.toList.length = off + j + 1 := by omega
      have m2 : min (off + j) cs.toList.length = off + j := by omega
      simp only [m1, m2]
      simp [hlt, show off + j < off + j + 1 from by omega, show off + j < off + j + 1 + vs.length from by omega, show off + j < off + (j + 1) from by omega]
      simpa using hlt
    · have m1 : min (off + (j + 1)) cs.toList.length = off + j + 1 := by omega
      have m2 : min (off + j) cs.toList.length = off + j := by omega
      simp only [m1, m2]
      have e3 : ¬ q < off + j + 1 := by omega
      have e4 : ¬ q < off + j := by omega
      by_cases h7 : q < off + j + 1 + vs.length
      · have e8 : q < off + j + (vs.length + 1) := by omega
        simp [h7, e8, e3, e4, show q - (off + j) = (q - (off + j + 1)) + 1 from by omega]
      · have e8 : ¬ q < off + j + (vs.length + 1) := by omega
        simp only [h7, e8, if_false]
        have e9 : ¬ (off + j = off + (j + 1) + vs.length + (q - (off + j + 1 + vs.length))) := by omega
        simp only [e9, if_false]
        congr 1
        omega

theorem nthP_eq : ∀ (l : List (Nat × Nat)) (n : Nat), nthP l n = l[n]?
  | [], _ => by simp [nthP]
  | v :: r, 0 => by simp [nthP]
  | v :: r, n + 1 => by simp [nthP, nthP_eq r n]

theorem fill_of {pl : List (Nat × Nat)} :
    ∀ (ps : List (Nat × Value)) (cs : List Value) (cs' : List Value), fillL pl ps cs = some cs' → Instr.fill (pl.toArray[·]?) cs.toArray ps = some cs'.toArray
  | [], cs, cs', h => by simp [fillL] at h; simp [Instr.fill, h]
  | (i, v) :: r, cs, cs', h => by
    simp only [fillL] at h
    cases h1 : nthP pl i with
    | none => simp [h1] at h
    | some os =>
      obtain ⟨os1, os2⟩ := os
      simp only [h1] at h
      cases h3 : Nat.beq (lenL (cellsL v)) os2 with
      | false => simp [h3] at h
      | true =>
        simp only [h3] at h
        cases h4 : upd cs os1 (cellsL v) with
        | none => simp [h4] at h
        | some c2 =>
          simp only [h4] at h
          have hsz : v.cells.size = os2 := by
            have := Nat.eq_of_beq_eq_true h3
            rw [lenL_eq, ← cellsL_eq] at this
            simpa using this
          obtain ⟨h5, h6⟩ := upd_spec _ _ _ _ h4
          have hlen : (cellsL v).length = v.cells.size := by rw [← cellsL_eq]; simp
          rw [nthP_eq] at h1
          have hpl' : pl.toArray[i]? = some (os1, os2) := by simpa using h1
          simp only [Instr.fill, hpl']
          have hl2 : (cellsL v).length = os2 := hlen.trans hsz
          rw [if_neg (by simp [hsz]; omega)]
          have hfo := fill_one (cellsL v) 0 os1 cs.toArray (by simpa using h5)
          have hv : v.cells = (cellsL v).toArray := by rw [← cellsL_eq]
          have : (v.cells.zipIdx.foldl (fun cs (x : Value × Nat) => cs.setIfInBounds (os1 + x.2) x.1) cs.toArray) = c2.toArray := by
            rw [hv, ← Array.foldl_toList, Array.toList_zipIdx, hfo, h6]; simp
          have ih := fill_of r c2 cs' h
          rw [← this] at ih
          exact ih

theorem placesL_spec {P : Program} {L : Lay} (hL : LayOk P L) : ∀ {fields : List Field} {pl : List (Nat × Nat)}, placesL L (fields.map fun f => (f.offset, f.type)) = some pl →
    fields.mapM (fun f => (P.info? f.type).map fun i => (f.offset, i.size)) = some pl
  | [], pl, h => by simp [placesL] at h; simp [h]
  | f :: r, pl, h => by
    simp only [List.map_cons, placesL] at h
    cases h1 : lay L f.type with
    | none => simp [h1] at h
    | some fi =>
      simp only [h1] at h
      cases h2 : placesL L (r.map fun f => (f.offset, f.type)) with
      | none => simp [h2] at h
      | some l =>
        simp only [h2, Option.some.injEq] at h
        subst h
        obtain ⟨i, hi, hi1, _, _⟩ := (hL.at h1).info'
        simp [hi, placesL_spec hL h2, hi1]

theorem evp_spec {env : Env} {a : Act} (hr : Rep n env a) : ∀ {ps : List (Nat × Operand)} {vs : List (Nat × Value)}, evp env ps = some vs → ps.map (fun p => (p.1, a.eval p.2)) = vs
  | [], vs, h => by simp [evp] at h; simp [h]
  | (i, x) :: r, vs, h => by
    simp only [evp] at h
    cases h1 : ev env x with
    | none => simp [h1] at h
    | some v =>
      simp only [h1] at h
      cases h2 : evp env r with
      | none => simp [h2] at h
      | some l =>
        simp only [h2, Option.some.injEq] at h
        subst h
        simp [hr.eval h1, evp_spec hr h2]

theorem intsEq_run {P : Program} {L : Lay} (hL : LayOk P L) (d : Nat) (w : World) : ∀ (fields : List Field) (j : Nat) (xs ys : Array Value) (p : Prop),
    intFields L (fields.map fun f => (f.offset, f.type)) j = true → (∀ f ∈ fields, f.name ≠ "_") → fields.length + j = xs.toList.length →
    intsEq (xs.toList.drop j) (ys.toList.drop j) = some p →
    ∃ b : Bool, (b = true ↔ p) ∧ (Op.eqFields (d + 1) xs ys fields).run P w = .ok b w
  | [], j, xs, ys, p, _, _, hl, he => by
    rw [List.drop_eq_nil_of_le (by simp at hl ⊢; omega)] at he
    cases hy : ys.toList.drop j with
    | nil => simp [hy, intsEq] at he; exact ⟨true, by simp [he], by simp [Op.eqFields]⟩
    | cons y r => simp [hy, intsEq] at he
  | f :: fs, j, xs, ys, p, hf, hn, hl, he => by
    simp only [List.map_cons, intFields] at hf
    cases h1 : Nat.beq f.offset j with
    | false => simp [h1] at hf
    | true =>
      simp only [h1] at hf
      have hoff := Nat.eq_of_beq_eq_true h1
      cases h2 : lay L f.type with
      | none => simp [h2] at hf
      | some ti =>
        simp only [h2] at hf
        cases h3 : ti.td with
        | int kd =>
          simp only [h3] at hf
          cases kd <;> simp only [] at hf <;> try (cases hf; done)
          have hu := (hL.at h2).int h3
          cases hx : xs.toList.drop j with
          | nil => exfalso; have := congrArg List.length hx; simp at this hl; omega
          | cons x xr =>
            cases hy : ys.toList.drop j with
            | nil => rw [hx, hy] at he; cases x <;> simp [intsEq] at he
            | cons y yr =>
              rw [hx, hy] at he
              have hx1 : xs[j]? = some x := by
                have : (xs.toList.drop j)[0]? = some x := by rw [hx]; rfl
                simpa using this
              have hy1 : ys[j]? = some y := by
                have : (ys.toList.drop j)[0]? = some y := by rw [hy]; rfl
                simpa using this
              have hxr : xs.toList.drop (j + 1) = xr := by rw [← List.drop_drop, hx]; rfl
              have hyr : ys.toList.drop (j + 1) = yr := by rw [← List.drop_drop, hy]; rfl
              cases x with
              | int kx a =>
                cases y with
                | int ky b =>
                  cases kx <;> cases ky <;> simp only [intsEq] at he <;> try (cases he; done)
                  cases he2 : intsEq xr yr with
                  | none => simp [he2] at he
                  | some q =>
                    simp only [he2, Option.some.injEq] at he
                    subst he
                    obtain ⟨r, hr1, hr2⟩ := intsEq_run hL d w fs (j + 1) xs ys q hf (fun g hg => hn g (by simp [hg])) (by simp at hl ⊢; omega) (by rw [hxr, hyr]; exact he2)
                    have hpx : (part f.type xs f.offset).run P w = .ok (.int .i64 a) w := by simp [part, isAgg, run_underlying hu, hoff, hx1]
                    have hpy : (part f.type ys f.offset).run P w = .ok (.int .i64 b) w := by simp [part, isAgg, run_underlying hu, hoff, hy1]
                    have hne : f.name ≠ "_" := hn f (by simp)
                    have heq := run_equalIn_int (P := P) w d f.type .i64 .i64 a b hu
                    by_cases hab : a = b
                    · subst hab
                      refine ⟨r, by simp [hr1], ?_⟩
                      simp [Op.eqFields, hne, hpx, hpy, heq, hr2]
                    · refine ⟨false, by simp [hab], ?_⟩
                      have : (a == b) = false := by simp [hab]
                      simp [Op.eqFields, hne, hpx, hpy, heq, this]
                | _ => simp [intsEq] at he
              | _ => simp [intsEq] at he
        | _ => simp [h3] at hf

theorem cmpE_use {op : BinOp} {p : Prop} (h : cmpE op p k) (b : Bool) (hb : b = true ↔ p) : (op = .eql ∧ k (.bool b)) ∨ (op = .neq ∧ k (.bool (!b))) := by
  cases op <;> simp only [cmpE] at h
  · exact .inl ⟨rfl, h.use b hb⟩
  · exact .inr ⟨rfl, h.use (!b) (by rw [← hb]; simp)⟩

theorem isNilE_use {op : BinOp} {b : Bool} (h : isNilE op b k) : (op = .eql ∧ k (.bool b)) ∨ (op = .neq ∧ k (.bool (!b))) := by
  cases op <;> simp only [isNilE] at h
  · exact .inl ⟨rfl, h⟩
  · exact .inr ⟨rfl, h⟩

theorem run_nil_slice {P : Program} (w : World) {t e : TypeId} (p : Option Addr) (n c n' c' : Nat) (ht : P.underlying t = some (.slice e)) :
    (Op.equal t (.slice p n c) (.slice none n' c')).run P w = .ok p.isNone w := by
  have h : ∀ d : Nat, (Op.equalIn (d + 1) t (.slice p n c) (.slice none n' c')).run P w = .ok p.isNone w := fun d => by
    cases p <;> simp [Op.equalIn, run_underlying ht]
  simpa [Op.equal, Op.maxDepth] using h 9999

theorem run_nil_map {P : Program} (w : World) {t q e : TypeId} (p : Option Nat) (ht : P.underlying t = some (.map q e)) :
    (Op.equal t (.map p) (.map none)).run P w = .ok p.isNone w := by
  have h : ∀ d : Nat, (Op.equalIn (d + 1) t (.map p) (.map none)).run P w = .ok p.isNone w := fun d => by
    cases p <;> simp [Op.equalIn, run_underlying ht]
  simpa [Op.equal, Op.maxDepth] using h 9999

theorem run_nil_pointer {P : Program} (w : World) {t e : TypeId} (p : Option Addr) (ht : P.underlying t = some (.pointer e)) :
    (Op.equal t (.pointer p) (.pointer none)).run P w = .ok p.isNone w := by
  have h : ∀ d : Nat, (Op.equalIn (d + 1) t (.pointer p) (.pointer none)).run P w = .ok p.isNone w := fun d => by
    cases p <;> simp [Op.equalIn, run_underlying ht]
  simpa [Op.equal, Op.maxDepth] using h 9999

theorem binE_use {C : Cx} {op : BinOp} {t : TypeId} {vx vy : Value} (x y : Operand) (h : binE C.L C.eqs op t vx vy k) :
    ∃ v, k v ∧ ∀ w, (do eqGuard op t x y vx vy; binOp op t vx vy : Sem Value).run C.P w = .ok v w := by
  unfold binE at h
  split at h
  · rename_i ka a kb b
    cases hk : decide (ka = kb) with
    | false => simp [hk] at h
    | true =>
      have := of_decide_eq_true hk
      subst this
      simp only [hk] at h
      obtain ⟨v, hv, hrun⟩ := intE_use (t := t) (P := C.P) h
      refine ⟨v, hv, fun w => ?_⟩
      cases op <;> simp [eqGuard, hrun w]
  · rename_i a b
    cases h1 : lay C.L t with
    | none => simp [h1] at h
    | some ti =>
      simp only [h1] at h
      cases h2 : ti.td <;> simp only [h2] at h <;> try (exact h.elim)
      have hu := (C.okL.at h1).bool h2
      have heq : ∀ w, (Op.equal t (.bool a) (.bool b)).run C.P w = .ok (a == b) w := fun w => by
        have hh : ∀ d : Nat, (Op.equalIn (d + 1) t (.bool a) (.bool b)).run C.P w = .ok (a == b) w := fun d => by simp [Op.equalIn, run_underlying hu]
        simpa [Op.equal, Op.maxDepth] using hh 9999
      rcases cmpE_use h (a == b) (by simp) with ⟨rfl, h3⟩ | ⟨rfl, h3⟩
      · exact ⟨_, h3, fun w => by simp [eqGuard, binOp, heq w]⟩
      · exact ⟨_, h3, fun w => by simp [eqGuard, binOp, heq w]⟩
  · rename_i xs ys
    cases h1 : lay C.L t with
    | none => simp [h1] at h
    | some ti =>
      simp only [h1] at h
      cases h2 : ti.td <;> simp only [h2] at h <;> try (exact h.elim)
      rename_i fs
      cases h3 : intFields C.L fs 0 with
      | false => simp [h3] at h
      | true =>
        simp only [h3] at h
        cases h4 : intsEq xs.toList ys.toList with
        | none => simp [h4] at h
        | some p =>
          simp only [h4] at h
          cases h5 : Nat.beq fs.length (lenL xs.toList) with
          | false => simp [h5] at h
          | true =>
            simp only [h5] at h
            cases h6 : memB C.eqs t with
            | false => simp [h6] at h
            | true =>
              simp only [h6] at h
              have he := C.okE t (memB_iff.1 h6)
              simp only [eqTy, Bool.and_eq_true, Bool.not_eq_true', List.all_eq_true, bne_iff_ne, ne_eq] at he
              obtain ⟨⟨e1, e2⟩, e3⟩ := he
              obtain ⟨fields, hu, hm⟩ := (C.okL.at h1).struct h2
              have hfo : C.P.fieldsOf t = fields := by simp [Program.fieldsOf, hu]
              have hlen : fields.toList.length + 0 = xs.toList.length := by
                have := Nat.eq_of_beq_eq_true h5
                rw [lenL_eq, ← hm] at this
                simpa using this
              have hrun : ∀ w, ∃ b : Bool, (b = true ↔ p) ∧ (Op.eqFields 9999 xs ys fields.toList).run C.P w = .ok b w := fun w =>
                intsEq_run C.okL 9998 w fields.toList 0 xs ys p (by rw [hm]; exact h3) (fun f hf => e3 f (by rw [hfo]; exact hf)) hlen (by simpa using h4)
              have hb : ∃ b : Bool, b = true ↔ p := ⟨_, (hrun default).choose_spec.1⟩
              obtain ⟨b, hb⟩ := hb
              have hrun' : ∀ w, (Op.equalIn 10000 t (.agg xs) (.agg ys)).run C.P w = .ok b w := fun w => by
                rw [run_equalIn_struct w 9999 t xs ys (by rw [hfo]; exact hu) e2, hfo]
                obtain ⟨b', hb', hr⟩ := hrun w
                rw [hr]
                congr 1
                cases b <;> cases b' <;> simp_all
              rcases cmpE_use h b hb with ⟨rfl, h7⟩ | ⟨rfl, h7⟩
              · exact ⟨_, h7, fun w => by rw [Sem.run_bind, run_eqGuard_agg w _ t x y xs ys e1, Result.andThen_ok, run_eql_struct, hrun']; rfl⟩
              · exact ⟨_, h7, fun w => by rw [Sem.run_bind, run_eqGuard_agg w _ t x y xs ys e1, Result.andThen_ok, run_neq_struct, hrun']; rfl⟩
  · rename_i p n c n' c'
    cases h1 : lay C.L t with
    | none => simp [h1] at h
    | some ti =>
      simp only [h1] at h
      cases h2 : ti.td <;> simp only [h2] at h <;> try (exact h.elim)
      have hu := (C.okL.at h1).slice h2
      rcases isNilE_use h with ⟨rfl, h3⟩ | ⟨rfl, h3⟩
      · exact ⟨_, h3, fun w => by simp [eqGuard, binOp, run_nil_slice w p n c n' c' hu]⟩
      · exact ⟨_, h3, fun w => by simp [eqGuard, binOp, run_nil_slice w p n c n' c' hu]⟩
  · rename_i p
    cases h1 : lay C.L t with
    | none => simp [h1] at h
    | some ti =>
      simp only [h1] at h
      cases h2 : ti.td <;> simp only [h2] at h <;> try (exact h.elim)
      have hu := (C.okL.at h1).map h2
      rcases isNilE_use h with ⟨rfl, h3⟩ | ⟨rfl, h3⟩
      · exact ⟨_, h3, fun w => by simp [eqGuard, binOp, run_nil_map w p hu]⟩
      · exact ⟨_, h3, fun w => by simp [eqGuard, binOp, run_nil_map w p hu]⟩
  · rename_i p
    cases h1 : lay C.L t with
    | none => simp [h1] at h
    | some ti =>
      simp only [h1] at h
      cases h2 : ti.td <;> simp only [h2] at h <;> try (exact h.elim)
      obtain ⟨e, hu⟩ := (C.okL.at h1).pointer h2
      rcases isNilE_use h with ⟨rfl, h3⟩ | ⟨rfl, h3⟩
      · exact ⟨_, h3, fun w => by simp [eqGuard, binOp, run_nil_pointer w p hu]⟩
      · exact ⟨_, h3, fun w => by simp [eqGuard, binOp, run_nil_pointer w p hu]⟩
  · exact h.elim

theorem evs_two {env : Env} {a : Act} (hr : Rep n env a) {l : Array Operand} {vs : List Value} (h : evs env l.toList = some vs) : l.map a.eval = vs.toArray := by
  have := hr.evals h
  apply Array.toList_inj.1
  simpa using this

theorem sliceE_run {P : Program} {t e : TypeId} (ht : P.underlying t = some (.slice e)) {i : TypeInfo} (hi : P.info? e = some i)
    (p : Option Addr) (len cap : Nat) (kl kh : Option IntKind) (l h : Int) (vl vh : Option Value)
    (hvl : (vl = none ∧ l = 0) ∨ ∃ k, vl = some (.int k l)) (hvh : (vh = none ∧ h = len) ∨ ∃ k, vh = some (.int k h))
    (h1 : 0 ≤ l) (h2 : l ≤ h) (h3 : h ≤ cap) (w : World) :
    (Instr.sliceAt t (.slice p len cap) vl vh none).run P w =
      .ok (.slice (if cap = l.toNat then p else p.map (·.add (l.toNat * i.size))) (h.toNat - l.toNat) (cap - l.toNat)) w := by
  have e1 : ∀ (k : IntKind) (c : BoundsCode), (Instr.sliceBound (.int k h) cap c).run P w = .ok h.toNat w := fun k c => by
    simp [Instr.sliceBound, asIntOf, show 0 ≤ h from by omega, h3]
  have e2 : ∀ (k : IntKind) (c : BoundsCode), (Instr.sliceBound (.int k l) h.toNat c).run P w = .ok l.toNat w := fun k c => by
    have h9 : l ≤ (h.toNat : Int) := by omega
    simp [Instr.sliceBound, asIntOf, h1, h9, -Int.ofNat_toNat]
  rcases hvl with ⟨rfl, rfl⟩ | ⟨kl, rfl⟩ <;> rcases hvh with ⟨rfl, rfl⟩ | ⟨kh, rfl⟩
  · simp [Instr.sliceAt, Instr.slice, Instr.sliceBounds, run_underlying ht, sizeOf, typeInfo, hi]
  · simp [Instr.sliceAt, Instr.slice, Instr.sliceBounds, run_underlying ht, sizeOf, typeInfo, hi, e1]
  · have e3 := fun c => e2 kl c
    simp only [Int.toNat_natCast] at e3
    simp [Instr.sliceAt, Instr.slice, Instr.sliceBounds, run_underlying ht, sizeOf, typeInfo, hi, e3]
  · simp [Instr.sliceAt, Instr.slice, Instr.sliceBounds, run_underlying ht, sizeOf, typeInfo, hi, e1, e2]

theorem optInt_use {env : Env} {a : Act} (hr : Rep n env a) {x : Option Operand} {d j : Int} (h : optInt env x d = some j) :
    (x.map a.eval = none ∧ j = d) ∨ ∃ k, x.map a.eval = some (.int k j) := by
  cases x with
  | none => simp [optInt] at h; exact .inl ⟨rfl, h.symm⟩
  | some o =>
    simp only [optInt] at h
    cases ho : ev env o with
    | none => simp [ho] at h
    | some v =>
      cases v <;> simp [ho] at h
      subst h
      exact .inr ⟨_, by rw [Option.map_some, hr.eval ho]⟩

/-- **What pureE says of an operation, it does**: in whatever world. -/
theorem pureE_use {C : Cx} {env : Env} {a : Act} {o : Oper} (hr : Rep n env a) (h : pureE C o.op env k) :
    ∃ v, k v ∧ ∀ w, (execOp a.eval o).run C.P w = .ok (.value v) w := by
  obtain ⟨dst, op, type, pos, after, guard⟩ := o
  simp only at h
  unfold pureE at h
  split at h
  · obtain ⟨v, h1, h2⟩ := valE_use h
    exact ⟨v, h2, fun w => by simp [execOp, hr.eval h1]⟩
  · obtain ⟨v, h1, h2⟩ := valE_use h
    exact ⟨v, h2, fun w => by simp [execOp, hr.eval h1]⟩
  · rename_i c x y
    unfold pickE at h
    cases h1 : ev env c with
    | none => simp [h1] at h
    | some v =>
      cases v <;> simp only [h1] at h <;> try (exact h.elim)
      rename_i t
      have := boolE_use h
      cases t
      · obtain ⟨v, h2, h3⟩ := valE_use (by simpa using this)
        exact ⟨v, h3, fun w => by simp [execOp, hr.eval h1, hr.eval h2, asBool]⟩
      · obtain ⟨v, h2, h3⟩ := valE_use (by simpa using this)
        exact ⟨v, h3, fun w => by simp [execOp, hr.eval h1, hr.eval h2, asBool]⟩
  · rename_i s x f
    unfold fieldE at h
    split at h
    · rename_i b off h1
      cases h2 : lay C.L s with
      | none => simp [h2] at h
      | some ti =>
        simp only [h2] at h
        cases h3 : ti.td <;> simp only [h3] at h <;> try (exact h.elim)
        rename_i fs
        cases h4 : fs[f]? with
        | none => simp [h4] at h
        | some ot =>
          obtain ⟨oo, oty⟩ := ot
          simp only [h4] at h
          cases h5 : lay C.L oty with
          | none => simp [h5] at h
          | some fi =>
            simp only [h5] at h
            cases h6 : Nat.beq fi.size 0 with
            | true => simp [h6] at h
            | false =>
              simp only [h6] at h
              exact ⟨_, h, fun w => by simp [execOp, hr.eval h1, run_fieldAt_of C.okL h2 h3 h4 h5 h6 w]⟩
    · exact h.elim
  · rename_i t x i
    unfold indexE at h
    split at h
    · rename_i kd j h1
      cases h2 : lay C.L t with
      | none => simp [h2] at h
      | some ti =>
        simp only [h2] at h
        cases h3 : ti.td <;> simp only [h3] at h <;> try (exact h.elim)
        · rename_i e
          have hu := (C.okL.at h2).slice h3
          cases h4 : lay C.L e with
          | none => simp [h4] at h
          | some ei =>
            simp only [h4] at h
            obtain ⟨ii, hi, hi1, _, _⟩ := (C.okL.at h4).info'
            split at h
            · rename_i p m c h5
              cases h with
              | mk hp g1 g2 hk =>
                subst hp
                exact ⟨_, hk, fun w => by simp [execOp, hr.eval h1, hr.eval h5, Instr.indexAt, asIntOf, run_underlying hu, g1, g2, sizeOf, typeInfo, hi, hi1, addr_add]⟩
            · exact h.elim
        · rename_i m e
          have hu := (C.okL.at h2).array h3
          cases h4 : lay C.L e with
          | none => simp [h4] at h
          | some ei =>
            simp only [h4] at h
            obtain ⟨ii, hi, hi1, _, _⟩ := (C.okL.at h4).info'
            split at h
            · rename_i p h5
              cases h with
              | mk hp g1 g2 hk =>
                subst hp
                exact ⟨_, hk, fun w => by simp [execOp, hr.eval h1, hr.eval h5, Instr.indexAt, Instr.sureAddr, asIntOf, run_underlying hu, g1, g2, sizeOf, typeInfo, hi, hi1, addr_add]⟩
            · exact h.elim
    · exact h.elim
  · rename_i x
    unfold nilE at h
    split at h
    · rename_i ad h1
      exact ⟨_, h, fun w => by simp [execOp, hr.eval h1]⟩
    · rename_i f x y h1
      exact ⟨_, h, fun w => by simp [execOp, hr.eval h1]⟩
    · rename_i f x y h1
      exact ⟨_, h, fun w => by simp [execOp, hr.eval h1]⟩
    · exact h.elim
  · rename_i op t x y yt
    unfold binOpE at h
    cases h1 : ev env x with
    | none => simp [h1] at h
    | some vx =>
      simp only [h1] at h
      cases h2 : ev env y with
      | none => simp [h2] at h
      | some vy =>
        simp only [h2] at h
        obtain ⟨v, hv, hrun⟩ := binE_use x y h
        refine ⟨v, hv, fun w => ?_⟩
        have := hrun w
        simp only [execOp, hr.eval h1, hr.eval h2]
        simp only [Sem.run_bind] at this ⊢
        rw [this]
        simp
  · rename_i op t x
    unfold unOpE at h
    split at h
    · split at h
      · rename_i b h1
        have := boolE_use h
        cases b
        · exact ⟨_, (by simpa using this), fun w => by simp [execOp, hr.eval h1, Op.unary]⟩
        · exact ⟨_, (by simpa using this), fun w => by simp [execOp, hr.eval h1, Op.unary]⟩
      · exact h.elim
    · split at h
      · rename_i kd j h1
        exact ⟨_, h.use, fun w => by simp [execOp, hr.eval h1, Op.unary, Op.intArith]⟩
      · exact h.elim
    · exact h.elim
  · rename_i s d x
    unfold convE at h
    split at h
    · rename_i kd j h1
      cases h2 : lay C.L s with
      | none => simp [h2] at h
      | some si =>
        simp only [h2] at h
        cases h3 : si.td <;> simp only [h3] at h <;> try (exact h.elim)
        have hus := (C.okL.at h2).int h3
        cases h4 : lay C.L d with
        | none => simp [h4] at h
        | some di =>
          simp only [h4] at h
          cases h5 : di.td <;> simp only [h5] at h <;> try (exact h.elim)
          have hud := (C.okL.at h4).int h5
          exact ⟨_, h.use, fun w => by simp [execOp, hr.eval h1, convert, run_underlying hus, run_underlying hud, Conv.intToInt]⟩
    · exact h.elim
  · rename_i x i
    unfold extractE at h
    split at h
    · rename_i vs h1
      cases h2 : nthL vs.toList i with
      | none => simp [h2] at h
      | some v =>
        simp only [h2] at h
        rw [nthL_eq] at h2
        have h2' : vs[i]? = some v := by simpa using h2
        exact ⟨v, h, fun w => by simp [execOp, hr.eval h1, Instr.extract, h2']⟩
    · exact h.elim
  · rename_i fn f c
    unfold funcE at h
    cases h1 : evs env f.toList with
    | none => simp [h1] at h
    | some fs =>
      simp only [h1] at h
      cases h2 : evs env c.toList with
      | none => simp [h2] at h
      | some cs =>
        simp only [h2] at h
        exact ⟨_, h, fun w => by simp [execOp, Instr.makeFunc, evs_two hr h1, evs_two hr h2]⟩
  · rename_i t parts
    unfold buildE at h
    cases h1 : lay C.L t with
    | none => simp [h1] at h
    | some ti =>
      simp only [h1] at h
      cases h2 : ti.td <;> simp only [h2] at h <;> try (exact h.elim)
      rename_i fs
      cases h3 : evp env parts.toList with
      | none => simp [h3] at h
      | some ps =>
        simp only [h3] at h
        cases h5 : placesL C.L fs with
        | none => simp [h5] at h
        | some pl =>
          simp only [h5] at h
          cases h4 : fillL pl ps (cellsL ti.zero) with
          | none => simp [h4] at h
          | some cs =>
            simp only [h4] at h
            refine ⟨_, h, fun w => ?_⟩
            obtain ⟨fields, hu, hm⟩ := (C.okL.at h1).struct h2
            obtain ⟨ii, hi, hi1, hi2, hz⟩ := (C.okL.at h1).info'
            have hps : parts.map (fun (x : Nat × Operand) => (x.1, a.eval x.2)) = ps.toArray := by
              apply Array.toList_inj.1
              simpa using evp_spec hr h3
            have hb : C.P.built t ps = some cs.toArray := by
              have hz2 : ti.zero.cells = (cellsL ti.zero).toArray := by rw [← cellsL_eq]
              simp only [Program.built, hi, hu, hz]
              rw [placesL_spec C.okL (by rw [hm]; exact h5)]
              simp only [hz2]
              exact fill_of ps _ _ h4
            have hrun := run_build (P := C.P) w t ps.toArray cs.toArray (by simpa using hb)
            simp only [execOp, hps, Sem.run_bind, hrun, Result.andThen_ok, Sem.run_pure]
  · rename_i t x lo hi
    unfold sliceE at h
    cases h1 : lay C.L t with
    | none => simp [h1] at h
    | some ti =>
      simp only [h1] at h
      cases h2 : ti.td <;> simp only [h2] at h <;> try (exact h.elim)
      rename_i e
      have hu := (C.okL.at h1).slice h2
      cases h3 : lay C.L e with
      | none => simp [h3] at h
      | some ei =>
        simp only [h3] at h
        obtain ⟨ii, hii, hi1, _, _⟩ := (C.okL.at h3).info'
        split at h
        · rename_i p m c h4
          cases h5 : optInt env lo 0 with
          | none => simp [h5] at h
          | some l =>
            simp only [h5] at h
            cases h6 : optInt env hi m with
            | none => simp [h6] at h
            | some hh =>
              simp only [h6] at h
              cases h with
              | mk g1 g2 g3 hk =>
                have hrun := fun w => sliceE_run hu hii p m c none none l hh (lo.map a.eval) (hi.map a.eval) (optInt_use hr h5) (optInt_use hr h6) g1 g2 g3 w
                refine ⟨_, hk (if c = l.toNat then p else p.map (·.add (l.toNat * ii.size))) (fun hlt => ?_) (fun heq => ?_), fun w => ?_⟩
                · rw [if_neg (by omega), hi1]
                · rw [if_pos (by omega)]
                · have := hrun w
                  simp only [execOp, hr.eval h4]
                  simp only [Sem.run_bind, Option.map_none, this, Result.andThen_ok, Sem.run_pure, Int.toNat_natCast]
        · exact h.elim
  · rename_i b args ts
    have hs : ∀ {ts : Array TypeId}, isSliceT C.L ts.toList = true → ∃ t e, ts = #[t] ∧ C.P.underlying t = some (.slice e) := by
      intro ts hts
      unfold isSliceT at hts
      split at hts
      · rename_i t htt
        cases h1 : lay C.L t with
        | none => simp [h1] at hts
        | some ti =>
          simp only [h1] at hts
          cases h2 : ti.td <;> simp only [h2] at hts <;> try (cases hts; done)
          exact ⟨t, _, Array.toList_inj.1 (by simpa using htt), (C.okL.at h1).slice h2⟩
      · cases hts
    unfold builtinE at h
    split at h
    · cases h1 : isSliceT C.L ts.toList with
      | false => simp [h1] at h
      | true =>
        simp only [h1] at h
        obtain ⟨t, e, rfl, hu⟩ := hs h1
        split at h
        · rename_i p m c h2
          exact ⟨_, h, fun w => by simp [execOp, resolve, invoke, builtin, evs_two hr h2, Builtin.len_, run_underlying hu, goInt]⟩
        · exact h.elim
    · cases h1 : isSliceT C.L ts.toList with
      | false => simp [h1] at h
      | true =>
        simp only [h1] at h
        obtain ⟨t, e, rfl, hu⟩ := hs h1
        split at h
        · rename_i p m c h2
          exact ⟨_, h, fun w => by simp [execOp, resolve, invoke, builtin, evs_two hr h2, Builtin.cap_, run_underlying hu, goInt]⟩
        · exact h.elim
    · split at h
      · rename_i x r h2
        cases h3 : minL x r with
        | none => simp [h3] at h
        | some c =>
          simp only [h3] at h
          exact ⟨_, h, fun w => by simp [execOp, resolve, invoke, builtin, evs_two hr h2, Builtin.min_, minL_run r x c w h3]⟩
      · exact h.elim
    · split at h
      · rename_i x r h2
        cases h3 : maxL x r with
        | none => simp [h3] at h
        | some c =>
          simp only [h3] at h
          exact ⟨_, h, fun w => by simp [execOp, resolve, invoke, builtin, evs_two hr h2, Builtin.max_, maxL_run r x c w h3]⟩
      · exact h.elim
    · exact h.elim
  · exact h.elim

end
end Go.Vx
