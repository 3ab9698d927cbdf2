/- Vx6: what effE says of an operation, it does. -/
import Derived.Test.YtbnipfgbfnhibaaVx5
set_option linter.unusedSimpArgs false
set_option linter.unusedVariables false
namespace Go.Vx
open Go Go.RowKit

/-- What lies behind an operation. -/
def After (w0 : World) (M : List Nat) (o : Oper) (a : Act) (K : Value → HP → Prop) (a' : Act) (w' : World) : Prop :=
  ∃ v H', a' = a.put o.dst v ∧ St w0 M H' w' ∧ K v H'

def Never : Exit → Act → World → Prop := fun _ _ _ => False

section
variable {C : Cx} {n : Nat} {env : Env} {a : Act} {w0 w : World} {M : List Nat} {H : HP} {K : Value → HP → Prop}

theorem wp_value {P : Program} {o : Oper} {v : Value} {w' : World} {Q : Exit → Act → World → Prop} {X : Act → World → Prop} (hrun : (execOp a.eval o).run P w = .ok (.value v) w') (h : X (a.put o.dst v) w') : o.wp P a w X Q := by
  unfold Oper.wp; rw [hrun]; exact h
theorem wp_skip' {P : Program} {o : Oper} {w' : World} {Q : Exit → Act → World → Prop} {X : Act → World → Prop} (hrun : (execOp a.eval o).run P w = .ok .skip w') (h : X (a.put o.dst undef) w') : o.wp P a w X Q := by
  unfold Oper.wp; rw [hrun]; exact h

theorem st_alloc (hs : St w0 M H w) {y : Ent} {o : Obj} (hy : ∀ w', w'.heap[w.heap.size]? = some o → y.sat w') (hid : ∀ b, y.id = some b → b = w.heap.size) : St w0 M (y :: H) (w.alloc o) :=
  hs.new rfl rfl rfl (by simp) (fun b hb => RowKit.Below.heap_alloc w o b hb) (hy _ (heap_alloc_new w o)) (fun b hb => by rw [hid b hb]; exact Nat.le_refl _)

theorem repL_length (zs : List Value) : ∀ n, (repL zs n).length = n * zs.length
  | 0 => by simp [repL]
  | n + 1 => by simp [repL, repL_length zs n, Nat.add_mul, Nat.add_comm]

theorem repL_get (zs : List Value) (hz : zs ≠ []) : ∀ (n i : Nat), i < n * zs.length → (repL zs n)[i]? = zs[i % zs.length]?
  | 0, i, h => by simp at h
  | n + 1, i, h => by
    have hp : 0 < zs.length := List.length_pos_iff.2 hz
    simp only [repL, List.getElem?_append]
    split
    · rename_i hlt; rw [Nat.mod_eq_of_lt hlt]
    · rename_i hge
      rw [repL_get zs hz n (i - zs.length) (by rw [Nat.add_mul] at h; omega)]
      congr 1
      rw [Nat.mod_eq_sub_mod (a := i) (by omega)]

theorem made_eq (z : Array Value) (n size : Nat) (hs : z.size = size) : madeCells z (n * size) = (repL z.toList n).toArray := by
  apply Array.toList_inj.1
  apply List.ext_getElem?
  intro i
  by_cases hn : n * size = 0
  · have : (repL z.toList n).length = 0 := by rw [repL_length]; simp [hs, hn]
    have h2 := List.eq_nil_of_length_eq_zero this
    simp [madeCells, hn, h2]
  · have hz : z.toList ≠ [] := by
      intro e
      have : z.size = 0 := by simpa using congrArg List.length e
      simp [← hs, this] at hn
    by_cases hi : i < n * size
    · have hlen : z.toList.length = size := by simpa using hs
      have hp : 0 < size := by
        rcases Nat.eq_zero_or_pos size with h | h
        · simp [h] at hn
        · exact h
      have h1 := repL_get z.toList hz n i (by rw [hlen]; exact hi)
      rw [hlen] at h1
      have hm : i % size < z.size := by rw [hs]; exact Nat.mod_lt _ hp
      simp [madeCells, hi, hs, h1, hm, getElem!_pos z (i % size) hm]
    · have h1 : (madeCells z (n * size)).toList.length = n * size := by simp [madeCells]
      have h2 : (repL z.toList n).length = n * size := by rw [repL_length]; simp [hs]
      rw [List.getElem?_eq_none (by omega), List.getElem?_eq_none (by simp only [List.toList_toArray]; omega)]

theorem fillS_spec (size : Nat) : ∀ (ps : List (Nat × Value)) (cs cs' : List Value), fillS size ps cs = some cs' →
    Instr.fill (fun i => some (i * size, size)) cs.toArray ps = some cs'.toArray ∧ cs'.length = cs.length
  | [], cs, cs', h => by simp [fillS] at h; simp [Instr.fill, h]
  | (i, v) :: r, cs, cs', h => by
    simp only [fillS] at h
    cases h3 : Nat.beq (lenL (cellsL v)) size with
    | false => simp [h3] at h
    | true =>
      simp only [h3] at h
      cases h4 : upd cs (i * size) (cellsL v) with
      | none => simp [h4] at h
      | some c2 =>
        simp only [h4] at h
        have hsz : v.cells.size = size := by
          have := Nat.eq_of_beq_eq_true h3
          rw [lenL_eq, ← cellsL_eq] at this
          simpa using this
        obtain ⟨h5, h6⟩ := upd_spec _ _ _ _ h4
        have hlen : (cellsL v).length = v.cells.size := by rw [← cellsL_eq]; simp
        have hl2 : (cellsL v).length = size := hlen.trans hsz
        have ih := fillS_spec size r c2 cs' h
        have hc2 : c2.length = cs.length := by rw [h6]; simp; omega
        refine ⟨?_, ih.2.trans hc2⟩
        simp only [Instr.fill]
        rw [if_neg (by simp [hsz]; omega)]
        have hfo := fill_one (cellsL v) 0 (i * size) cs.toArray (by simpa using h5)
        have hv : v.cells = (cellsL v).toArray := by rw [← cellsL_eq]
        have : (v.cells.zipIdx.foldl (fun cs (x : Value × Nat) => cs.setIfInBounds (i * size + x.2) x.1) cs.toArray) = c2.toArray := by
          rw [hv, ← Array.foldl_toList, Array.toList_zipIdx, hfo, h6]; simp
        have ih1 := ih.1
        rw [← this] at ih1
        exact ih1

theorem ownsRow_mk {b e size n cap : Nat} {cur : Array Value} {xs : List Value} (hg : w.heap[b]? = some (.cells cur e (0, 0))) (h1 : n ≤ cap) (h2 : cap ≤ maxLen) (h3 : cur.size = cap * size) (h4 : cur.toList.take (n * size) = xs) :
    (Ent.vec (some ⟨b, 0, none⟩) n cap e size xs).sat w := by
  refine ⟨?_, .inr ⟨b, cap, cur, rfl, Nat.zero_le _, hg, h1, h2, h3, h4⟩⟩
  rw [← h4]
  have := Nat.mul_le_mul_right size h1
  rw [List.length_take, Array.length_toList, h3]; omega

theorem store_run {P : Program} {b off e : Nat} {cur : Array Value} {vs : List Value} (hg : w.heap[b]? = some (.cells cur e (0, 0))) (hfit : off + vs.length ≤ cur.size) (h1 : ∀ v ∈ vs, v.oneCell' = true) :
    (storeCells ⟨b, off, none⟩ vs).run P w = .ok () (w.setRow b (cur.toList.take off ++ vs ++ cur.toList.drop (off + vs.length)).toArray) := by
  have := run_storeCells_at P b off e vs 0 cur w hg (by simpa using hfit) h1
  simpa using this

theorem st_setRow {y x : Ent} {r : HP} {b e : Nat} {cur new : Array Value} (hs : St w0 M (x :: r) w) (hx : x.id = some b) (hyid : y.id = some b) (hg : w.heap[b]? = some (.cells cur e (0, 0)))
    (hy : ∀ w', w'.heap[b]? = some (.cells new e (0, 0)) → y.sat w') : St w0 M (y :: r) (w.setRow b new) :=
  hs.step rfl rfl rfl (by simp) (fun c hc hne => setRow_other w b c new (fun e => hne (by rw [hx, e]))) (hy _ (setRow_heap w b cur new e (0, 0) hg)) (fun c hc => .inl (by rw [hx, ← hyid]; exact hc))

/-- Cells of a row or of a slice of ours are written. -/
theorem VSt.use {P : Program} {b off : Nat} {vs : List Value} {k : HP → Prop} (hs : St w0 M H w) (h : VSt H b off vs k) :
    ∃ w' H', (storeCells ⟨b, off, none⟩ vs).run P w = .ok () w' ∧ St w0 M H' w' ∧ k H' := by
  cases h with
  | @row e cs cs' u r hat h g1 hk =>
    have h1 := oneAll_spec g1
    have hrow : w.heap[b]? = _ := hs.own _ hat.mem
    obtain ⟨h5, h6⟩ := upd_spec _ _ _ _ h
    refine ⟨_, _, store_run hrow (by simpa using h5) h1, hs.turn hat (y := .row b e cs') fun hs' => ?_, hk⟩
    refine st_setRow hs' rfl rfl hrow fun w' hw' => ?_
    show w'.heap[b]? = _
    rw [hw', h6]
  | @vec m cap e size xs xs' u r hat h g1 hk =>
    have h1 := oneAll_spec g1
    obtain ⟨g, cur, hg, hh, hn, hc, hsz, ht, hl⟩ := vec_some (hs.own _ hat.mem)
    cases hg
    obtain ⟨h5, h6⟩ := upd_spec _ _ _ _ h
    have hle : m * size ≤ cap * size := Nat.mul_le_mul_right _ hn
    refine ⟨_, _, store_run hh (by rw [hsz]; omega) h1, hs.turn hat (y := .vec (some ⟨b, 0, none⟩) m cap e size xs') fun hs' => ?_, hk⟩
    refine st_setRow hs' rfl rfl hh fun w' hw' => ?_
    refine ownsRow_mk hw' hn hc ?_ ?_
    · simp [hsz]; omega
    · rw [h6, ← ht]
      have hcl : cur.toList.length = cap * size := by simpa using hsz
      apply List.ext_getElem?
      intro i
      simp only [List.getElem?_take, List.getElem?_append, List.length_take, List.getElem?_drop, List.length_append, List.toList_toArray]
      have m1 : min off cur.toList.length = off := by omega
      have m2 : min (m * size) cur.toList.length = m * size := by omega
      have m3 : min off (m * size) = off := by omega
      simp only [m1, m2, m3]
      by_cases hi : i < m * size
      · by_cases h8 : i < off + vs.length
        · simp [hi, h8]
        · simp [hi, h8, show off + vs.length + (i - (off + vs.length)) = i from by omega]
      · have h8 : ¬ i < off + vs.length := by omega
        simp [hi, h8, show off + vs.length + (i - (off + vs.length)) = i from by omega]

theorem Src.use (hs : St w0 M H w) {q : Option Addr} {m size : Nat} {news : List Value} (h : Src w0 M H q m size news) :
    (q = none ∧ m = 0 ∧ news = []) ∨ ∃ b off, q = some ⟨b, off, none⟩ ∧ news.length = m * size ∧ Cells w b off news := by
  cases h with
  | empty => exact .inl ⟨rfl, rfl, rfl⟩
  | @none0 b off size => exact .inr ⟨b, off, rfl, by simp, fun j v hj => by simp at hj⟩
  | at_ h => exact .inr ⟨_, _, rfl, h.len, h.use hs⟩

theorem st_grow {x y : Ent} {r : HP} {o : Obj} (hs : St w0 M (x :: r) w) (hy : ∀ w', w'.heap[w.heap.size]? = some o → y.sat w') (hid : ∀ b, y.id = some b → b = w.heap.size) : St w0 M (y :: r) (w.drew.alloc o) := by
  refine hs.step rfl rfl rfl (by simp) (fun b hb _ => RowKit.Below.heap_alloc w.drew o b hb) (hy _ ?_) (fun b hb => .inr (by rw [hid b hb]; exact Nat.le_refl _))
  exact heap_alloc_new w.drew o

theorem grown_sat {w' : World} {b nn e size cap : Nat} {xs : List Value} {z : Array Value} (hz : z.size = size) (hl : xs.length = nn * size) (h1 : nn ≤ cap) (h2 : cap ≤ maxLen)
    (hg : w'.heap[b]? = some (.cells (xs.toArray ++ Builtin.zeroCells z (cap - nn)) e (0, 0))) : (Ent.vec (some ⟨b, 0, none⟩) nn cap e size xs).sat w' := by
  refine ownsRow_mk hg h1 h2 ?_ ?_
  · simp only [Array.size_append, List.size_toArray, size_zeroCells, hz, hl, ← Nat.add_mul]
    congr 1; omega
  · simp only [Array.toList_append, List.toList_toArray, ← hl]
    exact List.take_left

theorem append_run {P : Program} {t ty e : TypeId} {i : TypeInfo} {ei : TI} (hu : P.underlying t = some (.slice e)) (hi : P.info? e = some i) (hi1 : i.size = ei.size) (hi2 : i.bytes = ei.bytes) (hz : i.zero = some ei.zero)
    (hzs : ei.zero.cells.size = ei.size) {p q : Option Addr} {nn cap m c : Nat} {xs news : List Value} {r : HP} (hs : St w0 M (.vec p nn cap e ei.size xs :: r) w)
    (hsrc : Src w0 M H q m ei.size news) (hH : St w0 M H w) (h1 : ∀ v ∈ news, v.oneCell' = true) (hb : (nn + m) * ei.bytes ≤ 140737488355328) (h63 : nn + m ≤ maxLen) :
    ∃ p' cap' w', (Builtin.append_ #[t, t] ty #[.slice p nn cap, .slice q m c]).run P w = .ok (.slice p' (nn + m) cap') w' ∧ St w0 M (.vec p' (nn + m) cap' e ei.size (xs ++ news) :: r) w' := by
  have hown : w.ownsRow 0 e ei.size (.slice p nn cap) nn xs := hs.own (.vec p nn cap e ei.size xs) (by simp)
  have h63' : nn + m ≤ 9223372036854775807 := by simpa [maxLen] using h63
  have hnc : nn ≤ cap := by
    rcases hown.2 with ⟨h3, h4⟩ | ⟨g, c', cur, h3, _, _, h4, _⟩
    · cases h3; exact Nat.le_refl _
    · cases h3; exact h4
  rcases hsrc.use hH with ⟨rfl, rfl, rfl⟩ | ⟨b, off, rfl, hl, hc⟩
  · refine ⟨p, cap, w, ?_, by simpa using hs⟩
    cases p <;> simp [Builtin.append_, run_underlying hu, sizeOf, typeInfo, hi, Builtin.lenOf, Builtin.firstCells, hnc, storeCells]
  · have hnews : ∀ (j : Nat) (v : Value), news[j]? = some v → w.cell? ((⟨b, off, none⟩ : Addr).add j) = some v := fun j v hj => by rw [addr_add]; exact hc j v hj
    have hl' : news.length = m * i.size := by rw [hi1]; exact hl
    have hge := grownCap_ge w (nn + m) cap e
    have hcm := grownCap_le_maxLen w (nn + m) cap e h63
    have hlen : (xs ++ news).length = (nn + m) * ei.size := by rw [List.length_append, hown.1, hl, Nat.add_mul]
    rcases hown.2 with ⟨hv, hn0⟩ | ⟨g, c', cur, hv, _, hg, _, hcm', hcs, htake⟩
    · simp only [Value.slice.injEq] at hv
      obtain ⟨rfl, rfl, rfl⟩ := hv
      have hx : xs = [] := List.eq_nil_of_length_eq_zero (by simpa using hown.1)
      subst hx
      by_cases hm : m = 0
      · subst hm
        have hn : news = [] := List.eq_nil_of_length_eq_zero (by simpa using hl)
        subst hn
        refine ⟨none, 0, w, ?_, by simpa using hs⟩
        simp [Builtin.append_, run_underlying hu, sizeOf, typeInfo, hi, Builtin.lenOf, Builtin.firstCells, loadCells, loadCellsFrom]
      · have hr := run_append_nil (P := P) w t ty e i ei.zero hu hi hz ⟨b, off, none⟩ m c news hl' hnews (by omega) (by omega) (by rw [hi2]; simp only [Nat.zero_add] at hb; omega)
        simp only [Nat.zero_add, List.nil_append] at hge hcm hlen ⊢
        exact ⟨_, _, _, hr, st_grow hs (fun w' hw' => grown_sat hzs hlen hge hcm hw') (by simp [Ent.id])⟩
    · simp only [Value.slice.injEq] at hv
      obtain ⟨rfl, _, rfl⟩ := hv
      by_cases hroom : nn + m ≤ cap
      · have hfit : nn * i.size + news.length ≤ cur.size := by rw [hl', hcs, hi1, ← Nat.add_mul]; exact Nat.mul_le_mul_right _ hroom
        have hr := run_append_room (P := P) w t ty e i hu hi g nn cap cur hg ⟨b, off, none⟩ m c news hl' hnews h1 hroom hfit
        refine ⟨_, _, _, hr, st_setRow hs rfl rfl hg fun w' hw' => ?_⟩
        refine ownsRow_mk hw' hroom hcm' ?_ ?_
        · simp only [List.size_toArray, List.length_append, List.length_take, List.length_drop, Array.length_toList]; omega
        · rw [hi1, htake, List.toList_toArray, ← hlen]; exact List.take_left
      · have holds : ∀ (j : Nat) (v : Value), xs[j]? = some v → w.cell? ((⟨g, 0, none⟩ : Addr).add j) = some v := hown.cells (g := g) rfl
        have hr := run_append_grow (P := P) w t ty e i ei.zero hu hi hz ⟨g, 0, none⟩ nn cap xs (by rw [hi1]; exact hown.1) holds ⟨b, off, none⟩ m c news hl' hnews (by omega) (by omega) (growslice_fits (by omega) (by rw [hi2]; exact hb))
        refine ⟨_, _, _, hr, st_grow hs (fun w' hw' => grown_sat hzs hlen hge hcm ?_) (by simp [Ent.id])⟩
        rw [hw']; simp

theorem copy_run {P : Program} {t t' ty e : TypeId} {i : TypeInfo} {size : Nat} (hu : P.underlying t = some (.slice e)) (hi : P.info? e = some i) (hi1 : i.size = size)
    {p q : Option Addr} {nn cap m c : Nat} {k : Value → HP → Prop} (hs : St w0 M H w) (h : VCp w0 M H p nn cap e size q m k) :
    ∃ v w' H', (Builtin.copy_ #[t, t'] ty #[.slice p nn cap, .slice q m c]).run P w = .ok v w' ∧ St w0 M H' w' ∧ k v H' := by
  cases h with
  | @own xs news u r hat hsrc h1 hk =>
    have hs' := hs.perm hat.perm
    have hown : (Ent.vec p nn cap e size xs).sat w := hs.own _ hat.mem
    rcases hsrc.use hs with ⟨rfl, hmn, rfl⟩ | ⟨b, off, rfl, hl, hc⟩
    · rw [hmn] at hk
      refine ⟨_, w, _, ?_, ?_, hk⟩
      · have : Nat.min m nn = 0 := hmn
        cases p <;> simp [Builtin.copy_, run_underlying hu, sizeOf, typeInfo, hi, Builtin.lenOf, Builtin.firstCells, storeCells, this, goInt]
      · simp only [List.nil_append, Nat.zero_mul, List.drop_zero]
        exact hs'.perm (hat.permU _).symm
    · have hload := hc.load (P := P)
      rw [hl] at hload
      cases p with
      | none =>
        rcases hown.2 with ⟨hv, hn0⟩ | ⟨g, c', cur, hv, _⟩
        · simp only [Value.slice.injEq] at hv
          obtain ⟨_, rfl, rfl⟩ := hv
          have hx : xs = [] := List.eq_nil_of_length_eq_zero (by simpa using hown.1)
          have hn : news = [] := List.eq_nil_of_length_eq_zero (by simpa using hl)
          subst hx; subst hn
          refine ⟨_, w, _, ?_, ?_, hk⟩
          · have : Nat.min m 0 = 0 := by simp
            simp at hload
            simp [Builtin.copy_, run_underlying hu, sizeOf, typeInfo, hi, Builtin.lenOf, Builtin.firstCells, storeCells, this, goInt, hload]
          · simpa using hs'.perm (hat.permU _).symm
        · cases hv
      | some ad =>
        obtain ⟨g, cur, rfl, hg, hn, hcm, hcs, ht, hxl⟩ := vec_some hown
        have hle : min m nn ≤ nn := Nat.min_le_right _ _
        have hle2 : min m nn * size ≤ nn * size := Nat.mul_le_mul_right _ hle
        have hle3 : nn * size ≤ cap * size := Nat.mul_le_mul_right _ hn
        have hst := store_run (P := P) (off := 0) (vs := news) hg (by rw [hl, hcs]; omega) h1
        refine ⟨_, w.setRow g (List.take 0 cur.toList ++ news ++ List.drop (0 + news.length) cur.toList).toArray, _, ?_, hs.turn hat (y := .vec (some ⟨g, 0, none⟩) nn cap e size (news ++ xs.drop (min m nn * size))) fun hs'' => ?_, hk⟩
        · have hmm : Nat.min m nn = min m nn := rfl
          simp [Builtin.copy_, run_underlying hu, sizeOf, typeInfo, hi, Builtin.lenOf, Builtin.firstCells, hmm, hi1, hload, hst, goInt]
        · refine st_setRow hs'' rfl rfl hg fun w' hw' => ?_
          refine ownsRow_mk hw' hn hcm ?_ ?_
          · simp [hcs]; omega
          · have hcl : cur.toList.length = cap * size := by simpa using hcs
            rw [← ht]
            simp only [List.take_zero, List.nil_append, Nat.zero_add, List.toList_toArray, hl]
            apply List.ext_getElem?
            intro j
            simp only [List.getElem?_take, List.getElem?_append, hl, List.getElem?_drop]
            by_cases hj : j < nn * size
            · by_cases hj2 : j < min m nn * size
              · simp [hj, hj2]
              · simp [hj, hj2, show min m nn * size + (j - min m nn * size) = j from by omega]
            · have hj2 : ¬ j < min m nn * size := by omega
              simp [hj, hj2, show min m nn * size + (j - min m nn * size) = j from by omega]
  | zero hmn hk =>
    refine ⟨_, w, _, ?_, hs, hk⟩
    have : Nat.min m nn = 0 := hmn
    cases p <;> cases q <;> simp [Builtin.copy_, run_underlying hu, sizeOf, typeInfo, hi, Builtin.lenOf, Builtin.firstCells, storeCells, this, goInt, loadCells, loadCellsFrom]

theorem clear_run {P : Program} {t ty e : TypeId} {i : TypeInfo} {ei : TI} (hu : P.underlying t = some (.slice e)) (hi : P.info? e = some i) (hi1 : i.size = ei.size) (hz : i.zero = some ei.zero) (hzs : ei.zero.cells.size = ei.size)
    (h1 : ∀ v ∈ cellsL ei.zero, v.oneCell' = true) {p : Option Addr} {nn cap : Nat} {k : Value → HP → Prop} (hs : St w0 M H w) (h : VCl H p nn cap e ei.size (cellsL ei.zero) k) :
    ∃ v w' H', (Builtin.clear_ #[t] ty #[.slice p nn cap]).run P w = .ok v w' ∧ St w0 M H' w' ∧ k v H' := by
  cases h with
  | @own xs u r hat hk =>
    have hown : (Ent.vec p nn cap e ei.size xs).sat w := hs.own _ hat.mem
    have hrep : (Builtin.zeroCells ei.zero.cells nn).toList = repL (cellsL ei.zero) nn := by
      have := made_eq ei.zero.cells nn ei.size hzs
      unfold madeCells at this
      unfold Builtin.zeroCells
      rw [hzs] at this ⊢
      rw [this, ← cellsL_eq]
    by_cases hn0 : nn = 0
    · subst hn0
      have hx : xs = [] := List.eq_nil_of_length_eq_zero (by simpa using hown.1)
      subst hx
      refine ⟨_, w, _, ?_, (hs.perm hat.perm).perm (hat.permU _).symm, by simpa [repL] using hk⟩
      cases p <;> simp [Builtin.clear_, run_underlying hu]
    · cases p with
      | none =>
        rcases hown.2 with ⟨hv, h0⟩ | ⟨g, c', cur, hv, _⟩
        · exact absurd h0 hn0
        · cases hv
      | some ad =>
        obtain ⟨g, cur, rfl, hg, hn, hcm, hcs, ht, hxl⟩ := vec_some hown
        have hle3 : nn * ei.size ≤ cap * ei.size := Nat.mul_le_mul_right _ hn
        have hzl : (repL (cellsL ei.zero) nn).length = nn * ei.size := by rw [repL_length, ← cellsL_eq]; simp [hzs]
        have h1' : ∀ v ∈ repL (cellsL ei.zero) nn, v.oneCell' = true := by
          intro v hv
          have : ∀ n, v ∈ repL (cellsL ei.zero) n → v ∈ cellsL ei.zero := by
            intro n
            induction n with
            | zero => simp [repL]
            | succ n ih => simp only [repL, List.mem_append]; rintro (h | h); exact h; exact ih h
          exact h1 v (this nn hv)
        have hst := store_run (P := P) (off := 0) (vs := repL (cellsL ei.zero) nn) hg (by rw [hzl, hcs]; omega) h1'
        refine ⟨_, w.setRow g (List.take 0 cur.toList ++ repL (cellsL ei.zero) nn ++ List.drop (0 + (repL (cellsL ei.zero) nn).length) cur.toList).toArray, _, ?_, hs.turn hat (y := .vec (some ⟨g, 0, none⟩) nn cap e ei.size (repL (cellsL ei.zero) nn)) fun hs'' => ?_, hk⟩
        · simp [Builtin.clear_, run_underlying hu, hn0, zeroValue, typeInfo, hi, hz, hrep, hst]
        · refine st_setRow hs'' rfl rfl hg fun w' hw' => ?_
          refine ownsRow_mk hw' hn hcm ?_ ?_
          · simp [hcs, hzl]; omega
          · simp only [List.take_zero, List.nil_append, List.toList_toArray, ← hzl]; exact List.take_left

end
end Go.Vx
