import Derived.Test.YtephkjicokbckaaGreatDoorVerifyKnownNa
import Derived.DeepKeys4
import Derived.KernelRfl
import Derived.Test.YtephkjicokbckaaGreatDoorVerifyKnownVb
section
set_option linter.unusedVariables false

set_option linter.unusedSimpArgs false

namespace Go.Proofs

open Go Go.Vx Go.Gm

def evA (x : Evt) : Value := .agg #[.int .i64 x.tick, .int .i64 x.id]

theorem evA_inj {x y : Evt} (h : evA x = evA y) : x = y := by
  obtain ⟨a, b⟩ := x
  obtain ⟨c, d⟩ := y
  simp only [evA, Value.agg.injEq, Array.mk.injEq, List.cons.injEq, Value.int.injEq, true_and, and_true] at h
  rw [h.1, h.2]

theorem Tryz.laidE : laidOutB Tryz.prog = true := by kernel_rfl

theorem Tryz.rowE : (64 : TypeId) < Tryz.prog.types.size := of_decide_eq_true (by kernel_rfl)

theorem Tryz.kindE : (match Tryz.prog.underlying 64 with | some (.array _ _) | some (.struct _) => true | _ => false) = true := by kernel_rfl

set_option maxRecDepth 100000 in
theorem Tryz.lawE : WideMaps.KeyLaw Tryz.prog 64 := deep_law_laid Tryz.laidE (m := 2) (by omega) Tryz.rowE (by kernel_rfl) Tryz.kindE

set_option maxRecDepth 100000 in
theorem Tryz.deepE : Tryz.prog.keyType 64 = true := by kernel_rfl

def evFields (fs : List (Nat × TypeId)) (ok : Bool) : Bool := decide (fs = [(0, 3), (1, 3)]) && ok

theorem Tryz.fldE : (match Tryz.prog.underlying 64 with | some (.struct fs) => evFields (fs.toList.map fun f => (f.offset, f.type)) (fs.all (·.name != "_")) | _ => false) = true := by kernel_rfl

theorem Tryz.cellsE64 : Tryz.prog.cellsOf 64 = 2 := by kernel_rfl

theorem Tryz.cellsI : Tryz.prog.cellsOf 3 = 1 := by kernel_rfl

theorem Tryz.undI : Tryz.prog.underlying 3 = some (.int .i64) := by kernel_rfl

theorem litInt (n : Int) (hn : -9223372036854775808 ≤ n ∧ n ≤ 9223372036854775807) : (Lit.int .i64 n).wf = true := by
  simp only [Lit.wf, Bool.and_eq_true, decide_eq_true_eq]
  exact hn

theorem keyLits_int (d : Nat) (n : Int) (hn : -9223372036854775808 ≤ n ∧ n ≤ 9223372036854775807) : Tryz.prog.keyLits (d + 1) 3 [.int .i64 n] = some [.int .i64 n] := by
  unfold Program.keyLits
  rw [Tryz.undI]
  simp only [true_and]
  rw [if_pos (litInt n hn)]

theorem evKey (x : Evt) (hx : x.wf) : ∃ l, keyOf Tryz.prog 64 (evA x) = some l := by
  unfold Evt.wf I64 at hx
  have hf := Tryz.fldE
  have hpos : ∃ d, Tryz.prog.types.size + 1 = d + 2 := ⟨Tryz.prog.types.size - 1, by have h : 0 < Tryz.prog.types.size := Nat.lt_of_le_of_lt (Nat.zero_le _) Tryz.rowE; omega⟩
  obtain ⟨d, hd⟩ := hpos
  unfold keyOf
  rw [Tryz.deepE, hd]
  cases hu : Tryz.prog.underlying 64 with
  | none => rw [hu] at hf; cases hf
  | some td =>
    rw [hu] at hf
    cases td <;> try (cases hf; done)
    rename_i fs
    simp only [evFields, Bool.and_eq_true, decide_eq_true_eq] at hf
    obtain ⟨h1, h2⟩ := hf
    have hform : (evA x).formed Tryz.prog 64 = true := by
      simp [evA, Value.formed, hu, Tryz.cellsE64]
    simp only [hform, Bool.and_self, if_true]
    unfold Program.keyLits
    rw [hu]
    dsimp only
    have h3 : (evA x).cells.toList = [.int .i64 x.tick, .int .i64 x.id] := rfl
    rw [h3, if_pos ⟨by rw [Tryz.cellsE64]; rfl, h2⟩]
    obtain ⟨L, hL⟩ : ∃ L, fs.toList = L := ⟨_, rfl⟩
    rw [hL] at h1 ⊢
    rcases L with _ | ⟨f, _ | ⟨g, _ | ⟨e, L⟩⟩⟩
    · simp at h1
    · simp at h1
    rotate_left
    · simp at h1
    · simp only [List.map_cons, List.map_nil, List.cons.injEq, Prod.mk.injEq, and_true] at h1
      obtain ⟨⟨f1, f2⟩, g1, g2⟩ := h1
      simp only [List.mapM_cons, List.mapM_nil, f1, f2, g1, g2, Tryz.cellsI, List.drop_zero, List.drop_succ_cons, List.take_succ_cons, List.take_zero]
      rw [keyLits_int d x.tick hx.1, keyLits_int d x.id hx.2]
      exact ⟨_, rfl⟩

structure KnownOf (m : List (Value × Value)) (f : Evt → Int) : Prop where
  only : ∀ p ∈ m, ∃ x : Evt, x.wf ∧ p = (evA x, .int .i64 (f x)) ∧ f x ≠ 0
  has : ∀ x, f x ≠ 0 → ∃ p ∈ m, p.1 = evA x
  nodup : (m.map (·.1)).Nodup

theorem KnownOf.nil : KnownOf [] fun _ => 0 := ⟨by simp, fun x h => absurd rfl h, by simp⟩

theorem KnownOf.keys {m : List (Value × Value)} {f : Evt → Int} (h : KnownOf m f) : ∀ p ∈ m, ∃ l, keyOf Tryz.prog 64 p.1 = some l := by
  intro p hp
  obtain ⟨x, hx, he, _⟩ := h.only p hp
  rw [he]
  exact evKey x hx

theorem KnownOf.put {H : HP} {b : Nat} {k : HP → Prop} {m : List (Value × Value)} {f : Evt → Int} {u : Ent → HP} {r : HP} (hat : At H (.mapk b m) u r) (h : KnownOf m f) (x : Evt) (hx : x.wf) (v : Int) (hv : v ≠ 0)
    (hk : ∀ m', (KnownOf m' fun y => if y = x then v else f y) → k (u (.mapk b m'))) : VUpK Tryz.prog 64 H b (evA x) (.int .i64 v) k := by
  refine .mk hat Tryz.lawE (evKey x hx) h.keys (fun hn => hk _ ⟨fun p hp => ?_, fun y hy => ?_, ?_⟩) (fun j v0 hj => hk _ ⟨fun p hp => ?_, fun y hy => ?_, ?_⟩)
  · rcases List.mem_append.1 hp with hp | hp
    · obtain ⟨y, hy, he, h0⟩ := h.only p hp
      have hne : ¬ y = x := fun e => hn p hp (by rw [he, e])
      exact ⟨y, hy, by rw [if_neg hne]; exact he, by rw [if_neg hne]; exact h0⟩
    · rw [List.mem_singleton] at hp
      exact ⟨x, hx, by rw [if_pos rfl]; exact hp, by rw [if_pos rfl]; exact hv⟩
  · by_cases e : y = x
    · exact ⟨(evA x, .int .i64 v), by simp, by rw [e]⟩
    · rw [if_neg e] at hy
      obtain ⟨p, hp, h1⟩ := h.has y hy
      exact ⟨p, List.mem_append_left _ hp, h1⟩
  · rw [List.map_append, List.nodup_append]
    refine ⟨h.nodup, by simp, fun a ha c hc => ?_⟩
    obtain ⟨p, hp, rfl⟩ := List.mem_map.1 ha
    simp only [List.map_cons, List.map_nil, List.mem_singleton] at hc
    rw [hc]
    exact hn p hp
  · obtain ⟨i, hi⟩ := List.getElem?_of_mem hp
    rw [List.getElem?_set] at hi
    by_cases hji : j = i
    · rw [if_pos hji] at hi
      split at hi
      · cases hi
        exact ⟨x, hx, by rw [if_pos rfl], by rw [if_pos rfl]; exact hv⟩
      · cases hi
    · rw [if_neg hji] at hi
      obtain ⟨y, hy, he, h0⟩ := h.only p (List.mem_of_getElem? hi)
      by_cases e : y = x
      · subst e
        have e1 : (m.map (·.1))[j]? = some (evA y) := by rw [List.getElem?_map, hj]; rfl
        have e2 : (m.map (·.1))[i]? = some (evA y) := by rw [List.getElem?_map, hi, he]; rfl
        exact absurd ((List.getElem?_inj (List.getElem?_eq_some_iff.1 e1).1 h.nodup).1 (e1.trans e2.symm)) hji
      · exact ⟨y, hy, by rw [if_neg e]; exact he, by rw [if_neg e]; exact h0⟩
  · by_cases e : y = x
    · refine ⟨(evA x, .int .i64 v), List.mem_of_getElem? (i := j) ?_, by rw [e]⟩
      rw [List.getElem?_set, if_pos rfl, if_pos (List.getElem?_eq_some_iff.1 hj).1]
    · rw [if_neg e] at hy
      obtain ⟨p, hp, h1⟩ := h.has y hy
      obtain ⟨i, hi⟩ := List.getElem?_of_mem hp
      have hji : ¬ j = i := by
        intro hji
        subst hji
        rw [hj] at hi
        cases hi
        exact e (evA_inj h1.symm)
      refine ⟨p, List.mem_of_getElem? (i := i) ?_, h1⟩
      rw [List.getElem?_set, if_neg hji, hi]
  · have : (m.set j (evA x, .int .i64 v)).map (·.1) = m.map (·.1) := by
      rw [List.map_set]
      apply List.ext_getElem?
      intro i
      rw [List.getElem?_set]
      by_cases hji : j = i
      · subst hji
        have hlt := (List.getElem?_eq_some_iff.1 hj).1
        rw [if_pos rfl, if_pos (by rw [List.length_map]; exact hlt), List.getElem?_map, hj]; rfl
      · rw [if_neg hji]
    rw [this]
    exact h.nodup

theorem KnownOf.get {H : HP} {b : Nat} {k : Option Value → Prop} {m : List (Value × Value)} {f : Evt → Int} {u : Ent → HP} {r : HP} (hat : At H (.mapk b m) u r) (h : KnownOf m f) (x : Evt) (hx : x.wf)
    (h0 : f x = 0 → k none) (h1 : f x ≠ 0 → k (some (.int .i64 (f x)))) : VLkK Tryz.prog 64 H b (evA x) k := by
  refine .mk hat Tryz.lawE (evKey x hx) h.keys (fun hn => ?_) (fun j v hj => ?_)
  · by_cases h2 : f x = 0
    · exact h0 h2
    · obtain ⟨p, hp, he⟩ := h.has x h2
      exact absurd he (hn p hp)
  · obtain ⟨y, _, he, h3⟩ := h.only _ (List.mem_of_getElem? hj)
    simp only [Prod.mk.injEq] at he
    have := evA_inj he.1
    subst this
    rw [he.2]
    exact h1 h3

end Go.Proofs
end

section
section

set_option linter.unusedVariables false

namespace Go.Proofs

open Go Go.Vx Go.Gm

end Go.Proofs

end

section

set_option linter.unusedVariables false

set_option linter.unusedSimpArgs false

namespace Go.Proofs

open Go Go.Vx Go.Gm

end Go.Proofs

end
end

section
set_option linter.unusedVariables false

set_option linter.unusedSimpArgs false

namespace Go.Proofs

open Go Go.Vx

def Marks (m : List (Int × Value)) (S : List Int) : Prop := ∀ k, mfind m k = if k ∈ S then some (.bool true) else none

theorem mfind_mset (m : List (Int × Value)) (j : Int) (v : Value) (k : Int) : mfind (mset m j v) k = if j = k then some v else mfind m k := by
  induction m with
  | nil => simp [mset, mfind]
  | cons x m ih =>
    obtain ⟨a, b⟩ := x
    simp only [mset, mfind]
    by_cases h : a = j
    · subst h
      by_cases h2 : a = k <;> simp [mfind, h2]
    · by_cases h2 : a = k
      · have : ¬ j = k := fun e => h (by omega)
        subst h2
        rw [if_neg h, if_neg this]
        simp [mfind]
      · simp [mfind, h, h2, ih]

theorem Marks.add {m : List (Int × Value)} {S : List Int} (h : Marks m S) (j : Int) : Marks (mset m j (.bool true)) (S ++ [j]) := by
  intro k
  rw [mfind_mset, h k]
  by_cases e : j = k
  · subst e; simp
  · have : ¬ k = j := fun h => e h.symm
    simp [e, this]

end Go.Proofs
end
