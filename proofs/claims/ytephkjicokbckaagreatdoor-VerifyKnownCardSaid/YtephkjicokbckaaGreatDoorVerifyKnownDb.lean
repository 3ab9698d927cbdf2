import Derived.Test.YtephkjicokbckaaGreatDoorVerifyKnownNa
import Derived.Test.YtephkjicokbckaaGreatDoorVerifyKnownGa
import Derived.Test.YtephkjicokbckaaGreatDoorVerifyKnownVb
import Derived.Test.YtephkjicokbckaaGreatDoorVerifyKnownNb
import Derived.Shelf.Sort.Plain
import Derived.Ground.Names2Prog
import Derived.Shelf.Slices.SearchI
import Derived.Shelf.Slices.In.SortNone
import Derived.Test.YtephkjicokbckaaGreatDoorProg
section
section

set_option linter.unusedVariables false

set_option linter.unusedSimpArgs false

namespace Go.Proofs

open Go Go.Vx Go.Gm

end Go.Proofs

end

section

set_option linter.unusedVariables false

set_option linter.unusedSimpArgs false

namespace Go.Proofs

open Go Go.Vx Go.Gm

end Go.Proofs

end

section

set_option linter.unusedVariables false

set_option linter.unusedSimpArgs false

namespace Go.Proofs

open Go Go.Vx Go.Gm

structure CellM where
  p : Par
  s : Sta
  tick : Nat
  next : Int

theorem set_self {α : Type} {l : List α} {k : Nat} {a : α} (h : l[k]? = some a) : l.set k a = l := by
  obtain ⟨hlt, rfl⟩ := List.getElem?_eq_some_iff.1 h
  simp

end Go.Proofs

end

section

set_option linter.unusedVariables false

set_option linter.unusedSimpArgs false

namespace Go.Proofs

open Go Go.Vx Go.Gm

structure DueRow where
  key : Int
  blk : Nat
  l : List (Int × Int)

def dueFind : List DueRow → Int → Option DueRow
  | [], _ => none
  | r :: q, t => if r.key = t then some r else dueFind q t

def aFind : List (Int × Int) → Int → Option Int
  | [], _ => none
  | x :: q, i => if x.1 = i then some x.2 else aFind q i

def dueAt (Q : List DueRow) (t i : Int) : Option Int := (dueFind Q t).bind fun r => aFind r.l i

theorem dueFind_mem {Q : List DueRow} {t : Int} {r : DueRow} (h : dueFind Q t = some r) : r ∈ Q ∧ r.key = t := by
  induction Q with
  | nil => simp [dueFind] at h
  | cons z q ih =>
    simp only [dueFind] at h
    split at h
    · cases h; exact ⟨by simp, ‹_›⟩
    · have := ih h; exact ⟨by simp [this.1], this.2⟩

def NextC (c : CellM) : Prop := ∃ r : Int, NextIs c.p c.s r ∧ c.next = if 0 ≤ r then (c.tick : Int) + r else -1

structure LookY where
  spk : Bool
  cells : List CellM
  A : List Evt
  p : Option Addr
  cap : Nat

def lookSkip (c : CellM) (due : Option Int) (T : Nat) : Prop := T < c.tick ∨ (due = none ∧ c.next ≠ T)

def LookRel (cs : List CellM) (i : Nat) (c : CellM) (due : Option Int) (T : Nat) (A : List Evt) (y : LookY) : Prop :=
  (lookSkip c due T ∧ y.spk = false ∧ y.cells = cs ∧ y.A = A) ∨
  (¬ lookSkip c due T ∧ ∃ c', c'.p = c.p ∧ c'.tick = T + 1 ∧ (c'.s, y.spk) = tick c.p (silN c.p c.s (T - c.tick)) (due.getD 0) ∧ NextC c' ∧ y.cells = cs.set i c' ∧
    ((c'.next < 0 ∧ y.A = A) ∨ (0 ≤ c'.next ∧ HeapOk y.A ∧ y.A.Perm (A ++ [⟨c'.next, i⟩]))))

end Go.Proofs

end
end

section
section

set_option linter.unusedVariables false

set_option linter.unusedSimpArgs false

namespace Go.Proofs

open Go Go.Vx Go.Gm

def aSet : List (Int × Int) → Int → Int → List (Int × Int)
  | [], i, v => [(i, v)]
  | x :: q, i, v => if x.1 = i then (i, v) :: q else x :: aSet q i v

def RowMade (Q : List DueRow) (t : Int) (Q1 : List DueRow) : Prop := (Q1 = Q ∧ ∃ r, dueFind Q t = some r) ∨ (dueFind Q t = none ∧ ∃ b, Q1 = Q ++ [(⟨t, b, []⟩ : DueRow)])

def AddRel (Q : List DueRow) (A : List Evt) (t i wt : Int) (Q' : List DueRow) (A' : List Evt) : Prop :=
  ∃ (Q1 : List DueRow) (j : Nat) (r : DueRow), RowMade Q t Q1 ∧ dueFind Q1 t = some r ∧ Q1[j]? = some r ∧ r.key = t ∧ Q' = Q1.set j ⟨t, r.blk, aSet r.l i (wadd ((aFind r.l i).getD 0) wt)⟩ ∧
    (((∃ v, aFind r.l i = some v) ∧ A' = A) ∨ (aFind r.l i = none ∧ HeapOk A' ∧ A'.Perm (A ++ [⟨t, i⟩])))

end Go.Proofs

end

section

set_option linter.unusedVariables false

set_option linter.unusedSimpArgs false

namespace Go.Proofs

open Go Go.Vx Go.Gm

structure WiOk (w : World) (M : List Nat) (bw : Nat) (R : List WRow) : Prop where
  map : mapIs w bw (R.map wrowM)
  mapM : bw ∉ M
  rows : ∀ r ∈ R, ∃ g, r.p = some ⟨g, 0, none⟩ ∧ Sl w synV 4 r.l r.p r.l.length g 0 ∧ g ∉ M

theorem WiOk.look {w : World} {M : List Nat} {bw : Nat} {R : List WRow} (h : WiOk w M bw R) (k : Int) : ∃ (p : Option Addr) (c g : Nat), (mfind (R.map wrowM) k = some (.slice p (wfind (R.map wrowK) k).length c) ∨ (mfind (R.map wrowM) k = none ∧ Value.slice p (wfind (R.map wrowK) k).length c = nilS)) ∧
    Sl w synV 4 (wfind (R.map wrowK) k) p (wfind (R.map wrowK) k).length g 0 ∧ g ∉ M := by
  rcases look_cases R k with ⟨r, h1, h2, h3⟩ | ⟨h2, h3⟩
  · obtain ⟨g, hg, hsl, hM⟩ := h.rows r h1
    rw [h3]
    exact ⟨r.p, r.cap, g, .inl h2, hsl, hM⟩
  · rw [h3]
    exact ⟨none, 0, bw, .inr ⟨h2, rfl⟩, .nil (.inl rfl), h.mapM⟩

inductive Adds (T : Int) (Q : List DueRow) (A : List Evt) : List Syn → List DueRow → List Evt → Prop
  | nil : Adds T Q A [] Q A
  | snoc {l : List Syn} {s : Syn} {Q1 Q2 : List DueRow} {A1 A2 : List Evt} (h : Adds T Q A l Q1 A1) (h2 : AddRel Q1 A1 (T + s.dl) s.to s.wt Q2 A2) : Adds T Q A (l ++ [s]) Q2 A2

theorem AddRel.heap {Q Q' : List DueRow} {A A' : List Evt} {t i wt : Int} (h : AddRel Q A t i wt Q' A') (hA : HeapOk A) : HeapOk A' ∧ A'.length ≤ A.length + 1 := by
  obtain ⟨Q1, j, r, _, _, _, _, _, h | h⟩ := h
  · rw [h.2]; exact ⟨hA, by omega⟩
  · refine ⟨h.2.1, ?_⟩
    have := h.2.2.length_eq
    simp at this
    omega

theorem Adds.heap {T : Int} {Q Q' : List DueRow} {A A' : List Evt} {l : List Syn} (h : Adds T Q A l Q' A') (hA : HeapOk A) : HeapOk A' ∧ A'.length ≤ A.length + l.length := by
  induction h with
  | nil => exact ⟨hA, by simp⟩
  | snoc _ h2 ih =>
    have := h2.heap ih.1
    exact ⟨this.1, by simp; omega⟩

end Go.Proofs

end

section

namespace Go.Proofs

open Go.Shelf

def Tryz.lays189_ren : Go.Shelf.Ren := ⟨fun | 189 => 129 | 125 => 171 | 257 => 170 | 128 => 198 | 129 => 199 | 294 => 189 | 295 => 190 | 296 => 191 | 297 => 192 | 298 => 193 | 299 => 194 | 216 => 195 | 300 => 196 | 301 => 197 | 328 => 213 | 329 => 214 | 330 => 215 | 331 => 216 | 332 => 217 | 215 => 185 | 343 => 225 | n => n, fun | 28 => 26 | 3 => 3 | 46 => 242 | 0 => 0 | 51 => 260 | 53 => 67 | 4 => 4 | 183 => 253 | 182 => 252 | 131 => 257 | 5 => 5 | 9 => 9 | 218 => 270 | 222 => 274 | 228 => 283 | 229 => 284 | n => n, fun | n => n⟩

theorem Tryz.lays189 : Go.Proofs.Lays.n189 Tryz.prog Tryz.lays189_ren := {
  mixed := by kernel_rfl
  f125 := Tryz.func171.trans (congrArg some (by kernel_rfl))
  f128 := Tryz.func198.trans (congrArg some (by kernel_rfl))
  f129 := Tryz.func199.trans (congrArg some (by kernel_rfl))
  f189 := Tryz.func129.trans (congrArg some (by kernel_rfl))
  f215 := Tryz.func185.trans (congrArg some (by kernel_rfl))
  f216 := Tryz.func195.trans (congrArg some (by kernel_rfl))
  f257 := Tryz.func170.trans (congrArg some (by kernel_rfl))
  f294 := Tryz.func189.trans (congrArg some (by kernel_rfl))
  f295 := Tryz.func190.trans (congrArg some (by kernel_rfl))
  f296 := Tryz.func191.trans (congrArg some (by kernel_rfl))
  f297 := Tryz.func192.trans (congrArg some (by kernel_rfl))
  f298 := Tryz.func193.trans (congrArg some (by kernel_rfl))
  f299 := Tryz.func194.trans (congrArg some (by kernel_rfl))
  f300 := Tryz.func196.trans (congrArg some (by kernel_rfl))
  f301 := Tryz.func197.trans (congrArg some (by kernel_rfl))
  f328 := Tryz.func213.trans (congrArg some (by kernel_rfl))
  f329 := Tryz.func214.trans (congrArg some (by kernel_rfl))
  f330 := Tryz.func215.trans (congrArg some (by kernel_rfl))
  f331 := Tryz.func216.trans (congrArg some (by kernel_rfl))
  f332 := Tryz.func217.trans (congrArg some (by kernel_rfl))
  f343 := Tryz.func225.trans (congrArg some (by kernel_rfl))
  t0 := Tryz.underlying0
  a0 := Tryz.isAgg0
  z0 := Tryz.sizeOf0
  v0 := Tryz.zeroValue0
  t3 := Tryz.underlying3
  a3 := Tryz.isAgg3
  z3 := Tryz.sizeOf3
  v3 := Tryz.zeroValue3
  t4 := Tryz.underlying4
  a4 := Tryz.isAgg4
  z4 := Tryz.sizeOf4
  v4 := Tryz.zeroValue4
  t5 := Tryz.underlying5
  a5 := Tryz.isAgg5
  z5 := Tryz.sizeOf5
  v5 := Tryz.zeroValue5
  t9 := Tryz.underlying9
  a9 := Tryz.isAgg9
  z9 := Tryz.sizeOf9
  v9 := Tryz.zeroValue9
  t28 := Tryz.underlying26
  a28 := Tryz.isAgg26
  z28 := Tryz.sizeOf26
  v28 := Tryz.zeroValue26
  t46 := Tryz.underlying242
  a46 := Tryz.isAgg242
  z46 := Tryz.sizeOf242
  v46 := Tryz.zeroValue242
  t51 := Tryz.underlying260
  a51 := Tryz.isAgg260
  z51 := Tryz.sizeOf260
  v51 := Tryz.zeroValue260
  t53 := Tryz.underlying67
  a53 := Tryz.isAgg67
  z53 := Tryz.sizeOf67
  v53 := Tryz.zeroValue67
  t131 := Tryz.underlying257
  a131 := Tryz.isAgg257
  z131 := Tryz.sizeOf257
  v131 := Tryz.zeroValue257
  t182 := Tryz.underlying252
  a182 := Tryz.isAgg252
  z182 := Tryz.sizeOf252
  v182 := Tryz.zeroValue252
  t183 := Tryz.underlying253
  a183 := Tryz.isAgg253
  z183 := Tryz.sizeOf253
  v183 := Tryz.zeroValue253
  t218 := Tryz.underlying270
  a218 := Tryz.isAgg270
  z218 := Tryz.sizeOf270
  v218 := Tryz.zeroValue270
  t222 := Tryz.underlying274
  a222 := Tryz.isAgg274
  z222 := Tryz.sizeOf274
  v222 := Tryz.zeroValue274
  t228 := Tryz.underlying283
  a228 := Tryz.isAgg283
  z228 := Tryz.sizeOf283
  v228 := Tryz.zeroValue283
  t229 := Tryz.underlying284
  a229 := Tryz.isAgg284
  z229 := Tryz.sizeOf284
  v229 := Tryz.zeroValue284 }

open Go.Sort Go.RowKit in

theorem Tryz.slices_Sort_int (blk off cap : Nat) (zs : List Int) (w : World) (hH : Holds (Value.int .i64) w blk off zs.toArray) (hblk : blk < w.heap.size) (hsz : zs.length < 4611686018427387904) :
    Calls Tryz.prog 129 #[.slice (some ⟨blk, off, none⟩) zs.length cap] w fun e w' =>
      e = .returned (.tuple #[]) ∧ ∃ n os, w' = grow (putRow (Value.int .i64) (Sort.ahead w n) blk off (zs.mergeSort fun x y => decide (x ≤ y)).toArray) os := Any.slices_Sort_int Tryz.lays189 blk off cap zs w hH hblk hsz

open Go.RowKit Go.Sort in

theorem Tryz.slices_Sort_int_none (p : Option Addr) (cap : Nat) (w : World) :
    Calls Tryz.prog 129 #[.slice p 0 cap] w fun e w' => e = .returned (.tuple #[]) ∧ w' = w := Any.slices_Sort_int_none Tryz.lays189 p cap w

end Go.Proofs

end

section

set_option linter.unusedVariables false

set_option linter.unusedSimpArgs false

namespace Go.Proofs

open Go Go.Vx Go.Gm

def sorted (xs : List Int) : List Int := xs.mergeSort fun x y => decide (x ≤ y)

theorem flat_intV (xs : List Int) : flat intV xs = xs.map (Value.int .i64) := by
  induction xs with
  | nil => rfl
  | cons x r ih => simp only [flat, List.flatMap_cons, intV, List.map_cons] at ih ⊢; rw [ih]; rfl

theorem sort_call {w0 : World} {M : List Nat} {H r : HP} {u : Ent → HP} {K : Value → HP → Prop} (p : Option Addr) (n cap : Nat) (xs : List Int) (hn : xs.length = n) (hat : At H (.vec p n cap 3 1 (flat intV xs)) u r) (hsz : n < 4611686018427387904)
    (hk : K (.tuple #[]) (u (.vec p n cap 3 1 (flat intV (sorted xs))))) : VCall Tryz.cx.P w0 M H 129 [.slice p n cap] K := by
  refine .mk fun w hw => ?_
  have hsat := hw.own _ hat.mem
  have hsl : (sorted xs).length = n := by unfold sorted; rw [List.length_mergeSort, hn]
  cases p with
  | none =>
    obtain ⟨h1, h2⟩ := hsat
    rcases h2 with ⟨h3, h4⟩ | ⟨g, c, cur, hv, _⟩
    · simp only [Value.slice.injEq] at h3
      have hn0 : n = 0 := h3.2.1
      subst hn0
      have hx : xs = [] := List.eq_nil_of_length_eq_zero hn
      subst hx
      refine (Tryz.slices_Sort_int_none none cap w).mono fun e w' ⟨he, hw'⟩ => ?_
      subst hw'
      refine ⟨.tuple #[], _, he, ?_, hk⟩
      have : sorted [] = [] := by simp [sorted]
      rw [this]
      exact hw.turn hat (fun h => h)
    · cases hv
  | some a =>
    obtain ⟨g, cur, hg, hh, hnc, hcm, hcs, ht, hlen⟩ := vec_some hsat
    subst hg
    have hcell : ∀ j, j < xs.length → cur[j]? = some (.int .i64 (xs[j]!)) := by
      intro j hj
      have h1 : (cur.toList.take (n * 1))[j]? = (flat intV xs)[j]? := by rw [ht]
      rw [List.getElem?_take, if_pos (by omega), flat_intV, List.getElem?_map, List.getElem?_eq_getElem hj] at h1
      simp only [Option.map_some] at h1
      rw [getElem!_pos _ j hj]
      simpa using h1
    have hH : Go.Sort.Holds (Value.int .i64) w g 0 xs.toArray := by
      intro j hj
      have hj' : j < xs.length := by simpa using hj
      have := hcell j hj'
      refine ⟨?_, ?_⟩
      · simp only [Nat.zero_add, World.cell?, hh]
        simpa using this
      · simp [World.frozen?, hh]
    have hglt : g < w.heap.size := (Array.getElem?_eq_some_iff.1 hh).1
    have hc := Tryz.slices_Sort_int g 0 cap xs w hH hglt (by omega)
    rw [hn] at hc
    refine hc.mono fun e w' ⟨he, q, os, hw'⟩ => ⟨.tuple #[], _, he, ?_, hk⟩
    subst hw'
    refine hw.turn hat fun hx => ?_
    have hheap : ∀ b, b < w.heap.size → (Go.Sort.grow (Go.Sort.putRow (Value.int .i64) (Go.Sort.ahead w q) g 0 (xs.mergeSort fun x y => decide (x ≤ y)).toArray) os).heap[b]? =
        if g = b then (w.heap[b]?).map (Go.Sort.onCells (Go.Sort.putCells (Value.int .i64) 0 (xs.mergeSort fun x y => decide (x ≤ y)).toArray)) else w.heap[b]? := by
      intro b hb
      simp only [Go.Sort.grow, Go.Sort.putRow, Go.Sort.mapBlock, Go.Sort.ahead]
      rw [Array.getElem?_append_left (by simpa using hb), Array.getElem?_modify]
    refine hx.step rfl rfl rfl (by simp [Go.Sort.grow, Go.Sort.putRow, Go.Sort.mapBlock, Go.Sort.ahead]) (fun b hb hne => ?_) ?_ (fun b hb => .inl hb)
    · rw [hheap b hb, if_neg (fun e => hne (by rw [← e]; rfl))]
    · have h2 := hheap g hglt
      rw [if_pos rfl, hh] at h2
      simp only [Option.map_some, Go.Sort.onCells] at h2
      refine ownsRow_mk h2 hnc hcm (by simp [Go.Sort.putCells, hcs]) ?_
      apply List.ext_getElem?
      intro j
      rw [List.getElem?_take, flat_intV, List.getElem?_map]
      have hsl' : (xs.mergeSort fun x y => decide (x ≤ y)).length = n := hsl
      by_cases hj : j < n
      · rw [if_pos (by omega)]
        have hjc : j < cur.size := by omega
        simp only [Array.getElem?_toList, Go.Sort.putCells, Array.getElem?_mapIdx, List.size_toArray, hsl', Nat.zero_add, Nat.zero_le, true_and, hj, if_true, Nat.sub_zero, Array.getElem?_eq_getElem hjc, Option.map_some]
        have : j < (sorted xs).length := by omega
        rw [List.getElem?_eq_getElem this]
        simp only [Option.map_some, Option.some.injEq, Value.int.injEq, true_and]
        rw [getElem!_pos _ j (by simpa [hsl'] using hj)]
        rfl
      · rw [if_neg (by omega), List.getElem?_eq_none (by omega)]
        rfl

end Go.Proofs

end
end
