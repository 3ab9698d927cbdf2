import Derived.Test.YtephkjicokbckaaGreatDoorVerifyKnownSx
import Derived.Test.YtephkjicokbckaaGreatDoorVerifyKnownKy
import Derived.Test.YtephkjicokbckaaGreatDoorVerifyKnownCpy
import Derived.StringKeys
set_option linter.unusedVariables false

set_option linter.unusedSimpArgs false

namespace Go.Gm

theorem rot_mem {t : Nat} {D : List (List Int)} (h : D.length = 16) {r : List Int} (hr : r ∈ D) : r ∈ rot t D := by
  obtain ⟨i, hi⟩ := List.getElem?_of_mem hr
  have hlt : i < 16 := by have := (List.getElem?_eq_some_iff.1 hi).1; omega
  refine List.mem_of_getElem? (i := (i + 16 - t % 16) % 16) ?_
  rw [rot_get, if_pos (Nat.mod_lt _ (by omega))]
  have e : (t + (i + 16 - t % 16) % 16) % 16 = i := by omega
  rw [e, hi]; rfl

theorem mem_rot {t : Nat} {D : List (List Int)} (h : D.length = 16) {r : List Int} (hr : r ∈ rot t D) : r ∈ D := by
  obtain ⟨i, hi⟩ := List.getElem?_of_mem hr
  rw [rot_get] at hi
  split at hi
  · cases hi
    have hlt : (t + i) % 16 < D.length := by omega
    rw [List.getElem?_eq_getElem hlt]
    exact List.getElem_mem hlt
  · cases hi

theorem flatten_inj {n : Nat} : ∀ {A B : List (List Int)}, A.length = B.length → (∀ r ∈ A, r.length = n) → (∀ r ∈ B, r.length = n) → A.flatten = B.flatten → A = B
  | [], [], _, _, _, _ => rfl
  | [], b :: B, h, _, _, _ => by simp at h
  | a :: A, [], h, _, _, _ => by simp at h
  | a :: A, b :: B, h, ha, hb, e => by
    rw [List.flatten_cons, List.flatten_cons] at e
    obtain ⟨e1, e2⟩ := List.append_inj e ((ha a List.mem_cons_self).trans (hb b List.mem_cons_self).symm)
    subst e1
    rw [flatten_inj (by simpa using h) (fun r hr => ha r (List.mem_cons_of_mem _ hr)) (fun r hr => hb r (List.mem_cons_of_mem _ hr)) e2]

end Go.Gm

namespace Go.Proofs

open Go Go.Vx Go.Gm

theorem fixed_merged {N : Net} {v : Sur} (h : SurOk N v) (hi : 0 ≤ N.inputs) (t : Int) : insC N ⟨[], v.fixed, 0⟩ t 0 = fixedL v.fixed t := by
  obtain ⟨h1, h2⟩ := fixedL_asc h.fixed t
  refine asc_ext (insC_asc _ _ _ _) h1 fun i => ?_
  unfold insC
  rw [mem_mergedT]
  dsimp only
  constructor
  · rintro ⟨_, h | h⟩
    · cases h
    · exact h
  · intro h
    have := h2 i h
    exact ⟨by omega, .inr h⟩

theorem SurOk.plain {N : Net} {v : Sur} (h : SurOk N v) : SurOk N ⟨[], v.fixed, 0⟩ :=
  ⟨by simp, List.Pairwise.nil, by simp, h.fixed, by simp, Int.le_refl _⟩

theorem smOf_okN {x : SimM} (h : SimRun x) : SmOk x.N (smOf x) := by
  refine ⟨h.ok.sts, h.sta, by show (x.D.map (·.l)).length = 16; rw [List.length_map]; exact h.ok.due, fun r hr => ?_⟩
  obtain ⟨d, hd, rfl⟩ := List.mem_map.1 hr
  exact h.ok.cells d hd

def smT (x : SimM) : Sm := smRot x.tick (smOf x)

theorem spk_smT (x : SimM) : spk (simFire x) = rSpk x.N (smT x) := by
  unfold rSpk smT smRot smOf simFire
  dsimp only
  rw [rot_get, if_pos (by omega), List.getElem?_map, Nat.add_zero]
  rfl

theorem smT_step {x : SimM} (h : SimRun x) {ins : List Int} (h0 : ∀ k ∈ ins, 0 ≤ k) (hn : ins.Nodup) : smT (simStep x ins) = refStep x.N (smT x) ins := by
  unfold smT
  rw [smOf_step]
  exact ref_step h.ok.net (smOf_okN h) x.tick (refSrcs_nodup x.N (smRot x.tick (smOf x)) h0 hn)

theorem smT_rows {x : SimM} (h : SimRun x) : (smT x).sts.length = x.N.ps.length ∧ (smT x).D.length = 16 ∧ ∀ r ∈ (smT x).D, r.length = x.N.ps.length := by
  refine ⟨h.ok.sts, rot_length _ _, fun r hr => ?_⟩
  have hm := mem_rot (by rw [show (smOf x).D = x.D.map (·.l) from rfl, List.length_map]; exact h.ok.due) hr
  obtain ⟨d, hd, rfl⟩ := List.mem_map.1 hm
  exact h.ok.cells d hd

theorem smT_due {x : SimM} (h : SimRun x) (h64 : Due64 (smT x).D) : ∀ d ∈ x.D, ∀ v ∈ d.l, I64 v := by
  intro d hd v hv
  refine h64 d.l (rot_mem ?_ (List.mem_map_of_mem hd)) v hv
  show (x.D.map (·.l)).length = 16
  rw [List.length_map]; exact h.ok.due

def ptrB : Option Nat → Value
  | none => .pointer none
  | some b => .pointer (some ⟨b, 0, none⟩)

structure RNode where
  b : Nat
  sim : SimM
  left : Int
  shown : SlD Bool
  frm : Option Nat
  now : SlD Evt
  run : List Evt

def RNode.nd (x : RNode) : NodeM := ⟨x.b, x.sim, x.left, x.shown, ptrB x.frm, slV x.now⟩

def RNode.sit (x : RNode) : Sit := ⟨smT x.sim, x.left, x.shown.l, x.run⟩

def rnRow (x : RNode) : Ent := .row x.b 102 (nodeC x.nd)

def rnS (x : RNode) : Ent := .vec x.shown.p x.shown.l.length x.shown.c 4 1 (flat boolV x.shown.l)

def rnN (x : RNode) : Ent := .vec x.now.p x.now.l.length x.now.c 64 2 (flat evtV x.now.l)

def rnE (x : RNode) : HP := rnRow x :: rnS x :: rnN x :: ownH x.sim

structure NdOk (N : Net) (S0 : HP) (m : Nat) (x : RNode) : Prop where
  run : SimRun x.sim
  net : x.sim.N = N
  shr : shrH x.sim = S0
  due : Due64 (smT x.sim).D
  left : 0 ≤ x.left ∧ x.left ≤ 9223372036854775807
  shown : x.shown.l.length = m
  sp : ∃ g, x.shown.p = some ⟨g, 0, none⟩

inductive Chain (A : List RNode) : Nat → RNode → Prop
  | root {x : RNode} (hx : x ∈ A) (hf : x.frm = none) (hn : x.now.l = []) (hr : x.run = []) : Chain A 0 x
  | next {k : Nat} {x p : RNode} (hx : x ∈ A) (hp : Chain A k p) (hf : x.frm = some p.b) (hn : x.now.l.length ≤ 1000) (hr : x.run = p.run ++ x.now.l) : Chain A (k + 1) x

theorem Chain.mono {A B : List RNode} (hs : ∀ x ∈ A, x ∈ B) {k : Nat} {x : RNode} (h : Chain A k x) : Chain B k x := by
  induction h with
  | root hx hf hn hr => exact .root (hs _ hx) hf hn hr
  | next hx hp hf hn hr ih => exact .next (hs _ hx) ih hf hn hr

theorem Chain.mem {A : List RNode} {k : Nat} {x : RNode} (h : Chain A k x) : x ∈ A := by cases h <;> assumption

theorem Chain.len {A : List RNode} {k : Nat} {x : RNode} (h : Chain A k x) : x.run.length ≤ k * 1000 := by
  induction h with
  | root hx hf hn hr => rw [hr]; simp
  | next hx hp hf hn hr ih => rw [hr, List.length_append, Nat.add_mul]; omega

structure RunRd (w : World) (x : RNode) : Prop where
  cells : Cells w x.b 0 (nodeC x.nd)
  now : ∃ b, Sl w evtV 2 x.now.l x.now.p x.now.l.length b 0

theorem RunRd.keep {w w' : World} {H : HP} {x : RNode} (h : RunRd w x) (hs : St w [] H w') : RunRd w' x := by
  obtain ⟨h1, b, h2⟩ := h
  exact ⟨h1.keep hs (by simp), b, h2.keep hs (by simp)⟩

theorem HLe.mem_flat {α : Type} {f : α → HP} {A : List α} {x : α} (h : x ∈ A) : HLe (f x) (A.flatMap f) := by
  obtain ⟨A1, A2, rfl⟩ := List.append_of_mem h
  refine HLe.of_sub (A1.flatMap f ++ A2.flatMap f) ?_
  rw [List.flatMap_append, List.flatMap_cons]
  exact (List.perm_append_comm_assoc ..)

theorem RunRd.of {w0 w : World} {M : List Nat} {H : HP} {x : RNode} (hs : St w0 M H w) (hl : HLe (rnE x) H) : RunRd w x := by
  have h := hs.le hl
  obtain ⟨b2, h2⟩ := Sl.own (f := evtV) (l := x.now.l) (cap := x.now.c) (e := 64) (p := x.now.p) (k := 2) h (.there (.there .here)) (fun _ => rfl) rfl
  exact ⟨Cells.row h .here, b2, h2⟩

theorem NodeRd.of {w0 w : World} {M : List Nat} {H : HP} {x : RNode} {N : Net} {S0 : HP} {m : Nat} (hx : NdOk N S0 m x) (hm : m ≤ 1000) (hs : St w0 M H w) (hl : HLe (rnE x) H) : NodeRd w x.nd := by
  have h := hs.le hl
  obtain ⟨b1, h1⟩ := Sl.own (f := boolV) (l := x.shown.l) (cap := x.shown.c) (e := 4) (p := x.shown.p) (k := 1) h (.there .here) (fun _ => rfl) rfl
  refine ⟨Cells.row h .here, SimRd.of h ?_, hx.run, smT_due hx.run hx.due, ⟨b1, 0, h1⟩, by show x.shown.l.length ≤ 1000; rw [hx.shown]; exact hm, by have := hx.left; show I64 x.left; unfold I64; omega⟩
  exact HLe.of_sub [rnRow x, rnS x, rnN x] (by show ([rnRow x, rnS x, rnN x] ++ ownH x.sim).Perm _; exact List.perm_append_comm)

def keyN (x : RNode) : List UInt8 := keyB x.sim.sts (rot x.sim.tick (x.sim.D.map (·.l))).flatten x.shown.l x.left

def keyV (x : RNode) : Value := .string ⟨(keyN x).toArray⟩

theorem rows_len {n : Nat} : ∀ {R : List (List Int)}, (∀ r ∈ R, r.length = n) → R.flatten.length = R.length * n
  | [], _ => by simp
  | r :: R, h => by rw [List.flatten_cons, List.length_append, rows_len fun q hq => h q (List.mem_cons_of_mem _ hq), h r List.mem_cons_self, List.length_cons, Nat.succ_mul]; omega

theorem key_sig {N : Net} {S0 : HP} {m : Nat} {x y : RNode} (hx : NdOk N S0 m x) (hy : NdOk N S0 m y) : keyN x = keyN y ↔ x.sit.sig = y.sit.sig := by
  obtain ⟨a1, a2, a3⟩ := smT_rows hx.run
  obtain ⟨b1, b2, b3⟩ := smT_rows hy.run
  rw [hx.net] at a1 a3
  rw [hy.net] at b1 b3
  have ex : keyN x = keyB (smT x.sim).sts (smT x.sim).D.flatten x.shown.l x.left := rfl
  have ey : keyN y = keyB (smT y.sim).sts (smT y.sim).D.flatten y.shown.l y.left := rfl
  have es : ∀ z : RNode, z.sit.sig = (((smT z.sim).sts, (smT z.sim).D), z.left, z.shown.l) := fun z => rfl
  rw [ex, ey, es, es]
  constructor
  · intro h
    obtain ⟨h1, h2, h3, h4⟩ := keyB_inj (a1.trans b1.symm) (by rw [rows_len a3, rows_len b3, a2, b2]) (hx.shown.trans hy.shown.symm) h
    rw [h1, flatten_inj (a2.trans b2.symm) a3 b3 h2, h3, h4]
  · intro h
    simp only [Prod.mk.injEq] at h
    rw [h.1.1, h.1.2, h.2.1, h.2.2]

theorem keyV_inj {x y : RNode} : keyV x = keyV y ↔ keyN x = keyN y := by
  unfold keyV
  constructor
  · intro h
    simp only [Value.string.injEq, ByteArray.mk.injEq] at h
    have := congrArg Array.toList h
    simpa using this
  · intro h
    rw [h]

theorem key_len {N : Net} {S0 : HP} {m : Nat} {x : RNode} (hx : NdOk N S0 m x) (hm : m ≤ 1000) : (keyN x).length ≤ 1000000 := by
  obtain ⟨a1, a2, a3⟩ := smT_rows hx.run
  have hN := hx.run.ok.net
  rw [hx.net] at a1 a3 hN
  have hfew := hN.few
  have hss := hx.run.sta
  have hl := hx.run.ok.sts
  have ex : keyN x = keyB (smT x.sim).sts (smT x.sim).D.flatten x.shown.l x.left := rfl
  rw [ex]
  unfold keyB
  have hsw : ∀ s ∈ (smT x.sim).sts, I64 s.v ∧ I64 s.rest := by
    intro s hs
    change s ∈ x.sim.sts at hs
    obtain ⟨k, hk⟩ := List.getElem?_of_mem hs
    have hlt := (List.getElem?_eq_some_iff.1 hk).1
    obtain ⟨q, hq⟩ : ∃ q, x.sim.N.ps[k]? = some q := ⟨x.sim.N.ps[k]'(by omega), List.getElem?_eq_getElem _⟩
    have h1 := hss k q s hq hk
    have h2 := hx.run.ok.net.ps q (List.mem_of_getElem? hq)
    have h3 := h2.fl
    have h4 := h2.rest
    unfold staOk at h1
    unfold I64
    omega
  have e1 := flatMap_bound (f := fun s : Sta => numB s.v ++ numB s.rest) (B := 44) (l := (smT x.sim).sts) fun s hs => by
    obtain ⟨h1, h2⟩ := hsw s hs
    have := numB_len s.v h1
    have := numB_len s.rest h2
    rw [List.length_append]; omega
  have e2 := flatMap_bound (f := numB) (B := 22) (l := (smT x.sim).D.flatten) fun v hv => by
    obtain ⟨l, hl, hvl⟩ := List.mem_flatten.1 hv
    exact numB_len v (hx.due l hl v hvl)
  have e3 := flatMap_bound (f := boolB) (B := 5) (l := x.shown.l) fun v _ => boolB_len v
  have e4 := numB_len x.left (by have := hx.left; unfold I64; omega)
  have e5 := rows_len a3
  rw [a2] at e5
  have h5 := hx.shown
  rw [List.length_append, List.length_append, List.length_append]
  omega

def metM (nx : List RNode) : List (Value × Value) := nx.map fun x => (keyV x, .bool true)

theorem Tryz.undS : Tryz.prog.underlying 9 = some .string := Tryz.underlying9

theorem keyV_of {N : Net} {S0 : HP} {m : Nat} {x : RNode} (hx : NdOk N S0 m x) (hm : m ≤ 1000) : ∃ l, keyOf Tryz.prog 9 (keyV x) = some l := by
  refine ⟨_, WideMaps.keyOf_string_mk Tryz.undS (s := ⟨(keyN x).toArray⟩) ?_⟩
  have := key_len hx hm
  show (keyN x).toArray.size ≤ maxLen
  rw [List.size_toArray]
  simp only [maxLen]
  omega

theorem metM_keys {N : Net} {S0 : HP} {m : Nat} {nx : List RNode} (h : ∀ x ∈ nx, NdOk N S0 m x) (hm : m ≤ 1000) : ∀ p ∈ metM nx, ∃ l, keyOf Tryz.prog 9 p.1 = some l := by
  intro p hp
  obtain ⟨x, hx, rfl⟩ := List.mem_map.1 hp
  exact keyV_of (h x hx) hm

theorem met_look {H : HP} {b : Nat} {k : Option Value → Prop} {N : Net} {S0 : HP} {m : Nat} {nx : List RNode} {u : Ent → HP} {r : HP} (hat : At H (.mapk b (metM nx)) u r) (h : ∀ x ∈ nx, NdOk N S0 m x) (hm : m ≤ 1000) {x : RNode} (hx : NdOk N S0 m x)
    (h0 : (nx.map RNode.sit).any (fun y => decide (y.sig = x.sit.sig)) = false → k none) (h1 : (nx.map RNode.sit).any (fun y => decide (y.sig = x.sit.sig)) = true → k (some (.bool true))) :
    VLkK Tryz.prog 9 H b (keyV x) k := by
  refine .mk hat (WideMaps.string_law Tryz.undS) (keyV_of hx hm) (metM_keys h hm) (fun hn => h0 ?_) (fun j v hj => ?_)
  · rw [List.any_eq_false]
    intro y hy
    obtain ⟨z, hz, rfl⟩ := List.mem_map.1 hy
    simp only [decide_eq_true_eq]
    intro e
    exact hn (keyV z, .bool true) (List.mem_map.2 ⟨z, hz, rfl⟩) (keyV_inj.2 ((key_sig (h z hz) hx).2 e))
  · obtain ⟨z, hz, e⟩ := List.mem_map.1 (List.mem_of_getElem? hj)
    simp only [Prod.mk.injEq] at e
    obtain ⟨e1, rfl⟩ := e
    refine h1 ?_
    rw [List.any_eq_true]
    refine ⟨z.sit, List.mem_map_of_mem hz, ?_⟩
    simp only [decide_eq_true_eq]
    exact (key_sig (h z hz) hx).1 (keyV_inj.1 e1)

theorem met_put {H : HP} {b : Nat} {k : HP → Prop} {N : Net} {S0 : HP} {m : Nat} {nx : List RNode} {u : Ent → HP} {r : HP} (hat : At H (.mapk b (metM nx)) u r) (h : ∀ x ∈ nx, NdOk N S0 m x) (hm : m ≤ 1000) {x : RNode} (hx : NdOk N S0 m x)
    (hno : (nx.map RNode.sit).any (fun y => decide (y.sig = x.sit.sig)) = false) (hk : k (u (.mapk b (metM (nx ++ [x]))))) : VUpK Tryz.prog 9 H b (keyV x) (.bool true) k := by
  refine .mk hat (WideMaps.string_law Tryz.undS) (keyV_of hx hm) (metM_keys h hm) (fun hn => ?_) (fun j v0 hj => ?_)
  · have e : metM (nx ++ [x]) = metM nx ++ [(keyV x, .bool true)] := by simp [metM]
    rw [← e]
    exact hk
  · exfalso
    obtain ⟨z, hz, e⟩ := List.mem_map.1 (List.mem_of_getElem? hj)
    simp only [Prod.mk.injEq] at e
    rw [List.any_eq_false] at hno
    refine hno z.sit (List.mem_map_of_mem hz) ?_
    simp only [decide_eq_true_eq]
    exact (key_sig (h z hz) hx).1 (keyV_inj.1 e.1)

theorem put_old {N : List Sit} {x : Sit} (h : N.any (fun y => decide (y.sig = x.sig)) = true) : put N x = N := by unfold put; rw [if_pos h]

theorem put_new {N : List Sit} {x : Sit} (h : N.any (fun y => decide (y.sig = x.sig)) = false) : put N x = N ++ [x] := by unfold put; rw [if_neg (by rw [h]; simp)]

theorem Step_nd {w0 : World} {M : List Nat} {H : HP} {Z : HP → HP} {K : Value → HP → Prop} (x : SimM) (h : SimRun x) (ht : x.tick < 10000) (sp : List Int) (hsp : rSpk x.N (smT x) = sp) (ins : List Int) (he : ascErr x.N.inputs none ins = 0) (hil : ins.length < 9223372036854775807) (p : Option Addr) (n c : Nat) (hn : n = ins.length)
    (hat : AtS H (ownH x) Z) (hle : HLe (ownH x ++ shrH x) H) (hin : ∀ w, St w0 M H w → ∃ bi oi, Sl w intV 1 ins p ins.length bi oi ∧ bi ∉ ids (ownH x))
    (hk : ∀ q cap, (0 < sp.length → ∃ g, q = some ⟨g, 0, none⟩) → K (.tuple #[.slice q sp.length cap, .int .i64 0]) (.vec q sp.length cap 3 1 (flat intV sp) :: Z (ownH (simStep x ins)))) :
    VCall Tryz.cx.P w0 M H 57 [.pointer (some ⟨x.b, 0, none⟩), .slice p n c] K := by
  subst hsp
  have h0 : stepErr x ins = 0 := by unfold stepErr; rw [if_neg (by omega)]; exact he
  have h1 : stepSpk x ins = rSpk x.N (smT x) := by unfold stepSpk; rw [if_pos h0, spk_smT]
  have h2 : stepSim x ins = simStep x ins := by unfold stepSim; rw [if_pos h0]
  rw [← h1, ← h2, ← h0] at hk
  subst hn
  refine VCall.turnV (α := Option Addr × Nat) (fun z => .tuple #[.slice z.1 (stepSpk x ins).length z.2, .int .i64 (stepErr x ins)]) (fun z => 0 < (stepSpk x ins).length → ∃ g, z.1 = some ⟨g, 0, none⟩) (fun z => ownH (stepSim x ins)) (fun z => [.vec z.1 (stepSpk x ins).length z.2 3 1 (flat intV (stepSpk x ins))]) hat (fun w hw hs => ?_) (fun z hz => hk z.1 z.2 hz)
  obtain ⟨bi, oi, g1, g2⟩ := hin w hw
  exact Step_any x h ins hil p c bi oi w hs (ShOk.of (hw.le hle) .here h.ok.rows (fun y hy => by simpa using hy)) g1 g2

theorem nil_inN {w0 w : World} {M : List Nat} {H S : HP} (hw : St w0 M H w) (hle : HLe S H) : ∃ bi oi, Sl w intV 1 [] none ([] : List Int).length bi oi ∧ bi ∉ ids S :=
  ⟨w.heap.size, 0, .nil (.inl rfl), fun hb => Nat.lt_irrefl _ (ids_lt (hw.le hle) hb)⟩

end Go.Proofs
