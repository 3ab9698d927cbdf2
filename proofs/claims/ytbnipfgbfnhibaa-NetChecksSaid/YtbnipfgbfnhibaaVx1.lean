/- Vx1: environments, symbolic heaps and the state relation. Nothing here speaks of one program. -/
import Derived.Laws.AppendOwn
import Derived.Laws.OwnMore
import Derived.Laws.CopyRow
import Derived.OrdersHeld
import Derived.Below
import Derived.WalkKit
namespace Go.Vx
open Go Go.RowKit

/-- What is known of a frame: slots and their values, the newest first. -/
abbrev Env := List (Nat × Value)

def find : Env → Nat → Option Value
  | [], _ => none
  | (k, v) :: r, t => match Nat.beq k t with
    | true => some v
    | false => find r t

/-- Under this number an environment keeps the marks of the frame's range-over-function loops: it is no slot. -/
abbrev dk : Nat := 1000000

def look (env : Env) (t : Nat) : Option Value :=
  match Nat.beq 1000000 t with
  | true => none
  | false => find env t

theorem look_find {env : Env} {t : Nat} {v : Value} (h : look env t = some v) : find env t = some v ∧ t ≠ dk := by
  unfold look at h
  cases hb : Nat.beq 1000000 t with
  | true => simp [hb] at h
  | false => simp only [hb] at h; exact ⟨h, fun e => Nat.ne_of_beq_eq_false hb e.symm⟩

theorem find_look {env : Env} {t : Nat} {v : Value} (h : find env t = some v) (ht : t ≠ dk) : look env t = some v := by
  unfold look
  cases hb : Nat.beq 1000000 t with
  | true => exact absurd (Nat.eq_of_beq_eq_true hb).symm ht
  | false => exact h

/-- A mark, as a value. -/
def markV (d : Nat) : Value := .pointer (some ⟨d, 0, none⟩)

def markOf : Value → Option Deferred
  | .pointer (some a) => some { target := .collected a.block, args := #[] }
  | _ => none

def marksOf : Value → List Deferred
  | .tuple vs => vs.toList.filterMap markOf
  | _ => []

def ev (env : Env) : Operand → Option Value
  | .tmp t => look env t
  | .const v => some v
  | .global g => some (.pointer (some ⟨g, 0, none⟩))
  | .func f => some (.func (.func f) #[] #[])

def evs (env : Env) : List Operand → Option (List Value)
  | [] => some []
  | x :: r => match ev env x with
    | some v => match evs env r with
      | some vs => some (v :: vs)
      | none => none
    | none => none

structure Rep (n : Nat) (env : Env) (a : Act) : Prop where
  size : a.tmps.size = n
  small : n ≤ dk
  defers : ∀ v, find env dk = some v → a.defers = marksOf v
  get : ∀ t v, look env t = some v → a.tmps[t]? = some v

theorem Rep.eval {n : Nat} {env : Env} {a : Act} (h : Rep n env a) {x : Operand} {v : Value} (hx : ev env x = some v) : a.eval x = v := by
  cases x with
  | tmp t => simp [Act.eval, h.get t v hx]
  | const c => simpa [ev, Act.eval] using hx
  | global g => simpa [ev, Act.eval] using hx
  | func f => simpa [ev, Act.eval] using hx

theorem Rep.evals {n : Nat} {env : Env} {a : Act} (h : Rep n env a) : ∀ {xs : List Operand} {vs : List Value}, evs env xs = some vs → xs.map a.eval = vs
  | [], vs, hx => by simp [evs] at hx; simp [hx]
  | x :: r, vs, hx => by
    simp only [evs] at hx
    cases h1 : ev env x with
    | none => simp [h1] at hx
    | some v =>
      cases h2 : evs env r with
      | none => simp [h1, h2] at hx
      | some ws =>
        simp only [h1, h2, Option.some.injEq] at hx
        subst hx
        simp [h.eval h1, h.evals h2]

theorem Rep.put {n : Nat} {env : Env} {a : Act} (h : Rep n env a) {d : Nat} (hd : d < n) (v : Value) : Rep n ((d, v) :: env) (a.put (some d) v) := by
  have hs := h.small
  refine ⟨by simp [Act.put, h.size], h.small, fun u hu => ?_, fun t u ht => ?_⟩
  · have hb : Nat.beq d dk = false := by
      cases hh : Nat.beq d dk with
      | true => have := Nat.eq_of_beq_eq_true hh; omega
      | false => rfl
    simp only [find, hb] at hu
    simpa [Act.put] using h.defers u hu
  · obtain ⟨ht, hne⟩ := look_find ht; clear ‹look _ _ = _›
    simp only [find] at ht
    simp only [Act.put]
    cases hb : Nat.beq d t with
    | true =>
      simp only [hb, Option.some.injEq] at ht
      have hdt : d = t := Nat.eq_of_beq_eq_true hb
      subst hdt; rw [ht]
      rw [Array.getElem?_setIfInBounds]
      simp [h.size, hd]
    | false =>
      simp only [hb] at ht
      have hdt : d ≠ t := Nat.ne_of_beq_eq_false hb
      rw [Array.getElem?_setIfInBounds_ne hdt]
      exact h.get t u (find_look ht hne)

theorem Rep.put_none {n : Nat} {env : Env} {a : Act} (h : Rep n env a) (v : Value) : Rep n env (a.put none v) := h

/-- A slot is forgotten where something unknown was put into it. -/
theorem Rep.mono {n : Nat} {env env' : Env} {a : Act} (h : Rep n env a) (hs : ∀ t v, find env' t = some v → find env t = some v) : Rep n env' a :=
  ⟨h.size, h.small, fun v hv => h.defers v (hs _ v hv), fun t v ht => by obtain ⟨ht, hne⟩ := look_find ht; exact h.get t v (find_look (hs t v ht) hne)⟩

/-- env' says no more than env. -/
def EnvLe : Env → Env → Prop
  | [], _ => True
  | (k, v) :: r, env => find env k = some v ∧ EnvLe r env

theorem EnvLe.spec {env : Env} : ∀ {env' : Env}, EnvLe env' env → ∀ t v, find env' t = some v → find env t = some v
  | [], _, t, v, h => by simp [find] at h
  | (k, u) :: r, ⟨h1, h2⟩, t, v, h => by
    simp only [find] at h
    cases hb : Nat.beq k t with
    | true =>
      simp only [hb, Option.some.injEq] at h
      have := Nat.eq_of_beq_eq_true hb
      subst this; subst h; exact h1
    | false =>
      simp only [hb] at h
      exact EnvLe.spec h2 t v h

theorem Rep.le {n : Nat} {env env' : Env} {a : Act} (h : Rep n env a) (hs : EnvLe env' env) : Rep n env' a := h.mono hs.spec

def memB : List Nat → Nat → Bool
  | [], _ => false
  | k :: r, t => match Nat.beq k t with
    | true => true
    | false => memB r t

theorem memB_iff {l : List Nat} {t : Nat} : memB l t = true ↔ t ∈ l := by
  induction l with
  | nil => simp [memB]
  | cons k r ih =>
    simp only [memB]
    cases hb : Nat.beq k t with
    | true => have := Nat.eq_of_beq_eq_true hb; simp [this]
    | false =>
      have := Nat.ne_of_beq_eq_false hb
      simp [ih, Ne.symm this]

/-! ## The symbolic heap -/

/-- What is known of one block. -/
inductive Ent where
  /-- block b holds just these cells -/
  | row (b : Nat) (e : TypeId) (cs : List Value)
  /-- the slice value .slice p n cap is our own (from its block's start on, with all spare room), and its elements' cells are xs -/
  | vec (p : Option Addr) (n cap : Nat) (e : TypeId) (size : Nat) (xs : List Value)
  /-- block b is a map with integer keys -/
  | map (b : Nat) (m : List (Int × Value))
  /-- block b is this object -/
  | obj (b : Nat) (o : Obj)
  /-- block b is the record of a range-over-function loop: of a frame of n slots, of which env is known -/
  | loop (b : Nat) (s : LoopState) (pending : Option Code) (n : Nat) (env : Env) (ps : Array Tmp) (assign body : Code) (d : Nat)

abbrev HP := List Ent

def Ent.id : Ent → Option Nat
  | .row b _ _ => some b
  | .vec p _ _ _ _ _ => p.map (·.block)
  | .map b _ => some b
  | .obj b _ => some b
  | .loop b .. => some b

def mapIs (w : World) (b : Nat) (m : List (Int × Value)) : Prop :=
  ∃ es clock, w.heap[b]? = some (.map es clock) ∧ es.toList.map (fun x => (x.key, x.val)) = m.map (fun x => (.int .i64 x.1, x.2))

def Ent.sat (w : World) : Ent → Prop
  | .row b e cs => w.heap[b]? = some (.cells cs.toArray e (0, 0))
  | .vec p n cap e size xs => w.ownsRow 0 e size (.slice p n cap) n xs
  | .map b m => mapIs w b m
  | .obj b o => w.heap[b]? = some o
  | .loop b s pe n env ps x y d => ∃ fn tmps, tmps.size = n ∧ n ≤ dk ∧ (∀ t v, look env t = some v → tmps[t]? = some v) ∧ w.heap[b]? = some (.loop ⟨s, pe, fn, tmps, ps, x, y, d⟩)

theorem Ent.lt {w : World} : ∀ {x : Ent}, x.sat w → ∀ b, x.id = some b → b < w.heap.size
  | .row b e cs, h, c, hc => by cases hc; exact (Array.getElem?_eq_some_iff.1 h).1
  | .vec p n cap e size xs, h, c, hc => by
    have := World.ownsRow.lt h c (by cases p with | none => simp [Ent.id] at hc | some a => simpa [Ent.id, Value.ownBlock] using hc)
    exact this.2
  | .map b m, h, c, hc => by cases hc; obtain ⟨es, cl, h1, _⟩ := h; exact (Array.getElem?_eq_some_iff.1 h1).1
  | .obj b o, h, c, hc => by cases hc; exact (Array.getElem?_eq_some_iff.1 h).1
  | .loop .., h, c, hc => by cases hc; obtain ⟨_, _, _, _, _, h⟩ := h; exact (Array.getElem?_eq_some_iff.1 h).1

/-- What is known of a block hangs on that block alone. -/
theorem Ent.keep {w w' : World} : ∀ {x : Ent}, x.sat w → (∀ b, x.id = some b → w'.heap[b]? = w.heap[b]?) → x.sat w'
  | .row b e cs, h, hk => by show w'.heap[b]? = _; rw [hk b rfl]; exact h
  | .vec p n cap e size xs, h, hk => by
    obtain ⟨h1, h2⟩ := h
    refine ⟨h1, ?_⟩
    rcases h2 with h2 | ⟨g, c, cur, hv, hb, hg, r⟩
    · exact .inl h2
    · refine .inr ⟨g, c, cur, hv, hb, ?_, r⟩
      simp only [Value.slice.injEq] at hv
      rw [hk g (by simp [Ent.id, hv.1])]; exact hg
  | .map b m, h, hk => by obtain ⟨es, cl, h1, h2⟩ := h; exact ⟨es, cl, by rw [hk b rfl]; exact h1, h2⟩
  | .obj b o, h, hk => by show w'.heap[b]? = _; rw [hk b rfl]; exact h
  | .loop b .., h, hk => by obtain ⟨f, ts, h1, h2, h3, h4⟩ := h; exact ⟨f, ts, h1, h2, h3, by rw [hk b rfl]; exact h4⟩

def ids (H : HP) : List Nat := H.filterMap Ent.id

/-- Where a call began (w0), which of the blocks that stood then it may have turned (M), what is known of blocks (H), and the world now. -/
structure St (w0 : World) (M : List Nat) (H : HP) (w : World) : Prop where
  os : w.os = w0.os
  tape : w.tape = w0.tape
  output : w.output = w0.output
  size : w0.heap.size ≤ w.heap.size
  old : ∀ b, b < w0.heap.size → b ∉ M → w.heap[b]? = w0.heap[b]?
  own : ∀ x ∈ H, x.sat w
  from_ : ∀ b ∈ ids H, b ∈ M ∨ w0.heap.size ≤ b
  nodup : (ids H).Nodup

theorem St.start (w : World) (M : List Nat) : St w M [] w :=
  ⟨rfl, rfl, rfl, Nat.le_refl _, fun _ _ _ => rfl, by simp, by simp [ids], by simp [ids]⟩

theorem St.drew {w0 : World} {M : List Nat} {H : HP} {w : World} (h : St w0 M H w) : St w0 M H { w with drawn := w.drawn + 1 } :=
  ⟨h.os, h.tape, h.output, h.size, h.old, fun x hx => Ent.keep (h.own x hx) (fun _ _ => rfl), h.from_, h.nodup⟩

theorem St.below {w0 : World} {H : HP} {w : World} (h : St w0 [] H w) : Below w0.heap.size w0 w :=
  ⟨h.os, h.tape, h.output, h.size, fun b hb => h.old b hb (by simp)⟩

theorem ids_cons (x : Ent) (H : HP) : ids (x :: H) = x.id.toList ++ ids H := by
  unfold ids
  cases hx : x.id <;> simp [hx]

/-- One entry of a list, and what the list becomes when it is turned or struck. -/
inductive At : HP → Ent → (Ent → HP) → HP → Prop
  | here {x : Ent} {H : HP} : At (x :: H) x (fun y => y :: H) H
  | there {x z : Ent} {H : HP} {u : Ent → HP} {r : HP} (h : At H x u r) : At (z :: H) x (fun y => z :: u y) (z :: r)

theorem At.mem {H : HP} {x : Ent} {u : Ent → HP} {r : HP} (h : At H x u r) : x ∈ H := by
  induction h with
  | here => simp
  | there _ ih => simp [ih]

theorem At.perm {H : HP} {x : Ent} {u : Ent → HP} {r : HP} (h : At H x u r) : H.Perm (x :: r) := by
  induction h with
  | here => exact .refl _
  | there _ ih => exact (ih.cons _).trans (.swap _ _ _)

theorem At.permU {H : HP} {x : Ent} {u : Ent → HP} {r : HP} (h : At H x u r) (y : Ent) : (u y).Perm (y :: r) := by
  induction h with
  | here => exact .refl _
  | there _ ih => exact (ih.cons _).trans (.swap _ _ _)

theorem ids_perm {H H' : HP} (h : H.Perm H') : (ids H).Perm (ids H') := h.filterMap _

theorem St.perm {w0 : World} {M : List Nat} {H H' : HP} {w : World} (h : St w0 M H w) (hp : H.Perm H') : St w0 M H' w :=
  ⟨h.os, h.tape, h.output, h.size, h.old, fun x hx => h.own x (hp.mem_iff.2 hx), fun b hb => h.from_ b ((ids_perm hp).mem_iff.2 hb), (ids_perm hp).nodup_iff.1 h.nodup⟩

theorem St.tail {w0 : World} {M : List Nat} {x : Ent} {H : HP} {w : World} (h : St w0 M (x :: H) w) : St w0 M H w := by
  refine ⟨h.os, h.tape, h.output, h.size, h.old, fun y hy => h.own y (by simp [hy]), fun b hb => h.from_ b ?_, ?_⟩
  · rw [ids_cons]; exact List.mem_append_right _ hb
  · have := h.nodup; rw [ids_cons] at this; exact (List.nodup_append.1 this).2.1

/-- The struck entry's block is none of the others'. -/
theorem St.apart {w0 : World} {M : List Nat} {x : Ent} {H : HP} {w : World} (h : St w0 M (x :: H) w) {b : Nat} (hb : x.id = some b) : b ∉ ids H := by
  have := h.nodup
  rw [ids_cons, hb] at this
  simp only [Option.toList_some, List.cons_append, List.nil_append, List.nodup_cons] at this
  exact this.1

/-- A step that turns one block of ours, or none, and makes new ones. -/
theorem St.step {w0 : World} {M : List Nat} {x y : Ent} {r : HP} {w w' : World} (h : St w0 M (x :: r) w)
    (os : w'.os = w.os) (tape : w'.tape = w.tape) (output : w'.output = w.output) (size : w.heap.size ≤ w'.heap.size)
    (keep : ∀ b, b < w.heap.size → x.id ≠ some b → w'.heap[b]? = w.heap[b]?)
    (hy : y.sat w') (hid : ∀ b, y.id = some b → x.id = some b ∨ w.heap.size ≤ b) : St w0 M (y :: r) w' := by
  have hin : ∀ b, x.id = some b → b ∈ M ∨ w0.heap.size ≤ b := fun b hb => h.from_ b (by rw [ids_cons, hb]; simp)
  refine ⟨os.trans h.os, tape.trans h.tape, output.trans h.output, Nat.le_trans h.size size, ?_, ?_, ?_, ?_⟩
  · intro b hb hM
    rw [keep b (Nat.lt_of_lt_of_le hb h.size) (fun e => by rcases hin b e with h1 | h1; exact hM h1; omega)]
    exact h.old b hb hM
  · intro z hz
    simp only [List.mem_cons] at hz
    rcases hz with rfl | hz
    · exact hy
    · have hzs := h.own z (by simp [hz])
      refine Ent.keep hzs fun b hb => keep b (Ent.lt hzs b hb) fun e => ?_
      exact h.apart e (List.mem_filterMap.2 ⟨z, hz, hb⟩)
  · intro b hb
    rw [ids_cons] at hb
    rcases List.mem_append.1 hb with hb | hb
    · have hb' : y.id = some b := by cases hh : y.id <;> simp_all
      rcases hid b hb' with h1 | h1
      · exact hin b h1
      · exact .inr (Nat.le_trans h.size h1)
    · exact h.tail.from_ b hb
  · rw [ids_cons]
    cases hh : y.id with
    | none => simpa using h.tail.nodup
    | some b =>
      simp only [Option.toList_some, List.cons_append, List.nil_append, List.nodup_cons]
      refine ⟨fun hb => ?_, h.tail.nodup⟩
      rcases hid b hh with h1 | h1
      · exact h.apart h1 hb
      · obtain ⟨z, hz, hzb⟩ := List.mem_filterMap.1 hb
        have := Ent.lt (h.own z (by simp [hz])) b hzb
        omega

/-- A step that turns nothing of what is known and makes one new block. -/
theorem St.new {w0 : World} {M : List Nat} {y : Ent} {H : HP} {w w' : World} (h : St w0 M H w)
    (os : w'.os = w.os) (tape : w'.tape = w.tape) (output : w'.output = w.output) (size : w.heap.size ≤ w'.heap.size)
    (keep : ∀ b, b < w.heap.size → w'.heap[b]? = w.heap[b]?)
    (hy : y.sat w') (hid : ∀ b, y.id = some b → w.heap.size ≤ b) : St w0 M (y :: H) w' := by
  have hx : St w0 M (Ent.vec none 0 0 0 0 [] :: H) w :=
    ⟨h.os, h.tape, h.output, h.size, h.old, fun z hz => by
      simp only [List.mem_cons] at hz
      rcases hz with rfl | hz
      · exact World.ownsRow_nil _ _ _ _
      · exact h.own z hz, fun b hb => h.from_ b (by simpa [ids_cons, Ent.id] using hb), by simpa [ids_cons, Ent.id] using h.nodup⟩
  exact hx.step os tape output size (fun b hb _ => keep b hb) hy (fun b hb => .inr (hid b hb))

/-- The empty slice may be taken up at any time. -/
theorem St.nil {w0 : World} {M : List Nat} {H : HP} {w : World} (h : St w0 M H w) (e size : Nat) : St w0 M (Ent.vec none 0 0 e size [] :: H) w :=
  h.new rfl rfl rfl (Nat.le_refl _) (fun _ _ => rfl) (World.ownsRow_nil _ _ _ _) (by simp [Ent.id])

theorem St.turn {w0 : World} {M : List Nat} {H : HP} {x : Ent} {u : Ent → HP} {r : HP} (hat : At H x u r) {y : Ent} {w w' : World} (h : St w0 M H w)
    (hs : St w0 M (x :: r) w → St w0 M (y :: r) w') : St w0 M (u y) w' :=
  (hs (h.perm hat.perm)).perm (hat.permU y).symm

/-- H' says no more than H. -/
structure HLe (H' H : HP) : Prop where
  sat : ∀ w, (∀ x ∈ H, x.sat w) → ∀ x ∈ H', x.sat w
  cnt : ∀ b, (ids H').count b ≤ (ids H).count b

theorem HLe.nil {H : HP} : HLe [] H := ⟨by simp, by simp [ids]⟩

theorem HLe.refl (H : HP) : HLe H H := ⟨fun _ h => h, fun _ => Nat.le_refl _⟩

theorem HLe.trans {A B C : HP} (h1 : HLe A B) (h2 : HLe B C) : HLe A C := ⟨fun w h => h1.sat w (h2.sat w h), fun b => Nat.le_trans (h1.cnt b) (h2.cnt b)⟩

theorem ids_app (A B : HP) : ids (A ++ B) = ids A ++ ids B := List.filterMap_append ..

theorem HLe.of_sub {A B : HP} (C : HP) (hp : B.Perm (A ++ C)) : HLe A B := by
  refine ⟨fun w h x hx => h x (hp.mem_iff.2 (List.mem_append_left _ hx)), fun b => ?_⟩
  rw [(ids_perm hp).count_eq, ids_app, List.count_append]
  omega

theorem HLe.perm {A B C : HP} (h : HLe A B) (hp : B.Perm C) : HLe A C := h.trans (HLe.of_sub [] (by simpa using hp.symm))

theorem HLe.permL {A A' B : HP} (h : HLe A B) (hp : A'.Perm A) : HLe A' B := (HLe.of_sub [] (by simpa using hp.symm)).trans h

theorem HLe.app {A A' B B' : HP} (h1 : HLe A B) (h2 : HLe A' B') : HLe (A ++ A') (B ++ B') := by
  refine ⟨fun w h x hx => ?_, fun b => ?_⟩
  · rcases List.mem_append.1 hx with hx | hx
    · exact h1.sat w (fun y hy => h y (List.mem_append_left _ hy)) x hx
    · exact h2.sat w (fun y hy => h y (List.mem_append_right _ hy)) x hx
  · have := h1.cnt b
    have := h2.cnt b
    rw [ids_app, ids_app, List.count_append, List.count_append]
    omega

theorem HLe.left {A B : HP} (S : HP) (h : HLe A B) : HLe (S ++ A) (S ++ B) := (HLe.refl S).app h

theorem HLe.cons {x : Ent} {H' H r : HP} {u : Ent → HP} (h : At H x u r) (hr : HLe H' r) : HLe (x :: H') H := (HLe.left [x] hr).perm h.perm.symm

/-- An entry that says no more. -/
theorem HLe.weak {x y : Ent} {H' H r : HP} {u : Ent → HP} (h : At H x u r) (hr : HLe H' r) (hs : ∀ w, x.sat w → y.sat w) (hi : y.id = x.id) : HLe (y :: H') H := by
  refine (HLe.app (A := [y]) (B := [x]) ⟨fun w hw z hz => ?_, fun b => ?_⟩ hr).perm h.perm.symm
  · simp only [List.mem_singleton] at hz
    subst hz
    exact hs w (hw x (by simp))
  · have : ids [y] = ids [x] := by rw [ids_cons, ids_cons, hi]
    rw [this]
    exact Nat.le_refl _

theorem HLe.nilv {H' H : HP} {e size : Nat} (hr : HLe H' H) : HLe (.vec none 0 0 e size [] :: H') H := by
  refine ⟨fun w h x hx => ?_, fun b => ?_⟩
  · rcases List.mem_cons.1 hx with rfl | hx
    · exact World.ownsRow_nil _ _ _ _
    · exact hr.sat w h x hx
  · have := hr.cnt b
    rw [ids_cons]
    simpa [Ent.id] using this

theorem St.le {w0 : World} {M : List Nat} {H H' : HP} {w : World} (h : St w0 M H w) (hl : HLe H' H) : St w0 M H' w := by
  refine ⟨h.os, h.tape, h.output, h.size, h.old, hl.sat w h.own, fun b hb => ?_, ?_⟩
  · have h1 := List.count_pos_iff.2 hb
    have h2 := hl.cnt b
    exact h.from_ b (List.count_pos_iff.1 (by omega))
  · rw [List.nodup_iff_count]
    intro b
    have h1 := List.nodup_iff_count.1 h.nodup b
    have h2 := hl.cnt b
    omega

/-- A call that was made in the middle: it began at w (world of St w0 M H), what it may have turned is in M1. -/
theorem St.call {w0 : World} {M M1 : List Nat} {H H1 H2 : HP} {w w' : World} (h : St w0 M H w) (h1 : St w M1 H1 w')
    (hl : HLe H2 H) (hM : ∀ b ∈ M1, b ∈ M ∨ w0.heap.size ≤ b) (hd : ∀ b ∈ ids H2, b ∉ M1) : St w0 M (H1 ++ H2) w' := by
  have h2 := h.le hl
  refine ⟨h1.os.trans h.os, h1.tape.trans h.tape, h1.output.trans h.output, Nat.le_trans h.size h1.size, ?_, ?_, ?_, ?_⟩
  · intro b hb hb'
    rw [h1.old b (Nat.lt_of_lt_of_le hb h.size) (fun e => by rcases hM b e with h3 | h3; exact hb' h3; omega)]
    exact h.old b hb hb'
  · intro x hx
    rcases List.mem_append.1 hx with hx | hx
    · exact h1.own x hx
    · have hs := h2.own x hx
      exact Ent.keep hs fun b hb => h1.old b (Ent.lt hs b hb) (hd b (List.mem_filterMap.2 ⟨x, hx, hb⟩))
  · intro b hb
    rw [ids, List.filterMap_append] at hb
    rcases List.mem_append.1 hb with hb | hb
    · rcases h1.from_ b hb with h3 | h3
      · exact hM b h3
      · exact .inr (Nat.le_trans h.size h3)
    · exact h2.from_ b hb
  · rw [ids, List.filterMap_append, List.nodup_append]
    refine ⟨h1.nodup, h2.nodup, fun a ha b hb e => ?_⟩
    subst e
    obtain ⟨x, hx, hxa⟩ := List.mem_filterMap.1 hb
    have hlt := Ent.lt (h2.own x hx) a hxa
    rcases h1.from_ a ha with h3 | h3
    · exact hd a hb h3
    · omega

theorem St.call_fresh {w0 : World} {M : List Nat} {H H1 : HP} {w w' : World} (h : St w0 M H w) (h1 : St w [] H1 w') : St w0 M (H1 ++ H) w' :=
  h.call h1 (HLe.refl H) (by simp) (by simp)

end Go.Vx
