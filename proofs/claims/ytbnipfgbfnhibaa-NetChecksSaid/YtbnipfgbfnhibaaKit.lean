/- Kit: loops and cuts whose unturned slots and blocks are carried on. -/
import Derived.Test.YtbnipfgbfnhibaaSeg
set_option linter.unusedVariables false
namespace Go.Vx
open Go Go.RowKit

/-- These slots of a frame, as they are. -/
def picks : List Nat → Env → Option Env
  | [], _ => some []
  | t :: r, env =>
    match find env t with
    | some v =>
      match picks r env with
      | some K => some ((t, v) :: K)
      | none => none
    | none => none

def nthE : HP → Nat → Option Ent
  | [], _ => none
  | x :: _, 0 => some x
  | _ :: r, n + 1 => nthE r n

/-- These entries, by their places. -/
def nths : List Nat → HP → Option HP
  | [], _ => some []
  | j :: r, H =>
    match nthE H j with
    | some x =>
      match nths r H with
      | some K => some (x :: K)
      | none => none
    | none => none

theorem VLoop.kp {α : Type} {B : Post → Env → HP → Prop} {Q : Post} {env K : Env} {H R : HP} (ks js : List Nat) (hK : picks ks env = some K) (hR : nths js H = some R)
    (I : α → Prop) (E : α → Env → Env) (G : α → HP → HP) (μ : α → Nat) (x0 : α) (hI : I x0) (hE : EnvLe (E x0 K) env) (hG : HLe (G x0 R) H)
    (round : ∀ x, I x → B (roundE I (fun x => E x K) (fun x => G x R) μ x Q) (E x K) (G x R)) : VLoop B Q env H :=
  .mk I (fun x => E x K) (fun x => G x R) μ x0 hI hE hG round

/-- The same where the rest of the heap is given. -/
theorem VLoop.kr {α : Type} {B : Post → Env → HP → Prop} {Q : Post} {env K : Env} {H : HP} (ks : List Nat) (hK : picks ks env = some K)
    (I : α → Prop) (E : α → Env → Env) (G : α → HP) (μ : α → Nat) (x0 : α) (hI : I x0) (hE : EnvLe (E x0 K) env) (hG : HLe (G x0) H)
    (round : ∀ x, I x → B (roundE I (fun x => E x K) G μ x Q) (E x K) (G x)) : VLoop B Q env H :=
  .mk I (fun x => E x K) G μ x0 hI hE hG round

theorem St.apartS {w0 w : World} {M : List Nat} {H S : HP} {Z : HP → HP} (hs : St w0 M H w) (h : AtS H S Z) {x : Ent} (hx : x ∈ Z []) {b : Nat} (hb : x.id = some b) : b ∉ ids S := by
  have hn := (hs.perm h.perm).nodup
  rw [ids, List.filterMap_append] at hn
  exact fun hin => (List.nodup_append.1 hn).2.2 b hin b (List.mem_filterMap.2 ⟨x, hx, hb⟩) rfl

theorem St.lt_of_mem {w0 w : World} {M : List Nat} {H : HP} (hs : St w0 M H w) {x : Ent} (hx : x ∈ H) {b : Nat} (hb : x.id = some b) : b < w.heap.size :=
  Ent.lt (hs.own x hx) b hb

/-- A slice of our own that is not empty. -/
theorem Sl.own' {α : Type} {f : α → List Value} {k : Nat} {l : List α} {w0 w : World} {M : List Nat} {H : HP} {g n cap e : Nat} (hs : St w0 M H w) (hx : Ent.vec (some ⟨g, 0, none⟩) n cap e k (flat f l) ∈ H) (hk : ∀ x, (f x).length = k) (hl : l.length = n) :
    Sl w f k l (some ⟨g, 0, none⟩) n g 0 := by
  obtain ⟨u, r, hat⟩ := at_mem hx
  obtain ⟨b, h⟩ := Sl.own hs hat hk hl
  have h2 := hs.own _ hx
  obtain ⟨g', cur, hg, hh, _, _, _, ht, _⟩ := vec_some h2
  cases hg
  refine ⟨.inl rfl, hl, fun j v hj => ?_⟩
  rw [← ht, List.getElem?_take] at hj
  split at hj
  · simp only [Nat.zero_add, World.cell?, hh]; simpa using hj
  · cases hj

theorem vec_some_nil {w0 w : World} {M : List Nat} {H : HP} {p : Option Addr} {n cap e size : Nat} {xs : List Value} (hs : St w0 M H w) (hx : Ent.vec p n cap e size xs ∈ H) : (∃ g, p = some ⟨g, 0, none⟩) ∨ (p = none ∧ n = 0 ∧ cap = 0) := by
  have h := hs.own _ hx
  cases p with
  | none =>
    right
    obtain ⟨h1, h2⟩ := h
    rcases h2 with ⟨h3, h2⟩ | ⟨g, c, cur, hv, _⟩
    · simp only [Value.slice.injEq] at h3; exact ⟨rfl, h3.2.1, h3.2.2⟩
    · cases hv
  | some a => left; obtain ⟨g, cur, hg, _⟩ := vec_some h; exact ⟨g, by rw [hg]⟩

/-- A callee that turns one block of ours, makes memory, and reads besides what lies elsewhere. -/
theorem VCall.turn1 {P : Program} {w0 : World} {M : List Nat} {H r : HP} {f : Nat} {args : List Value} {α : Type} {v : α → Value} {p : α → Prop} {G : α → HP} {K : Value → HP → Prop} {b e : Nat} {cs : List Value} {u : Ent → HP}
    (hat : At H (.row b e cs) u r)
    (hc : ∀ w, St w0 M H w → St w [b] [.row b e cs] w → Calls P f args.toArray w fun e w' => ∃ x : α, e = .returned (v x) ∧ p x ∧ St w [b] (G x) w') (hk : ∀ x, p x → K (v x) (G x ++ r)) : VCall P w0 M H f args K :=
  .mk fun w hw => (hc w hw (St.start1 (hw.own _ hat.mem))).mono fun e w' ⟨x, he, hb, h'⟩ => ⟨v x, G x ++ r, he, hw.call_at hat rfl h', hk x hb⟩

theorem VLd.atS {w0 : World} {M : List Nat} {H : HP} {b : Nat} {k : List Value → Prop} (off s : Nat) (h : VLd w0 M H b off s k) : VLd w0 M H b off s k := h
theorem VSt.atS {H : HP} {b : Nat} {vs : List Value} {k : HP → Prop} (off : Nat) (h : VSt H b off vs k) : VSt H b off vs k := h

theorem VSt.cast {H : HP} {b off off' : Nat} {vs : List Value} {k : HP → Prop} (he : off = off') (h : VSt H b off' vs k) : VSt H b off vs k := he ▸ h

theorem ids_lt {w0 w : World} {M : List Nat} {H : HP} (hs : St w0 M H w) {b : Nat} (hb : b ∈ ids H) : b < w.heap.size := by
  obtain ⟨x, hx, hxb⟩ := List.mem_filterMap.1 hb
  exact Ent.lt (hs.own x hx) b hxb

/-- A slice of our own, beside a run of blocks. -/
theorem Sl.vecOut {α : Type} {f : α → List Value} {k : Nat} {l : List α} {w0 w : World} {M : List Nat} {H S : HP} {p : Option Addr} {n cap e : Nat} (hs : St w0 M H w) (hl : HLe (.vec p n cap e k (flat f l) :: S) H) (hk : ∀ x, (f x).length = k) (hn : l.length = n) :
    ∃ b, Sl w f k l p n b 0 ∧ b ∉ ids S := by
  have h := hs.le hl
  rcases vec_some_nil h (List.mem_cons_self ..) with ⟨g, rfl⟩ | ⟨rfl, rfl, rfl⟩
  · exact ⟨g, Sl.own' h (List.mem_cons_self ..) hk hn, h.apart rfl⟩
  · have : l = [] := List.eq_nil_of_length_eq_zero hn
    subst this
    exact ⟨w.heap.size, .nil (.inl rfl), fun hb => Nat.lt_irrefl _ (ids_lt h.tail hb)⟩

/-- An old slice lies in no block of ours. -/
theorem Sl.oldOut {α : Type} {f : α → List Value} {k : Nat} {l : List α} {w0 w : World} {M : List Nat} {H S : HP} {p : Option Addr} {n b off : Nat} (h : Sl w0 f k l p n b off) (hM : b ∉ M) (hs : St w0 M H w) (hl : HLe S H) (hk : ∀ x, (f x).length = k) (hk0 : 0 < k) :
    ∃ b' off', Sl w f k l p n b' off' ∧ b' ∉ ids S := by
  have h' := h.keep hs hM
  by_cases hn : n = 0
  · have : l = [] := List.eq_nil_of_length_eq_zero (h.len.trans hn)
    subst this
    have hp : p = none ∨ ∃ b' off', p = some ⟨b', off', none⟩ := by
      rcases h.base with h1 | ⟨_, h1⟩
      · exact .inr ⟨b, off, h1⟩
      · exact h1
    subst hn
    exact ⟨w.heap.size, 0, .nil hp, fun hb => Nat.lt_irrefl _ (ids_lt (hs.le hl) hb)⟩
  · refine ⟨b, off, h', fun hb => ?_⟩
    have hl0 : 0 < (flat f l).length := by rw [flat_length hk, h.len]; exact Nat.mul_pos (by omega) hk0
    have hc := h.cells 0 ((flat f l)[0]) (by simp)
    have hlt : b < w0.heap.size := block_lt_of_cell hc
    rcases (hs.le hl).from_ b hb with h2 | h2
    · exact hM h2
    · omega

/-- A callee that turns a run of ours, makes memory, and reads besides what lies elsewhere. -/
theorem VCall.turnV {P : Program} {w0 : World} {M : List Nat} {H S : HP} {Z : HP → HP} {f : Nat} {args : List Value} {α : Type} (v : α → Value) (p : α → Prop) (G V : α → HP) {K : Value → HP → Prop}
    (hat : AtS H S Z) (hc : ∀ w, St w0 M H w → St w (ids S) S w → Calls P f args.toArray w fun e w' => ∃ x : α, e = .returned (v x) ∧ p x ∧ St w (ids S) (G x ++ V x) w') (hk : ∀ x, p x → K (v x) (V x ++ Z (G x))) : VCall P w0 M H f args K :=
  .mk fun w hw => (hc w hw (hw.part hat)).mono fun e w' ⟨x, he, hb, h'⟩ => ⟨v x, V x ++ Z (G x), he, (hw.back hat h').perm (by
    refine (hat.permZ _).trans ?_
    refine List.Perm.trans ?_ ((hat.permZ (G x)).append_left (V x)).symm
    rw [← List.append_assoc]
    exact List.perm_append_comm.append_right _), hk x hb⟩

/-- A slice of our own, cut to its first elements. -/
theorem HLe.shr {α : Type} {f : α → List Value} {k : Nat} {l : List α} {p : Option Addr} {n m cap e : Nat} {H' H r : HP} {u : Ent → HP} (h : At H (.vec p n cap e k (flat f l)) u r) (hk : ∀ x, (f x).length = k) (hl : l.length = n) (hm : m ≤ n) (hr : HLe H' r) :
    HLe (.vec p m cap e k (flat f (l.take m)) :: H') H := by
  refine HLe.weak h hr (fun w hs => ?_) rfl
  cases p with
  | none =>
    obtain ⟨h1, h2⟩ := hs
    rcases h2 with ⟨h3, h4⟩ | ⟨g, c, cur, hv, _⟩
    · simp only [Value.slice.injEq] at h3
      have : m = 0 := by omega
      subst this
      have hc : cap = 0 := h3.2.2
      subst hc
      simp only [List.take_zero]
      exact World.ownsRow_nil _ _ _ _
    · cases hv
  | some a =>
    obtain ⟨g, cur, hg, hh, hn, hc, hsz, ht, hlen⟩ := vec_some hs
    subst hg
    have hmk : m * k ≤ n * k := Nat.mul_le_mul_right _ hm
    have e1 : flat f (l.take m) = (flat f l).take (m * k) := by
      have h1 : flat f l = flat f (l.take m) ++ flat f (l.drop m) := by rw [← flat_append, List.take_append_drop]
      have h2 : (flat f (l.take m)).length = m * k := by rw [flat_length hk, List.length_take, Nat.min_eq_left (by omega)]
      rw [h1, List.take_left' h2]
    refine ownsRow_mk hh (by omega) hc hsz ?_
    rw [e1, ← ht, List.take_take, Nat.min_eq_left hmk]

theorem VMp.seg {α : Type} {w0 : World} {M : List Nat} {H : HP} {l : List α} {f : α → Ent} {Z : HP → HP} {i : Nat} {x : α} {b : Nat} {m : List (Int × Value)} {k : List (Int × Value) → Prop} (h : AtS H (l.map f) Z) (hx : l[i]? = some x) (hf : f x = .map b m) (hk : k m) : VMp w0 M H b k := by
  obtain ⟨u, r, hat, _, _⟩ := h.one hx
  rw [hf] at hat
  exact .mk hat hk

theorem VMpU.seg {α : Type} {H : HP} {l : List α} {f : α → Ent} {Z : HP → HP} {i : Nat} {x : α} {b : Nat} {m : List (Int × Value)} {k : List (Int × Value) → (Ent → HP) → Prop} (h : AtS H (l.map f) Z) (hx : l[i]? = some x) (hf : f x = .map b m)
    (hk : ∀ u : Ent → HP, (∀ y, u (f y) = Z ((l.set i y).map f)) → k m u) : VMpU H b k := by
  obtain ⟨u, r, hat, hu, _⟩ := h.one hx
  rw [hf] at hat
  exact .mk hat (hk u hu)

/-- Entries taken out of what is known, in this order. -/
inductive Take : HP → HP → HP → Prop
  | nil {H : HP} : Take H [] H
  | cons {H S r R : HP} {x : Ent} {u : Ent → HP} (hat : At H x u r) (h : Take r S R) : Take H (x :: S) R
  | seg {H S S1 R : HP} {Z : HP → HP} (hat : AtS H S1 Z) (h : Take (Z []) S R) : Take H (S1 ++ S) R
  | last {H S1 : HP} {Z : HP → HP} (hat : AtS H S1 Z) : Take H S1 (Z [])

theorem Take.perm {H S R : HP} (h : Take H S R) : H.Perm (S ++ R) := by
  induction h with
  | nil => simp
  | cons hat _ ih => exact hat.perm.trans (ih.cons _)
  | seg hat _ ih => rw [List.append_assoc]; exact hat.perm.trans (ih.append_left _)
  | last hat => exact hat.perm

/-- A callee that turns blocks of ours, makes memory, and reads besides what lies elsewhere. -/
theorem VCall.turnT {P : Program} {w0 : World} {M : List Nat} {H S R : HP} {f : Nat} {args : List Value} {α : Type} (v : α → Value) (p : α → Prop) (G : α → HP) {K : Value → HP → Prop}
    (htk : Take H S R) (hc : ∀ w, St w0 M H w → St w (ids S) S w → Calls P f args.toArray w fun e w' => ∃ x : α, e = .returned (v x) ∧ p x ∧ St w (ids S) (G x) w') (hk : ∀ x, p x → K (v x) (G x ++ R)) : VCall P w0 M H f args K := by
  refine .mk fun w hw => ?_
  have hat : AtS (S ++ R) S (fun S' => S' ++ R) := .here
  have hw' := hw.perm htk.perm
  exact (hc w hw (hw'.part hat)).mono fun e w' ⟨x, he, hb, h'⟩ => ⟨v x, G x ++ R, he, hw'.back (S := S) (Z := fun S' => S' ++ R) hat h', hk x hb⟩

/-- A step along a slice of elements of k cells. -/
def adv (k : Nat) (x : Option Addr × Nat) : Option Addr × Nat := (if 1 < x.2 then x.1.map (·.add k) else x.1, x.2 - 1)

def advs (k : Nat) : Nat → Option Addr × Nat → Option Addr × Nat
  | 0, x => x
  | j + 1, x => advs k j (adv k x)

theorem advs_succ (k j : Nat) (x : Option Addr × Nat) : advs k (j + 1) x = adv k (advs k j x) := by
  induction j generalizing x with
  | zero => rfl
  | succ j ih => exact ih (adv k x)

theorem advs_add (k a b : Nat) (x : Option Addr × Nat) : advs k (a + b) x = advs k b (advs k a x) := by
  induction b with
  | zero => rfl
  | succ b ih => rw [← Nat.add_assoc, advs_succ, advs_succ, ih]

theorem advs_cap (k j : Nat) (x : Option Addr × Nat) : (advs k j x).2 = x.2 - j := by
  induction j with
  | zero => rfl
  | succ j ih => rw [advs_succ]; simp only [adv, ih]; omega

theorem Sl.adv1 {α : Type} {f : α → List Value} {k : Nat} {w : World} {l : List α} {p : Option Addr} {c b off : Nat} (h : Sl w f k l p l.length b off) (hk : ∀ x, (f x).length = k) (hc : l.length ≤ c) (hl : 0 < l.length) :
    ∃ off', Sl w f k (l.drop 1) (adv k (p, c)).1 (l.drop 1).length b off' := by
  have hp := h.ptr hl
  subst hp
  unfold adv
  dsimp only
  split
  · refine ⟨off + k, .inl ?_, rfl, ?_⟩
    · simp [Addr.add]
    · have h2 := h.cells
      match l, hl with
      | x :: r, _ =>
        simp only [flat, List.flatMap_cons, List.drop_succ_cons, List.drop_zero] at h2 ⊢
        intro j v hj
        have := h2 (k + j) v (by rw [List.getElem?_append_right (by rw [hk]; omega), hk, Nat.add_sub_cancel_left]; exact hj)
        rwa [← Nat.add_assoc] at this
  · refine ⟨off, .inl rfl, rfl, ?_⟩
    have : l.drop 1 = [] := List.drop_eq_nil_of_le (by omega)
    rw [this]
    intro j v hj
    simp [flat] at hj

theorem Sl.advs {α : Type} {f : α → List Value} {k : Nat} {w : World} {l : List α} {p : Option Addr} {c b off : Nat} (h : Sl w f k l p l.length b off) (hk : ∀ x, (f x).length = k) (hc : l.length ≤ c) (j : Nat) (hj : j ≤ l.length) :
    ∃ off', Sl w f k (l.drop j) (Vx.advs k j (p, c)).1 (l.drop j).length b off' := by
  induction j with
  | zero => exact ⟨off, by simpa [Vx.advs] using h⟩
  | succ j ih =>
    obtain ⟨off', h'⟩ := ih (by omega)
    have := Sl.adv1 (c := c - j) h' hk (by simp; omega) (by simp; omega)
    rw [List.drop_drop] at this
    rw [advs_succ]
    have e : Vx.advs k j (p, c) = ((Vx.advs k j (p, c)).1, c - j) := by rw [← advs_cap k j (p, c)]
    rw [e]
    exact this

theorem VSl.cut0 {p : Option Addr} {size m cap : Nat} {k : Option Addr → Nat → Nat → Prop} (hm : m ≤ cap) (hk : k p m cap) : VSl p size 0 (m : Int) (cap : Int) k := by
  refine .mk (by omega) (by omega) (by omega) fun q h1 h2 => ?_
  have e1 : (m : Int).toNat - (0 : Int).toNat = m := by omega
  have e2 : (cap : Int).toNat - (0 : Int).toNat = cap := by omega
  rw [e1, e2]
  have : q = p := by
    by_cases hc : cap = 0
    · exact h2 (by omega)
    · rw [h1 (by omega)]
      cases p <;> simp [Addr.add]
  rw [this]
  exact hk

theorem VSl.adv1 {p : Option Addr} {size n c : Nat} {k : Option Addr → Nat → Nat → Prop} (hn : 1 ≤ n) (hc : n ≤ c) (hk : k (adv size (p, c)).1 (n - 1) (c - 1)) : VSl p size 1 (n : Int) (c : Int) k := by
  refine .mk (by omega) (by omega) (by omega) fun q h1 h2 => ?_
  have e1 : (n : Int).toNat - (1 : Int).toNat = n - 1 := by omega
  have e2 : (c : Int).toNat - (1 : Int).toNat = c - 1 := by omega
  rw [e1, e2]
  have : q = (adv size (p, c)).1 := by
    unfold adv
    dsimp only
    split
    · rw [h1 (by omega)]; simp
    · exact h2 (by omega)
  rw [this]
  exact hk

end Go.Vx
