import Derived.Test.YtephkjicokbckaaGreatDoorVerifyKnownNd
set_option linter.unusedVariables false

set_option linter.unusedSimpArgs false

namespace Go.Proofs

open Go Go.Vx Go.Gm

theorem _root_.Go.Vx.Src.own {w0 : World} {M : List Nat} {H r : HP} {q : Option Addr} {m cap e size : Nat} {xs : List Value} {u : Ent → HP} (hat : At H (.vec q m cap e size xs) u r) (hq : 0 < m → ∃ g, q = some ⟨g, 0, none⟩) (hl : xs.length = m * size) : Src w0 M H q m size xs := by
  rcases Nat.eq_zero_or_pos m with rfl | h
  · have : xs = [] := List.eq_nil_of_length_eq_zero (by rw [hl, Nat.zero_mul])
    subst this
    cases q with
    | none => exact .empty
    | some a => exact .none0
  · obtain ⟨g, rfl⟩ := hq h
    refine .at_ (.vec hat ?_)
    rw [sub_mk _ _ _ (by omega), List.drop_zero, List.take_of_length_le (by omega)]

theorem ndrunNil_any (w : World) : Calls Tryz.prog 59 #[.pointer none] w fun e w' => ∃ y : Option Addr × Nat, e = .returned (.slice y.1 ([] : List Evt).length y.2) ∧ (0 < ([] : List Evt).length → ∃ g, y.1 = some ⟨g, 0, none⟩) ∧ St w [] [.vec y.1 ([] : List Evt).length y.2 64 2 (flat evtV [])] w' := by
  refine enter (C := Tryz.cx) (F := Tryz.fx59) (args := [_]) Tryz.func59 rfl rfl rfl Tryz.ok59 (St.start w []) ?_
  repeat' (conv => whnf); first | (refine VSeq.go ?_)
  all_goals (conv => whnf)
  exact ⟨fun w' hw' => ⟨(none, 0), rfl, by simp, hw'.le (HLe.nilv .nil)⟩⟩

theorem ndrun_step {A : List RNode} {x : RNode} (hx : x ∈ A) {R : List Evt} (hr : x.run = R ++ x.now.l) (hl : x.run.length ≤ 20000000)
    (hp : ∀ w, (∀ y ∈ A, RunRd w y) → Calls Tryz.prog 59 #[ptrB x.frm] w fun e w' => ∃ y : Option Addr × Nat, e = .returned (.slice y.1 R.length y.2) ∧ (0 < R.length → ∃ g, y.1 = some ⟨g, 0, none⟩) ∧ St w [] [.vec y.1 R.length y.2 64 2 (flat evtV R)] w') (w : World) (hA : ∀ y ∈ A, RunRd w y) :
    Calls Tryz.prog 59 #[.pointer (some ⟨x.b, 0, none⟩)] w fun e w' => ∃ y : Option Addr × Nat, e = .returned (.slice y.1 x.run.length y.2) ∧ (0 < x.run.length → ∃ g, y.1 = some ⟨g, 0, none⟩) ∧ St w [] [.vec y.1 x.run.length y.2 64 2 (flat evtV x.run)] w' := by
  obtain ⟨hc, b, hnw⟩ := hA x hx
  obtain ⟨cs, hcs⟩ : ∃ cs, nodeC x.nd = cs := ⟨_, rfl⟩
  have c3 : sub cs 3 1 = some [ptrB x.frm] := by rw [← hcs]; rfl
  have c4 : sub cs 4 1 = some [.slice x.now.p x.now.l.length x.now.c] := by rw [← hcs]; rfl
  rw [hcs] at hc
  rw [hr, List.length_append] at hl ⊢
  rw [flat_append]
  refine enter (C := Tryz.cx) (F := Tryz.fx59) (args := [_]) Tryz.func59 rfl rfl rfl Tryz.ok59 (St.start w []) ?_
  repeat' (conv => whnf); first | (refine VLd.is ?_; refine VLd.mk (Rd.cast (.old (hc.part c3) rfl (by simp)) (by first | omega | (dsimp only; omega) | rfl)) ?_) | (refine VLd.is ?_; refine VLd.mk (Rd.cast (.old (hc.part c4) rfl (by simp)) (by first | omega | (dsimp only; omega) | rfl)) ?_) | (refine VCall.isF 59 ?_; (refine VCall.genR (fun w' hw' => hp w' fun y hy => (hA y hy).keep hw') ?_; rintro ⟨p1, c1⟩ hp1; dsimp only at hp1 ⊢)) | (refine VAp.is ?_; refine VAp.own (q := x.now.p) aT (hnw.src (by simp) (fun _ => rfl)) (flat_one_cell (by simp [evtV, Value.oneCell'])) (by (try dsimp only); omega) (by simp only [maxLen]; omega) fun p' cap' hp' => ?_) | (refine VSeq.go ?_) | (refine VKeep.is ?_; refine VKeep.mk aH ?_) | (refine VHs.mk _ (.refl _) ?_)
  all_goals (conv => whnf)
  all_goals exact ⟨fun w' hw' => ⟨(_, _), rfl, ‹0 < _ → ∃ b, _ = some _›, hw'.le aH⟩⟩

theorem ndrun_any {A : List RNode} {k : Nat} {x : RNode} (h : Chain A k x) : k ≤ 20000 → ∀ w : World, (∀ y ∈ A, RunRd w y) →
    Calls Tryz.prog 59 #[.pointer (some ⟨x.b, 0, none⟩)] w fun e w' => ∃ y : Option Addr × Nat, e = .returned (.slice y.1 x.run.length y.2) ∧ (0 < x.run.length → ∃ g, y.1 = some ⟨g, 0, none⟩) ∧ St w [] [.vec y.1 x.run.length y.2 64 2 (flat evtV x.run)] w' := by
  induction h with
  | @root x hx hf hn hr =>
    intro hk w hA
    refine ndrun_step hx (R := []) (by rw [hr, hn]; rfl) (by rw [hr]; simp) (fun w' _ => ?_) w hA
    rw [hf]
    exact ndrunNil_any w'
  | @next k x p hx hp hf hn hr ih =>
    intro hk w hA
    have hl := (Chain.next hx hp hf hn hr).len
    refine ndrun_step hx hr (by omega) (fun w' hA' => ?_) w hA
    rw [hf]
    exact ih (by omega) w' hA'

theorem _root_.Go.Vx.At.of_mem {H : HP} {x : Ent} (h : x ∈ H) : ∃ u r, At H x u r := by
  induction H with
  | nil => cases h
  | cons y H ih =>
    rcases List.mem_cons.1 h with rfl | h
    · exact ⟨_, _, .here⟩
    · obtain ⟨u, r, hat⟩ := ih h
      exact ⟨_, _, .there hat⟩

theorem _root_.Go.Vx.Rd.memRow {w0 : World} {M : List Nat} {H : HP} {b e off s : Nat} {cs vs : List Value} (h : Ent.row b e cs ∈ H) (hs : sub cs off s = some vs) : Rd w0 M H b off s vs := by
  obtain ⟨u, r, hat⟩ := At.of_mem h
  exact .row hat hs

theorem _root_.Go.Vx.Rd.memVec {w0 : World} {M : List Nat} {H : HP} {b n cap e size off s : Nat} {xs vs : List Value} (h : Ent.vec (some ⟨b, 0, none⟩) n cap e size xs ∈ H) (hs : sub xs off s = some vs) : Rd w0 M H b off s vs := by
  obtain ⟨u, r, hat⟩ := At.of_mem h
  exact .vec hat hs

theorem _root_.Go.Vx.VLd.isB (b : Nat) {w0 : World} {M : List Nat} {H : HP} {off s : Nat} {k : List Value → Prop} (hh : VLd w0 M H b off s k) : VLd w0 M H b off s k := hh

def ptrV (x : RNode) : List Value := [.pointer (some ⟨x.b, 0, none⟩)]

theorem rnE_of {x : RNode} {m n : Nat} (h1 : x.shown.l.length = m) (h2 : x.now.l.length = n) : rnE x = .row x.b 102 [.pointer (some ⟨x.sim.b, 0, none⟩), .int .i64 x.left, .slice x.shown.p m x.shown.c, ptrB x.frm, .slice x.now.p n x.now.c] ::
    .vec x.shown.p m x.shown.c 4 1 (flat boolV x.shown.l) :: .vec x.now.p n x.now.c 64 2 (flat evtV x.now.l) :: ownH x.sim := by
  subst h1 h2
  rfl

theorem rn_mem {A : List RNode} {x : RNode} (h : x ∈ A) {y : Ent} (hy : y ∈ rnE x) (R : HP) : y ∈ A.flatMap rnE ++ R := List.mem_append_left _ (List.mem_flatMap.2 ⟨x, h, hy⟩)

theorem find_at {α : Type} {p : α → Bool} : ∀ {l : List α} {k : Nat} {a : α}, (∀ x ∈ l.take k, p x = false) → l[k]? = some a → p a = true → l.find? p = some a
  | [], k, a, _, h, _ => by simp at h
  | b :: l, 0, a, _, h, hp => by
    simp only [List.getElem?_cons_zero, Option.some.injEq] at h
    subst h
    rw [List.find?_cons_of_pos hp]
  | b :: l, k + 1, a, h, hk, hp => by
    rw [List.find?_cons_of_neg (by rw [h b (by simp)]; simp)]
    exact find_at (k := k) (fun x hx => h x (by rw [List.take_succ_cons]; exact List.mem_cons_of_mem _ hx)) (by simpa using hk) hp

theorem take_no {α : Type} {p : α → Bool} {l : List α} {k : Nat} {a : α} (h : ∀ x ∈ l.take k, p x = false) (hk : l[k]? = some a) (ha : p a = false) : ∀ x ∈ l.take (k + 1), p x = false := by
  intro x hx
  rw [List.take_add_one, hk, Option.toList_some] at hx
  rcases List.mem_append.1 hx with hx | hx
  · exact h x hx
  · rw [List.mem_singleton.1 hx]; exact ha

theorem find_not {α : Type} {p : α → Bool} {l : List α} (h : ∀ x ∈ l, p x = false) : l.find? p = none := by
  rw [List.find?_eq_none]
  intro x hx
  rw [h x hx]
  simp

theorem grow_none {S a b : List Sit} (h : grow S a = none) : grow S (a ++ b) = none := by rw [grow_app, h]; rfl

theorem succsT_split (N : Net) (v : Sur) (pat : List Mom) (t : Int) (s : Sit) {c n : Nat} (h : c ≤ n) : ∃ r, succsT N v pat t s n = succsT N v pat t s c ++ r := by
  induction n with
  | zero => obtain rfl : c = 0 := by omega
            exact ⟨[], by simp⟩
  | succ n ih =>
    by_cases e : c = n + 1
    · subst e; exact ⟨[], by simp⟩
    · obtain ⟨r, hr⟩ := ih (by omega)
      exact ⟨r ++ succC N v pat t s n, by rw [succsT_succ, hr, List.append_assoc]⟩

def fromK (f : Sit → List Sit) (S : List RNode) (k : Nat) : List Sit := ((S.take k).map RNode.sit).flatMap f

theorem fromK_zero (f : Sit → List Sit) (S : List RNode) : fromK f S 0 = [] := rfl

theorem fromK_succ {f : Sit → List Sit} {S : List RNode} {k : Nat} {s : RNode} (h : S[k]? = some s) : fromK f S (k + 1) = fromK f S k ++ f s.sit := by
  unfold fromK
  rw [List.take_add_one, h, Option.toList_some, List.map_append, List.flatMap_append]
  simp

theorem fromK_all (f : Sit → List Sit) (S : List RNode) : fromK f S S.length = (S.map RNode.sit).flatMap f := by
  unfold fromK
  rw [List.take_length]

theorem fromK_pre (f : Sit → List Sit) (S : List RNode) (k : Nat) : ∃ r, (S.map RNode.sit).flatMap f = fromK f S k ++ r := by
  refine ⟨((S.drop k).map RNode.sit).flatMap f, ?_⟩
  unfold fromK
  rw [← List.flatMap_append, ← List.map_append, List.take_append_drop]

theorem over_none {N : Net} {v : Sur} {pat : List Mom} {t : Int} {S : List RNode} {k c : Nat} {s : RNode} (hs : S[k]? = some s) (hc : c < 2 ^ v.free.length) (h : grow [] (fromK (succs N v pat t) S k ++ succsT N v pat t s.sit (c + 1)) = none) : grow [] ((S.map RNode.sit).flatMap (succs N v pat t)) = none := by
  obtain ⟨r, hr⟩ := fromK_pre (succs N v pat t) S (k + 1)
  obtain ⟨q, hq⟩ := succsT_split N v pat t s.sit (c := c + 1) (n := 2 ^ v.free.length) (by omega)
  rw [hr, fromK_succ hs]
  rw [show succs N v pat t s.sit = succsT N v pat t s.sit (2 ^ v.free.length) from rfl, hq, ← List.append_assoc, List.append_assoc]
  exact grow_none h

theorem flat_snoc_perm (P : HP) (nx : List RNode) (x : RNode) (R : HP) : (P ++ ((nx ++ [x]).flatMap rnE ++ R)).Perm (rnE x ++ (P ++ (nx.flatMap rnE ++ R))) := by
  have e : (nx ++ [x]).flatMap rnE = nx.flatMap rnE ++ rnE x := by rw [List.flatMap_append]; simp
  rw [e]
  have h1 : (nx.flatMap rnE ++ rnE x ++ R).Perm (rnE x ++ (nx.flatMap rnE ++ R)) := by
    rw [List.append_assoc]
    exact (List.perm_append_comm_assoc ..)
  refine (h1.append_left P).trans ?_
  exact (List.perm_append_comm_assoc ..)

theorem flat_snoc2 (P D : HP) (nx : List RNode) (x : RNode) (R : HP) : (P ++ (D ++ ((nx ++ [x]).flatMap rnE ++ R))).Perm (rnE x ++ (P ++ (D ++ (nx.flatMap rnE ++ R)))) := by
  have h := flat_snoc_perm (P ++ D) nx x R
  rw [List.append_assoc, List.append_assoc] at h
  exact h

def defE (d : Nat) : Ent := .obj d (.deferred (some []))

theorem _root_.Go.Vx.AtS.nil_eq {H S : HP} {Z : HP → HP} (h : AtS H S Z) : S = [] → H = Z [] := by
  induction h with
  | here => intro e; subst e; rfl
  | last => intro e; subst e; rfl
  | there h ih => intro e; show _ :: _ = _ :: _; rw [ih e]
  | app h ih => intro e; show _ ++ _ = _ ++ _; rw [ih e]

theorem _root_.Go.Vx.AtS.uncons {H X : HP} {Z : HP → HP} (h : AtS H X Z) : ∀ {x : Ent} {S : HP}, X = x :: S → ∃ u r Z', At H x u r ∧ AtS r S Z' ∧ Z' [] = Z [] := by
  induction h with
  | @here S' R => intro x S e; subst e; exact ⟨_, S ++ R, fun S' => S' ++ R, .here, .here, rfl⟩
  | last => intro x S e; subst e; exact ⟨_, S, fun S' => S', .here, .last, rfl⟩
  | @there H0 S' Z0 z h ih =>
    intro x S e
    obtain ⟨u, r, Z', h1, h2, h3⟩ := ih e
    exact ⟨_, z :: r, fun S' => z :: Z' S', .there h1, .there h2, by show z :: Z' [] = z :: Z0 []; rw [h3]⟩
  | @app H0 S' Z0 A h ih =>
    intro x S e
    obtain ⟨u, r, Z', h1, h2, h3⟩ := ih e
    exact ⟨_, A ++ r, fun S' => A ++ Z' S', At.app A h1, .app h2, by show A ++ Z' [] = A ++ Z0 []; rw [h3]⟩

theorem unE_is {DD : List Nat} {H : HP} {k : HP → Prop} (h : unE (DD.map markV) H k) : unE (DD.map markV) H k := h

theorem unE_marks : ∀ {DD : List Nat} {H : HP} {Z : HP → HP} {k : HP → Prop}, AtS H (DD.map defE) Z → k (Z []) → unE (DD.map markV) H k
  | [], H, Z, k, h, hk => by
    rw [← h.nil_eq rfl] at hk
    exact hk
  | d :: DD, H, Z, k, h, hk => by
    obtain ⟨u, r, Z', h1, h2, h3⟩ := h.uncons rfl
    show VUn H d _
    refine .mk h1 ?_
    rw [← h3] at hk
    exact unE_marks h2 hk

def NxOk (N : Net) (S0 : HP) (m t : Nat) (A nx : List RNode) : Prop := ∀ x ∈ nx, NdOk N S0 m x ∧ x.sim.tick = t ∧ Chain (nx ++ A) t x

theorem NxOk.nd {N : Net} {S0 : HP} {m t : Nat} {A nx : List RNode} (h : NxOk N S0 m t A nx) : ∀ x ∈ nx, NdOk N S0 m x := fun x hx => (h x hx).1

theorem NxOk.snoc {N : Net} {S0 : HP} {m t : Nat} {A nx : List RNode} (h : NxOk N S0 m t A nx) {x : RNode} (hx : NdOk N S0 m x) (ht : x.sim.tick = t) (hc : ∀ B, x ∈ B → (∀ y ∈ A, y ∈ B) → Chain B t x) : NxOk N S0 m t A (nx ++ [x]) := by
  intro y hy
  rcases List.mem_append.1 hy with hy | hy
  · obtain ⟨h1, h2, h3⟩ := h y hy
    refine ⟨h1, h2, h3.mono fun z hz => ?_⟩
    rcases List.mem_append.1 hz with hz | hz
    · exact List.mem_append_left _ (List.mem_append_left _ hz)
    · exact List.mem_append_right _ hz
  · rw [List.mem_singleton.1 hy]
    exact ⟨hx, ht, hc _ (List.mem_append_left _ (by simp)) fun z hz => List.mem_append_right _ hz⟩

theorem fire_le : ∀ (ps : List Par) (ss : List Sta) (xs : List Int), (fire ps ss xs).length ≤ ps.length
  | [], _, _ => by simp [fire]
  | _ :: _, [], _ => by simp [fire]
  | _ :: _, _ :: _, [] => by simp [fire]
  | p :: ps, s :: ss, x :: xs => by simp only [fire, List.length_cons]; have := fire_le ps ss xs; omega

theorem smT_copy {x y : SimM} (ht : y.tick = x.tick) (hs : y.sts = x.sts) (hD : y.D.map (·.l) = x.D.map (·.l)) : smT y = smT x := by
  unfold smT smRot smOf
  rw [ht, hs, hD]

end Go.Proofs
