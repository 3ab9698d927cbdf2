/- Vx9: regions whose order is open, code, loops, functions. -/
import Derived.Test.YtbnipfgbfnhibaaVx8
set_option linter.unusedSimpArgs false
set_option linter.unusedVariables false
namespace Go.Vx
open Go Go.RowKit

/-- How a region whose order is open is walked: operations that may be taken first; the one that must come next; either of two. -/
inductive Plan where
  | done
  | take (i : Nat) (p : Plan)
  | eff (i : Nat) (p : Plan)
  | fork (i j : Nat) (p q : Plan)
  | fork3 (i j k : Nat) (p q r : Plan)

/-- S is shown anew behind an operation. -/
inductive VKeep (Hs H : HP) (q : Prop) : Prop
  | mk (h : HLe Hs H) (hk : q)

def keepE (Mu : List Nat) (Hs : HP) (i : Nat) (H : HP) (q : Prop) : Prop :=
  match memB Mu i with
  | true => q
  | false => VKeep Hs H q

def takeE (C : Cx) (w0 : World) (M : List Nat) (Hs : HP) (op : Op) (env : Env) (k : Value → Prop) : Prop :=
  match kindOf op with
  | .pure => pureE C op env k
  | .read => readE C w0 M Hs op env k
  | .eff => False

def planE (C : Cx) (n : Nat) (w0 : World) (M : List Nat) (ops : List Oper) (Mu : List Nat) (Hs : HP) : Plan → Env → HP → (Env → HP → Prop) → Prop
  | .done, env, H, K => K env H
  | .take i p, env, H, K =>
    match nthO ops i with
    | some o =>
      guardE ops env o.guard
        (takeE C w0 M Hs o.op env fun v => putE n o.dst v env fun env' => planE C n w0 M ops Mu Hs p env' H K)
        (putE n o.dst undef env fun env' => planE C n w0 M ops Mu Hs p env' H K)
    | none => False
  | .eff i p, env, H, K =>
    match nthO ops i with
    | some o =>
      guardE ops env o.guard
        (opE C w0 M H o.op env fun v H' => keepE Mu Hs i H' (putE n o.dst v env fun env' => planE C n w0 M ops Mu Hs p env' H' K))
        (keepE Mu Hs i H (putE n o.dst undef env fun env' => planE C n w0 M ops Mu Hs p env' H K))
    | none => False
  | .fork i j p q, env, H, K =>
    (match nthO ops i with
    | some o =>
      guardE ops env o.guard
        (opE C w0 M H o.op env fun v H' => keepE Mu Hs i H' (putE n o.dst v env fun env' => planE C n w0 M ops Mu Hs p env' H' K))
        (keepE Mu Hs i H (putE n o.dst undef env fun env' => planE C n w0 M ops Mu Hs p env' H K))
    | none => False) ∧
    (match nthO ops j with
    | some o =>
      guardE ops env o.guard
        (opE C w0 M H o.op env fun v H' => keepE Mu Hs j H' (putE n o.dst v env fun env' => planE C n w0 M ops Mu Hs q env' H' K))
        (keepE Mu Hs j H (putE n o.dst undef env fun env' => planE C n w0 M ops Mu Hs q env' H K))
    | none => False)
  | .fork3 i j k p q r, env, H, K =>
    (match nthO ops i with
    | some o =>
      guardE ops env o.guard
        (opE C w0 M H o.op env fun v H' => keepE Mu Hs i H' (putE n o.dst v env fun env' => planE C n w0 M ops Mu Hs p env' H' K))
        (keepE Mu Hs i H (putE n o.dst undef env fun env' => planE C n w0 M ops Mu Hs p env' H K))
    | none => False) ∧
    (match nthO ops j with
    | some o =>
      guardE ops env o.guard
        (opE C w0 M H o.op env fun v H' => keepE Mu Hs j H' (putE n o.dst v env fun env' => planE C n w0 M ops Mu Hs q env' H' K))
        (keepE Mu Hs j H (putE n o.dst undef env fun env' => planE C n w0 M ops Mu Hs q env' H K))
    | none => False) ∧
    (match nthO ops k with
    | some o =>
      guardE ops env o.guard
        (opE C w0 M H o.op env fun v H' => keepE Mu Hs k H' (putE n o.dst v env fun env' => planE C n w0 M ops Mu Hs r env' H' K))
        (keepE Mu Hs k H (putE n o.dst undef env fun env' => planE C n w0 M ops Mu Hs r env' H K))
    | none => False)

/-- Whoever waits for i, through others. -/
def waiters (ops : Array Oper) : Nat → List Nat → List Nat
  | 0, W => W
  | f + 1, W => waiters ops f (W ++ (List.range ops.size).filter fun m => !W.contains m && (match ops[m]? with | some o => o.after.any fun e => Region.binds .any e && W.contains e.on | none => false))

def wOf (ops : Array Oper) (n : Nat) (Mu : List Nat) (i : Nat) : List Nat :=
  match Mu with
  | [] => []
  | _ => waiters ops n [i]

def waitOk (ops : Array Oper) (Mu : List Nat) (listed : Array Bool) (i : Nat) (W : List Nat) : Bool :=
  (W.all fun m => (m == i || (match ops[m]? with | some o => o.after.any fun e => Region.binds .any e && W.contains e.on | none => false)) && !listed.getD m false) &&
  Mu.all fun m => listed.getD m true || W.contains m

def planOk (ops : List Oper) (Ex Mu : List Nat) : Nat → Array Bool → Bool → Plan → Bool
  | _, listed, _, .done => (Region.ready .any ops.toArray listed).isEmpty
  | 0, _, _, _ => false
  | fuel + 1, listed, fl, .take i p =>
    !Ex.contains i && Region.free .any ops.toArray listed i && (Region.ready .any ops.toArray listed).contains i &&
    (match nthO ops i with
    | some o =>
      match kindOf o.op with
      | .pure => true
      | .read => fl && waitOk ops.toArray Mu listed i (wOf ops.toArray ops.length Mu i)
      | .eff => false
    | none => false) &&
    planOk ops Ex Mu fuel (listed.setIfInBounds i true) fl p
  | fuel + 1, listed, fl, .eff i p =>
    (Region.ready .any ops.toArray listed == [i]) && (Ex.contains i != Mu.contains i) &&
    planOk ops Ex Mu fuel (listed.setIfInBounds i true) (Ex.contains i) p
  | fuel + 1, listed, fl, .fork i j p q =>
    (Region.ready .any ops.toArray listed == [i, j]) && (Ex.contains i != Mu.contains i) && (Ex.contains j != Mu.contains j) &&
    planOk ops Ex Mu fuel (listed.setIfInBounds i true) (Ex.contains i) p && planOk ops Ex Mu fuel (listed.setIfInBounds j true) (Ex.contains j) q
  | fuel + 1, listed, fl, .fork3 i j k p q r =>
    (Region.ready .any ops.toArray listed == [i, j, k]) && (Ex.contains i != Mu.contains i) && (Ex.contains j != Mu.contains j) && (Ex.contains k != Mu.contains k) &&
    planOk ops Ex Mu fuel (listed.setIfInBounds i true) (Ex.contains i) p && planOk ops Ex Mu fuel (listed.setIfInBounds j true) (Ex.contains j) q && planOk ops Ex Mu fuel (listed.setIfInBounds k true) (Ex.contains k) r

def OnlyNormal (Q : Exit → Act → World → Prop) : Exit → Act → World → Prop
  | .normal, a, w => Q .normal a w
  | _, _, _ => False

section
variable {C : Cx} {n : Nat} {w0 : World} {M : List Nat} {ops : List Oper} {Ex Mu : List Nat} {Hs : HP} {K : Env → HP → Prop} {Q : Exit → Act → World → Prop}

theorem kept_eff {i : Nat} (hx : (Ex.contains i != Mu.contains i) = true) {H : HP} {w w' : World} {q : Prop} (hs : St w0 M H w') (h : keepE Mu Hs i H q) :
    Kept (fun w => St w0 M Hs w) Ex Mu i w w' ∧ (Ex.contains i = true → St w0 M Hs w') ∧ q := by
  unfold keepE at h
  cases hm : memB Mu i with
  | true =>
    simp only [hm] at h
    have h1 : i ∈ Mu := memB_iff.1 hm
    have h2 : ¬ i ∈ Ex := by
      intro h3
      simp [h1, h3] at hx
    exact ⟨⟨fun h3 => absurd h3 h2, fun _ h4 => absurd h1 h4⟩, fun h3 => absurd (by simpa using h3) h2, h⟩
  | false =>
    simp only [hm] at h
    have h1 : ¬ i ∈ Mu := fun h3 => by rw [memB_iff.2 h3] at hm; cases hm
    have h2 : i ∈ Ex := by
      apply Decidable.byContradiction
      intro h3
      simp [h1, h3] at hx
    cases h with
    | mk hl hk => exact ⟨⟨fun _ => hs.le hl, fun h3 => absurd h2 h3⟩, fun _ => hs.le hl, hk⟩

theorem takeE_use {env : Env} {a : Act} {o : Oper} {k : Value → Prop} (hr : Rep n env a) (h : takeE C w0 M Hs o.op env k) :
    ∃ v, k v ∧ ∀ w, St w0 M Hs w → (execOp a.eval o).run C.P w = .ok (.value v) w := by
  unfold takeE at h
  split at h
  · obtain ⟨v, h1, h2⟩ := pureE_use hr h
    exact ⟨v, h1, fun w _ => h2 w⟩
  · exact readE_use hr h
  · exact h.elim

theorem planE_use (hsel : Region.noSelect ops.toArray = true) (hQ : ∀ a w, Behind n w0 M K a w → Q .normal a w) :
    ∀ (p : Plan) (fuel : Nat) (listed : Array Bool) (fl : Bool) (env : Env) (H : HP) (a : Act) (w : World), planOk ops Ex Mu fuel listed fl p = true →
      Rep n env a → St w0 M H w → (fl = true → St w0 M Hs w) → planE C n w0 M ops Mu Hs p env H K →
      wpAnyM C.P .any ops.toArray (OnlyNormal Q) (fun w => St w0 M Hs w) Ex Mu fuel listed a w
  | .done, fuel, listed, fl, env, H, a, w, hok, hr, hs, hfl, h => by
    have hready : Region.ready .any ops.toArray listed = [] := by
      cases fuel <;> simpa [planOk] using hok
    have hq : OnlyNormal Q .normal a w := hQ a w ⟨env, H, hr, hs, h⟩
    cases fuel with
    | zero => exact ⟨hready, hq⟩
    | succ f => exact ⟨fun _ => hq, by rw [hready]; simp⟩
  | .take i p, 0, listed, fl, env, H, a, w, hok, hr, hs, hfl, h => by simp [planOk] at hok
  | .take i p, fuel + 1, listed, fl, env, H, a, w, hok, hr, hs, hfl, h => by
    simp only [planOk, Bool.and_eq_true, Bool.not_eq_true'] at hok
    obtain ⟨⟨⟨⟨k1, k2⟩, k3⟩, k4⟩, k5⟩ := hok
    simp only [planE] at h
    cases hi : nthO ops i with
    | none => simp [hi] at h
    | some o =>
      simp only [hi] at h k4
      have hi' : ops.toArray[i]? = some o := by rw [nthO_eq] at hi; simpa using hi
      have hE : i ∉ Ex := by simpa using k1
      have hrd : i ∈ Region.ready .any ops.toArray listed := by simpa using k3
      have hfree := Region.free_spec hi' k2
      have hQ' : ∀ (v : Value) c a w, OnlyNormal Q (.panic c) (a.put o.dst v) w → OnlyNormal Q (.panic c) a w := fun _ _ _ _ h => h
      have hgen : ∀ v env', Rep n env' (a.put o.dst v) → planE C n w0 M ops Mu Hs p env' H K → wpAnyM C.P .any ops.toArray (OnlyNormal Q) (fun w => St w0 M Hs w) Ex Mu fuel (listed.setIfInBounds i true) (a.put o.dst v) w :=
        fun v env' hr' h' => planE_use hsel hQ p fuel _ fl env' H _ w k5 hr' hs hfl h'
      rcases guardE_use hr h with ⟨hw, h⟩ | ⟨hw, h⟩
      · unfold takeE at h
        split at h
        · obtain ⟨v, h1, h2⟩ := pureE_use hr h
          obtain ⟨env', hr', h'⟩ := putE_use hr h1
          exact wpAnyM_pure hi' (Region.noSelect_spec hsel) (hQ' v) hE fuel listed a w hfree hrd (.inl ⟨hw, h2⟩) (hgen v env' hr' h')
        · rename_i hkd
          simp only [hkd, Bool.and_eq_true, waitOk, List.all_eq_true, Bool.or_eq_true, Bool.not_eq_true', beq_iff_eq, List.contains_iff_mem] at k4
          obtain ⟨v, h1, h2⟩ := readE_use hr h
          obtain ⟨env', hr', h'⟩ := putE_use hr h1
          obtain ⟨kf, kw, km⟩ := k4
          refine wpAnyM_read hi' (Region.noSelect_spec hsel) (hQ' v) hE (wOf ops.toArray ops.length Mu i) (fun m hm => ?_) fuel listed a w hfree (fun m hm => (kw m hm).2) (fun m hm => km m hm) hrd (.inl ⟨hw, h2⟩) (hfl kf) (hgen v env' hr' h')
          rcases (kw m hm).1 with h3 | h3
          · exact .inl h3
          · right
            split at h3
            · rename_i om hom
              obtain ⟨e, he, hb⟩ := Array.any_eq_true'.1 h3
              simp only [Bool.and_eq_true, List.contains_iff_mem] at hb
              exact ⟨om, hom, e, he, hb.1, hb.2⟩
            · cases h3
        · exact h.elim
      · obtain ⟨env', hr', h'⟩ := putE_use hr h
        exact wpAnyM_pure hi' (Region.noSelect_spec hsel) (hQ' undef) hE fuel listed a w hfree hrd (.inr ⟨hw, rfl⟩) (hgen undef env' hr' h')
  | .eff i p, 0, listed, fl, env, H, a, w, hok, hr, hs, hfl, h => by simp [planOk] at hok
  | .eff i p, fuel + 1, listed, fl, env, H, a, w, hok, hr, hs, hfl, h => by
    simp only [planOk, Bool.and_eq_true, beq_iff_eq] at hok
    obtain ⟨⟨k1, k2⟩, k3⟩ := hok
    simp only [planE] at h
    refine ⟨fun h0 => (by rw [k1] at h0; cases h0), fun j hj => ?_⟩
    rw [k1] at hj
    simp only [List.mem_singleton] at hj
    subst hj
    exact planEff hsel hQ hr hs k2 h fun env' H' a' w' hr' hs' hS h' => planE_use hsel hQ p fuel _ _ env' H' a' w' k3 hr' hs' hS h'
  | .fork i j p q, 0, listed, fl, env, H, a, w, hok, hr, hs, hfl, h => by simp [planOk] at hok
  | .fork i j p q, fuel + 1, listed, fl, env, H, a, w, hok, hr, hs, hfl, h => by
    simp only [planOk, Bool.and_eq_true, beq_iff_eq] at hok
    obtain ⟨⟨⟨⟨k1, k2⟩, k2'⟩, k3⟩, k3'⟩ := hok
    simp only [planE] at h
    refine ⟨fun h0 => (by rw [k1] at h0; cases h0), fun k hk => ?_⟩
    rw [k1] at hk
    simp only [List.mem_cons, List.not_mem_nil, or_false] at hk
    rcases hk with rfl | rfl
    · exact planEff hsel hQ hr hs k2 h.1 fun env' H' a' w' hr' hs' hS h' => planE_use hsel hQ p fuel _ _ env' H' a' w' k3 hr' hs' hS h'
    · exact planEff hsel hQ hr hs k2' h.2 fun env' H' a' w' hr' hs' hS h' => planE_use hsel hQ q fuel _ _ env' H' a' w' k3' hr' hs' hS h'
  | .fork3 i j k p q r, 0, listed, fl, env, H, a, w, hok, hr, hs, hfl, h => by simp [planOk] at hok
  | .fork3 i j k p q r, fuel + 1, listed, fl, env, H, a, w, hok, hr, hs, hfl, h => by
    simp only [planOk, Bool.and_eq_true, beq_iff_eq] at hok
    obtain ⟨⟨⟨⟨⟨⟨k1, k2⟩, k2'⟩, k2''⟩, k3⟩, k3'⟩, k3''⟩ := hok
    simp only [planE] at h
    refine ⟨fun h0 => (by rw [k1] at h0; cases h0), fun m hm => ?_⟩
    rw [k1] at hm
    simp only [List.mem_cons, List.not_mem_nil, or_false] at hm
    rcases hm with rfl | rfl | rfl
    · exact planEff hsel hQ hr hs k2 h.1 fun env' H' a' w' hr' hs' hS h' => planE_use hsel hQ p fuel _ _ env' H' a' w' k3 hr' hs' hS h'
    · exact planEff hsel hQ hr hs k2' h.2.1 fun env' H' a' w' hr' hs' hS h' => planE_use hsel hQ q fuel _ _ env' H' a' w' k3' hr' hs' hS h'
    · exact planEff hsel hQ hr hs k2'' h.2.2 fun env' H' a' w' hr' hs' hS h' => planE_use hsel hQ r fuel _ _ env' H' a' w' k3'' hr' hs' hS h'
where
  planEff {p : Plan} {i : Nat} {env : Env} {H : HP} {a : Act} {w : World} {X : Act → World → Prop} (hsel : Region.noSelect ops.toArray = true) (hQ : ∀ a w, Behind n w0 M K a w → Q .normal a w)
      (hr : Rep n env a) (hs : St w0 M H w) (hx : (Ex.contains i != Mu.contains i) = true)
      (h : match nthO ops i with
        | some o =>
          guardE ops env o.guard
            (opE C w0 M H o.op env fun v H' => keepE Mu Hs i H' (putE n o.dst v env fun env' => planE C n w0 M ops Mu Hs p env' H' K))
            (keepE Mu Hs i H (putE n o.dst undef env fun env' => planE C n w0 M ops Mu Hs p env' H K))
        | none => False)
      (hn : ∀ env' H' a' w', Rep n env' a' → St w0 M H' w' → (Ex.contains i = true → St w0 M Hs w') → planE C n w0 M ops Mu Hs p env' H' K → X a' w') :
      wpOp C.P ops.toArray (OnlyNormal Q) i (fun a' w' => Kept (fun w => St w0 M Hs w) Ex Mu i w w' ∧ X a' w') a w := by
    cases hi : nthO ops i with
    | none => simp [hi] at h
    | some o =>
      simp only [hi] at h
      have hi' : ops.toArray[i]? = some o := by rw [nthO_eq] at hi; simpa using hi
      unfold wpOp
      simp only [hi']
      rcases guardE_use hr h with ⟨hw, h⟩ | ⟨hw, h⟩
      · rw [if_pos hw]
        refine .inl (wp_never (opE_use hr hs h) fun a' w' ha => ?_)
        obtain ⟨v, H', rfl, hs', h'⟩ := ha
        obtain ⟨g1, g2, g3⟩ := kept_eff (w := w) hx hs' h'
        obtain ⟨env', hr', h''⟩ := putE_use hr g3
        exact ⟨g1, hn env' H' _ w' hr' hs' g2 h''⟩
      · rw [if_neg (by simp [hw])]
        obtain ⟨g1, g2, g3⟩ := kept_eff (w := w) hx hs h
        obtain ⟨env', hr', h''⟩ := putE_use hr g3
        exact ⟨g1, hn env' H _ w hr' hs g2 h''⟩

theorem wp_only {P : Program} {o : Oper} {a : Act} {w : World} {X X' : Act → World → Prop} (h : o.wp P a w X (OnlyNormal Q)) (hx : ∀ a w, X a w → X' a w) : o.wp P a w X' Never := by
  unfold Oper.wp at *
  generalize (execOp a.eval o).run P w = r at *
  cases r with
  | ok nx w' =>
    cases nx <;> simp only [Oper.upon] at h ⊢ <;>
      first
        | exact hx _ _ h
        | exact Calls.mono h (fun e w'' he => by
            cases e
            · exact hx _ _ he
            · exact he.elim
            · exact he.elim (fun _ h => h.elim (fun _ h => h.elim)))
        | exact Rows.mono h (fun _ _ he => hx _ _ he)
  | halt x w' => cases x <;> simp only [Oper.upon] at h ⊢ <;> exact h.elim

/-- No defer statement among them. -/
def noDefer : List Oper → Bool
  | [] => true
  | o :: r => match o.op with
    | .defer _ => false
    | _ => noDefer r

theorem noDefer_spec : ∀ {l : List Oper}, noDefer l = true → ∀ o ∈ l, ∀ c, o.op ≠ .defer c
  | [], _, o, ho, _ => by simp at ho
  | x :: r, h, o, ho, c => by
    intro hc
    simp only [noDefer] at h
    rcases List.mem_cons.1 ho with rfl | ho
    · rw [hc] at h; simp at h
    · split at h
      · cases h
      · exact noDefer_spec h o ho c hc

theorem wpOpIn_of_wp {rd : Option Nat} {P : Program} {os : Array Oper} {i : Nat} {X X' : Act → World → Prop} {a : Act} {w : World} (hd : noDefer os.toList = true)
    (h : wpOp P os (OnlyNormal Q) i X a w) (hx : ∀ a w, X a w → X' a w) : wpOpIn (fw rd) 0 P os Q i X' a w := by
  unfold wpOp at h
  unfold wpOpIn
  cases ho : os[i]? with
  | none => simp only [ho] at h; exact hx _ _ h
  | some o =>
    simp only [ho] at h ⊢
    have hmem : o ∈ os.toList := by
      obtain ⟨hlt, rfl⟩ := Array.getElem?_eq_some_iff.1 ho
      simp
    split
    · rename_i hw
      simp only [hw, if_true] at h
      rcases h with h | ⟨_, a', w', h⟩
      · exact wpIn_of_wp (noDefer_spec hd o hmem) (wp_only h hx) fun _ _ h => h
      · exact h.elim
    · rename_i hw
      simp only [hw] at h
      exact ⟨fun _ _ => trivial, hx _ _ h⟩

theorem wpAnyIn_of {rd : Option Nat} {P : Program} {os : Array Oper} {md : Region.Mode} (hd : noDefer os.toList = true) : ∀ (fuel : Nat) (listed : Array Bool) (a : Act) (w : World),
    wpAny P md os (OnlyNormal Q) fuel listed a w → wpAnyIn (fw rd) 0 P md os Q fuel listed a w
  | 0, _, _, _, h => h
  | fuel + 1, _, _, _, h => ⟨h.1, fun i hi => wpOpIn_of_wp hd (h.2 i hi) fun a w => wpAnyIn_of hd fuel _ a w⟩

theorem region_draw_use {rd : Option Nat} {id : Nat} {Ex : List Nat} {p : Plan} {env : Env} {H : HP} {a : Act} {w : World} (hok : (noDefer ops && (Region.noSelect ops.toArray && planOk ops Ex Mu ops.length (Array.replicate ops.length false) true p)) = true)
    (hr : Rep n env a) (hs : St w0 M H w) (hl : HLe Hs H) (h : planE C n w0 M ops Mu Hs p env H K) (hQ : ∀ a w, Behind n w0 M K a w → Q .normal a w) : (Code.region id ops.toArray true).wpIn (fw rd) 0 C.P Q a w := by
  simp only [Bool.and_eq_true] at hok
  have h1 := planE_use (C := C) (Q := Q) hok.2.1 hQ p ops.length (Array.replicate ops.length false) true env H a { w with drawn := w.drawn + 1 } hok.2.2 hr hs.drew (fun _ => hs.drew.le hl) h
  exact wpIn_region_any (id := id) C.mixed (by rw [List.size_toArray]; exact wpAnyIn_of (by simpa using hok.1) _ _ _ _ (wpAny_of_M _ _ _ _ h1))
end

end Go.Vx
