import Derived.Test.YtephkjicokbckaaGreatDoorVerifyKnownWa
import Derived.Test.YtephkjicokbckaaGreatDoorVerifyKnownMk
import Derived.Test.YtephkjicokbckaaGreatDoorVerifyKnownNa
set_option linter.unusedVariables false

set_option linter.unusedSimpArgs false

namespace Go.Proofs

open Go Go.Vx Go.Gm

def spV (s : Sp) : List Value := [.int .i64 s.lo, .int .i64 s.hi]

def spA (s : Sp) : Value := .agg #[.int .i64 s.lo, .int .i64 s.hi]

def MapOf (m : List (Int × Value)) (f : Int → Option Sp) : Prop := ∀ r, mfind m r = (f r).map spA

theorem MapOf.put {m : List (Int × Value)} {f : Int → Option Sp} (h : MapOf m f) (r : Int) (s : Sp) (x : Sp) (hx : jo (some s) (f r) = some x) :
    MapOf (mset m r (spA x)) fun k => if k = r then jo (some s) (f k) else f k := by
  intro k
  show mfind (mset m r (spA x)) k = (if k = r then jo (some s) (f k) else f k).map spA
  rw [mfind_mset, h k]
  by_cases e : r = k
  · subst e
    rw [if_pos rfl, if_pos rfl, hx]; rfl
  · have e' : ¬ k = r := fun h => e h.symm
    rw [if_neg e, if_neg e']

theorem nLeak_any (p : Par) (hp : ParOk p) (v : Int) (h1 : -1048576 ≤ v) (h2 : v ≤ 1048576) (w : World) :
    Calls Tryz.prog 141 #[.agg (parV p).toArray, .int .i64 v] w fun e w' => e = .returned (.tuple #[.int .i64 (leak p v), .int .i64 0]) ∧ St w [] [] w' := by
  have hlk : p.lk = 0 ∨ p.lk = 1 ∨ p.lk = 2 := by have := hp.lk; omega
  have hc : chk p = 0 := good_iff.2 hp
  have hone : oneAll [.int .i64 (leakM p.lk), leakF p.lk] = true := by have h := leakF_one p.lk; simp only [oneAll, h]; rfl
  have hbool : ∀ b : Bool, (b = true ↔ -1048576 ≤ v ∧ v ≤ 1048576) → b = true := fun b hb => hb.2 ⟨h1, h2⟩
  rcases hlk with hlk | hlk | hlk
  · have hF : leakF p.lk = .func (.func 186) #[] #[] := by simp [leakF, hlk]
    have hl : leak p v = v := by simp [leak, hlk]
    rw [hl]
    refine enter (C := Tryz.cx) (F := Tryz.fx141) (args := [_, _]) Tryz.func141 rfl rfl rfl Tryz.ok141 (St.start w []) ?_
    repeat' (conv => whnf); first | (refine VCall.is ?_; refine VCall.val (check_any p hp.wf) ?_; rw [hc]) | (refine VCall.is ?_; refine VCall.bool (within_any _ _ _) ?_) | (refine VCall.is ?_; refine VCall.ex (leaks_any _) fun b hb => ?_; rw [hF]) | (refine VCall.is ?_; refine VCall.val (leaks0 _ _) ?_) | (refine VSeq.go ?_) | (refine VB.is ?_; refine VB.yes (by omega) fun _ => ?_) | (refine VB.is ?_; refine VB.no (by omega) fun _ => ?_) | (refine VLd.is ?_; refine VLd.mk (.row aT (by rfl)) ?_) | (refine VSt.is ?_; refine VSt.row aT (by rfl) (by first | rfl | assumption) ?_) | (refine VNew.mk fun _ => ?_)
    all_goals (conv => whnf)
    all_goals exact ⟨fun w' hw' => ⟨rfl, hw'.le .nil⟩⟩
  · have hF : leakF p.lk = .func (.func 187) #[] #[] := by simp [leakF, hlk]
    refine enter (C := Tryz.cx) (F := Tryz.fx141) (args := [_, _]) Tryz.func141 rfl rfl rfl Tryz.ok141 (St.start w []) ?_
    repeat' (conv => whnf); first | (refine VCall.is ?_; refine VCall.val (check_any p hp.wf) ?_; rw [hc]) | (refine VCall.is ?_; refine VCall.bool (within_any _ _ _) ?_) | (refine VCall.is ?_; refine VCall.ex (leaks_any _) fun b hb => ?_; rw [hF]) | (refine VCall.is ?_; refine VCall.val (leaks1 p hp hlk _ h1 h2) ?_) | (refine VSeq.go ?_) | (refine VB.is ?_; refine VB.yes (by omega) fun _ => ?_) | (refine VB.is ?_; refine VB.no (by omega) fun _ => ?_) | (refine VLd.is ?_; refine VLd.mk (.row aT (by rfl)) ?_) | (refine VSt.is ?_; refine VSt.row aT (by rfl) (by first | rfl | assumption) ?_) | (refine VNew.mk fun _ => ?_)
    all_goals (conv => whnf)
    all_goals exact ⟨fun w' hw' => ⟨rfl, hw'.le .nil⟩⟩
  · have hF : leakF p.lk = .func (.func 188) #[] #[] := by simp [leakF, hlk]
    refine enter (C := Tryz.cx) (F := Tryz.fx141) (args := [_, _]) Tryz.func141 rfl rfl rfl Tryz.ok141 (St.start w []) ?_
    repeat' (conv => whnf); first | (refine VCall.is ?_; refine VCall.val (check_any p hp.wf) ?_; rw [hc]) | (refine VCall.is ?_; refine VCall.bool (within_any _ _ _) ?_) | (refine VCall.is ?_; refine VCall.ex (leaks_any _) fun b hb => ?_; rw [hF]) | (refine VCall.is ?_; refine VCall.val (leaks2 p hp hlk _ h1 h2) ?_) | (refine VSeq.go ?_) | (refine VB.is ?_; refine VB.yes (by omega) fun _ => ?_) | (refine VB.is ?_; refine VB.no (by omega) fun _ => ?_) | (refine VLd.is ?_; refine VLd.mk (.row aT (by rfl)) ?_) | (refine VSt.is ?_; refine VSt.row aT (by rfl) (by first | rfl | assumption) ?_) | (refine VNew.mk fun _ => ?_)
    all_goals (conv => whnf)
    all_goals exact ⟨fun w' hw' => ⟨rfl, hw'.le .nil⟩⟩

theorem put_any (r : Int) (s : Sp) (f : Int → Option Sp) (b5 bm : Nat) (m : List (Int × Value)) (hm : MapOf m f) (w : World)
    (hs : St w [b5, bm] [.row b5 139 [.map (some bm)], .map bm m] w) :
    Calls Tryz.prog 139 #[.int .i64 r, spA s, .pointer (some ⟨b5, 0, none⟩)] w fun e w' => ∃ m' : List (Int × Value), e = .returned (.tuple #[]) ∧ (MapOf m' fun k => if k = r then jo (some s) (f k) else f k) ∧
      St w [b5, bm] [.row b5 139 [.map (some bm)], .map bm m'] w' := by
  refine enter (C := Tryz.cx) (F := Tryz.fx139) (args := [_, _, _]) Tryz.func139 rfl rfl rfl Tryz.ok139 hs ?_
  have hmr := hm r
  cases hf : f r with
  | none =>
    rw [hf] at hmr
    repeat' (conv => whnf); first | (refine VMp.is ?_; refine VMp.mk aT ?_) | (refine VLk.is ?_; refine VLk.lacks hmr ?_) | (refine VMpU.is ?_; refine VMpU.mk aT ?_) | (refine VSeq.go ?_) | (refine VLd.is ?_; refine VLd.mk (.row aT (by rfl)) ?_) | (refine VSt.is ?_; refine VSt.row aT (by rfl) (by first | rfl | assumption) ?_) | (refine VNew.mk fun _ => ?_)
    all_goals (conv => whnf)
    exact ⟨fun w' hw' => ⟨_, rfl, hm.put r s s (by rw [hf]; rfl), hw'.le aH⟩⟩
  | some o =>
    rw [hf] at hmr
    repeat' (conv => whnf); first | (refine VCall.isF 140 ?_; refine VCall.inl (F := Tryz.fx140) Tryz.func140 rfl rfl rfl Tryz.ok140 ?_) | (refine VMp.is ?_; refine VMp.mk aT ?_) | (refine VLk.is ?_; refine VLk.has hmr ?_) | (refine VMpU.is ?_; refine VMpU.mk aT ?_) | (refine VSeq.go ?_) | (refine VLd.is ?_; refine VLd.mk (.row aT (by rfl)) ?_) | (refine VSt.is ?_; refine VSt.row aT (by rfl) (by first | rfl | assumption) ?_) | (refine VNew.mk fun _ => ?_)
    all_goals (conv => whnf)
    exact ⟨fun w' hw' => ⟨_, rfl, hm.put r s (s.jn o) (by rw [hf]; rfl), hw'.le aH⟩⟩

theorem MapOf.congr {m : List (Int × Value)} {f g : Int → Option Sp} (h : MapOf m f) (e : ∀ r, f r = g r) : MapOf m g := fun r => by rw [h r, e r]

theorem jo_if {c : Prop} [Decidable c] (x y : Option Sp) : jo (if c then x else none) y = if c then jo x y else y := by split <;> rfl

theorem put_call {w0 : World} {M : List Nat} {H R : HP} {K : Value → HP → Prop} (r : Int) (s : Sp) (f : Int → Option Sp) (b5 bm : Nat) (m : List (Int × Value)) (hm : MapOf m f) (htk : Take H [.row b5 139 [.map (some bm)], .map bm m] R)
    (hk : ∀ m', (MapOf m' fun k => if k = r then jo (some s) (f k) else f k) → K (.tuple #[]) ([.row b5 139 [.map (some bm)], .map bm m'] ++ R)) :
    VCall Tryz.prog w0 M H 139 [.int .i64 r, spA s, .pointer (some ⟨b5, 0, none⟩)] K :=
  VCall.turnT (α := List (Int × Value)) (fun _ => .tuple #[]) (fun m' => MapOf m' fun k => if k = r then jo (some s) (f k) else f k) (fun m' => [.row b5 139 [.map (some bm)], .map bm m']) htk
    (fun w1 _ hs1 => put_any r s f b5 bm m hm w1 hs1) hk

def vcV (x : Par × Value) : List Value := parV x.1 ++ [x.2]

structure TkS where
  seen : Array Nat
  ks : List Int
  m : List (Int × Value)
  other : Bool
  fires : Bool

structure TkOk (p : Par) (C : List (Option Sp)) (d : Sp) (es : Array MapEntry) (y : TkS) : Prop where
  ks : ∀ x ∈ es.toList, ∀ k, x.key = .int .i64 k → (x.born ∈ y.seen ↔ k ∈ y.ks)
  map : MapOf y.m (gotAt p C d y.ks)
  other : y.other = true ↔ (∃ k ∈ y.ks, 0 < k ∧ cget C k ≠ none) ∨ (0 ∈ y.ks ∧ ∃ s, cget C 0 = some s ∧ tlo p d s < p.th)
  fires : y.fires = true ↔ 0 ∈ y.ks ∧ ∃ s, cget C 0 = some s ∧ ¬ thi p d s < p.th

theorem countP_less {α : Type} {p q : α → Bool} {l : List α} (h : ∀ a, p a = true → q a = true) {x : α} (hx : x ∈ l) (h1 : p x = false) (h2 : q x = true) : l.countP p < l.countP q := by
  induction l with
  | nil => simp at hx
  | cons a l ih =>
    have hsub : l.countP p ≤ l.countP q := List.countP_mono_left fun j _ hj => h j hj
    simp only [List.countP_cons]
    rcases List.mem_cons.1 hx with rfl | hx
    · simp only [h1, h2, Bool.false_eq_true, if_false, if_true]
      omega
    · have := ih hx
      by_cases hp : p a = true
      · simp only [hp, h a hp, if_true]; omega
      · by_cases hq : q a = true
        · simp only [hp, hq, if_true, Bool.false_eq_true, if_false]; omega
        · simp only [hp, hq, Bool.false_eq_true, if_false]; omega

def unseen (es : Array MapEntry) (seen : Array Nat) : Nat := es.toList.countP fun x => decide (x.born ∉ seen)

theorem unseen_push {es : Array MapEntry} {seen : Array Nat} {x : MapEntry} (hx : x ∈ es.toList) (hn : x.born ∉ seen) : unseen es (seen.push x.born) < unseen es seen := by
  unfold unseen
  refine countP_less (x := x) (fun a ha => ?_) hx ?_ ?_
  · simp only [decide_eq_true_eq] at *
    exact fun h => ha (Array.mem_push.2 (.inl h))
  · simp
  · simpa using hn

theorem nodup_map_inj {α β : Type} {f : α → β} : ∀ {l : List α}, (l.map f).Nodup → ∀ {a b : α}, a ∈ l → b ∈ l → f a = f b → a = b
  | [], _, a, b, ha, _, _ => by simp at ha
  | c :: l, h, a, b, ha, hb, he => by
    simp only [List.map_cons, List.nodup_cons] at h
    rcases List.mem_cons.1 ha with e1 | h1
    · rcases List.mem_cons.1 hb with e2 | h2
      · rw [e1, e2]
      · rw [e1] at he
        exact absurd (List.mem_map.2 ⟨b, h2, he.symm⟩) h.1
    · rcases List.mem_cons.1 hb with e2 | h2
      · rw [e2] at he
        exact absurd (List.mem_map.2 ⟨a, h1, he⟩) h.1
      · exact nodup_map_inj h.2 h1 h2 he

theorem mfind_of_mem : ∀ {m : List (Int × Value)} {k : Int} {v : Value}, (m.map (·.1)).Nodup → (k, v) ∈ m → mfind m k = some v
  | [], k, v, _, h => by simp at h
  | p :: r, k, v, hn, h => by
    simp only [List.map_cons, List.nodup_cons] at hn
    simp only [mfind]
    rcases List.mem_cons.1 h with rfl | h
    · simp
    · have : ¬ p.1 = k := fun e => hn.1 (List.mem_map.2 ⟨(k, v), h, e.symm⟩)
      rw [if_neg this]
      exact mfind_of_mem hn.2 h

theorem mem_of_mfind : ∀ {m : List (Int × Value)} {k : Int} {v : Value}, mfind m k = some v → (k, v) ∈ m
  | [], k, v, h => by simp [mfind] at h
  | p :: r, k, v, h => by
    simp only [mfind] at h
    split at h
    · rename_i he
      cases h
      obtain ⟨a, b⟩ := p
      simp only at he
      subst he
      exact List.mem_cons_self
    · exact List.mem_cons_of_mem _ (mem_of_mfind h)

theorem entry_case {es : Array MapEntry} {clock : Nat} {m : List (Int × Value)} {C : List (Option Sp)} (hes : es.toList.map (fun x => (x.key, x.val)) = m.map (fun x => (Value.int .i64 x.1, x.2))) (hst : MapKept.Stamped es clock) (hm : MapOf m (cget C))
    {x : MapEntry} (hx : x ∈ es.toList) : ∃ k s, x.key = .int .i64 k ∧ x.val = spA s ∧ cget C k = some s ∧ 0 ≤ k := by
  have h1 : (x.key, x.val) ∈ es.toList.map (fun x => (x.key, x.val)) := List.mem_map.2 ⟨x, hx, rfl⟩
  rw [hes] at h1
  obtain ⟨⟨k, v⟩, h2, h3⟩ := List.mem_map.1 h1
  simp only [Prod.mk.injEq] at h3
  have hn : (m.map (·.1)).Nodup := by
    have h4 : (es.toList.map (·.key)).Nodup := hst.2.2
    have h5 : es.toList.map (·.key) = m.map (fun x => Value.int .i64 x.1) := by
      have := congrArg (List.map Prod.fst) hes
      simpa [List.map_map, Function.comp_def] using this
    rw [h5, show (fun x : Int × Value => Value.int .i64 x.1) = (fun k : Int => Value.int .i64 k) ∘ Prod.fst from rfl, ← List.map_map] at h4
    exact (List.pairwise_map.1 h4).imp fun h e => h (by rw [e])
  have h6 := hm k
  rw [mfind_of_mem hn h2] at h6
  cases hc : cget C k with
  | none => rw [hc] at h6; cases h6
  | some s =>
    rw [hc] at h6
    simp only [Option.map_some, Option.some.injEq] at h6
    exact ⟨k, s, h3.1.symm, by rw [← h3.2, h6], hc, (cget_some hc).1⟩

theorem case_entry {es : Array MapEntry} {m : List (Int × Value)} {C : List (Option Sp)} (hes : es.toList.map (fun x => (x.key, x.val)) = m.map (fun x => (Value.int .i64 x.1, x.2))) (hm : MapOf m (cget C)) {k : Int} (hk : cget C k ≠ none) : ∃ x ∈ es.toList, x.key = .int .i64 k := by
  have h6 := hm k
  cases hc : cget C k with
  | none => exact absurd hc hk
  | some s =>
    rw [hc] at h6
    have h1 : ((Value.int .i64 k), spA s) ∈ m.map (fun x => (Value.int .i64 x.1, x.2)) := List.mem_map.2 ⟨_, mem_of_mfind h6, rfl⟩
    rw [← hes] at h1
    obtain ⟨x, hx, h2⟩ := List.mem_map.1 h1
    simp only [Prod.mk.injEq] at h2
    exact ⟨x, hx, h2.1⟩

theorem TkOk.seen {p : Par} {C : List (Option Sp)} {d : Sp} {es : Array MapEntry} {clock : Nat} (hst : MapKept.Stamped es clock) {y : TkS} (h : TkOk p C d es y) {x : MapEntry} {k : Int} (hx : x ∈ es.toList) (hk : x.key = .int .i64 k) :
    ∀ x' ∈ es.toList, ∀ k', x'.key = .int .i64 k' → (x'.born ∈ y.seen.push x.born ↔ k' ∈ k :: y.ks) := by
  intro x' hx' k' hk'
  rw [Array.mem_push, List.mem_cons, h.ks x' hx' k' hk']
  constructor
  · rintro (h1 | h1)
    · exact .inr h1
    · have := nodup_map_inj hst.2.1 hx' hx h1
      subst this
      rw [hk] at hk'
      cases hk'
      exact .inl rfl
  · rintro (h1 | h1)
    · subst h1
      exact .inr (congrArg MapEntry.born (nodup_map_inj hst.2.2 hx' hx (hk'.trans hk.symm)))
    · exact .inl h1

theorem TkOk.fresh {p : Par} {C : List (Option Sp)} {d : Sp} {es : Array MapEntry} {y : TkS} (h : TkOk p C d es y) {x : MapEntry} {k : Int} (hx : x ∈ es.toList) (hk : x.key = .int .i64 k) (hn : x.born ∉ y.seen) : k ∉ y.ks :=
  fun hm => hn ((h.ks x hx k hk).2 hm)

theorem TkOk.move {p : Par} {C : List (Option Sp)} {d : Sp} {es : Array MapEntry} {clock : Nat} (hst : MapKept.Stamped es clock) {y : TkS} (h : TkOk p C d es y) {x : MapEntry} {k : Int} {s : Sp} (hx : x ∈ es.toList) (hk : x.key = .int .i64 k)
    (hn : x.born ∉ y.seen) (h0 : 0 < k) (hs : cget C k = some s) {m' : List (Int × Value)} (hm : MapOf m' fun r => if r = k - 1 then jo (some s) (gotAt p C d y.ks r) else gotAt p C d y.ks r) :
    TkOk p C d es ⟨y.seen.push x.born, k :: y.ks, m', true, y.fires⟩ := by
  have hf := h.fresh hx hk hn
  have e0 : ((0 : Int) ∈ k :: y.ks) ↔ 0 ∈ y.ks := by
    rw [List.mem_cons]
    constructor
    · rintro (e | e)
      · omega
      · exact e
    · exact .inr
  refine ⟨h.seen hst hx hk, hm.congr fun r => (gotAt_move h0 hf hs r).symm, ?_, ?_⟩
  · simp only [true_iff]
    exact .inl ⟨k, List.mem_cons_self, h0, by rw [hs]; simp⟩
  · show y.fires = true ↔ _
    rw [h.fires, e0]

theorem TkOk.zero {p : Par} {C : List (Option Sp)} {d : Sp} {es : Array MapEntry} {clock : Nat} (hst : MapKept.Stamped es clock) {y : TkS} (h : TkOk p C d es y) {x : MapEntry} {s : Sp} (hx : x ∈ es.toList) (hk : x.key = .int .i64 0)
    (hn : x.born ∉ y.seen) (hs : cget C 0 = some s) {m' : List (Int × Value)} {o f : Bool} (hm : ∀ r, mfind m' r = (jo (if r = p.rest then spikeC p d s else none) (jo (if r = 0 then stayC p d s else none) (gotAt p C d y.ks r))).map spA)
    (ho : o = true ↔ y.other = true ∨ tlo p d s < p.th) (hf : f = true ↔ y.fires = true ∨ ¬ thi p d s < p.th) :
    TkOk p C d es ⟨y.seen.push x.born, 0 :: y.ks, m', o, f⟩ := by
  have hfr := h.fresh hx hk hn
  refine ⟨h.seen hst hx hk, fun r => by rw [hm r, gotAt_zero hfr hs r], ?_, ?_⟩
  · show o = true ↔ _
    rw [ho, h.other]
    constructor
    · rintro ((⟨k, h1, h2⟩ | ⟨h1, _⟩) | h1)
      · exact .inl ⟨k, List.mem_cons_of_mem _ h1, h2⟩
      · exact absurd h1 hfr
      · exact .inr ⟨List.mem_cons_self, s, hs, h1⟩
    · rintro (⟨k, h1, h2, h3⟩ | ⟨h1, s', h2, h3⟩)
      · rcases List.mem_cons.1 h1 with h1 | h1
        · omega
        · exact .inl (.inl ⟨k, h1, h2, h3⟩)
      · rw [hs] at h2
        cases h2
        exact .inr h3
  · show f = true ↔ _
    rw [hf, h.fires]
    constructor
    · rintro (⟨h1, _⟩ | h1)
      · exact absurd h1 hfr
      · exact ⟨List.mem_cons_self, s, hs, h1⟩
    · rintro ⟨_, s', h2, h3⟩
      rw [hs] at h2
      cases h2
      exact .inr h3

theorem TkOk.done {p : Par} (hp : ParOk p) {C : List (Option Sp)} (hC : CellOk p C) {d : Sp} {es : Array MapEntry} {m : List (Int × Value)} (hes : es.toList.map (fun x => (x.key, x.val)) = m.map (fun x => (Value.int .i64 x.1, x.2))) (hm : MapOf m (cget C))
    {y : TkS} (h : TkOk p C d es y) (hend : ∀ x ∈ es.toList, x.born ∈ y.seen) : MapOf y.m (cget (tickC p C d)) ∧ tickV p C d = if y.fires = true then (if y.other = true then 1 else 2) else 0 := by
  have hall : ∀ k, cget C k ≠ none → k ∈ y.ks := by
    intro k hk
    obtain ⟨x, hx, hxk⟩ := case_entry hes hm hk
    exact (h.ks x hx k hxk).1 (hend x hx)
  refine ⟨h.map.congr fun r => gotAt_all hp hC.len hall r, ?_⟩
  unfold tickV
  cases hc : cget C 0 with
  | none =>
    have : ¬ y.fires = true := by
      rw [h.fires, hc]
      rintro ⟨_, s, h1, _⟩
      cases h1
    rw [if_neg this]
  | some s =>
    dsimp only
    have h0 : (0 : Int) ∈ y.ks := hall 0 (by rw [hc]; simp)
    have hf : y.fires = true ↔ ¬ thi p d s < p.th := by
      rw [h.fires, hc]
      constructor
      · rintro ⟨_, s', h1, h2⟩; cases h1; exact h2
      · exact fun h1 => ⟨h0, s, rfl, h1⟩
    have ho : y.other = true ↔ (restsB C = true ∨ tlo p d s < p.th) := by
      rw [h.other, restsB_iff, hc]
      constructor
      · rintro (⟨k, _, h2, h3⟩ | ⟨_, s', h1, h2⟩)
        · exact .inl ⟨k, h2, h3⟩
        · cases h1; exact .inr h2
      · rintro (⟨k, h2, h3⟩ | h1)
        · exact .inl ⟨k, hall k h3, h2, h3⟩
        · exact .inr ⟨h0, s, rfl, h1⟩
    by_cases ht : thi p d s < p.th
    · rw [if_pos ht, if_neg (fun e => hf.1 e ht)]
    · rw [if_neg ht, if_pos (hf.2 ht)]
      simp only [ho]

theorem stay_some {p : Par} {d s : Sp} (h : tlo p d s < p.th) : stayC p d s = some ⟨tlo p d s, min (thi p d s) (p.th - 1)⟩ := if_pos h

theorem stay_none {p : Par} {d s : Sp} (h : ¬ tlo p d s < p.th) : stayC p d s = none := if_neg h

theorem spike_none {p : Par} {d s : Sp} (h : thi p d s < p.th) : spikeC p d s = none := if_pos h

theorem spike_sub {p : Par} {d s : Sp} (h : ¬ thi p d s < p.th) (hk : p.rk = 1) : spikeC p d s = some ⟨max (tlo p d s) p.th - p.th, thi p d s - p.th⟩ := by
  unfold spikeC spikeS
  rw [if_neg h, if_pos hk]

theorem spike_set {p : Par} {d s : Sp} (h : ¬ thi p d s < p.th) (hk : ¬ p.rk = 1) : spikeC p d s = some ⟨p.rs, p.rs⟩ := by
  unfold spikeC spikeS
  rw [if_neg h, if_neg hk]

theorem find_born {es : Array MapEntry} {clock : Nat} (hst : MapKept.Stamped es clock) {x : MapEntry} (hx : x ∈ es.toList) : es.find? (fun e => e.born == x.born) = some x := by
  rw [← Array.find?_toList]
  cases h : es.toList.find? (fun e => e.born == x.born) with
  | none =>
    have := List.find?_eq_none.1 h x hx
    simp at this
  | some y =>
    have h1 := List.mem_of_find?_eq_some h
    have h2 := List.find?_some h
    simp only [beq_iff_eq] at h2
    rw [nodup_map_inj hst.2.1 h1 hx h2]

theorem bt_any (cs : List (Par × Value)) (i : Nat) (p : Par) (b : Nat) (h : cs[i]? = some (p, .map (some b))) (hn : cs.length ≤ 1024) (hp : ParOk p) (C : List (Option Sp)) (hC : CellOk p C) (m : List (Int × Value)) (hm : MapOf m (cget C)) (d : Sp)
    (hd : (-268435456 ≤ d.lo ∧ d.lo ≤ 268435456) ∧ (-268435456 ≤ d.hi ∧ d.hi ≤ 268435456)) (g cp : Nat) (w : World)
    (hs : St w [g, b] [.vec (some ⟨g, 0, none⟩) cs.length cp 141 9 (flat vcV cs), .map b m] w) :
    Calls Tryz.prog 79 #[.pointer (some ⟨g, i * 9, none⟩), spA d] w fun e w' => ∃ y : Nat × List (Int × Value), e = .returned (.int .i64 (tickV p C d)) ∧ MapOf y.2 (cget (tickC p C d)) ∧
      St w [g, b] [.vec (some ⟨g, 0, none⟩) cs.length cp 141 9 (flat vcV (cs.set i (p, .map (some y.1)))), .map y.1 y.2] w' := by
  obtain ⟨hlt, _⟩ := List.getElem?_eq_some_iff.1 h
  have hbias := hp.bias
  have hfl := hp.fl
  have hth := hp.th
  have hrs := hp.rs
  have hrest := hp.rest
  refine enter (C := Tryz.cx) (F := Tryz.fx79) (args := [_, _]) Tryz.func79 rfl rfl rfl Tryz.ok79 hs ?_
  repeat' (conv => whnf); first | (refine VLd.is ?_; refine VLd.mk (Rd.cast (.vec aT (sub_flat (f := vcV) (k := 9) (o := 8) (s := 1) (vs := [.map (some b)]) (fun _ => rfl) h rfl)) (by first | omega | (dsimp only; omega) | rfl)) ?_) | (refine VRgM.is ?_; refine VRgM.mk aT fun es clock it hes hst => ?_) | (refine VSeq.go ?_) | (refine VSt.is ?_; refine VSt.row aT (by rfl) (by first | rfl | assumption) ?_) | (refine VNew.mk fun _ => ?_)
  all_goals (conv => whnf)
  rename_i b3 bm b5
  refine VLoop.mk (α := TkS) (fun y => TkOk p C d es y)
    (fun y => [(1000000, .tuple #[]), (0, .pointer (some ⟨g, i * 9, none⟩)), (3, .pointer (some ⟨b3, 0, none⟩)), (4, .int .i64 0), (5, .pointer (some ⟨b5, 0, none⟩)), (6, .func (.func 139) #[] #[.pointer (some ⟨b5, 0, none⟩)]), (7, .bool y.other), (8, .bool y.fires), (22, .pointer (some ⟨it, 0, none⟩))])
    (fun y => [.obj it (.mapIter (some b) clock y.seen clock), .obj b (.map es clock), .row b5 139 [.map (some bm)], .map bm y.m, .row b3 138 (spV d), .vec (some ⟨g, 0, none⟩) cs.length cp 141 9 (flat vcV cs)])
    (fun y => unseen es y.seen) ⟨#[], [], [], false, false⟩ ⟨by simp, fun r => by rw [gotAt_nil]; rfl, by simp, by simp⟩ aE aH ?_
  rintro ⟨seen, ks, m1, o, f⟩ hy
  dsimp only
  repeat' (conv => whnf); first | (refine VNxM.is ?_; refine VNxM.mk aT aT hst.1 (Nat.le_refl _) (fun hend => ?_) (fun x hx hn => ?_)) | (refine VSeq.go ?_) | (refine VLd.is ?_; refine VLd.mk (.row aT (by rfl)) ?_)
  all_goals (conv => whnf)
  · obtain ⟨hmap, hv⟩ := hy.done hp hC hes hm hend
    dsimp only at hmap hv
    repeat' (conv => whnf); first | (refine VSt.is ?_; refine VSt.cast (off' := i * 9 + 8) (by first | omega | (dsimp only; omega)) (VSt.vec aT (upd_flat (o := 8) (f := vcV) (k := 9) (y := (p, .map (some bm))) (fun _ => rfl) h rfl) rfl ?_)) | (refine VSeq.go ?_) | (refine boolE_split (fun h => ?_) (fun h => ?_) <;> subst h)
    all_goals (conv => whnf)
    all_goals (rw [hv]; exact ⟨fun w' hw' => ⟨(bm, m1), rfl, hmap, hw'.le aH⟩⟩)
  · obtain ⟨k, s, hk, hv, hs0, hk0⟩ := entry_case hes hst hm hx
    have hsp := hC.get hs0
    have hun := unseen_push hx hn
    have hk64 : k ≤ 64 := by have h1 := (cget_some hs0).2.1; have h2 := hC.len; omega
    rcases Int.lt_or_le 0 k with hkp | hkz
    · repeat' (conv => whnf); first | (refine VEn.is ?_; refine VEn.mk aT aT (by simp) (find_born hst hx) ?_; rw [hk, hv]) | (refine VCall.isF 139 ?_; (refine put_call (k - 1) s _ b5 bm _ hy.map (by repeat (first | exact Take.nil | (with_reducible apply Take.seg; (focus (exact aS))) | (apply Take.cons; (focus (exact aT))) | (apply Take.last; (focus (exact aS))))) fun m' hm' => ?_)) | (refine VSeq.go ?_) | (refine VB.is ?_; refine VB.yes (by omega) fun _ => ?_) | (refine VLd.is ?_; refine VLd.mk (.row aT (by rfl)) ?_) | (refine VSt.is ?_; refine VSt.row aT (by rfl) (by first | rfl | assumption) ?_) | (refine VNew.mk fun _ => ?_) | (refine VAr.is ?_; refine oA ?_)
      all_goals (conv => whnf)
      exact VNext.mk ⟨seen.push x.born, k :: ks, m', true, f⟩ (hy.move hst hx hk hn hkp hs0 hm') hun aE aH
    · have hkk : k = 0 := by omega
      subst hkk
      have hl1 := leak_bounds hp (v := s.lo) (by omega) (by omega)
      have hl2 := leak_bounds hp (v := s.hi) (by omega) (by omega)
      repeat' (conv => whnf); first | (refine VEn.is ?_; refine VEn.mk aT aT (by simp) (find_born hst hx) ?_; rw [hk, hv]) | (refine VLd.is ?_; refine VLd.mk (Rd.cast (.vec aT (sub_flat (f := vcV) (k := 9) (o := 2) (s := 1) (vs := [.int .i64 p.bias]) (fun _ => rfl) h rfl)) (by first | omega | (dsimp only; omega) | rfl)) ?_) | (refine VLd.is ?_; refine VLd.mk (Rd.cast (.vec aT (sub_flat (f := vcV) (k := 9) (o := 3) (s := 1) (vs := [.int .i64 p.th]) (fun _ => rfl) h rfl)) (by first | omega | (dsimp only; omega) | rfl)) ?_) | (refine VLd.is ?_; refine VLd.mk (Rd.cast (.vec aT (sub_flat (f := vcV) (k := 9) (o := 4) (s := 1) (vs := [.int .i64 p.rk]) (fun _ => rfl) h rfl)) (by first | omega | (dsimp only; omega) | rfl)) ?_) | (refine VLd.is ?_; refine VLd.mk (Rd.cast (.vec aT (sub_flat (f := vcV) (k := 9) (o := 5) (s := 1) (vs := [.int .i64 p.rs]) (fun _ => rfl) h rfl)) (by first | omega | (dsimp only; omega) | rfl)) ?_) | (refine VLd.is ?_; refine VLd.mk (Rd.cast (.vec aT (sub_flat (f := vcV) (k := 9) (o := 6) (s := 1) (vs := [.int .i64 p.fl]) (fun _ => rfl) h rfl)) (by first | omega | (dsimp only; omega) | rfl)) ?_) | (refine VLd.is ?_; refine VLd.mk (Rd.cast (.vec aT (sub_flat (f := vcV) (k := 9) (o := 7) (s := 1) (vs := [.int .i64 p.rest]) (fun _ => rfl) h rfl)) (by first | omega | (dsimp only; omega) | rfl)) ?_) | (refine VLd.is ?_; refine VLd.mk (Rd.cast (.vec aT (sub_flat (f := vcV) (k := 9) (o := 0) (s := 8) (vs := parV p) (fun _ => rfl) h rfl)) (by first | omega | (dsimp only; omega) | rfl)) ?_) | (refine VCall.isF 141 ?_; refine VCall.val (nLeak_any p hp _ (by omega) (by omega)) ?_) | (refine VCall.isF 139 ?_; (first | refine put_call p.rest ⟨max (tlo p d s) p.th - p.th, thi p d s - p.th⟩ _ b5 bm _ hy.map (by repeat (first | exact Take.nil | (with_reducible apply Take.seg; (focus (exact aS))) | (apply Take.cons; (focus (exact aT))) | (apply Take.last; (focus (exact aS))))) fun m' hm' => ?_ | refine put_call p.rest ⟨max (tlo p d s) p.th - p.th, thi p d s - p.th⟩ _ b5 bm _ (by assumption) (by repeat (first | exact Take.nil | (with_reducible apply Take.seg; (focus (exact aS))) | (apply Take.cons; (focus (exact aT))) | (apply Take.last; (focus (exact aS))))) fun m' hm' => ?_ | refine put_call p.rest ⟨p.rs, p.rs⟩ _ b5 bm _ hy.map (by repeat (first | exact Take.nil | (with_reducible apply Take.seg; (focus (exact aS))) | (apply Take.cons; (focus (exact aT))) | (apply Take.last; (focus (exact aS))))) fun m' hm' => ?_ | refine put_call p.rest ⟨p.rs, p.rs⟩ _ b5 bm _ (by assumption) (by repeat (first | exact Take.nil | (with_reducible apply Take.seg; (focus (exact aS))) | (apply Take.cons; (focus (exact aT))) | (apply Take.last; (focus (exact aS))))) fun m' hm' => ?_ | refine put_call 0 ⟨tlo p d s, min (thi p d s) (p.th - 1)⟩ _ b5 bm _ hy.map (by repeat (first | exact Take.nil | (with_reducible apply Take.seg; (focus (exact aS))) | (apply Take.cons; (focus (exact aT))) | (apply Take.last; (focus (exact aS))))) fun m' hm' => ?_)) | (refine VSeq.go ?_) | (refine VB.is ?_; refine VB.no (by omega) fun _ => ?_) | (refine VB.split (fun _ => ?_) (fun _ => ?_)) | (refine VLd.is ?_; refine VLd.mk (.row aT (by rfl)) ?_) | (refine VSt.is ?_; refine VSt.row aT (by rfl) (by first | rfl | assumption) ?_) | (refine VNew.mk fun _ => ?_) | (refine VAr.is ?_; refine oA ?_) | (refine VKeep.is ?_; refine VKeep.mk aH ?_) | (refine VHs.mk _ (.refl _) ?_)
      all_goals (conv => whnf)
      · rename_i h1 h2
        exact VNext.mk ⟨seen.push x.born, 0 :: ks, m', true, f⟩ (hy.zero hst hx hk hn hs0 (fun r => by rw [hm' r, jo_if, jo_if, stay_some h1, spike_none h2]; try simp only [none_jo, ite_self]) ⟨fun _ => .inr h1, fun _ => rfl⟩ ⟨.inl, fun h => h.elim id (fun q => absurd h2 q)⟩) hun aE aH
      · rename_i h1 _ _ h2 h3
        exact VNext.mk ⟨seen.push x.born, 0 :: ks, m', true, true⟩ (hy.zero hst hx hk hn hs0 (fun r => by rw [hm' r, jo_if, jo_if, stay_some h1, spike_sub h2 h3]; try simp only [none_jo, ite_self]) ⟨fun _ => .inr h1, fun _ => rfl⟩ ⟨fun _ => .inr h2, fun _ => rfl⟩) hun aE aH
      · rename_i h1 _ _ h2 h3
        exact VNext.mk ⟨seen.push x.born, 0 :: ks, m', true, true⟩ (hy.zero hst hx hk hn hs0 (fun r => by rw [hm' r, jo_if, jo_if, stay_some h1, spike_set h2 h3]; try simp only [none_jo, ite_self]) ⟨fun _ => .inr h1, fun _ => rfl⟩ ⟨fun _ => .inr h2, fun _ => rfl⟩) hun aE aH
      · rename_i h1 h2
        exact VNext.mk ⟨seen.push x.born, 0 :: ks, m1, o, f⟩ (hy.zero hst hx hk hn hs0 (fun r => by rw [hy.map r, jo_if, jo_if, stay_none h1, spike_none h2]; try simp only [none_jo, ite_self]) ⟨.inl, fun h => h.elim id (fun q => absurd q h1)⟩ ⟨.inl, fun h => h.elim id (fun q => absurd h2 q)⟩) hun aE aH
      · rename_i h1 h2 h3
        exact VNext.mk ⟨seen.push x.born, 0 :: ks, m', o, true⟩ (hy.zero hst hx hk hn hs0 (fun r => by rw [hm' r, jo_if, jo_if, stay_none h1, spike_sub h2 h3]; try simp only [none_jo, ite_self]) ⟨.inl, fun h => h.elim id (fun q => absurd q h1)⟩ ⟨fun _ => .inr h2, fun _ => rfl⟩) hun aE aH
      · rename_i h1 h2 h3
        exact VNext.mk ⟨seen.push x.born, 0 :: ks, m', o, true⟩ (hy.zero hst hx hk hn hs0 (fun r => by rw [hm' r, jo_if, jo_if, stay_none h1, spike_set h2 h3]; try simp only [none_jo, ite_self]) ⟨.inl, fun h => h.elim id (fun q => absurd q h1)⟩ ⟨fun _ => .inr h2, fun _ => rfl⟩) hun aE aH

theorem bt_call {w0 : World} {M : List Nat} {H R : HP} {K : Value → HP → Prop} (cs : List (Par × Value)) (i off : Nat) (ho : off = i * 9) (p : Par) (b : Nat) (h : cs[i]? = some (p, .map (some b))) (hn : cs.length ≤ 1024) (hp : ParOk p) (C : List (Option Sp)) (hC : CellOk p C)
    (m : List (Int × Value)) (hm : MapOf m (cget C)) (d : Sp) (hd : (-268435456 ≤ d.lo ∧ d.lo ≤ 268435456) ∧ (-268435456 ≤ d.hi ∧ d.hi ≤ 268435456)) (g n cp : Nat) (hnn : cs.length = n)
    (htk : Take H [.vec (some ⟨g, 0, none⟩) n cp 141 9 (flat vcV cs), .map b m] R)
    (hk : ∀ b' m', MapOf m' (cget (tickC p C d)) → K (.int .i64 (tickV p C d)) ([.vec (some ⟨g, 0, none⟩) n cp 141 9 (flat vcV (cs.set i (p, .map (some b')))), .map b' m'] ++ R)) :
    VCall Tryz.prog w0 M H 79 [.pointer (some ⟨g, off, none⟩), spA d] K := by
  subst ho
  subst hnn
  exact VCall.turnT (α := Nat × List (Int × Value)) (fun _ => .int .i64 (tickV p C d)) (fun y => MapOf y.2 (cget (tickC p C d)))
    (fun y => [.vec (some ⟨g, 0, none⟩) cs.length cp 141 9 (flat vcV (cs.set i (p, .map (some y.1)))), .map y.1 y.2]) htk
    (fun w1 _ hs1 => bt_any cs i p b h hn hp C hC m hm d hd g cp w1 hs1) (fun y hy => hk y.1 y.2 hy)

end Go.Proofs
