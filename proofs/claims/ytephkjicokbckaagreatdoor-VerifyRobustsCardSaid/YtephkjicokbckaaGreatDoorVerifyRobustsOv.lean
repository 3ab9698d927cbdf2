import Derived.Test.YtephkjicokbckaaGreatDoorVerifyRobustsSu
import Derived.Test.YtephkjicokbckaaGreatDoorVerifyRobustsSx
import Derived.Test.YtephkjicokbckaaGreatDoorVerifyRobustsOd
import Derived.Test.YtephkjicokbckaaGreatDoorVerifyRobustsHc
import Derived.Test.YtephkjicokbckaaGreatDoorVerifyRobustsEa
section
set_option linter.unusedVariables false

set_option linter.unusedSimpArgs false

namespace Go.Proofs

open Go Go.Vx Go.Gm

theorem _root_.Go.Vx.VSl.fromU {p : Option Addr} {size l n c : Nat} {k : Option Addr → Nat → Nat → Prop} (hl : l ≤ n) (hc : n ≤ c) (hk : ∀ q, (l < n → q = p.map (·.add (l * size))) → (q = p.map (·.add (l * size)) ∨ q = p) → k q (n - l) (c - l)) : VSl p size (l : Int) (n : Int) (c : Int) k := by
  refine .mk (by omega) (by omega) (by omega) fun q h1 h2 => ?_
  have e1 : (n : Int).toNat - (l : Int).toNat = n - l := by omega
  have e2 : (c : Int).toNat - (l : Int).toNat = c - l := by omega
  rw [e1, e2]
  refine hk q (fun h => ?_) ?_
  · exact h1 (by omega)
  · by_cases h : l < c
    · exact .inl (h1 (by omega))
    · exact .inr (h2 (by omega))

theorem addU_at (g k : Nat) : (some (⟨g, 0, none⟩ : Addr)).map (·.add k) = some ⟨g, 0 + k, none⟩ := by simp [Addr.add]; omega

theorem srcU_from {w0 : World} {M : List Nat} {H r : HP} {u : Ent → HP} {p q : Option Addr} {i K cap e : Nat} {l : List Evt} (hat : At H (.vec p i cap e 2 (flat evtV l)) u r) (hK : K ≤ i) (hl : l.length = i) (hf : i ≤ cap ∧ (0 < i → ∃ g, p = some ⟨g, 0, none⟩) ∧ ((∃ g, p = some ⟨g, 0, none⟩) ∨ (p = none ∧ i = 0 ∧ cap = 0)))
    (h1 : K < i → q = p.map (·.add (K * 2))) (h2 : q = p.map (·.add (K * 2)) ∨ q = p) (hs : sub (flat evtV l) (K * 2) ((i - K) * 2) = some (flat evtV (l.drop K))) : Src w0 M H q (i - K) 2 (flat evtV (l.drop K)) := by
  rcases Nat.lt_or_ge K i with h | h
  · obtain ⟨g, hg⟩ := hf.2.1 (by omega)
    subst hg
    rw [h1 h, addU_at]
    exact .at_ (Rd.cast (.vec hat hs) (by omega))
  · have hd : l.drop K = [] := List.drop_eq_nil_of_le (by omega)
    rw [hd, show i - K = 0 by omega]
    rcases hf.2.2 with ⟨g, hg⟩ | ⟨hg, _, _⟩
    · subst hg
      rcases h2 with h2 | h2
      · rw [h2, addU_at]; exact .none0
      · rw [h2]; exact .none0
    · subst hg
      rcases h2 with h2 | h2
      · rw [h2]; exact .empty
      · rw [h2]; exact .empty

theorem srcU_own {w0 : World} {M : List Nat} {H r : HP} {u : Ent → HP} {p : Option Addr} {n cap e : Nat} {l : List Evt} (hat : At H (.vec p n cap e 2 (flat evtV l)) u r) (hl : l.length = n) (hf : n ≤ cap ∧ (0 < n → ∃ g, p = some ⟨g, 0, none⟩) ∧ ((∃ g, p = some ⟨g, 0, none⟩) ∨ (p = none ∧ n = 0 ∧ cap = 0))) : Src w0 M H p n 2 (flat evtV l) := by
  rcases hf.2.2 with ⟨g, hg⟩ | ⟨hg, h0, _⟩
  · subst hg
    have hll : (flat evtV l).length = n * 2 := by rw [flat_length (k := 2) (f := evtV) (fun _ => rfl), hl]
    refine .at_ (.vec hat ?_)
    rw [sub_mk _ _ _ (by omega), List.drop_zero, List.take_of_length_le (by omega)]
  · subst hg
    have : l = [] := List.eq_nil_of_length_eq_zero (by omega)
    subst this
    rw [h0]
    exact .empty

end Go.Proofs
end

section
set_option linter.unusedVariables false

set_option linter.unusedSimpArgs false

namespace Go.Proofs

open Go Go.Vx Go.Gm

theorem kept_take : ∀ (l : List Evt) (x : List Int) (i : Nat) (e : Evt) (t : Int), l[i]? = some e → x[i]? = some t → kept (l.take (i + 1)) (x.take (i + 1)) = kept (l.take i) (x.take i) ++ if t < 0 then [] else [⟨t, e.id⟩]
  | [], _, i, e, t, h, _ => by simp at h
  | _ :: _, [], i, e, t, _, h => by simp at h
  | a :: l, b :: x, 0, e, t, h1, h2 => by
    simp only [List.getElem?_cons_zero, Option.some.injEq] at h1 h2
    subst h1; subst h2
    simp [kept]
  | a :: l, b :: x, i + 1, e, t, h1, h2 => by
    rw [List.getElem?_cons_succ] at h1 h2
    rw [List.take_succ_cons, List.take_succ_cons, List.take_succ_cons, List.take_succ_cons]
    simp only [kept]
    rw [kept_take l x i e t h1 h2, List.append_assoc]

theorem insU_eq {K out : List Evt} {x : Evt} {j : Nat} (ho : sortU K = out) (hx : x ∉ out) (hj : j ≤ out.length) (hb : ∀ y ∈ out.take j, evLt y x) (ha : ∀ y, out[j]? = some y → ¬ evLt y x) : sortU (K ++ [x]) = out.take j ++ [x] ++ out.drop j := by
  have hasc : out.Pairwise evLt := by rw [← ho]; exact sortU_asc K
  have hm : ∀ e, e ∈ K ↔ e ∈ out := fun e => by rw [← ho, mem_sortU]
  have hdr : ∀ y ∈ out.drop j, evLt x y := by
    intro y hy
    cases hc : out.drop j with
    | nil => rw [hc] at hy; cases hy
    | cons z r =>
      have hz : out[j]? = some z := by
        have h := congrArg (fun L => L[0]?) hc
        simpa using h
      have hzx := ha z hz
      have hzn : ¬ x = z := fun e => hx (by rw [e]; exact List.mem_of_getElem? hz)
      have hxz : evLt x z := Decidable.byContradiction fun hn => hzn (evLt_tri hn hzx)
      rw [hc] at hy
      rcases List.mem_cons.1 hy with rfl | hy
      · exact hxz
      · have hp : (out.drop j).Pairwise evLt := hasc.sublist (List.drop_sublist _ _)
        rw [hc] at hp
        exact evLt_trans hxz ((List.pairwise_cons.1 hp).1 y hy)
  refine sortU_eq ?_ fun e => ?_
  · rw [List.append_assoc]
    refine List.pairwise_append.2 ⟨hasc.sublist (List.take_sublist _ _), ?_, ?_⟩
    · exact List.pairwise_cons.2 ⟨hdr, hasc.sublist (List.drop_sublist _ _)⟩
    · intro a ha' b hb'
      rcases List.mem_append.1 hb' with h | h
      · simp only [List.mem_singleton] at h; subst h; exact hb a ha'
      · have hs := hasc
        rw [← List.take_append_drop j out] at hs
        exact (List.pairwise_append.1 hs).2.2 a ha' b h
  · have h9 : e ∈ out ↔ e ∈ out.take j ∨ e ∈ out.drop j := by
      conv => lhs; rw [← List.take_append_drop j out]
      exact List.mem_append
    simp only [List.mem_append, List.mem_singleton, hm e, h9]
    constructor
    · rintro ((h | h) | h)
      · exact .inl (.inl h)
      · exact .inr h
      · exact .inl (.inr h)
    · rintro ((h | h) | h)
      · exact .inl (.inl h)
      · exact .inr h
      · exact .inl (.inr h)

theorem insU_same {K out : List Evt} {x : Evt} (ho : sortU K = out) (hx : x ∈ out) : sortU (K ++ [x]) = out := by
  refine sortU_eq (by rw [← ho]; exact sortU_asc K) fun e => ?_
  rw [List.mem_append, List.mem_singleton, ← ho, mem_sortU]
  constructor
  · rintro (h | rfl)
    · exact h
    · rw [← mem_sortU, ho]; exact hx
  · exact .inl

set_option maxHeartbeats 4000000 in
theorem disturbed_any (l : List Evt) (hl : ∀ x ∈ l, x.wf) (hlen : l.length ≤ 64) (x : List Int) (hxl : x.length = l.length) (hxi : ∀ t ∈ x, I64 t) (pe : Option Addr) (ce be oe : Nat) (px : Option Addr) (cx bx ox : Nat) (w : World) (h3 : Sl w evtV 2 l pe l.length be oe) (h4 : Sl w intV 1 x px x.length bx ox) :
    Calls Tryz.prog 110 #[.slice pe l.length ce, .slice px x.length cx] w fun e w' => ∃ y : Option Addr × Nat, e = .returned (.slice y.1 (sortU (kept l x)).length y.2) ∧ True ∧ St w [] [.vec y.1 (sortU (kept l x)).length y.2 64 2 (flat evtV (sortU (kept l x)))] w' := by
  refine enter (C := Tryz.cx) (F := Tryz.fx110) (args := [_, _]) Tryz.func110 rfl rfl rfl Tryz.ok110 (St.start w []) ?_
  repeat' (conv => whnf); first | (refine VSeq.go ?_) | (refine VB.is ?_; refine VB.no (by omega) fun _ => ?_)
  all_goals (conv => whnf)
  refine VLoop.kr (α := Nat × Option Addr × Nat) [1000000, 0, 1, 4] rfl (fun y => y.1 ≤ l.length) (fun y K => (6, .int .i64 (y.1 : Int)) :: (5, .slice y.2.1 (sortU (kept (l.take y.1) (x.take y.1))).length y.2.2) :: K)
    (fun y => [.vec y.2.1 (sortU (kept (l.take y.1) (x.take y.1))).length y.2.2 64 2 (flat evtV (sortU (kept (l.take y.1) (x.take y.1))))]) (fun y => l.length - y.1) (0, none, 0) (by simp) aE aH ?_
  rintro ⟨i, p, cap⟩ hi
  dsimp only at hi ⊢
  rcases Nat.lt_or_ge i l.length with hlt | hge
  · obtain ⟨e, he⟩ : ∃ e, l[i]? = some e := ⟨l[i], List.getElem?_eq_getElem hlt⟩
    obtain ⟨t, ht⟩ : ∃ t, x[i]? = some t := ⟨x[i]'(by omega), List.getElem?_eq_getElem _⟩
    have hti := hxi t (List.mem_of_getElem? ht)
    unfold I64 at hti
    have hnx := kept_take l x i e t he ht
    obtain ⟨K, hK⟩ : ∃ K, kept (l.take i) (x.take i) = K := ⟨_, rfl⟩
    obtain ⟨out, ho⟩ : ∃ out, sortU K = out := ⟨_, rfl⟩
    have hKl : K.length ≤ i := by
      have key : ∀ (l : List Evt) (x : List Int), (kept l x).length ≤ l.length := by
        intro l
        induction l with
        | nil => intro x; simp [kept]
        | cons a l ih =>
          intro x
          cases x with
          | nil => simp [kept]
          | cons b x =>
            have := ih x
            simp only [kept, List.length_append, List.length_cons]
            split <;> simp <;> omega
      have h := key (l.take i) (x.take i)
      rw [hK, List.length_take] at h
      omega
    have hol := sortU_len K
    rw [hK] at hnx ⊢
    rw [ho] at hol ⊢
    by_cases ht0 : t < 0
    · rw [if_pos ht0, List.append_nil] at hnx
      repeat' (conv => whnf); first | (refine VIx.is ?_; refine VIx.mk (h4.ptr (by omega)) (by omega) (by omega) ?_) | (refine VLd.is ?_; refine VLd.mk (Rd.cast (h4.rd0 (by simp) (fun _ => rfl) ht rfl) (by first | omega | (dsimp only; omega) | rfl)) ?_) | (refine VSeq.go ?_) | (refine VB.is ?_; refine VB.yes (by omega) fun _ => ?_) | (refine VAr.is ?_; refine oA ?_) | (refine VHs.mk _ (.refl _) ?_)
      all_goals (conv => whnf)
      refine VNext.mk (i + 1, p, cap) (by dsimp only; omega) (by dsimp only; omega) (by dsimp only; rw [hnx, ho]; exact aE) (by dsimp only; rw [hnx, ho]; exact aH)
    rw [if_neg ht0] at hnx
    obtain ⟨X, hX⟩ : ∃ X, (⟨t, e.id⟩ : Evt) = X := ⟨_, rfl⟩
    rw [hX] at hnx
    have hX1 : X.tick = t := by rw [← hX]
    have hX2 : X.id = e.id := by rw [← hX]
    repeat' (conv => whnf); first | (refine VSeq.is ?_; refine VSeq.isA 7 rfl ?_; refine VSeq.learn (at_ := 7) (fun w hw => vec_facts (hw (.vec p out.length cap 64 2 (flat evtV out)) (by simp))) (fun hfc => ?_)) | (refine VNew.mk fun b7 => ?_) | (refine VIx.is ?_; refine VIx.mk (h4.ptr (by omega)) (by omega) (by omega) ?_) | (refine VIx.is ?_; refine VIx.mk (h3.ptr (by omega)) (by omega) (by omega) ?_) | (refine VLd.is ?_; refine VLd.mk (Rd.cast (h4.rd0 (by simp) (fun _ => rfl) ht rfl) (by first | omega | (dsimp only; omega) | rfl)) ?_) | (refine VLd.is ?_; refine VLd.mk (Rd.cast (h3.rd (o := 1) (s := 1) (by simp) (fun _ => rfl) he rfl) (by first | omega | (dsimp only; omega) | rfl)) ?_) | (refine VCall.isF 142 ?_; (refine VCall.genR (fun w' hw' => Exists.elim (Sl.own (f := evtV) (l := out) (cap := cap) (e := 64) (p := p) (k := 2) hw' aT (fun _ => rfl) rfl) fun bq hbq => event_any out (by omega) t e.id p cap bq 0 w' hbq) ?_; rw [hX]; intro b hb)) | (refine VSeq.is ?_; refine VSeq.isA 10 rfl ?_; refine VSeq.cut (at_ := 10) (α := Nat) (fun j => j ≤ out.length ∧ (∀ y ∈ out.take j, evLt y X) ∧ ∀ y, out[j]? = some y → ¬ evLt y X) (fun j => [(1000000, .tuple #[]), (0, .slice pe l.length ce), (1, .slice px x.length cx), (4, .slice none 0 0), (5, .slice p out.length cap), (6, .int .i64 (i : Int)), (7, .pointer (some ⟨b7, 0, none⟩)), (8, .int .i64 (j : Int))]) (fun _ => [.row b7 64 [.int .i64 t, .int .i64 e.id], .vec p out.length cap 64 2 (flat evtV out)]) ?_ ?_) | (refine VSeq.go ?_) | (refine VB.is ?_; refine VB.yes (by omega) fun _ => ?_) | (refine VB.is ?_; refine VB.no (by omega) fun _ => ?_) | (refine boolE_split (fun h => ?_) (fun h => ?_) <;> subst h) | (refine VSt.is ?_; refine VSt.row aT (by rfl) (by first | rfl | assumption) ?_) | (refine VAr.is ?_; refine oA ?_) | (refine VKeep.is ?_; refine VKeep.mk aH ?_) | (refine VHs.mk _ (.refl _) ?_)
    all_goals (conv => whnf)
    · have hin : X ∈ out := by first | exact hb.1 rfl | exact hb.1 ‹_›
      have hso := insU_same ho hin
      refine VNext.mk (i + 1, p, cap) (by dsimp only; omega) (by dsimp only; omega) (by dsimp only; rw [hnx, hso]; exact aE) (by dsimp only; rw [hnx, hso]; exact aH)
    · obtain ⟨hf1, hf2, hf3⟩ := hfc
      refine VLoop.mk (α := Nat) (fun j => j ≤ out.length ∧ ∀ y ∈ out.take j, evLt y X) (fun j => [(1000000, .tuple #[]), (0, .slice pe l.length ce), (1, .slice px x.length cx), (4, .slice none 0 0), (5, .slice p out.length cap), (6, .int .i64 (i : Int)), (7, .pointer (some ⟨b7, 0, none⟩)), (8, .int .i64 (j : Int))])
        (fun _ => [.row b7 64 [.int .i64 t, .int .i64 e.id], .vec p out.length cap 64 2 (flat evtV out)]) (fun j => out.length - j) 0 ⟨by omega, by simp⟩ aE aH ?_
      rintro j ⟨hj, hall⟩
      rcases Nat.lt_or_ge j out.length with hjl | hjg
      · obtain ⟨y, hy⟩ : ∃ y, out[j]? = some y := ⟨out[j], List.getElem?_eq_getElem hjl⟩
        obtain ⟨g, hg⟩ := hf2 (by omega)
        subst hg
        repeat' (conv => whnf); first | (refine VIx.is ?_; refine VIx.mk rfl (by omega) (by omega) ?_) | (refine VLd.is ?_; refine VLd.mk (Rd.cast (.vec aT (sub_flat (f := evtV) (k := 2) (o := 0) (s := 1) (fun _ => rfl) hy rfl)) (by first | omega | (dsimp only; omega) | rfl)) ?_) | (refine VLd.is ?_; refine VLd.mk (Rd.cast (.vec aT (sub_flat (f := evtV) (k := 2) (o := 1) (s := 1) (fun _ => rfl) hy rfl)) (by first | omega | (dsimp only; omega) | rfl)) ?_) | (refine VSeq.go ?_) | (refine VB.is ?_; refine VB.yes (by omega) fun _ => ?_) | (refine VB.split (fun _ => ?_) (fun _ => ?_)) | (refine VLd.is ?_; refine VLd.mk (.row aT (by rfl)) ?_) | (refine VAr.is ?_; refine oA ?_) | (refine VHs.mk _ (.refl _) ?_)
        all_goals (conv => whnf)
        all_goals first
          | (refine VNext.mk (j + 1) ⟨by omega, ?_⟩ (by omega) aE aH
             intro z hz
             rw [List.take_add_one, hy, Option.toList_some] at hz
             rcases List.mem_append.1 hz with h | h
             · exact hall z h
             · simp only [List.mem_singleton] at h
               subst h
               unfold evLt
               omega)
          | (refine VMid.mk j ⟨hj, hall, ?_⟩ aE aH
             intro z hz
             rw [hy, Option.some.injEq] at hz
             subst hz
             unfold evLt
             omega)
      · repeat' (conv => whnf); first | (refine VSeq.go ?_) | (refine VB.is ?_; refine VB.no (by omega) fun _ => ?_) | (refine VHs.mk _ (.refl _) ?_)
        all_goals (conv => whnf)
        exact VMid.mk j ⟨hj, hall, fun z hz => by rw [List.getElem?_eq_none hjg] at hz; cases hz⟩ aE aH
    · have hnin : X ∉ out := fun h => by have h9 := hb.2 h; first | (cases h9; done) | (simp_all; done)
      rintro J ⟨hJ, hJ1, hJ2⟩
      have hso := insU_eq ho hnin hJ hJ1 hJ2
      have hsub : sub (flat evtV out) (J * 2) ((out.length - J) * 2) = some (flat evtV (out.drop J)) := by
        have e1 : flat evtV out = flat evtV (out.take J) ++ flat evtV (out.drop J) := by rw [← flat_append, List.take_append_drop]
        have e2 : (flat evtV (out.take J)).length = J * 2 := by rw [flat_length (k := 2) (f := evtV) (fun _ => rfl), List.length_take, Nat.min_eq_left (by omega)]
        have e3 : (flat evtV (out.drop J)).length = (out.length - J) * 2 := by rw [flat_length (k := 2) (f := evtV) (fun _ => rfl), List.length_drop]
        rw [sub_mk _ _ _ (by rw [e1, List.length_append, e2, e3]; omega), e1, List.drop_left' e2, List.take_of_length_le (by rw [e3]; omega)]
      repeat' (conv => whnf); first | (refine VSl.is ?_; refine VSl.is ?_; refine VSl.fromU (n := out.length) (l := J) (c := cap) (by omega) hfc.1 fun q hq1 hq2 => ?_) | (refine VAp.is ?_; refine VAp.own aT (srcU_from (l := out) aT hJ rfl hfc hq1 hq2 hsub) (flat_one_cell (by simp [evtV, Value.oneCell'])) (by (try dsimp only); omega) (by simp only [maxLen]; omega) fun p' cap' hp' => ?_) | (refine VSeq.is ?_; refine VSeq.isA 11 rfl ?_; refine VSeq.cutL (at_ := 11) (α := Option Addr × Nat) (fun _ => True) (fun y => [(1000000, .tuple #[]), (0, .slice pe l.length ce), (1, .slice px x.length cx), (4, .slice none 0 0), (5, .slice p out.length cap), (6, .int .i64 (i : Int)), (7, .pointer (some ⟨b7, 0, none⟩)), (8, .int .i64 (J : Int)), (9, .slice y.1 (out.length - J) y.2)]) (fun y => [.vec p J cap 64 2 (flat evtV (out.take J)), .vec y.1 (out.length - J) y.2 64 2 (flat evtV (out.drop J)), .row b7 64 [.int .i64 t, .int .i64 e.id]]) (fun y => out.length - J ≤ y.2 ∧ (0 < out.length - J → ∃ g, y.1 = some ⟨g, 0, none⟩) ∧ ((∃ g, y.1 = some ⟨g, 0, none⟩) ∨ (y.1 = none ∧ out.length - J = 0 ∧ y.2 = 0))) (fun y _ w hw => vec_facts (hw (.vec y.1 (out.length - J) y.2 64 2 (flat evtV (out.drop J))) (by simp))) ?_ ?_) | (refine VNew.mk fun _ => ?_)
      all_goals (conv => whnf)
      · rw [Nat.zero_add]
        refine VMid.mk (p', cap') trivial aE ?_
        refine HLe.shr (l := out) aT (fun _ => rfl) rfl hJ ?_
        exact aH
      rintro ⟨p2, c2⟩ _ hfc2
      dsimp only at hfc2 ⊢
      have hdl : (out.drop J).length = out.length - J := List.length_drop ..
      repeat' (conv => whnf); first | (refine VSl.is ?_; refine VSl.is ?_; refine VSl.cut0 (m := J) (cap := cap) (by have := hfc.1; omega) ?_) | (refine VHs.is ?_; refine VHs.mk [.vec p2 (out.length - J) c2 64 2 (flat evtV (out.drop J)), .row b7 64 [.int .i64 t, .int .i64 e.id]] aH ?_) | (refine VAp.is ?_; refine VAp.own (p := p) aT (.at_ (.vec aT rfl)) (by simp [Value.oneCell']) (by (try dsimp only); omega) (by simp only [maxLen]; omega) fun p3 c3 hp3 => ?_) | (refine VAp.is ?_; refine VAp.own (p := p3) aT (srcU_own (l := out.drop J) aT hdl hfc2) (flat_one_cell (by simp [evtV, Value.oneCell'])) (by (try dsimp only); omega) (by simp only [maxLen]; omega) fun p4 c4 hp4 => ?_) | (refine VLd.is ?_; refine VLd.mk (.row aT (by rfl)) ?_) | (refine VNew.mk fun _ => ?_) | (refine VAr.is ?_; refine oA ?_)
      all_goals (conv => whnf)
      have hflat : flat evtV (sortU (K ++ [X])) = flat evtV (out.take J) ++ [.int .i64 t, .int .i64 e.id] ++ flat evtV (out.drop J) := by
        rw [hso, flat_append, flat_append, ← hX]
        rfl
      have hlen2 : (sortU (K ++ [X])).length = J + 1 + (out.length - J) := by
        rw [hso, List.length_append, List.length_append, List.length_take, List.length_drop, List.length_singleton, Nat.min_eq_left hJ]
      refine VNext.mk (i + 1, p4, c4) (by dsimp only; omega) (by dsimp only; omega) (by dsimp only; rw [hnx, hlen2]; exact aE) ?_
      dsimp only
      rw [hnx, hflat, hlen2]
      exact aH
  · rw [List.take_of_length_le hge, List.take_of_length_le (by omega)]
    repeat' (conv => whnf); first | (refine VSeq.go ?_) | (refine VB.is ?_; refine VB.no (by omega) fun _ => ?_)
    all_goals (conv => whnf)
    exact ⟨fun w' hw' => ⟨(p, cap), rfl, trivial, hw'.le aH⟩⟩

end Go.Proofs
end
