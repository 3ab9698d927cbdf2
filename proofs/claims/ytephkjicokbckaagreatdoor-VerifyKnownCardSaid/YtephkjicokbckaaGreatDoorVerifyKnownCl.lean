import Derived.Test.YtephkjicokbckaaGreatDoorVerifyKnownWe
set_option linter.unusedVariables false

set_option linter.unusedSimpArgs false

namespace Go.Gm

structure Clm where
  kind : Int
  ns : List Int
  frm : Int
  to : Int
  lo : Int
  hi : Int

structure Clm.wf (c : Clm) : Prop where
  kind : I64 c.kind
  ns : ∀ i ∈ c.ns, I64 i
  frm : I64 c.frm
  to : I64 c.to
  lo : I64 c.lo
  hi : I64 c.hi

def nsErr (n : Nat) : List Int → List Int → Int
  | _, [] => 0
  | done, i :: r => if ¬ (0 ≤ i ∧ i ≤ (n : Int) - 1) then 3 else if i ∈ done then 5 else nsErr n (done ++ [i]) r

def rngBad (c : Clm) : Prop := c.frm < 0 ∨ c.to < c.frm ∨ c.to > 10000 ∨ c.lo < 0 ∨ c.hi < 0

instance (c : Clm) : Decidable (rngBad c) := by unfold rngBad; infer_instance

def clmErr (n : Nat) (c : Clm) : Int :=
  if (c.kind ≠ 1 ∧ c.kind ≠ 2) ∨ c.ns.length = 0 then 2 else if nsErr n [] c.ns ≠ 0 then nsErr n [] c.ns else if rngBad c then 3 else 0

theorem nsErr_drop {n : Nat} {l : List Int} {k : Nat} {i : Int} (h : l[k]? = some i) :
    nsErr n (l.take k) (l.drop k) = if ¬ (0 ≤ i ∧ i ≤ (n : Int) - 1) then 3 else if i ∈ l.take k then 5 else nsErr n (l.take (k + 1)) (l.drop (k + 1)) := by
  obtain ⟨hlt, he⟩ := List.getElem?_eq_some_iff.1 h
  rw [List.drop_eq_getElem_cons hlt, he, List.take_add_one, h, Option.toList_some]
  rfl

theorem nsErr_zero {n : Nat} : ∀ {l done : List Int}, nsErr n done l = 0 → (∀ i ∈ l, 0 ≤ i ∧ i ≤ (n : Int) - 1) ∧ l.Nodup ∧ ∀ i ∈ l, i ∉ done
  | [], _, _ => by simp
  | i :: r, done, h => by
    unfold nsErr at h
    split at h
    · cases h
    · rename_i h1
      split at h
      · cases h
      · rename_i h2
        obtain ⟨g1, g2, g3⟩ := nsErr_zero h
        refine ⟨fun j hj => ?_, ?_, fun j hj => ?_⟩
        · rcases List.mem_cons.1 hj with rfl | hj
          · omega
          · exact g1 j hj
        · rw [List.nodup_cons]
          exact ⟨fun hm => g3 i hm (by simp), g2⟩
        · rcases List.mem_cons.1 hj with rfl | hj
          · exact h2
          · exact fun hd => g3 j hj (List.mem_append_left _ hd)

theorem clmErr_zero {n : Nat} {c : Clm} (h : clmErr n c = 0) : (c.kind = 1 ∨ c.kind = 2) ∧ 0 < c.ns.length ∧ ((∀ i ∈ c.ns, 0 ≤ i ∧ i ≤ (n : Int) - 1) ∧ c.ns.Nodup) ∧ (0 ≤ c.frm ∧ c.frm ≤ c.to ∧ c.to ≤ 10000 ∧ 0 ≤ c.lo ∧ 0 ≤ c.hi) := by
  unfold clmErr at h
  by_cases h1 : (c.kind ≠ 1 ∧ c.kind ≠ 2) ∨ c.ns.length = 0
  · rw [if_pos h1] at h; cases h
  · rw [if_neg h1] at h
    by_cases h2 : nsErr n [] c.ns = 0
    · rw [if_neg (by omega)] at h
      by_cases h3 : rngBad c
      · rw [if_pos h3] at h; cases h
      · obtain ⟨g1, g2, _⟩ := nsErr_zero h2
        unfold rngBad at h3
        exact ⟨by omega, by omega, ⟨g1, g2⟩, by omega⟩
    · rw [if_pos h2] at h
      exact absurd h h2

end Go.Gm

namespace Go.Proofs

open Go Go.Vx Go.Gm

def clmA (c : Clm) (p : Option Addr) (cap : Nat) : Value := .agg #[.int .i64 c.kind, .slice p c.ns.length cap, .int .i64 c.frm, .int .i64 c.to, .int .i64 c.lo, .int .i64 c.hi]

def clmV (c : Clm) (p : Option Addr) (cap : Nat) : List Value := [.int .i64 c.kind, .slice p c.ns.length cap, .int .i64 c.frm, .int .i64 c.to, .int .i64 c.lo, .int .i64 c.hi]

theorem _root_.Go.Vx.Sl.first {α : Type} {f : α → List Value} {k : Nat} {w : World} {l : List α} {p : Option Addr} {n b o : Nat} (h : Sl w f k l p n b o) (hk : ∀ x, (f x).length = k) (m : Nat) (hm : m ≤ n) : Sl w f k (l.take m) p m b o := by
  refine ⟨?_, by rw [List.length_take, h.len]; omega, ?_⟩
  · rcases h.base with h1 | ⟨h1, h2⟩
    · exact .inl h1
    · exact .inr ⟨by omega, h2⟩
  · intro j v hj
    refine h.cells j v ?_
    have e : flat f l = flat f (l.take m) ++ flat f (l.drop m) := by rw [← flat_append, List.take_append_drop]
    rw [e, List.getElem?_append_left (List.getElem?_eq_some_iff.1 hj).1]
    exact hj

theorem contains_any (l : List Int) (hl : l.length ≤ 1152921504606846976) (v : Int) (p : Option Addr) (cap b o : Nat) (w : World) (h1 : Sl w intV 1 l p l.length b o) :
    Calls Tryz.prog 117 #[.slice p l.length cap, .int .i64 v] w fun e w' => ∃ c : Bool, e = .returned (.bool c) ∧ (c = true ↔ v ∈ l) ∧ St w [] [] w' := by
  refine enter (C := Tryz.cx) (F := Tryz.fx117) (args := [_, _]) Tryz.func117 rfl rfl rfl Tryz.ok117 (St.start w []) ?_
  repeat' (conv => whnf); first | (refine VCall.isF 167 ?_; refine VCall.inl (F := Tryz.fx167) Tryz.func167 rfl rfl rfl Tryz.ok167 ?_) | (refine VSeq.go ?_)
  all_goals (conv => whnf)
  refine VLoop.mk (α := Nat) (fun j => j ≤ l.length ∧ v ∉ l.take j) (fun j => [(1000000, .tuple #[]), (0, .slice p l.length cap), (1, .int .i64 v), (4, .int .i64 0), (7, .int .i64 (l.length : Int)), (8, .int .i64 (j : Int))])
    (fun _ => []) (fun j => l.length - j) 0 ⟨by omega, by simp⟩ aE aH ?_
  rintro j ⟨hj, hn⟩
  rcases Nat.lt_or_ge j l.length with hlt | hge
  · obtain ⟨x, hx⟩ := h1.get hlt
    have hm := List.mem_of_getElem? hx
    repeat' (conv => whnf); first | (refine VIx.is ?_; refine VIx.mk (h1.ptr (by omega)) (by omega) (by omega) ?_) | (refine VLd.is ?_; refine VLd.mk (Rd.cast (h1.rd0 (by simp) (fun _ => rfl) hx rfl) (by first | omega | (dsimp only; omega) | rfl)) ?_) | (refine VSeq.go ?_) | (refine VB.is ?_; refine VB.yes (by omega) fun _ => ?_) | (refine VB.split (fun _ => ?_) (fun _ => ?_)) | (refine VAr.is ?_; refine oA ?_)
    all_goals (conv => whnf)
    all_goals first
      | (have e : x = v := by omega
         rw [e] at hm
         exact ⟨fun w' hw' => ⟨true, rfl, by simp [hm], hw'.le .nil⟩⟩)
      | (refine VNext.mk (j + 1) ⟨by omega, ?_⟩ (by omega) aE aH
         rw [List.take_add_one, hx, Option.toList_some]
         intro h
         rcases List.mem_append.1 h with h | h
         · exact hn h
         · simp only [List.mem_singleton] at h
           omega)
  · rw [List.take_of_length_le hge] at hn
    repeat' (conv => whnf); first | (refine VSeq.go ?_) | (refine VB.is ?_; refine VB.no (by omega) fun _ => ?_) | (refine VB.split (fun _ => ?_) (fun _ => ?_)) | (refine VLd.is ?_; refine VLd.mk (.row aT (by rfl)) ?_)
    all_goals (conv => whnf)
    exact ⟨fun w' hw' => ⟨false, rfl, by simp [hn], hw'.le .nil⟩⟩

theorem contains_first (l : List Int) (m : Nat) (hm : m ≤ l.length) (hl : l.length ≤ 1152921504606846976) (v : Int) (p : Option Addr) (cap b o : Nat) (w : World) (h1 : Sl w intV 1 l p l.length b o) :
    Calls Tryz.prog 117 #[.slice p m cap, .int .i64 v] w fun e w' => ∃ c : Bool, e = .returned (.bool c) ∧ (c = true ↔ v ∈ l.take m) ∧ St w [] [] w' := by
  have e : (l.take m).length = m := by rw [List.length_take]; omega
  have h := contains_any (l.take m) (by omega) v p cap b o w (by rw [e]; exact h1.first (fun _ => rfl) m hm)
  rw [e] at h
  exact h

def kindA (k : Int) : Value :=
  if k = 1 then .agg #[.func (.func 146) #[] #[], .func (.func 147) #[] #[]]
  else if k = 2 then .agg #[.func (.func 148) #[] #[], .func (.func 149) #[] #[]] else .agg #[.nilFunc, .nilFunc]

theorem kinds_any (k : Int) (w : World) :
    Calls Tryz.prog 87 #[.int .i64 k] w fun e w' => e = .returned (.tuple #[kindA k, .bool (decide (k = 1 ∨ k = 2))]) ∧ St w [] [] w' := by
  by_cases h1 : k = 1
  · subst h1
    refine enter (C := Tryz.cx) (F := Tryz.fx87) (args := [_]) Tryz.func87 rfl rfl rfl Tryz.ok87 (St.start w []) ?_
    repeat' (conv => whnf); first | (refine VMp.is ?_; refine VMp.mk aT ?_) | (refine VLk.is ?_; refine VLk.has (v := kindA 1) rfl ?_) | (refine VMpU.is ?_; refine VMpU.mk aT ?_) | (refine VSeq.go ?_) | (refine VLd.is ?_; refine VLd.mk (.row aT (by rfl)) ?_) | (refine VSt.is ?_; refine VSt.row aT (by rfl) (by first | rfl | assumption) ?_) | (refine VNew.mk fun _ => ?_)
    all_goals (conv => whnf)
    all_goals exact ⟨fun w' hw' => ⟨rfl, hw'.le .nil⟩⟩
  · by_cases h2 : k = 2
    · subst h2
      refine enter (C := Tryz.cx) (F := Tryz.fx87) (args := [_]) Tryz.func87 rfl rfl rfl Tryz.ok87 (St.start w []) ?_
      repeat' (conv => whnf); first | (refine VMp.is ?_; refine VMp.mk aT ?_) | (refine VLk.is ?_; refine VLk.has (v := kindA 2) rfl ?_) | (refine VMpU.is ?_; refine VMpU.mk aT ?_) | (refine VSeq.go ?_) | (refine VLd.is ?_; refine VLd.mk (.row aT (by rfl)) ?_) | (refine VSt.is ?_; refine VSt.row aT (by rfl) (by first | rfl | assumption) ?_) | (refine VNew.mk fun _ => ?_)
      all_goals (conv => whnf)
      all_goals exact ⟨fun w' hw' => ⟨rfl, hw'.le .nil⟩⟩
    · have e : kindA k = .agg #[.nilFunc, .nilFunc] := by unfold kindA; rw [if_neg h1, if_neg h2]
      have e2 : decide (k = 1 ∨ k = 2) = false := by simp [h1, h2]
      rw [e, e2]
      have h1' : ¬ (1 : Int) = k := fun h => h1 h.symm
      have h2' : ¬ (2 : Int) = k := fun h => h2 h.symm
      refine enter (C := Tryz.cx) (F := Tryz.fx87) (args := [_]) Tryz.func87 rfl rfl rfl Tryz.ok87 (St.start w []) ?_
      repeat' (conv => whnf); first | (refine VMp.is ?_; refine VMp.mk aT ?_) | (refine VLk.is ?_; refine VLk.lacks (by simp [mset, mfind, h1', h2']) ?_) | (refine VMpU.is ?_; refine VMpU.mk aT ?_) | (refine VSeq.go ?_) | (refine VLd.is ?_; refine VLd.mk (.row aT (by rfl)) ?_) | (refine VSt.is ?_; refine VSt.row aT (by rfl) (by first | rfl | assumption) ?_) | (refine VNew.mk fun _ => ?_)
      all_goals (conv => whnf)
      all_goals exact ⟨fun w' hw' => ⟨rfl, hw'.le .nil⟩⟩

theorem kindA_two (k : Int) : ∃ f g, kindA k = .agg #[f, g] ∧ oneAll [f, g] = true := by
  unfold kindA
  split
  · exact ⟨_, _, rfl, rfl⟩
  · split
    · exact ⟨_, _, rfl, rfl⟩
    · exact ⟨_, _, rfl, rfl⟩

theorem clmErr_of {n : Nat} {c : Clm} (h1 : c.kind = 1 ∨ c.kind = 2) (h2 : c.ns.length ≠ 0) : clmErr n c = if nsErr n [] c.ns ≠ 0 then nsErr n [] c.ns else if rngBad c then 3 else 0 := by
  unfold clmErr
  rw [if_neg (by omega)]

theorem vcheck_any (c : Clm) (hc : c.wf) (hns : c.ns.length ≤ 1000000000) (pc : Option Addr) (cc b o : Nat) (hcc : c.ns.length ≤ cc) (n : Nat) (hn : n ≤ 1000000000) (pn : Option Addr) (cn : Nat) (iv sv : Value) (hone : oneAll [.slice pn n cn, iv, sv] = true) (w : World) (h1 : Sl w intV 1 c.ns pc c.ns.length b o) :
    Calls Tryz.prog 84 #[clmA c pc cc, .agg #[.slice pn n cn, iv, sv]] w fun e w' => e = .returned (.int .i64 (clmErr n c)) ∧ St w [] [] w' := by
  obtain ⟨w1, w2, w3, w4, w5, w6⟩ := hc
  unfold I64 at w1 w3 w4 w5 w6
  obtain ⟨F1, F2, hF, hF1⟩ := kindA_two c.kind
  have hk := kinds_any c.kind
  rw [hF] at hk
  refine enter (C := Tryz.cx) (F := Tryz.fx84) (args := [_, _]) Tryz.func84 rfl rfl rfl Tryz.ok84 (St.start w []) ?_
  by_cases hkd : c.kind = 1 ∨ c.kind = 2
  rotate_left
  · have e : decide (c.kind = 1 ∨ c.kind = 2) = false := decide_eq_false hkd
    rw [e] at hk
    repeat' (conv => whnf); first | (refine VCall.isF 87 ?_; refine VCall.val hk ?_) | (refine VSeq.go ?_) | (refine VLd.is ?_; refine VLd.mk (.row aT (by rfl)) ?_) | (refine VSt.is ?_; refine VSt.row aT (by rfl) (by first | rfl | assumption) ?_) | (refine VNew.mk fun _ => ?_)
    all_goals (conv => whnf)
    all_goals exact ⟨fun w' hw' => ⟨by unfold clmErr; rw [if_pos (by omega)]; rfl, hw'.le .nil⟩⟩
  have e : decide (c.kind = 1 ∨ c.kind = 2) = true := decide_eq_true hkd
  rw [e] at hk
  by_cases hz : c.ns.length = 0
  · repeat' (conv => whnf); first | (refine VCall.isF 87 ?_; refine VCall.val hk ?_) | (refine VSeq.go ?_) | (refine VB.is ?_; refine VB.yes (by omega) fun _ => ?_) | (refine VLd.is ?_; refine VLd.mk (.row aT (by rfl)) ?_) | (refine VSt.is ?_; refine VSt.row aT (by rfl) (by first | rfl | assumption) ?_) | (refine VNew.mk fun _ => ?_)
    all_goals (conv => whnf)
    all_goals exact ⟨fun w' hw' => ⟨by unfold clmErr; rw [if_pos (by omega)]; rfl, hw'.le .nil⟩⟩
  have hce := clmErr_of (n := n) hkd hz
  repeat' (conv => whnf); first | (refine VNew.mk fun b0 => ?_) | (refine VCall.isF 87 ?_; refine VCall.val hk ?_) | (refine VSeq.go ?_) | (refine VB.is ?_; refine VB.no (by omega) fun _ => ?_) | (refine VLd.is ?_; refine VLd.mk (.row aT (by rfl)) ?_) | (refine VSt.is ?_; refine VSt.row aT (by rfl) (by first | rfl | assumption) ?_)
  all_goals (conv => whnf)
  rename_i b2 b3 _
  have h2c : [Value.int .i64 c.kind, .slice pc c.ns.length cc, .int .i64 c.frm, .int .i64 c.to, .int .i64 c.lo, .int .i64 c.hi] = clmV c pc cc := rfl
  refine VLoop.mk (α := Nat) (fun k => k ≤ c.ns.length ∧ nsErr n [] c.ns = nsErr n (c.ns.take k) (c.ns.drop k))
    (fun k => [(1000000, .tuple #[]), (2, .pointer (some ⟨b2, 0, none⟩)), (3, .pointer (some ⟨b3, 0, none⟩)), (4, .int .i64 0), (24, .slice pc c.ns.length cc), (25, .int .i64 (c.ns.length : Int)), (26, .int .i64 (k : Int))])
    (fun _ => [.row b2 50 (clmV c pc cc), .row b3 25 [.slice pn n cn, iv, sv]]) (fun k => c.ns.length - k) 0 ⟨by omega, rfl⟩ aE aH ?_
  rintro k ⟨hk1, hk2⟩
  rcases Nat.lt_or_ge k c.ns.length with hlt | hge
  · obtain ⟨i, hi⟩ := h1.get hlt
    rw [nsErr_drop hi] at hk2
    repeat' (conv => whnf); first | (refine VIx.is ?_; refine VIx.mk (h1.ptr (by omega)) (by omega) (by omega) ?_) | (refine VLd.is ?_; refine VLd.mk (Rd.cast (h1.rd0 (by simp) (fun _ => rfl) hi rfl) (by first | omega | (dsimp only; omega) | rfl)) ?_) | (refine VCall.isF 90 ?_; refine VCall.inl (F := Tryz.fx90) Tryz.func90 rfl rfl rfl Tryz.ok90 ?_) | (refine VSl.is ?_; refine VSl.cut0 (by omega) ?_) | (refine VCall.isF 117 ?_; (refine VCall.genR (fun w' hw' => contains_first c.ns k (by omega) (by omega) i _ _ _ _ w' (h1.keep hw' (by simp))) ?_; intro c1 hc1; cases c1 <;> simp only [Bool.false_eq_true, false_iff, true_iff] at hc1)) | (refine VSeq.go ?_) | (refine VB.is ?_; refine VB.yes (by omega) fun _ => ?_) | (refine VB.split (fun _ => ?_) (fun _ => ?_)) | (refine VLd.is ?_; refine VLd.mk (.row aT (by rfl)) ?_) | (refine VAr.is ?_; refine oA ?_)
    all_goals (conv => whnf)
    all_goals first
      | (rw [if_pos (by omega)] at hk2
         exact ⟨fun w' hw' => ⟨by rw [hce, hk2]; rfl, hw'.le .nil⟩⟩)
      | (rw [if_neg (by omega), if_pos hc1] at hk2
         exact ⟨fun w' hw' => ⟨by rw [hce, hk2]; rfl, hw'.le .nil⟩⟩)
      | (rw [if_neg (by omega), if_neg hc1] at hk2
         exact VNext.mk (k + 1) ⟨by omega, hk2⟩ (by omega) aE aH)
  have hz0 : nsErr n [] c.ns = 0 := by rw [hk2, List.drop_eq_nil_of_le hge]; rfl
  rw [hz0] at hce
  repeat' (conv => whnf); first | (refine VCall.isF 86 ?_; refine VCall.inl (F := Tryz.fx86) Tryz.func86 rfl rfl rfl Tryz.ok86 ?_) | (refine VSeq.go ?_) | (refine VB.is ?_; refine VB.no (by omega) fun _ => ?_) | (refine VB.split (fun _ => ?_) (fun _ => ?_)) | (refine VLd.is ?_; refine VLd.mk (.row aT (by rfl)) ?_)
  all_goals (conv => whnf)
  all_goals first
    | exact ⟨fun w' hw' => ⟨by rw [hce, if_neg (by simp), if_pos (by unfold rngBad; omega)]; rfl, hw'.le .nil⟩⟩
    | exact ⟨fun w' hw' => ⟨by rw [hce, if_neg (by simp), if_neg (by unfold rngBad; omega)]; rfl, hw'.le .nil⟩⟩

end Go.Proofs
