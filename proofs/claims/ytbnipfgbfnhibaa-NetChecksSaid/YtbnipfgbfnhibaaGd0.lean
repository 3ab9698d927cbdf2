/- Gd0: small laws for Gd1. -/
import Derived.Test.YtbnipfgbfnhibaaGd
set_option linter.unusedVariables false
set_option linter.unusedSimpArgs false
namespace Go.Proofs
open Go Go.Vx Go.Gm

/-- Different numbers of a range are not many. -/
theorem nodup_le : ∀ (n : Nat) (a : Int) (l : List Int), l.Nodup → (∀ x ∈ l, a ≤ x ∧ x < a + n) → l.length ≤ n
  | 0, a, l, _, h => by
    cases l with
    | nil => simp
    | cons x r => have := h x (by simp); omega
  | n + 1, a, l, hn, h => by
    have h1 : (l.erase (a + n)).length ≤ n := by
      refine nodup_le n a _ (hn.erase _) fun x hx => ?_
      have h2 := (hn.mem_erase_iff.1 hx)
      have h3 := h x h2.2
      have : x ≠ a + n := h2.1
      omega
    rw [List.length_erase] at h1
    split at h1 <;> omega

theorem outTo_mono (N : Net) (l : List Evt) {a b : Nat} (h : a ≤ b) : (outTo N l a).length ≤ (outTo N l b).length := by
  induction b with
  | zero => obtain rfl : a = 0 := by omega
            exact Nat.le_refl _
  | succ b ih =>
    by_cases e : a = b + 1
    · rw [e]; exact Nat.le_refl _
    · have := ih (by omega)
      simp only [outTo, List.length_append]
      omega

/-- All states of the sequence have their sizes, and are valid. -/
structure SmOk (N : Net) (x : Sm) : Prop where
  sts : x.sts.length = N.ps.length
  ok : StaAll N x.sts
  due : x.D.length = 16
  rows : ∀ r ∈ x.D, r.length = N.ps.length

theorem sm0_ok {N : Net} (hN : NetOk N) : SmOk N (sm0 N) := by
  refine ⟨by simp [sm0], ?_, by simp [sm0], fun r hr => ?_⟩
  · intro i p s g1 g2
    simp only [sm0, List.getElem?_replicate] at g2
    split at g2
    · cases g2
      have := (hN.ps p (List.mem_of_getElem? g1))
      have h1 := this.fl
      have h2 := this.rest
      unfold staOk
      dsimp only
      omega
    · cases g2
  · simp only [sm0] at hr
    rw [(List.mem_replicate.1 hr).2]
    simp

theorem due1_len (t : Nat) (D : List (List Int)) (s : Syn) : (due1 t D s).length = D.length ∧ ∀ n, (∀ r ∈ D, r.length = n) → ∀ r ∈ due1 t D s, r.length = n := by
  refine ⟨by simp [due1], fun n h r hr => ?_⟩
  obtain ⟨i, hi⟩ := List.getElem?_of_mem hr
  unfold due1 at hi
  rw [List.getElem?_modify] at hi
  cases hd : D[i]? with
  | none => simp [hd] at hi
  | some r0 =>
    have h0 := h r0 (List.mem_of_getElem? hd)
    simp only [hd, Option.map_eq_map, Option.map_some, Option.some.injEq] at hi
    split at hi <;> subst hi <;> simp [h0]

theorem due1s_len (t : Nat) : ∀ (l : List Syn) (D : List (List Int)), (l.foldl (due1 t) D).length = D.length ∧ ∀ n, (∀ r ∈ D, r.length = n) → ∀ r ∈ l.foldl (due1 t) D, r.length = n
  | [], D => ⟨rfl, fun n h => h⟩
  | s :: l, D => by
    have h1 := due1_len t D s
    have h2 := due1s_len t l (due1 t D s)
    exact ⟨h2.1.trans h1.1, fun n h => h2.2 n (h1.2 n h)⟩

theorem SmOk.row {N : Net} {x : Sm} (h : SmOk N x) (t : Nat) : ∃ r, x.D[t % 16]? = some r ∧ r.length = N.ps.length := by
  have := h.due
  exact ⟨x.D[t % 16]'(by omega), List.getElem?_eq_getElem _, h.rows _ (List.getElem_mem _)⟩

theorem SmOk.fire {N : Net} {x : Sm} (h : SmOk N x) (t : Nat) : (fire N.ps x.sts ((x.D[t % 16]?).getD [])).length = N.ps.length := by
  obtain ⟨r, h1, h2⟩ := h.row t
  rw [h1]
  exact fire_length h.sts h2

theorem SmOk.step {N : Net} (hN : NetOk N) {x : Sm} (h : SmOk N x) (t : Nat) (ins : List Int) : SmOk N (ringStep N t x ins) := by
  obtain ⟨r, h1, h2⟩ := h.row t
  have hl := due1s_len t (yields (wire N.syns) (spk (Gm.fire N.ps x.sts ((x.D[t % 16]?).getD [])) ++ ins.map fun k => -1 - k)) (x.D.modify (t % 16) fun l => List.replicate l.length 0)
  refine ⟨?_, ?_, ?_, ?_⟩
  · simp only [ringStep, List.length_map]
    exact h.fire t
  · intro i p s g1 g2
    simp only [ringStep, List.getElem?_map] at g2
    have hlt : i < N.ps.length := (List.getElem?_eq_some_iff.1 g1).1
    have hsl := h.sts
    have e1 : x.sts[i]? = some (x.sts[i]'(by omega)) := List.getElem?_eq_getElem _
    have e2 : r[i]? = some (r[i]'(by omega)) := List.getElem?_eq_getElem _
    rw [h1, Option.getD_some, fire_get g1 e1 e2] at g2
    simp only [Option.map_some, Option.some.injEq] at g2
    subst g2
    exact tick_ok (hN.ps p (List.mem_of_getElem? g1)) (h.ok i p _ g1 e1) _
  · simp only [ringStep]
    rw [hl.1]
    simp [h.due]
  · simp only [ringStep]
    refine hl.2 _ fun q hq => ?_
    obtain ⟨i, hi⟩ := List.getElem?_of_mem hq
    rw [List.getElem?_modify] at hi
    cases hd : x.D[i]? with
    | none => simp [hd] at hi
    | some r0 =>
      have h0 := h.rows r0 (List.mem_of_getElem? hd)
      simp only [hd, Option.map_eq_map, Option.map_some, Option.some.injEq] at hi
      split at hi <;> subst hi <;> simp [h0]

theorem stAt_ok {N : Net} (hN : NetOk N) (l : List Evt) (t : Nat) : SmOk N (stAt N l t) := by
  induction t with
  | zero => exact sm0_ok hN
  | succ t ih => exact ih.step hN t _

theorem spkAt_few {N : Net} (hN : NetOk N) (l : List Evt) (t : Nat) : (spkAt N l t).length ≤ 1024 := by
  have h1 := (stAt_ok hN l t).fire t
  have h2 := spkFrom_length (fire N.ps (stAt N l t).sts (((stAt N l t).D[t % 16]?).getD [])) 0
  have h3 := hN.few
  unfold spkAt ringSpk spk
  omega

theorem insAt_few {l : List Evt} {inputs limit : Int} (hl : EvOk inputs limit l) (t : Nat) : (insAt l t).length ≤ 65536 ∧ ∀ k ∈ insAt l t, 0 ≤ k ∧ k < inputs := by
  constructor
  · have := List.length_filter_le (fun e : Evt => decide (e.tick = (t : Int))) l
    have := hl.few
    simp only [insAt, List.length_map]
    omega
  · intro k hk
    simp only [insAt, List.mem_map] at hk
    obtain ⟨e, he, rfl⟩ := hk
    exact (hl.range e (List.mem_filter.1 he).1).2

theorem yields_le {N : Net} (hN : NetOk N) (srcs : List Int) : (yields (wire N.syns) srcs).length ≤ srcs.length * 8192 := by
  induction srcs with
  | nil => simp [yields]
  | cons k r ih =>
    have h1 : (wfind (wire N.syns) k).length ≤ 8192 := by
      rw [wfind_wire]
      have := List.length_filter_le (fun s : Syn => decide (s.frm = k)) N.syns
      have := hN.fewS
      omega
    simp only [yields, List.flatMap_cons, List.length_append, List.length_cons] at ih ⊢
    omega

theorem head_least {l : List Evt} {inputs limit : Int} (hl : EvOk inputs limit l) {k : Nat} {x : Evt} (hx : (l.drop k)[0]? = some x) : ∀ e ∈ l.drop k, x.tick ≤ e.tick := by
  have hp : (l.drop k).Pairwise evLt := hl.sorted.sublist (List.drop_sublist k l)
  cases hd : l.drop k with
  | nil => rw [hd] at hx; cases hx
  | cons y r =>
    rw [hd] at hx hp
    cases hx
    intro e he
    rcases List.mem_cons.1 he with rfl | he
    · omega
    · have := (List.pairwise_cons.1 hp).1 e he
      unfold evLt at this
      omega

theorem atLen_sorted (t : Int) : ∀ (l : List Evt), l.Pairwise evLt → (∀ e ∈ l, t ≤ e.tick) → l.take (atLen t l) = l.filter (fun e => e.tick = t) ∧ ∀ e ∈ l.drop (atLen t l), t + 1 ≤ e.tick
  | [], _, _ => by simp [atLen]
  | x :: r, hp, h => by
    obtain ⟨h1, h2⟩ := List.pairwise_cons.1 hp
    have h3 := h x (by simp)
    by_cases hx : x.tick = t
    · have ih := atLen_sorted t r h2 (fun e he => h e (by simp [he]))
      simp only [atLen, hx, if_true, List.take_succ_cons, List.drop_succ_cons]
      refine ⟨?_, ih.2⟩
      rw [List.filter_cons_of_pos (by simpa using hx), ih.1]
    · simp only [atLen, hx, if_false, List.take_zero, List.drop_zero]
      have hall : ∀ e ∈ r, e.tick ≠ t := fun e he => by have := h1 e he; unfold evLt at this; omega
      refine ⟨?_, fun e he => ?_⟩
      · rw [List.filter_cons_of_neg (by simpa using hx)]
        symm
        rw [List.filter_eq_nil_iff]
        intro e he
        simpa using hall e he
      · rcases List.mem_cons.1 he with rfl | he
        · omega
        · have := h1 e he
          unfold evLt at this
          omega

theorem TkInv.next {l : List Evt} {inputs limit : Int} (hl : EvOk inputs limit l) {T k : Nat} (h : TkInv l T k) : TkInv l (T + 1) (k + atLen T (l.drop k)) ∧ ((l.drop k).take (atLen T (l.drop k))).map (fun e => e.id) = insAt l T := by
  have hp : (l.drop k).Pairwise evLt := hl.sorted.sublist (List.drop_sublist k l)
  obtain ⟨h1, h2⟩ := atLen_sorted T (l.drop k) hp h.rest
  have hle := atLen_le T (l.drop k)
  have hk := h.le
  rw [List.length_drop] at hle
  refine ⟨⟨by omega, fun e he => ?_, fun e he => ?_⟩, ?_⟩
  · rw [List.take_add] at he
    rcases List.mem_append.1 he with he | he
    · have := h.past e he; omega
    · rw [h1] at he
      have := (List.mem_filter.1 he).2
      simp only [decide_eq_true_eq] at this
      omega
  · rw [← List.drop_drop] at he
    have := h2 e he
    omega
  · rw [h1]
    unfold insAt
    conv => rhs; rw [← List.take_append_drop k l, List.filter_append]
    have : (l.take k).filter (fun e => decide (e.tick = (T : Int))) = [] := by
      rw [List.filter_eq_nil_iff]
      intro e he
      have := h.past e he
      simp only [decide_eq_true_eq]
      omega
    rw [this, List.nil_append]

theorem look_less {cs : List CellM} {i : Nat} {c : CellM} {due : Option Int} {T : Nat} {A1 : List Evt} {y : LookY} (h : LookRel cs i c due T A1 y) : y.A.countP (fun a => a.tick = (T : Int)) ≤ A1.countP (fun a => a.tick = (T : Int)) := by
  rcases h with ⟨_, _, _, h⟩ | ⟨_, c', _, htick, _, hnx, _, h | h⟩
  · rw [h]; exact Nat.le_refl _
  · rw [h.2]; exact Nat.le_refl _
  · rw [h.2.2.countP_eq, List.countP_append]
    obtain ⟨r, hr, hn⟩ := hnx
    have hge : (T : Int) + 1 ≤ c'.next := by
      by_cases h0 : 0 ≤ r
      · rw [if_pos h0] at hn; rw [hn, htick]; omega
      · rw [if_neg h0] at hn; omega
    have : ¬ (c'.next = (T : Int)) := by omega
    simp [this]

end Go.Proofs
