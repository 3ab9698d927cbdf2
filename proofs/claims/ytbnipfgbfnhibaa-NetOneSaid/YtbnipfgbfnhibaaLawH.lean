/- LawH: what the laws share: run, same, some. -/
import Derived.Test.YtbnipfgbfnhibaaLaw1
set_option linter.unusedVariables false
set_option linter.unusedSimpArgs false
namespace Go.Proofs
open Go Go.Vx Go.Gm

theorem outTo_range {N : Net} (hN : NetOk N) (l : List Evt) : ∀ (t : Nat), ∀ e ∈ outTo N l t, (0 ≤ e.tick ∧ e.tick < t) ∧ (0 ≤ e.id ∧ e.id < N.ps.length)
  | 0, e, he => by simp [outTo] at he
  | t + 1, e, he => by
    simp only [outTo] at he
    rcases List.mem_append.1 he with he | he
    · have := outTo_range hN l t e he
      omega
    · obtain ⟨i, hi, rfl⟩ := List.mem_map.1 he
      unfold spkAt ringSpk spk at hi
      obtain ⟨j, hj, s, hs⟩ := (spkFrom_mem _ 0 i).1 hi
      have hl := SmOk.fire (stAt_ok hN l t) t
      have := (List.getElem?_eq_some_iff.1 hs).1
      dsimp only
      omega

theorem evt_wf_of {t n : Int} (ht : t ≤ 2147483648) (hn : n ≤ 65536) {l : List Evt} (h : ∀ e ∈ l, (0 ≤ e.tick ∧ e.tick < t) ∧ (0 ≤ e.id ∧ e.id < n)) : ∀ e ∈ l, e.wf := by
  intro e he
  have := h e he
  unfold Evt.wf I64
  omega

theorem runRes_ok (N : Net) (l : List Evt) (ticks : Int) : (∀ e ∈ (runRes N l ticks).1, e.wf) ∧ (runRes N l ticks).1.length ≤ 65536 := by
  by_cases h : prepErr N l ticks 10000 = 0
  · obtain ⟨h1, h2, h3⟩ := prep_zero.1 h
    have hf := h1.few
    rw [runRes_eq h]
    split
    · simp
    · exact ⟨evt_wf_of (t := ticks.toNat) (n := N.ps.length) (by omega) (by omega) (outTo_range h1 l ticks.toNat), by dsimp only; omega⟩
  · unfold runRes
    rw [if_pos h]
    simp

theorem drvRes_ok (N : Net) (l : List Evt) (ticks : Int) : (∀ e ∈ (drvRes N l ticks).1, e.wf) ∧ (drvRes N l ticks).1.length ≤ 65536 := by
  unfold drvRes
  by_cases h : prepErr N l ticks 1073741824 = 0
  · obtain ⟨h1, h2, h3⟩ := prep_zero.1 h
    have hf := h1.few
    rw [if_neg (by omega)]
    split
    · simp
    · exact ⟨evt_wf_of (t := ticks.toNat) (n := N.ps.length) (by omega) (by omega) (outTo_range h1 l ticks.toNat), by dsimp only; omega⟩
  · rw [if_pos h]
    simp

theorem some_any (p : Option Addr) (n c : Nat) (w : World) : Calls Try.prog 21 #[.slice p n c] w fun e w' => ∃ b : Bool, e = .returned (.bool b) ∧ True ∧ St w [] [] w' := by
  refine enter (C := Try.cx) (F := Try.fx21) (args := [_]) Try.func21 rfl rfl rfl Try.ok21 (St.start w []) ?_
  repeat' (conv => whnf); first | (refine VSeq.is ?_; refine VSeq.go ?_) | (refine VB.is ?_; refine VB.mk fun b hb => ?_) | (refine boolE_split (fun h => ?_) (fun h => ?_) <;> subst h) | (refine VLd.is ?_; refine VLd.mk (.row (by repeat (first | exact aT0 | apply aT1 | with_reducible apply aT2 | with_reducible apply aT3)) (by rfl)) ?_) | (refine VSt.is ?_; refine VSt.row (by repeat (first | exact aT0 | apply aT1 | with_reducible apply aT2 | with_reducible apply aT3)) (by rfl) (by first | rfl | assumption) ?_) | (refine VNew.is ?_; refine VNew.mk fun _ => ?_) | (refine VAr.is ?_; refine VAr.i64 (by omega) (by omega) ?_) | (refine VIx.is ?_; refine VIx.mk rfl (by omega) (by omega) ?_) | (refine VKeep.is ?_; refine VKeep.mk (by repeat (first | exact HLe.nil | exact HLe.refl _ | refine HLe.nilv ?_ | (with_reducible refine HLe.seg ?_ ?_; (focus (repeat (first | with_reducible exact sT0 | with_reducible exact sT1 | exact sT2 | apply sT3 | with_reducible apply sT4 | with_reducible apply sT5)))) | refine HLe.cons (by repeat (first | exact aT0 | apply aT1 | with_reducible apply aT2 | with_reducible apply aT3)) ?_ | refine HLe.seg (by repeat (first | with_reducible exact sT0 | with_reducible exact sT1 | exact sT2 | apply sT3 | with_reducible apply sT4 | with_reducible apply sT5)) ?_ | exact HLe.last (by repeat (first | with_reducible exact sT0 | with_reducible exact sT1 | exact sT2 | apply sT3 | with_reducible apply sT4 | with_reducible apply sT5)))) ?_) | (refine VHs.is ?_; refine VHs.mk _ (HLe.refl _) ?_) | (refine VQ.is ?_; refine VQ.pos (by omega) (by omega) (by omega) ?_) | (refine VM.is ?_; refine VM.pos (by omega) (by omega) ?_) | (refine And.intro ?_ ?_)
  all_goals (conv => whnf)
  all_goals exact ⟨fun w' hw' => ⟨_, rfl, trivial, hw'.le .nil⟩⟩

/-- Lists of our own, compared. -/
theorem same_call {w0 : World} {M : List Nat} {H r1 r2 : HP} {u1 u2 : Ent → HP} {K : Value → HP → Prop} (l m : List Evt) (hl : ∀ x ∈ l, x.wf) (hm : ∀ x ∈ m, x.wf) (hsz : l.length ≤ 140737488355328) (p q : Option Addr) (n c k d e1 e2 : Nat) (hn : n = l.length) (hk : k = m.length)
    (h1 : At H (.vec p n c e1 2 (flat evtV l)) u1 r1) (h2 : At H (.vec q k d e2 2 (flat evtV m)) u2 r2) (hK : ∀ r : Bool, (r = true ↔ l = m) → K (.bool r) H) :
    VCall Try.cx.P w0 M H 24 [.slice p n c, .slice q k d] K := by
  subst hn hk
  refine VCall.genR (v := fun r => .bool r) (p := fun r => (r = true ↔ l = m)) (G := fun _ => []) (fun w' hw' => ?_) hK
  obtain ⟨b1, hb1⟩ := Sl.own hw' (f := evtV) (l := l) (n := l.length) (k := 2) (p := p) h1 (fun _ => rfl) rfl
  obtain ⟨b2, hb2⟩ := Sl.own hw' (f := evtV) (l := m) (n := m.length) (k := 2) (p := q) h2 (fun _ => rfl) rfl
  exact same_any l m hm hl _ _ _ _ _ _ _ _ w' hb1 hb2 (by omega)

theorem runRes_err {N : Net} {l : List Evt} {ticks : Int} (h : (runRes N l ticks).2 ≠ 0) : (runRes N l ticks).1 = [] := by
  unfold runRes at h ⊢
  split
  · rfl
  · rename_i h0
    rw [if_neg h0] at h
    split <;> simp_all

theorem vec_le_cap {w0 w : World} {M : List Nat} {H : HP} {p : Option Addr} {n cap e size : Nat} {xs : List Value} (hs : St w0 M H w) (hx : Ent.vec p n cap e size xs ∈ H) : n ≤ cap := by
  cases p with
  | none =>
    rcases vec_some_nil hs hx with ⟨g, hg⟩ | ⟨_, h1, h2⟩
    · cases hg
    · omega
  | some a =>
    obtain ⟨_, _, _, _, hnc, _⟩ := vec_some (hs.own _ hx)
    exact hnc

theorem vec_ptr {w0 w : World} {M : List Nat} {H : HP} {p : Option Addr} {n cap e size : Nat} {xs : List Value} (hs : St w0 M H w) (hx : Ent.vec p n cap e size xs ∈ H) : 0 < n → ∃ g, p = some ⟨g, 0, none⟩ := by
  intro hn
  rcases vec_some_nil hs hx with h | ⟨_, h1, _⟩
  · exact h
  · omega

/-- What run of the laws returns. -/
def runL (N : Net) (l : List Evt) (ticks : Int) (b : Bool) : List Evt := if b then (runRes N l ticks).1 else []

theorem run_any (N : Net) (hN : N.wf) (l : List Evt) (hl : ∀ x ∈ l, x.wf) (ticks : Int) (pn : Option Addr) (cn bn on : Nat) (qs : Option Addr) (cs bs os : Nat) (pe : Option Addr) (ce be oe : Nat) (w : World)
    (h1 : Sl w parV 8 N.ps pn N.ps.length bn on) (h2 : Sl w synV 4 N.syns qs N.syns.length bs os) (h3 : Sl w evtV 2 l pe l.length be oe) (hce : l.length ≤ ce) :
    Calls Try.prog 27 #[.agg #[.slice pn N.ps.length cn, .int .i64 N.inputs, .slice qs N.syns.length cs], .slice pe l.length ce, .int .i64 ticks] w fun e w' => ∃ y : Option Addr × Nat × Bool,
      e = .returned (.tuple #[.slice y.1 (runL N l ticks y.2.2).length y.2.1, .bool y.2.2]) ∧ ((y.2.2 = true → (runRes N l ticks).2 = 0 ∧ l.length ≤ 300 ∧ 0 ≤ ticks ∧ ticks ≤ 300) ∧ (0 < (runL N l ticks y.2.2).length → ∃ g, y.1 = some ⟨g, 0, none⟩)) ∧
      St w [] [.vec y.1 (runL N l ticks y.2.2).length y.2.1 44 2 (flat evtV (runL N l ticks y.2.2))] w' := by
  refine enter (C := Try.cx) (F := Try.fx27) (args := [_, _, _]) Try.func27 rfl rfl rfl Try.ok27 (St.start w []) ?_
  repeat' (conv => whnf); first | (refine VNew.is ?_; refine VNew.mk fun b1 => ?_) | (refine VCall.isF 17 ?_; (refine VCall.ex (fun w' => few_any _ _ _ _ _ _ _ _) ?_; intro b _)) | (refine VCall.isF 22 ?_; (refine VCall.genR (fun w' hw' => Run_any N hN l hl ticks _ _ _ _ _ _ _ _ _ _ _ _ w' (h1.keep hw' (by simp)) (h2.keep hw' (by simp)) (h3.keep hw' (by simp)) hce) ?_; rintro ⟨p1, c1⟩ _)) | (refine VSeq.is ?_; refine VSeq.go ?_) | (refine VB.is ?_; refine VB.yes (by omega) fun _ => ?_) | (refine VB.is ?_; refine VB.no (by omega) fun _ => ?_) | (refine VB.is ?_; refine VB.split (fun _ => ?_) (fun _ => ?_)) | (refine boolE_split (fun h => ?_) (fun h => ?_) <;> subst h) | (refine VLd.is ?_; refine VLd.mk (.row (by repeat (first | exact aT0 | apply aT1 | with_reducible apply aT2 | with_reducible apply aT3)) (by rfl)) ?_) | (refine VSt.is ?_; refine VSt.row (by repeat (first | exact aT0 | apply aT1 | with_reducible apply aT2 | with_reducible apply aT3)) (by rfl) (by first | rfl | assumption) ?_) | (refine VNew.is ?_; refine VNew.mk fun _ => ?_) | (refine VAr.is ?_; refine VAr.i64 (by omega) (by omega) ?_) | (refine VIx.is ?_; refine VIx.mk rfl (by omega) (by omega) ?_) | (refine VKeep.is ?_; refine VKeep.mk (by repeat (first | exact HLe.nil | exact HLe.refl _ | refine HLe.nilv ?_ | (with_reducible refine HLe.seg ?_ ?_; (focus (repeat (first | with_reducible exact sT0 | with_reducible exact sT1 | exact sT2 | apply sT3 | with_reducible apply sT4 | with_reducible apply sT5)))) | refine HLe.cons (by repeat (first | exact aT0 | apply aT1 | with_reducible apply aT2 | with_reducible apply aT3)) ?_ | refine HLe.seg (by repeat (first | with_reducible exact sT0 | with_reducible exact sT1 | exact sT2 | apply sT3 | with_reducible apply sT4 | with_reducible apply sT5)) ?_ | exact HLe.last (by repeat (first | with_reducible exact sT0 | with_reducible exact sT1 | exact sT2 | apply sT3 | with_reducible apply sT4 | with_reducible apply sT5)))) ?_) | (refine VHs.is ?_; refine VHs.mk _ (HLe.refl _) ?_) | (refine VQ.is ?_; refine VQ.pos (by omega) (by omega) (by omega) ?_) | (refine VM.is ?_; refine VM.pos (by omega) (by omega) ?_) | (refine And.intro ?_ ?_)
  all_goals (conv => whnf)
  all_goals first
    | exact ⟨fun w' hw' => ⟨(none, 0, false), rfl, ⟨by simp, fun h => by simp [runL] at h⟩, hw'.le (by unfold runL; repeat (first | exact HLe.nil | exact HLe.refl _ | refine HLe.nilv ?_ | (with_reducible refine HLe.seg ?_ ?_; (focus (repeat (first | with_reducible exact sT0 | with_reducible exact sT1 | exact sT2 | apply sT3 | with_reducible apply sT4 | with_reducible apply sT5)))) | refine HLe.cons (by repeat (first | exact aT0 | apply aT1 | with_reducible apply aT2 | with_reducible apply aT3)) ?_ | refine HLe.seg (by repeat (first | with_reducible exact sT0 | with_reducible exact sT1 | exact sT2 | apply sT3 | with_reducible apply sT4 | with_reducible apply sT5)) ?_ | exact HLe.last (by repeat (first | with_reducible exact sT0 | with_reducible exact sT1 | exact sT2 | apply sT3 | with_reducible apply sT4 | with_reducible apply sT5))))⟩⟩
    | skip
  · refine ⟨fun w' hw' => ⟨(p1, c1, true), rfl, ⟨fun _ => ⟨by omega, by omega, by omega, by omega⟩, vec_ptr hw' (List.mem_cons_self ..)⟩, hw'.le (by unfold runL; repeat (first | exact HLe.nil | exact HLe.refl _ | refine HLe.nilv ?_ | (with_reducible refine HLe.seg ?_ ?_; (focus (repeat (first | with_reducible exact sT0 | with_reducible exact sT1 | exact sT2 | apply sT3 | with_reducible apply sT4 | with_reducible apply sT5)))) | refine HLe.cons (by repeat (first | exact aT0 | apply aT1 | with_reducible apply aT2 | with_reducible apply aT3)) ?_ | refine HLe.seg (by repeat (first | with_reducible exact sT0 | with_reducible exact sT1 | exact sT2 | apply sT3 | with_reducible apply sT4 | with_reducible apply sT5)) ?_ | exact HLe.last (by repeat (first | with_reducible exact sT0 | with_reducible exact sT1 | exact sT2 | apply sT3 | with_reducible apply sT4 | with_reducible apply sT5))))⟩⟩
  · have hz := runRes_err (N := N) (l := l) (ticks := ticks) (by omega)
    rw [hz]
    exact ⟨fun w' hw' => ⟨(p1, c1, false), rfl, ⟨by simp, fun h => by simp [runL] at h⟩, hw'.le (by unfold runL; repeat (first | exact HLe.nil | exact HLe.refl _ | refine HLe.nilv ?_ | (with_reducible refine HLe.seg ?_ ?_; (focus (repeat (first | with_reducible exact sT0 | with_reducible exact sT1 | exact sT2 | apply sT3 | with_reducible apply sT4 | with_reducible apply sT5)))) | refine HLe.cons (by repeat (first | exact aT0 | apply aT1 | with_reducible apply aT2 | with_reducible apply aT3)) ?_ | refine HLe.seg (by repeat (first | with_reducible exact sT0 | with_reducible exact sT1 | exact sT2 | apply sT3 | with_reducible apply sT4 | with_reducible apply sT5)) ?_ | exact HLe.last (by repeat (first | with_reducible exact sT0 | with_reducible exact sT1 | exact sT2 | apply sT3 | with_reducible apply sT4 | with_reducible apply sT5))))⟩⟩

end Go.Proofs
