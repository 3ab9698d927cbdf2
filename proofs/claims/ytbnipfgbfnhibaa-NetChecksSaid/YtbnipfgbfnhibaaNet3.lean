/- Net3: copies of slices, synapses by their sources. -/
import Derived.Test.YtbnipfgbfnhibaaNet2
set_option linter.unusedVariables false
namespace Go.Proofs
open Go Go.Vx Go.Gm

theorem clonePar_any (l : List Par) (p : Option Addr) (c b o : Nat) (w : World) (h1 : Sl w parV 8 l p l.length b o) (hb : l.length ≤ 65536) :
    Calls Try.prog 98 #[.slice p l.length c] w fun e w' => ∃ x : Option Addr × Nat, e = .returned (.slice x.1 l.length x.2) ∧ (0 < l.length → ∃ g, x.1 = some ⟨g, 0, none⟩) ∧ St w [] [.vec x.1 l.length x.2 42 8 (flat parV l)] w' := by
  have hs := h1.src (w0 := w) (M := []) (H := []) (by simp) (fun _ => rfl)
  clear hs
  rcases h1.cases with ⟨b, o, h2, h1⟩ | ⟨h2, h3⟩
  · subst h2
    refine enter (C := Try.cx) (F := Try.fx98) (args := [_]) Try.func98 rfl rfl rfl Try.ok98 (St.start w []) ?_
    repeat' (conv => whnf); first
      | (refine VAp.is ?_; refine VAp.own (by repeat (first | exact At.here | apply At.there | with_reducible apply At.app | with_reducible apply At.app2)) (h1.src (by simp) (fun _ => rfl)) (flat_one_cell (by simp [parV, Value.oneCell'])) ((by (try dsimp only); omega)) (by simp only [maxLen]; omega) fun p' cap' hp' => ?_)
      | (refine VSeq.is ?_; refine VSeq.go ?_)
      | (refine VB.is ?_; refine VB.split (fun _ => ?_) (fun h => absurd (by omega) h))
      | (refine VB.is ?_; refine VB.split (fun h => absurd h (by omega)) (fun _ => ?_))
      | (refine VB.is ?_; refine VB.split (fun _ => ?_) (fun _ => ?_))
      | (refine boolE_split (fun h => ?_) (fun h => ?_) <;> subst h)
      | (refine VLd.is ?_; refine VLd.mk (.row (by repeat (first | exact At.here | apply At.there | with_reducible apply At.app | with_reducible apply At.app2)) (by rfl)) ?_)
      | (refine VSt.is ?_; refine VSt.row (by repeat (first | exact At.here | apply At.there | with_reducible apply At.app | with_reducible apply At.app2)) (by rfl) (by first | rfl | assumption) ?_)
      | (refine VNew.is ?_; refine VNew.mk fun _ => ?_)
      | (refine VAr.is ?_; refine VAr.i64 (by omega) (by omega) ?_)
      | (refine VIx.is ?_; refine VIx.mk rfl (by omega) (by omega) ?_)
      | (refine VKeep.is ?_; refine VKeep.mk (by repeat (first | exact HLe.nil | exact HLe.refl _ | refine HLe.nilv ?_ | (with_reducible refine HLe.seg ?_ ?_; (focus (repeat (first | with_reducible exact AtS.here | with_reducible exact AtS.here2 | exact AtS.last | apply AtS.there | with_reducible apply AtS.app | with_reducible apply AtS.app2)))) | refine HLe.cons (by repeat (first | exact At.here | apply At.there | with_reducible apply At.app | with_reducible apply At.app2)) ?_ | refine HLe.seg (by repeat (first | with_reducible exact AtS.here | with_reducible exact AtS.here2 | exact AtS.last | apply AtS.there | with_reducible apply AtS.app | with_reducible apply AtS.app2)) ?_ | exact HLe.last (by repeat (first | with_reducible exact AtS.here | with_reducible exact AtS.here2 | exact AtS.last | apply AtS.there | with_reducible apply AtS.app | with_reducible apply AtS.app2)))) ?_)
      | (refine VHs.is ?_; refine VHs.mk _ (HLe.refl _) ?_)
      | (refine VQ.is ?_; refine VQ.pos (by omega) (by omega) (by omega) ?_)
      | (refine VM.is ?_; refine VM.pos (by omega) (by omega) ?_)
      | (refine And.intro ?_ ?_)
    all_goals (conv => whnf)
    refine ⟨fun w' hw' => ⟨(p', cap'), by simp [packE], fun h => hp' (by omega), ?_⟩⟩
    rw [Nat.zero_add] at hw'
    exact hw'.le (by repeat (first | exact HLe.nil | exact HLe.refl _ | refine HLe.nilv ?_ | (with_reducible refine HLe.seg ?_ ?_; (focus (repeat (first | with_reducible exact AtS.here | with_reducible exact AtS.here2 | exact AtS.last | apply AtS.there | with_reducible apply AtS.app | with_reducible apply AtS.app2)))) | refine HLe.cons (by repeat (first | exact At.here | apply At.there | with_reducible apply At.app | with_reducible apply At.app2)) ?_ | refine HLe.seg (by repeat (first | with_reducible exact AtS.here | with_reducible exact AtS.here2 | exact AtS.last | apply AtS.there | with_reducible apply AtS.app | with_reducible apply AtS.app2)) ?_ | exact HLe.last (by repeat (first | with_reducible exact AtS.here | with_reducible exact AtS.here2 | exact AtS.last | apply AtS.there | with_reducible apply AtS.app | with_reducible apply AtS.app2))))
  · subst h2
    have hl : l = [] := List.eq_nil_of_length_eq_zero h3
    subst hl
    refine enter (C := Try.cx) (F := Try.fx98) (args := [_]) Try.func98 rfl rfl rfl Try.ok98 (St.start w []) ?_
    repeat' (conv => whnf); first
      | (refine VSeq.is ?_; refine VSeq.go ?_)
      | (refine VB.is ?_; refine VB.split (fun _ => ?_) (fun h => absurd (by omega) h))
      | (refine VB.is ?_; refine VB.split (fun h => absurd h (by omega)) (fun _ => ?_))
      | (refine VB.is ?_; refine VB.split (fun _ => ?_) (fun _ => ?_))
      | (refine boolE_split (fun h => ?_) (fun h => ?_) <;> subst h)
      | (refine VLd.is ?_; refine VLd.mk (.row (by repeat (first | exact At.here | apply At.there | with_reducible apply At.app | with_reducible apply At.app2)) (by rfl)) ?_)
      | (refine VSt.is ?_; refine VSt.row (by repeat (first | exact At.here | apply At.there | with_reducible apply At.app | with_reducible apply At.app2)) (by rfl) (by first | rfl | assumption) ?_)
      | (refine VNew.is ?_; refine VNew.mk fun _ => ?_)
      | (refine VAr.is ?_; refine VAr.i64 (by omega) (by omega) ?_)
      | (refine VIx.is ?_; refine VIx.mk rfl (by omega) (by omega) ?_)
      | (refine VKeep.is ?_; refine VKeep.mk (by repeat (first | exact HLe.nil | exact HLe.refl _ | refine HLe.nilv ?_ | (with_reducible refine HLe.seg ?_ ?_; (focus (repeat (first | with_reducible exact AtS.here | with_reducible exact AtS.here2 | exact AtS.last | apply AtS.there | with_reducible apply AtS.app | with_reducible apply AtS.app2)))) | refine HLe.cons (by repeat (first | exact At.here | apply At.there | with_reducible apply At.app | with_reducible apply At.app2)) ?_ | refine HLe.seg (by repeat (first | with_reducible exact AtS.here | with_reducible exact AtS.here2 | exact AtS.last | apply AtS.there | with_reducible apply AtS.app | with_reducible apply AtS.app2)) ?_ | exact HLe.last (by repeat (first | with_reducible exact AtS.here | with_reducible exact AtS.here2 | exact AtS.last | apply AtS.there | with_reducible apply AtS.app | with_reducible apply AtS.app2)))) ?_)
      | (refine VHs.is ?_; refine VHs.mk _ (HLe.refl _) ?_)
      | (refine VQ.is ?_; refine VQ.pos (by omega) (by omega) (by omega) ?_)
      | (refine VM.is ?_; refine VM.pos (by omega) (by omega) ?_)
      | (refine And.intro ?_ ?_)
    all_goals (conv => whnf)
    exact ⟨fun w' hw' => ⟨(none, 0), rfl, fun h => absurd h (by simp), hw'.le (.nilv .nil)⟩⟩

theorem cloneSyn_any (l : List Syn) (p : Option Addr) (c b o : Nat) (w : World) (h1 : Sl w synV 4 l p l.length b o) (hb : l.length ≤ 65536) :
    Calls Try.prog 74 #[.slice p l.length c] w fun e w' => ∃ x : Option Addr × Nat, e = .returned (.slice x.1 l.length x.2) ∧ (0 < l.length → ∃ g, x.1 = some ⟨g, 0, none⟩) ∧ St w [] [.vec x.1 l.length x.2 96 4 (flat synV l)] w' := by
  have hs := h1.src (w0 := w) (M := []) (H := []) (by simp) (fun _ => rfl)
  clear hs
  rcases h1.cases with ⟨b, o, h2, h1⟩ | ⟨h2, h3⟩
  · subst h2
    refine enter (C := Try.cx) (F := Try.fx74) (args := [_]) Try.func74 rfl rfl rfl Try.ok74 (St.start w []) ?_
    repeat' (conv => whnf); first
      | (refine VAp.is ?_; refine VAp.own (by repeat (first | exact At.here | apply At.there | with_reducible apply At.app | with_reducible apply At.app2)) (h1.src (by simp) (fun _ => rfl)) (flat_one_cell (by simp [synV, Value.oneCell'])) ((by (try dsimp only); omega)) (by simp only [maxLen]; omega) fun p' cap' hp' => ?_)
      | (refine VSeq.is ?_; refine VSeq.go ?_)
      | (refine VB.is ?_; refine VB.split (fun _ => ?_) (fun h => absurd (by omega) h))
      | (refine VB.is ?_; refine VB.split (fun h => absurd h (by omega)) (fun _ => ?_))
      | (refine VB.is ?_; refine VB.split (fun _ => ?_) (fun _ => ?_))
      | (refine boolE_split (fun h => ?_) (fun h => ?_) <;> subst h)
      | (refine VLd.is ?_; refine VLd.mk (.row (by repeat (first | exact At.here | apply At.there | with_reducible apply At.app | with_reducible apply At.app2)) (by rfl)) ?_)
      | (refine VSt.is ?_; refine VSt.row (by repeat (first | exact At.here | apply At.there | with_reducible apply At.app | with_reducible apply At.app2)) (by rfl) (by first | rfl | assumption) ?_)
      | (refine VNew.is ?_; refine VNew.mk fun _ => ?_)
      | (refine VAr.is ?_; refine VAr.i64 (by omega) (by omega) ?_)
      | (refine VIx.is ?_; refine VIx.mk rfl (by omega) (by omega) ?_)
      | (refine VKeep.is ?_; refine VKeep.mk (by repeat (first | exact HLe.nil | exact HLe.refl _ | refine HLe.nilv ?_ | (with_reducible refine HLe.seg ?_ ?_; (focus (repeat (first | with_reducible exact AtS.here | with_reducible exact AtS.here2 | exact AtS.last | apply AtS.there | with_reducible apply AtS.app | with_reducible apply AtS.app2)))) | refine HLe.cons (by repeat (first | exact At.here | apply At.there | with_reducible apply At.app | with_reducible apply At.app2)) ?_ | refine HLe.seg (by repeat (first | with_reducible exact AtS.here | with_reducible exact AtS.here2 | exact AtS.last | apply AtS.there | with_reducible apply AtS.app | with_reducible apply AtS.app2)) ?_ | exact HLe.last (by repeat (first | with_reducible exact AtS.here | with_reducible exact AtS.here2 | exact AtS.last | apply AtS.there | with_reducible apply AtS.app | with_reducible apply AtS.app2)))) ?_)
      | (refine VHs.is ?_; refine VHs.mk _ (HLe.refl _) ?_)
      | (refine VQ.is ?_; refine VQ.pos (by omega) (by omega) (by omega) ?_)
      | (refine VM.is ?_; refine VM.pos (by omega) (by omega) ?_)
      | (refine And.intro ?_ ?_)
    all_goals (conv => whnf)
    refine ⟨fun w' hw' => ⟨(p', cap'), by simp [packE], fun h => hp' (by omega), ?_⟩⟩
    rw [Nat.zero_add] at hw'
    exact hw'.le (by repeat (first | exact HLe.nil | exact HLe.refl _ | refine HLe.nilv ?_ | (with_reducible refine HLe.seg ?_ ?_; (focus (repeat (first | with_reducible exact AtS.here | with_reducible exact AtS.here2 | exact AtS.last | apply AtS.there | with_reducible apply AtS.app | with_reducible apply AtS.app2)))) | refine HLe.cons (by repeat (first | exact At.here | apply At.there | with_reducible apply At.app | with_reducible apply At.app2)) ?_ | refine HLe.seg (by repeat (first | with_reducible exact AtS.here | with_reducible exact AtS.here2 | exact AtS.last | apply AtS.there | with_reducible apply AtS.app | with_reducible apply AtS.app2)) ?_ | exact HLe.last (by repeat (first | with_reducible exact AtS.here | with_reducible exact AtS.here2 | exact AtS.last | apply AtS.there | with_reducible apply AtS.app | with_reducible apply AtS.app2))))
  · subst h2
    have hl : l = [] := List.eq_nil_of_length_eq_zero h3
    subst hl
    refine enter (C := Try.cx) (F := Try.fx74) (args := [_]) Try.func74 rfl rfl rfl Try.ok74 (St.start w []) ?_
    repeat' (conv => whnf); first
      | (refine VSeq.is ?_; refine VSeq.go ?_)
      | (refine VB.is ?_; refine VB.split (fun _ => ?_) (fun h => absurd (by omega) h))
      | (refine VB.is ?_; refine VB.split (fun h => absurd h (by omega)) (fun _ => ?_))
      | (refine VB.is ?_; refine VB.split (fun _ => ?_) (fun _ => ?_))
      | (refine boolE_split (fun h => ?_) (fun h => ?_) <;> subst h)
      | (refine VLd.is ?_; refine VLd.mk (.row (by repeat (first | exact At.here | apply At.there | with_reducible apply At.app | with_reducible apply At.app2)) (by rfl)) ?_)
      | (refine VSt.is ?_; refine VSt.row (by repeat (first | exact At.here | apply At.there | with_reducible apply At.app | with_reducible apply At.app2)) (by rfl) (by first | rfl | assumption) ?_)
      | (refine VNew.is ?_; refine VNew.mk fun _ => ?_)
      | (refine VAr.is ?_; refine VAr.i64 (by omega) (by omega) ?_)
      | (refine VIx.is ?_; refine VIx.mk rfl (by omega) (by omega) ?_)
      | (refine VKeep.is ?_; refine VKeep.mk (by repeat (first | exact HLe.nil | exact HLe.refl _ | refine HLe.nilv ?_ | (with_reducible refine HLe.seg ?_ ?_; (focus (repeat (first | with_reducible exact AtS.here | with_reducible exact AtS.here2 | exact AtS.last | apply AtS.there | with_reducible apply AtS.app | with_reducible apply AtS.app2)))) | refine HLe.cons (by repeat (first | exact At.here | apply At.there | with_reducible apply At.app | with_reducible apply At.app2)) ?_ | refine HLe.seg (by repeat (first | with_reducible exact AtS.here | with_reducible exact AtS.here2 | exact AtS.last | apply AtS.there | with_reducible apply AtS.app | with_reducible apply AtS.app2)) ?_ | exact HLe.last (by repeat (first | with_reducible exact AtS.here | with_reducible exact AtS.here2 | exact AtS.last | apply AtS.there | with_reducible apply AtS.app | with_reducible apply AtS.app2)))) ?_)
      | (refine VHs.is ?_; refine VHs.mk _ (HLe.refl _) ?_)
      | (refine VQ.is ?_; refine VQ.pos (by omega) (by omega) (by omega) ?_)
      | (refine VM.is ?_; refine VM.pos (by omega) (by omega) ?_)
      | (refine And.intro ?_ ?_)
    all_goals (conv => whnf)
    exact ⟨fun w' hw' => ⟨(none, 0), rfl, fun h => absurd h (by simp), hw'.le (.nilv .nil)⟩⟩

theorem cloneSta_any (l : List Sta) (p : Option Addr) (c b o : Nat) (w : World) (h1 : Sl w staV 2 l p l.length b o) (hb : l.length ≤ 65536) :
    Calls Try.prog 91 #[.slice p l.length c] w fun e w' => ∃ x : Option Addr × Nat, e = .returned (.slice x.1 l.length x.2) ∧ (0 < l.length → ∃ g, x.1 = some ⟨g, 0, none⟩) ∧ St w [] [.vec x.1 l.length x.2 98 2 (flat staV l)] w' := by
  have hs := h1.src (w0 := w) (M := []) (H := []) (by simp) (fun _ => rfl)
  clear hs
  rcases h1.cases with ⟨b, o, h2, h1⟩ | ⟨h2, h3⟩
  · subst h2
    refine enter (C := Try.cx) (F := Try.fx91) (args := [_]) Try.func91 rfl rfl rfl Try.ok91 (St.start w []) ?_
    repeat' (conv => whnf); first
      | (refine VAp.is ?_; refine VAp.own (by repeat (first | exact At.here | apply At.there | with_reducible apply At.app | with_reducible apply At.app2)) (h1.src (by simp) (fun _ => rfl)) (flat_one_cell (by simp [staV, Value.oneCell'])) ((by (try dsimp only); omega)) (by simp only [maxLen]; omega) fun p' cap' hp' => ?_)
      | (refine VSeq.is ?_; refine VSeq.go ?_)
      | (refine VB.is ?_; refine VB.split (fun _ => ?_) (fun h => absurd (by omega) h))
      | (refine VB.is ?_; refine VB.split (fun h => absurd h (by omega)) (fun _ => ?_))
      | (refine VB.is ?_; refine VB.split (fun _ => ?_) (fun _ => ?_))
      | (refine boolE_split (fun h => ?_) (fun h => ?_) <;> subst h)
      | (refine VLd.is ?_; refine VLd.mk (.row (by repeat (first | exact At.here | apply At.there | with_reducible apply At.app | with_reducible apply At.app2)) (by rfl)) ?_)
      | (refine VSt.is ?_; refine VSt.row (by repeat (first | exact At.here | apply At.there | with_reducible apply At.app | with_reducible apply At.app2)) (by rfl) (by first | rfl | assumption) ?_)
      | (refine VNew.is ?_; refine VNew.mk fun _ => ?_)
      | (refine VAr.is ?_; refine VAr.i64 (by omega) (by omega) ?_)
      | (refine VIx.is ?_; refine VIx.mk rfl (by omega) (by omega) ?_)
      | (refine VKeep.is ?_; refine VKeep.mk (by repeat (first | exact HLe.nil | exact HLe.refl _ | refine HLe.nilv ?_ | (with_reducible refine HLe.seg ?_ ?_; (focus (repeat (first | with_reducible exact AtS.here | with_reducible exact AtS.here2 | exact AtS.last | apply AtS.there | with_reducible apply AtS.app | with_reducible apply AtS.app2)))) | refine HLe.cons (by repeat (first | exact At.here | apply At.there | with_reducible apply At.app | with_reducible apply At.app2)) ?_ | refine HLe.seg (by repeat (first | with_reducible exact AtS.here | with_reducible exact AtS.here2 | exact AtS.last | apply AtS.there | with_reducible apply AtS.app | with_reducible apply AtS.app2)) ?_ | exact HLe.last (by repeat (first | with_reducible exact AtS.here | with_reducible exact AtS.here2 | exact AtS.last | apply AtS.there | with_reducible apply AtS.app | with_reducible apply AtS.app2)))) ?_)
      | (refine VHs.is ?_; refine VHs.mk _ (HLe.refl _) ?_)
      | (refine VQ.is ?_; refine VQ.pos (by omega) (by omega) (by omega) ?_)
      | (refine VM.is ?_; refine VM.pos (by omega) (by omega) ?_)
      | (refine And.intro ?_ ?_)
    all_goals (conv => whnf)
    refine ⟨fun w' hw' => ⟨(p', cap'), by simp [packE], fun h => hp' (by omega), ?_⟩⟩
    rw [Nat.zero_add] at hw'
    exact hw'.le (by repeat (first | exact HLe.nil | exact HLe.refl _ | refine HLe.nilv ?_ | (with_reducible refine HLe.seg ?_ ?_; (focus (repeat (first | with_reducible exact AtS.here | with_reducible exact AtS.here2 | exact AtS.last | apply AtS.there | with_reducible apply AtS.app | with_reducible apply AtS.app2)))) | refine HLe.cons (by repeat (first | exact At.here | apply At.there | with_reducible apply At.app | with_reducible apply At.app2)) ?_ | refine HLe.seg (by repeat (first | with_reducible exact AtS.here | with_reducible exact AtS.here2 | exact AtS.last | apply AtS.there | with_reducible apply AtS.app | with_reducible apply AtS.app2)) ?_ | exact HLe.last (by repeat (first | with_reducible exact AtS.here | with_reducible exact AtS.here2 | exact AtS.last | apply AtS.there | with_reducible apply AtS.app | with_reducible apply AtS.app2))))
  · subst h2
    have hl : l = [] := List.eq_nil_of_length_eq_zero h3
    subst hl
    refine enter (C := Try.cx) (F := Try.fx91) (args := [_]) Try.func91 rfl rfl rfl Try.ok91 (St.start w []) ?_
    repeat' (conv => whnf); first
      | (refine VSeq.is ?_; refine VSeq.go ?_)
      | (refine VB.is ?_; refine VB.split (fun _ => ?_) (fun h => absurd (by omega) h))
      | (refine VB.is ?_; refine VB.split (fun h => absurd h (by omega)) (fun _ => ?_))
      | (refine VB.is ?_; refine VB.split (fun _ => ?_) (fun _ => ?_))
      | (refine boolE_split (fun h => ?_) (fun h => ?_) <;> subst h)
      | (refine VLd.is ?_; refine VLd.mk (.row (by repeat (first | exact At.here | apply At.there | with_reducible apply At.app | with_reducible apply At.app2)) (by rfl)) ?_)
      | (refine VSt.is ?_; refine VSt.row (by repeat (first | exact At.here | apply At.there | with_reducible apply At.app | with_reducible apply At.app2)) (by rfl) (by first | rfl | assumption) ?_)
      | (refine VNew.is ?_; refine VNew.mk fun _ => ?_)
      | (refine VAr.is ?_; refine VAr.i64 (by omega) (by omega) ?_)
      | (refine VIx.is ?_; refine VIx.mk rfl (by omega) (by omega) ?_)
      | (refine VKeep.is ?_; refine VKeep.mk (by repeat (first | exact HLe.nil | exact HLe.refl _ | refine HLe.nilv ?_ | (with_reducible refine HLe.seg ?_ ?_; (focus (repeat (first | with_reducible exact AtS.here | with_reducible exact AtS.here2 | exact AtS.last | apply AtS.there | with_reducible apply AtS.app | with_reducible apply AtS.app2)))) | refine HLe.cons (by repeat (first | exact At.here | apply At.there | with_reducible apply At.app | with_reducible apply At.app2)) ?_ | refine HLe.seg (by repeat (first | with_reducible exact AtS.here | with_reducible exact AtS.here2 | exact AtS.last | apply AtS.there | with_reducible apply AtS.app | with_reducible apply AtS.app2)) ?_ | exact HLe.last (by repeat (first | with_reducible exact AtS.here | with_reducible exact AtS.here2 | exact AtS.last | apply AtS.there | with_reducible apply AtS.app | with_reducible apply AtS.app2)))) ?_)
      | (refine VHs.is ?_; refine VHs.mk _ (HLe.refl _) ?_)
      | (refine VQ.is ?_; refine VQ.pos (by omega) (by omega) (by omega) ?_)
      | (refine VM.is ?_; refine VM.pos (by omega) (by omega) ?_)
      | (refine And.intro ?_ ?_)
    all_goals (conv => whnf)
    exact ⟨fun w' hw' => ⟨(none, 0), rfl, fun h => absurd h (by simp), hw'.le (.nilv .nil)⟩⟩

theorem cloneInt_any (l : List Int) (p : Option Addr) (c b o : Nat) (w : World) (h1 : Sl w intV 1 l p l.length b o) (hb : l.length ≤ 65536) :
    Calls Try.prog 92 #[.slice p l.length c] w fun e w' => ∃ x : Option Addr × Nat, e = .returned (.slice x.1 l.length x.2) ∧ (0 < l.length → ∃ g, x.1 = some ⟨g, 0, none⟩) ∧ St w [] [.vec x.1 l.length x.2 3 1 (flat intV l)] w' := by
  have hs := h1.src (w0 := w) (M := []) (H := []) (by simp) (fun _ => rfl)
  clear hs
  rcases h1.cases with ⟨b, o, h2, h1⟩ | ⟨h2, h3⟩
  · subst h2
    refine enter (C := Try.cx) (F := Try.fx92) (args := [_]) Try.func92 rfl rfl rfl Try.ok92 (St.start w []) ?_
    repeat' (conv => whnf); first
      | (refine VAp.is ?_; refine VAp.own (by repeat (first | exact At.here | apply At.there | with_reducible apply At.app | with_reducible apply At.app2)) (h1.src (by simp) (fun _ => rfl)) (flat_one_cell (by simp [intV, Value.oneCell'])) ((by (try dsimp only); omega)) (by simp only [maxLen]; omega) fun p' cap' hp' => ?_)
      | (refine VSeq.is ?_; refine VSeq.go ?_)
      | (refine VB.is ?_; refine VB.split (fun _ => ?_) (fun h => absurd (by omega) h))
      | (refine VB.is ?_; refine VB.split (fun h => absurd h (by omega)) (fun _ => ?_))
      | (refine VB.is ?_; refine VB.split (fun _ => ?_) (fun _ => ?_))
      | (refine boolE_split (fun h => ?_) (fun h => ?_) <;> subst h)
      | (refine VLd.is ?_; refine VLd.mk (.row (by repeat (first | exact At.here | apply At.there | with_reducible apply At.app | with_reducible apply At.app2)) (by rfl)) ?_)
      | (refine VSt.is ?_; refine VSt.row (by repeat (first | exact At.here | apply At.there | with_reducible apply At.app | with_reducible apply At.app2)) (by rfl) (by first | rfl | assumption) ?_)
      | (refine VNew.is ?_; refine VNew.mk fun _ => ?_)
      | (refine VAr.is ?_; refine VAr.i64 (by omega) (by omega) ?_)
      | (refine VIx.is ?_; refine VIx.mk rfl (by omega) (by omega) ?_)
      | (refine VKeep.is ?_; refine VKeep.mk (by repeat (first | exact HLe.nil | exact HLe.refl _ | refine HLe.nilv ?_ | (with_reducible refine HLe.seg ?_ ?_; (focus (repeat (first | with_reducible exact AtS.here | with_reducible exact AtS.here2 | exact AtS.last | apply AtS.there | with_reducible apply AtS.app | with_reducible apply AtS.app2)))) | refine HLe.cons (by repeat (first | exact At.here | apply At.there | with_reducible apply At.app | with_reducible apply At.app2)) ?_ | refine HLe.seg (by repeat (first | with_reducible exact AtS.here | with_reducible exact AtS.here2 | exact AtS.last | apply AtS.there | with_reducible apply AtS.app | with_reducible apply AtS.app2)) ?_ | exact HLe.last (by repeat (first | with_reducible exact AtS.here | with_reducible exact AtS.here2 | exact AtS.last | apply AtS.there | with_reducible apply AtS.app | with_reducible apply AtS.app2)))) ?_)
      | (refine VHs.is ?_; refine VHs.mk _ (HLe.refl _) ?_)
      | (refine VQ.is ?_; refine VQ.pos (by omega) (by omega) (by omega) ?_)
      | (refine VM.is ?_; refine VM.pos (by omega) (by omega) ?_)
      | (refine And.intro ?_ ?_)
    all_goals (conv => whnf)
    refine ⟨fun w' hw' => ⟨(p', cap'), by simp [packE], fun h => hp' (by omega), ?_⟩⟩
    rw [Nat.zero_add] at hw'
    exact hw'.le (by repeat (first | exact HLe.nil | exact HLe.refl _ | refine HLe.nilv ?_ | (with_reducible refine HLe.seg ?_ ?_; (focus (repeat (first | with_reducible exact AtS.here | with_reducible exact AtS.here2 | exact AtS.last | apply AtS.there | with_reducible apply AtS.app | with_reducible apply AtS.app2)))) | refine HLe.cons (by repeat (first | exact At.here | apply At.there | with_reducible apply At.app | with_reducible apply At.app2)) ?_ | refine HLe.seg (by repeat (first | with_reducible exact AtS.here | with_reducible exact AtS.here2 | exact AtS.last | apply AtS.there | with_reducible apply AtS.app | with_reducible apply AtS.app2)) ?_ | exact HLe.last (by repeat (first | with_reducible exact AtS.here | with_reducible exact AtS.here2 | exact AtS.last | apply AtS.there | with_reducible apply AtS.app | with_reducible apply AtS.app2))))
  · subst h2
    have hl : l = [] := List.eq_nil_of_length_eq_zero h3
    subst hl
    refine enter (C := Try.cx) (F := Try.fx92) (args := [_]) Try.func92 rfl rfl rfl Try.ok92 (St.start w []) ?_
    repeat' (conv => whnf); first
      | (refine VSeq.is ?_; refine VSeq.go ?_)
      | (refine VB.is ?_; refine VB.split (fun _ => ?_) (fun h => absurd (by omega) h))
      | (refine VB.is ?_; refine VB.split (fun h => absurd h (by omega)) (fun _ => ?_))
      | (refine VB.is ?_; refine VB.split (fun _ => ?_) (fun _ => ?_))
      | (refine boolE_split (fun h => ?_) (fun h => ?_) <;> subst h)
      | (refine VLd.is ?_; refine VLd.mk (.row (by repeat (first | exact At.here | apply At.there | with_reducible apply At.app | with_reducible apply At.app2)) (by rfl)) ?_)
      | (refine VSt.is ?_; refine VSt.row (by repeat (first | exact At.here | apply At.there | with_reducible apply At.app | with_reducible apply At.app2)) (by rfl) (by first | rfl | assumption) ?_)
      | (refine VNew.is ?_; refine VNew.mk fun _ => ?_)
      | (refine VAr.is ?_; refine VAr.i64 (by omega) (by omega) ?_)
      | (refine VIx.is ?_; refine VIx.mk rfl (by omega) (by omega) ?_)
      | (refine VKeep.is ?_; refine VKeep.mk (by repeat (first | exact HLe.nil | exact HLe.refl _ | refine HLe.nilv ?_ | (with_reducible refine HLe.seg ?_ ?_; (focus (repeat (first | with_reducible exact AtS.here | with_reducible exact AtS.here2 | exact AtS.last | apply AtS.there | with_reducible apply AtS.app | with_reducible apply AtS.app2)))) | refine HLe.cons (by repeat (first | exact At.here | apply At.there | with_reducible apply At.app | with_reducible apply At.app2)) ?_ | refine HLe.seg (by repeat (first | with_reducible exact AtS.here | with_reducible exact AtS.here2 | exact AtS.last | apply AtS.there | with_reducible apply AtS.app | with_reducible apply AtS.app2)) ?_ | exact HLe.last (by repeat (first | with_reducible exact AtS.here | with_reducible exact AtS.here2 | exact AtS.last | apply AtS.there | with_reducible apply AtS.app | with_reducible apply AtS.app2)))) ?_)
      | (refine VHs.is ?_; refine VHs.mk _ (HLe.refl _) ?_)
      | (refine VQ.is ?_; refine VQ.pos (by omega) (by omega) (by omega) ?_)
      | (refine VM.is ?_; refine VM.pos (by omega) (by omega) ?_)
      | (refine And.intro ?_ ?_)
    all_goals (conv => whnf)
    exact ⟨fun w' hw' => ⟨(none, 0), rfl, fun h => absurd h (by simp), hw'.le (.nilv .nil)⟩⟩

end Go.Proofs
