/- Rd: the reference's Driven, walked. -/
import Derived.Test.YtbnipfgbfnhibaaRb
import Derived.Test.YtbnipfgbfnhibaaDc
set_option linter.unusedVariables false
set_option linter.unusedSimpArgs false
namespace Go.Proofs
open Go Go.Vx Go.Gm

theorem refStill_any (x : RSim) (hx : RSimOk x) (hst : StaAll x.N x.sts) (w : World) (bn on : Nat) (hs : St w (ids (rsimH x)) (rsimH x) w) (hpar : Sl w parV 8 x.N.ps x.pn x.N.ps.length bn on) (hparM : bn ∉ ids (rsimH x)) :
    Calls Try.prog 65 #[.pointer (some ⟨x.b, 0, none⟩)] w fun e w' => ∃ b : Bool, e = .returned (.bool b) ∧ (b = true ↔ stillB x.N (smR x) = true) ∧ St w (ids (rsimH x)) (rsimH x ++ []) w' := by
  obtain ⟨b, N, pn, cn, qs, cs, tk, sb, sc, sts, dp, dc, D⟩ := x
  obtain ⟨hN, hsl, hDl, hcells, gd, hgd⟩ := hx
  dsimp only at *
  subst hgd
  have hpos := hN.some
  have hfew := hN.few
  rw [List.append_nil]
  have hsB : stillB N (smR ⟨b, N, pn, cn, qs, cs, tk, sb, sc, sts, some ⟨gd, 0, none⟩, dc, D⟩) = true ↔ (∀ d ∈ D, ∀ a ∈ d.l, a = 0) ∧ ∀ (i : Nat) p s, N.ps[i]? = some p → sts[i]? = some s → tick p s 0 = (s, false) := by
    unfold stillB smR
    simp only [Bool.and_eq_true, List.all_eq_true, decide_eq_true_eq, List.mem_map, forall_exists_index, and_imp, forall_apply_eq_imp_iff₂]
    refine and_congr Iff.rfl ⟨fun h i p s h1 h2 => ?_, fun h y hy => ?_⟩
    · exact h (p, s) (List.mem_of_getElem? (i := i) (by rw [List.getElem?_zip_eq_some]; exact ⟨h1, h2⟩))
    · obtain ⟨i, hi⟩ := List.getElem?_of_mem hy
      rw [List.getElem?_zip_eq_some] at hi
      exact h i _ _ hi.1 hi.2
  rw [hsB]
  generalize hMx : ids (rsimH ⟨b, N, pn, cn, qs, cs, tk, sb, sc, sts, some ⟨gd, 0, none⟩, dc, D⟩) = Mx at *
  dsimp only [rsimH, rsimC] at hs ⊢
  refine enter (C := Try.cx) (F := Try.fx65) (args := [_]) Try.func65 rfl rfl rfl Try.ok65 hs ?_
  repeat' (conv => whnf); first | (refine VSeq.is ?_; refine VSeq.go ?_) | (refine VB.is ?_; refine VB.yes (by omega) fun _ => ?_) | (refine VB.is ?_; refine VB.no (by omega) fun _ => ?_) | (refine VB.is ?_; refine VB.split (fun _ => ?_) (fun _ => ?_)) | (refine boolE_split (fun h => ?_) (fun h => ?_) <;> subst h) | (refine VLd.is ?_; refine VLd.mk (.row (by repeat (first | exact aT0 | apply aT1 | with_reducible apply aT2 | with_reducible apply aT3)) (by rfl)) ?_) | (refine VSt.is ?_; refine VSt.row (by repeat (first | exact aT0 | apply aT1 | with_reducible apply aT2 | with_reducible apply aT3)) (by rfl) (by first | rfl | assumption) ?_) | (refine VNew.is ?_; refine VNew.mk fun _ => ?_) | (refine VAr.is ?_; refine VAr.i64 (by omega) (by omega) ?_) | (refine VIx.is ?_; refine VIx.mk rfl (by omega) (by omega) ?_) | (refine VKeep.is ?_; refine VKeep.mk (by repeat (first | exact HLe.nil | exact HLe.refl _ | refine HLe.nilv ?_ | (with_reducible refine HLe.seg ?_ ?_; (focus (repeat (first | with_reducible exact sT0 | with_reducible exact sT1 | exact sT2 | apply sT3 | with_reducible apply sT4 | with_reducible apply sT5)))) | refine HLe.cons (by repeat (first | exact aT0 | apply aT1 | with_reducible apply aT2 | with_reducible apply aT3)) ?_ | refine HLe.seg (by repeat (first | with_reducible exact sT0 | with_reducible exact sT1 | exact sT2 | apply sT3 | with_reducible apply sT4 | with_reducible apply sT5)) ?_ | exact HLe.last (by repeat (first | with_reducible exact sT0 | with_reducible exact sT1 | exact sT2 | apply sT3 | with_reducible apply sT4 | with_reducible apply sT5)))) ?_) | (refine VHs.is ?_; refine VHs.mk _ (HLe.refl _) ?_) | (refine VQ.is ?_; refine VQ.pos (by omega) (by omega) (by omega) ?_) | (refine VM.is ?_; refine VM.pos (by omega) (by omega) ?_) | (refine And.intro ?_ ?_)
  all_goals (conv => whnf)
  refine VLoop.kp (α := Nat) [1000000, 0, 2] [0, 1, 2] rfl rfl (fun i => i ≤ 16 ∧ ∀ d ∈ D.take i, ∀ a ∈ d.l, a = 0) (fun i K => (3, .int .i64 (i : Int)) :: K) (fun i R => R ++ D.map drowE) (fun i => 16 - i) 0 ⟨by omega, by simp⟩ (by repeat (first | exact trivial | refine ⟨rfl, ?_⟩)) (by repeat (first | exact HLe.nil | exact HLe.refl _ | refine HLe.nilv ?_ | (with_reducible refine HLe.seg ?_ ?_; (focus (repeat (first | with_reducible exact sT0 | with_reducible exact sT1 | exact sT2 | apply sT3 | with_reducible apply sT4 | with_reducible apply sT5)))) | refine HLe.cons (by repeat (first | exact aT0 | apply aT1 | with_reducible apply aT2 | with_reducible apply aT3)) ?_ | refine HLe.seg (by repeat (first | with_reducible exact sT0 | with_reducible exact sT1 | exact sT2 | apply sT3 | with_reducible apply sT4 | with_reducible apply sT5)) ?_ | exact HLe.last (by repeat (first | with_reducible exact sT0 | with_reducible exact sT1 | exact sT2 | apply sT3 | with_reducible apply sT4 | with_reducible apply sT5)))) ?_
  rintro i ⟨hi, hz⟩
  dsimp only [List.cons_append, List.nil_append]
  rcases Nat.lt_or_ge i 16 with hlt | hge
  · obtain ⟨d, hd⟩ : ∃ d, D[i]? = some d := ⟨D[i]'(by omega), List.getElem?_eq_getElem _⟩
    have hdl := hcells d (List.mem_of_getElem? hd)
    have hdv : sub (D.map drowV) i 1 = some [drowV d] := by
      rw [sub_mk _ _ _ (by simp; omega), ← List.map_drop, List.drop_eq_getElem_cons (by omega)]
      have : D[i]'(by omega) = d := (List.getElem?_eq_some_iff.1 hd).2
      simp [this]
    repeat' (conv => whnf); first | (refine VSeq.is ?_; refine VSeq.go ?_) | (refine VB.is ?_; refine VB.yes (by omega) fun _ => ?_) | (refine VB.is ?_; refine VB.no (by omega) fun _ => ?_) | (refine VB.is ?_; refine VB.split (fun _ => ?_) (fun _ => ?_)) | (refine boolE_split (fun h => ?_) (fun h => ?_) <;> subst h) | (refine VLd.is ?_; refine VLd.mk (.row (by repeat (first | exact aT0 | apply aT1 | with_reducible apply aT2 | with_reducible apply aT3)) (by rfl)) ?_) | (refine VSt.is ?_; refine VSt.row (by repeat (first | exact aT0 | apply aT1 | with_reducible apply aT2 | with_reducible apply aT3)) (by rfl) (by first | rfl | assumption) ?_) | (refine VNew.is ?_; refine VNew.mk fun _ => ?_) | (refine VAr.is ?_; refine VAr.i64 (by omega) (by omega) ?_) | (refine VIx.is ?_; refine VIx.mk rfl (by omega) (by omega) ?_) | (refine VKeep.is ?_; refine VKeep.mk (by repeat (first | exact HLe.nil | exact HLe.refl _ | refine HLe.nilv ?_ | (with_reducible refine HLe.seg ?_ ?_; (focus (repeat (first | with_reducible exact sT0 | with_reducible exact sT1 | exact sT2 | apply sT3 | with_reducible apply sT4 | with_reducible apply sT5)))) | refine HLe.cons (by repeat (first | exact aT0 | apply aT1 | with_reducible apply aT2 | with_reducible apply aT3)) ?_ | refine HLe.seg (by repeat (first | with_reducible exact sT0 | with_reducible exact sT1 | exact sT2 | apply sT3 | with_reducible apply sT4 | with_reducible apply sT5)) ?_ | exact HLe.last (by repeat (first | with_reducible exact sT0 | with_reducible exact sT1 | exact sT2 | apply sT3 | with_reducible apply sT4 | with_reducible apply sT5)))) ?_) | (refine VHs.is ?_; refine VHs.mk _ (HLe.refl _) ?_) | (refine VQ.is ?_; refine VQ.pos (by omega) (by omega) (by omega) ?_) | (refine VM.is ?_; refine VM.pos (by omega) (by omega) ?_) | (refine And.intro ?_ ?_)
    all_goals (conv => whnf)
    refine VLoop.kp (α := Nat) [1000000, 0, 2, 3] [0, 1, 2] rfl rfl (fun j => j ≤ N.ps.length ∧ ∀ a ∈ d.l.take j, a = 0) (fun j K => (4, .int .i64 (j : Int)) :: K) (fun j R => R ++ D.map drowE) (fun j => N.ps.length - j) 0 ⟨by omega, by simp⟩ (by repeat (first | exact trivial | refine ⟨rfl, ?_⟩)) (by repeat (first | exact HLe.nil | exact HLe.refl _ | refine HLe.nilv ?_ | (with_reducible refine HLe.seg ?_ ?_; (focus (repeat (first | with_reducible exact sT0 | with_reducible exact sT1 | exact sT2 | apply sT3 | with_reducible apply sT4 | with_reducible apply sT5)))) | refine HLe.cons (by repeat (first | exact aT0 | apply aT1 | with_reducible apply aT2 | with_reducible apply aT3)) ?_ | refine HLe.seg (by repeat (first | with_reducible exact sT0 | with_reducible exact sT1 | exact sT2 | apply sT3 | with_reducible apply sT4 | with_reducible apply sT5)) ?_ | exact HLe.last (by repeat (first | with_reducible exact sT0 | with_reducible exact sT1 | exact sT2 | apply sT3 | with_reducible apply sT4 | with_reducible apply sT5)))) ?_
    rintro j ⟨hj, hz2⟩
    dsimp only [List.cons_append, List.nil_append]
    rcases Nat.lt_or_ge j N.ps.length with hltj | hgej
    · obtain ⟨a, ha⟩ : ∃ a, d.l[j]? = some a := ⟨d.l[j]'(by omega), List.getElem?_eq_getElem _⟩
      repeat' (conv => whnf); first | (refine VLd.is ?_; refine VLd.mk (Rd.cast (.vec (by repeat (first | exact aT0 | apply aT1 | with_reducible apply aT2 | with_reducible apply aT3)) (hdv)) (by first | omega | (dsimp only; omega) | rfl)) ?_) | (refine VIx.is ?_; refine VIx.mk rfl (by omega) (by omega) ?_) | (refine VLd.is ?_; refine VLd.mk (Rd.cast (Rd.seg (f := drowE) (l := D) (by repeat (first | with_reducible exact sT0 | with_reducible exact sT1 | exact sT2 | apply sT3 | with_reducible apply sT4 | with_reducible apply sT5)) hd rfl (sub_flat0 (f := intV) (k := 1) (fun _ => rfl) ha rfl)) (by first | omega | (dsimp only; omega) | rfl)) ?_) | (refine VSeq.is ?_; refine VSeq.go ?_) | (refine VB.is ?_; refine VB.yes (by omega) fun _ => ?_) | (refine VB.is ?_; refine VB.no (by omega) fun _ => ?_) | (refine VB.is ?_; refine VB.split (fun _ => ?_) (fun _ => ?_)) | (refine boolE_split (fun h => ?_) (fun h => ?_) <;> subst h) | (refine VLd.is ?_; refine VLd.mk (.row (by repeat (first | exact aT0 | apply aT1 | with_reducible apply aT2 | with_reducible apply aT3)) (by rfl)) ?_) | (refine VSt.is ?_; refine VSt.row (by repeat (first | exact aT0 | apply aT1 | with_reducible apply aT2 | with_reducible apply aT3)) (by rfl) (by first | rfl | assumption) ?_) | (refine VNew.is ?_; refine VNew.mk fun _ => ?_) | (refine VAr.is ?_; refine VAr.i64 (by omega) (by omega) ?_) | (refine VIx.is ?_; refine VIx.mk rfl (by omega) (by omega) ?_) | (refine VKeep.is ?_; refine VKeep.mk (by repeat (first | exact HLe.nil | exact HLe.refl _ | refine HLe.nilv ?_ | (with_reducible refine HLe.seg ?_ ?_; (focus (repeat (first | with_reducible exact sT0 | with_reducible exact sT1 | exact sT2 | apply sT3 | with_reducible apply sT4 | with_reducible apply sT5)))) | refine HLe.cons (by repeat (first | exact aT0 | apply aT1 | with_reducible apply aT2 | with_reducible apply aT3)) ?_ | refine HLe.seg (by repeat (first | with_reducible exact sT0 | with_reducible exact sT1 | exact sT2 | apply sT3 | with_reducible apply sT4 | with_reducible apply sT5)) ?_ | exact HLe.last (by repeat (first | with_reducible exact sT0 | with_reducible exact sT1 | exact sT2 | apply sT3 | with_reducible apply sT4 | with_reducible apply sT5)))) ?_) | (refine VHs.is ?_; refine VHs.mk _ (HLe.refl _) ?_) | (refine VQ.is ?_; refine VQ.pos (by omega) (by omega) (by omega) ?_) | (refine VM.is ?_; refine VM.pos (by omega) (by omega) ?_) | (refine And.intro ?_ ?_)
      all_goals (conv => whnf)
      · have ha0 : ¬ a = 0 := by omega
        exact ⟨fun w' hw' => ⟨false, rfl, ⟨fun h => by simp at h, fun h => absurd (h.1 d (List.mem_of_getElem? hd) a (List.mem_of_getElem? ha)) ha0⟩, hw'⟩⟩
      · refine VNext.mk (j + 1) ⟨by omega, ?_⟩ (by omega) (by repeat (first | exact trivial | refine ⟨rfl, ?_⟩)) (by repeat (first | exact HLe.nil | exact HLe.refl _ | refine HLe.nilv ?_ | (with_reducible refine HLe.seg ?_ ?_; (focus (repeat (first | with_reducible exact sT0 | with_reducible exact sT1 | exact sT2 | apply sT3 | with_reducible apply sT4 | with_reducible apply sT5)))) | refine HLe.cons (by repeat (first | exact aT0 | apply aT1 | with_reducible apply aT2 | with_reducible apply aT3)) ?_ | refine HLe.seg (by repeat (first | with_reducible exact sT0 | with_reducible exact sT1 | exact sT2 | apply sT3 | with_reducible apply sT4 | with_reducible apply sT5)) ?_ | exact HLe.last (by repeat (first | with_reducible exact sT0 | with_reducible exact sT1 | exact sT2 | apply sT3 | with_reducible apply sT4 | with_reducible apply sT5))))
        rw [List.take_add_one, ha, Option.toList_some]
        intro a' ha'
        rcases List.mem_append.1 ha' with h | h
        · exact hz2 a' h
        · simp only [List.mem_singleton] at h
          subst h
          omega
    · repeat' (conv => whnf); first | (refine VLd.is ?_; refine VLd.mk (Rd.cast (.vec (by repeat (first | exact aT0 | apply aT1 | with_reducible apply aT2 | with_reducible apply aT3)) (hdv)) (by first | omega | (dsimp only; omega) | rfl)) ?_) | (refine VIx.is ?_; refine VIx.mk rfl (by omega) (by omega) ?_) | (refine VSeq.is ?_; refine VSeq.go ?_) | (refine VB.is ?_; refine VB.yes (by omega) fun _ => ?_) | (refine VB.is ?_; refine VB.no (by omega) fun _ => ?_) | (refine VB.is ?_; refine VB.split (fun _ => ?_) (fun _ => ?_)) | (refine boolE_split (fun h => ?_) (fun h => ?_) <;> subst h) | (refine VLd.is ?_; refine VLd.mk (.row (by repeat (first | exact aT0 | apply aT1 | with_reducible apply aT2 | with_reducible apply aT3)) (by rfl)) ?_) | (refine VSt.is ?_; refine VSt.row (by repeat (first | exact aT0 | apply aT1 | with_reducible apply aT2 | with_reducible apply aT3)) (by rfl) (by first | rfl | assumption) ?_) | (refine VNew.is ?_; refine VNew.mk fun _ => ?_) | (refine VAr.is ?_; refine VAr.i64 (by omega) (by omega) ?_) | (refine VIx.is ?_; refine VIx.mk rfl (by omega) (by omega) ?_) | (refine VKeep.is ?_; refine VKeep.mk (by repeat (first | exact HLe.nil | exact HLe.refl _ | refine HLe.nilv ?_ | (with_reducible refine HLe.seg ?_ ?_; (focus (repeat (first | with_reducible exact sT0 | with_reducible exact sT1 | exact sT2 | apply sT3 | with_reducible apply sT4 | with_reducible apply sT5)))) | refine HLe.cons (by repeat (first | exact aT0 | apply aT1 | with_reducible apply aT2 | with_reducible apply aT3)) ?_ | refine HLe.seg (by repeat (first | with_reducible exact sT0 | with_reducible exact sT1 | exact sT2 | apply sT3 | with_reducible apply sT4 | with_reducible apply sT5)) ?_ | exact HLe.last (by repeat (first | with_reducible exact sT0 | with_reducible exact sT1 | exact sT2 | apply sT3 | with_reducible apply sT4 | with_reducible apply sT5)))) ?_) | (refine VHs.is ?_; refine VHs.mk _ (HLe.refl _) ?_) | (refine VQ.is ?_; refine VQ.pos (by omega) (by omega) (by omega) ?_) | (refine VM.is ?_; refine VM.pos (by omega) (by omega) ?_) | (refine And.intro ?_ ?_)
      all_goals (conv => whnf)
      refine VNext.mk (i + 1) ⟨by omega, ?_⟩ (by omega) (by repeat (first | exact trivial | refine ⟨rfl, ?_⟩)) (by repeat (first | exact HLe.nil | exact HLe.refl _ | refine HLe.nilv ?_ | (with_reducible refine HLe.seg ?_ ?_; (focus (repeat (first | with_reducible exact sT0 | with_reducible exact sT1 | exact sT2 | apply sT3 | with_reducible apply sT4 | with_reducible apply sT5)))) | refine HLe.cons (by repeat (first | exact aT0 | apply aT1 | with_reducible apply aT2 | with_reducible apply aT3)) ?_ | refine HLe.seg (by repeat (first | with_reducible exact sT0 | with_reducible exact sT1 | exact sT2 | apply sT3 | with_reducible apply sT4 | with_reducible apply sT5)) ?_ | exact HLe.last (by repeat (first | with_reducible exact sT0 | with_reducible exact sT1 | exact sT2 | apply sT3 | with_reducible apply sT4 | with_reducible apply sT5))))
      rw [List.take_of_length_le (by omega)] at hz2
      rw [List.take_add_one, hd, Option.toList_some]
      intro d' hd'
      rcases List.mem_append.1 hd' with h | h
      · exact hz d' h
      · simp only [List.mem_singleton] at h
        subst h
        exact hz2
  · rw [List.take_of_length_le (by omega)] at hz
    repeat' (conv => whnf); first | (refine VSeq.is ?_; refine VSeq.go ?_) | (refine VB.is ?_; refine VB.yes (by omega) fun _ => ?_) | (refine VB.is ?_; refine VB.no (by omega) fun _ => ?_) | (refine VB.is ?_; refine VB.split (fun _ => ?_) (fun _ => ?_)) | (refine boolE_split (fun h => ?_) (fun h => ?_) <;> subst h) | (refine VLd.is ?_; refine VLd.mk (.row (by repeat (first | exact aT0 | apply aT1 | with_reducible apply aT2 | with_reducible apply aT3)) (by rfl)) ?_) | (refine VSt.is ?_; refine VSt.row (by repeat (first | exact aT0 | apply aT1 | with_reducible apply aT2 | with_reducible apply aT3)) (by rfl) (by first | rfl | assumption) ?_) | (refine VNew.is ?_; refine VNew.mk fun _ => ?_) | (refine VAr.is ?_; refine VAr.i64 (by omega) (by omega) ?_) | (refine VIx.is ?_; refine VIx.mk rfl (by omega) (by omega) ?_) | (refine VKeep.is ?_; refine VKeep.mk (by repeat (first | exact HLe.nil | exact HLe.refl _ | refine HLe.nilv ?_ | (with_reducible refine HLe.seg ?_ ?_; (focus (repeat (first | with_reducible exact sT0 | with_reducible exact sT1 | exact sT2 | apply sT3 | with_reducible apply sT4 | with_reducible apply sT5)))) | refine HLe.cons (by repeat (first | exact aT0 | apply aT1 | with_reducible apply aT2 | with_reducible apply aT3)) ?_ | refine HLe.seg (by repeat (first | with_reducible exact sT0 | with_reducible exact sT1 | exact sT2 | apply sT3 | with_reducible apply sT4 | with_reducible apply sT5)) ?_ | exact HLe.last (by repeat (first | with_reducible exact sT0 | with_reducible exact sT1 | exact sT2 | apply sT3 | with_reducible apply sT4 | with_reducible apply sT5)))) ?_) | (refine VHs.is ?_; refine VHs.mk _ (HLe.refl _) ?_) | (refine VQ.is ?_; refine VQ.pos (by omega) (by omega) (by omega) ?_) | (refine VM.is ?_; refine VM.pos (by omega) (by omega) ?_) | (refine And.intro ?_ ?_)
    all_goals (conv => whnf)
    refine VLoop.kp (α := Nat) [1000000, 0, 2] [0, 1, 2] rfl rfl (fun i => i ≤ N.ps.length ∧ ∀ (j : Nat) p s, j < i → N.ps[j]? = some p → sts[j]? = some s → tick p s 0 = (s, false)) (fun i K => (5, .int .i64 (i : Int)) :: K) (fun i R => R ++ D.map drowE) (fun i => N.ps.length - i) 0 ⟨by omega, by omega⟩ (by repeat (first | exact trivial | refine ⟨rfl, ?_⟩)) (by repeat (first | exact HLe.nil | exact HLe.refl _ | refine HLe.nilv ?_ | (with_reducible refine HLe.seg ?_ ?_; (focus (repeat (first | with_reducible exact sT0 | with_reducible exact sT1 | exact sT2 | apply sT3 | with_reducible apply sT4 | with_reducible apply sT5)))) | refine HLe.cons (by repeat (first | exact aT0 | apply aT1 | with_reducible apply aT2 | with_reducible apply aT3)) ?_ | refine HLe.seg (by repeat (first | with_reducible exact sT0 | with_reducible exact sT1 | exact sT2 | apply sT3 | with_reducible apply sT4 | with_reducible apply sT5)) ?_ | exact HLe.last (by repeat (first | with_reducible exact sT0 | with_reducible exact sT1 | exact sT2 | apply sT3 | with_reducible apply sT4 | with_reducible apply sT5)))) ?_
    rintro i ⟨hi, hz2⟩
    dsimp only [List.cons_append, List.nil_append]
    rcases Nat.lt_or_ge i N.ps.length with hlt | hge2
    · obtain ⟨q, hq⟩ := hpar.get hlt
      obtain ⟨s, hsi⟩ : ∃ s, sts[i]? = some s := ⟨sts[i]'(by omega), List.getElem?_eq_getElem _⟩
      have hqo := hN.ps q (List.mem_of_getElem? hq)
      have hso := hst i q s hq hsi
      have hT := refGo_any q s 0 hqo hso
      obtain ⟨⟨s', fb⟩, hfb⟩ : ∃ y, tick q s 0 = y := ⟨_, rfl⟩
      rw [hfb] at hT
      dsimp only at hT
      repeat' (conv => whnf); first | (refine VCall.isF 101 ?_; refine VCall.val hT ?_) | (refine VNew.is ?_; refine VNew.mk fun b6 => ?_) | (refine VIx.is ?_; refine VIx.mk (hpar.ptr (by omega)) (by omega) (by omega) ?_) | (refine VIx.is ?_; refine VIx.mk rfl (by omega) (by omega) ?_) | (refine VLd.is ?_; refine VLd.mk (Rd.cast (hpar.rd0 hparM (fun _ => rfl) hq rfl) (by first | omega | (dsimp only; omega) | rfl)) ?_) | (refine VLd.is ?_; refine VLd.mk (Rd.cast (.vec (by repeat (first | exact aT0 | apply aT1 | with_reducible apply aT2 | with_reducible apply aT3)) (sub_flat0 (f := staV) (k := 2) (fun _ => rfl) hsi rfl)) (by first | omega | (dsimp only; omega) | rfl)) ?_) | (refine VSeq.is ?_; refine VSeq.go ?_) | (refine VB.is ?_; refine VB.yes (by omega) fun _ => ?_) | (refine VB.is ?_; refine VB.no (by omega) fun _ => ?_) | (refine VB.is ?_; refine VB.split (fun _ => ?_) (fun _ => ?_)) | (refine boolE_split (fun h => ?_) (fun h => ?_) <;> subst h) | (refine VLd.is ?_; refine VLd.mk (.row (by repeat (first | exact aT0 | apply aT1 | with_reducible apply aT2 | with_reducible apply aT3)) (by rfl)) ?_) | (refine VSt.is ?_; refine VSt.row (by repeat (first | exact aT0 | apply aT1 | with_reducible apply aT2 | with_reducible apply aT3)) (by rfl) (by first | rfl | assumption) ?_) | (refine VNew.is ?_; refine VNew.mk fun _ => ?_) | (refine VAr.is ?_; refine VAr.i64 (by omega) (by omega) ?_) | (refine VIx.is ?_; refine VIx.mk rfl (by omega) (by omega) ?_) | (refine VKeep.is ?_; refine VKeep.mk (by repeat (first | exact HLe.nil | exact HLe.refl _ | refine HLe.nilv ?_ | (with_reducible refine HLe.seg ?_ ?_; (focus (repeat (first | with_reducible exact sT0 | with_reducible exact sT1 | exact sT2 | apply sT3 | with_reducible apply sT4 | with_reducible apply sT5)))) | refine HLe.cons (by repeat (first | exact aT0 | apply aT1 | with_reducible apply aT2 | with_reducible apply aT3)) ?_ | refine HLe.seg (by repeat (first | with_reducible exact sT0 | with_reducible exact sT1 | exact sT2 | apply sT3 | with_reducible apply sT4 | with_reducible apply sT5)) ?_ | exact HLe.last (by repeat (first | with_reducible exact sT0 | with_reducible exact sT1 | exact sT2 | apply sT3 | with_reducible apply sT4 | with_reducible apply sT5)))) ?_) | (refine VHs.is ?_; refine VHs.mk _ (HLe.refl _) ?_) | (refine VQ.is ?_; refine VQ.pos (by omega) (by omega) (by omega) ?_) | (refine VM.is ?_; refine VM.pos (by omega) (by omega) ?_) | (refine And.intro ?_ ?_)
      all_goals (conv => whnf)
      all_goals first
        | (refine ⟨fun w' hw' => ⟨false, rfl, ⟨fun h => by simp at h, fun h => ?_⟩, hw'.le (by repeat (first | exact HLe.nil | exact HLe.refl _ | refine HLe.nilv ?_ | (with_reducible refine HLe.seg ?_ ?_; (focus (repeat (first | with_reducible exact sT0 | with_reducible exact sT1 | exact sT2 | apply sT3 | with_reducible apply sT4 | with_reducible apply sT5)))) | refine HLe.cons (by repeat (first | exact aT0 | apply aT1 | with_reducible apply aT2 | with_reducible apply aT3)) ?_ | refine HLe.seg (by repeat (first | with_reducible exact sT0 | with_reducible exact sT1 | exact sT2 | apply sT3 | with_reducible apply sT4 | with_reducible apply sT5)) ?_ | exact HLe.last (by repeat (first | with_reducible exact sT0 | with_reducible exact sT1 | exact sT2 | apply sT3 | with_reducible apply sT4 | with_reducible apply sT5))))⟩⟩
           have h5 := h.2 i q s hq hsi
           rw [hfb] at h5
           first | (cases h5; done) | (cases h5; exfalso; omega) | (cases h5; exfalso; simp_all; done))
        | (have he : s' = s := by
             have h5 : s'.v = s.v ∧ s'.rest = s.rest := by simp only [and_true] at *; omega
             cases s; cases s'; simp only [Sta.mk.injEq]; exact h5
           refine VNext.mk (i + 1) ⟨by omega, fun j p s2 hj h5 h6 => ?_⟩ (by omega) (by repeat (first | exact trivial | refine ⟨rfl, ?_⟩)) (by repeat (first | exact HLe.nil | exact HLe.refl _ | refine HLe.nilv ?_ | (with_reducible refine HLe.seg ?_ ?_; (focus (repeat (first | with_reducible exact sT0 | with_reducible exact sT1 | exact sT2 | apply sT3 | with_reducible apply sT4 | with_reducible apply sT5)))) | refine HLe.cons (by repeat (first | exact aT0 | apply aT1 | with_reducible apply aT2 | with_reducible apply aT3)) ?_ | refine HLe.seg (by repeat (first | with_reducible exact sT0 | with_reducible exact sT1 | exact sT2 | apply sT3 | with_reducible apply sT4 | with_reducible apply sT5)) ?_ | exact HLe.last (by repeat (first | with_reducible exact sT0 | with_reducible exact sT1 | exact sT2 | apply sT3 | with_reducible apply sT4 | with_reducible apply sT5))))
           rcases Nat.lt_or_ge j i with h7 | h7
           · exact hz2 j p s2 h7 h5 h6
           · obtain rfl : j = i := by omega
             rw [hq] at h5; cases h5
             rw [hsi] at h6; cases h6
             rw [hfb, he])
    · repeat' (conv => whnf); first | (refine VSeq.is ?_; refine VSeq.go ?_) | (refine VB.is ?_; refine VB.yes (by omega) fun _ => ?_) | (refine VB.is ?_; refine VB.no (by omega) fun _ => ?_) | (refine VB.is ?_; refine VB.split (fun _ => ?_) (fun _ => ?_)) | (refine boolE_split (fun h => ?_) (fun h => ?_) <;> subst h) | (refine VLd.is ?_; refine VLd.mk (.row (by repeat (first | exact aT0 | apply aT1 | with_reducible apply aT2 | with_reducible apply aT3)) (by rfl)) ?_) | (refine VSt.is ?_; refine VSt.row (by repeat (first | exact aT0 | apply aT1 | with_reducible apply aT2 | with_reducible apply aT3)) (by rfl) (by first | rfl | assumption) ?_) | (refine VNew.is ?_; refine VNew.mk fun _ => ?_) | (refine VAr.is ?_; refine VAr.i64 (by omega) (by omega) ?_) | (refine VIx.is ?_; refine VIx.mk rfl (by omega) (by omega) ?_) | (refine VKeep.is ?_; refine VKeep.mk (by repeat (first | exact HLe.nil | exact HLe.refl _ | refine HLe.nilv ?_ | (with_reducible refine HLe.seg ?_ ?_; (focus (repeat (first | with_reducible exact sT0 | with_reducible exact sT1 | exact sT2 | apply sT3 | with_reducible apply sT4 | with_reducible apply sT5)))) | refine HLe.cons (by repeat (first | exact aT0 | apply aT1 | with_reducible apply aT2 | with_reducible apply aT3)) ?_ | refine HLe.seg (by repeat (first | with_reducible exact sT0 | with_reducible exact sT1 | exact sT2 | apply sT3 | with_reducible apply sT4 | with_reducible apply sT5)) ?_ | exact HLe.last (by repeat (first | with_reducible exact sT0 | with_reducible exact sT1 | exact sT2 | apply sT3 | with_reducible apply sT4 | with_reducible apply sT5)))) ?_) | (refine VHs.is ?_; refine VHs.mk _ (HLe.refl _) ?_) | (refine VQ.is ?_; refine VQ.pos (by omega) (by omega) (by omega) ?_) | (refine VM.is ?_; refine VM.pos (by omega) (by omega) ?_) | (refine And.intro ?_ ?_)
      all_goals (conv => whnf)
      exact ⟨fun w' hw' => ⟨true, rfl, ⟨fun _ => ⟨hz, fun j p s h1 h2 => hz2 j p s (by have := (List.getElem?_eq_some_iff.1 h1).1; omega) h1 h2⟩, fun _ => rfl⟩, hw'⟩⟩

theorem still_call {w0 : World} {M : List Nat} {H : HP} {Z : HP → HP} {K : Value → HP → Prop} (x : RSim) (hx : RSimOk x) (hst : StaAll x.N x.sts) (bn on : Nat) (hpar : Sl w0 parV 8 x.N.ps x.pn x.N.ps.length bn on) (hparM : bn ∉ M)
    (hat : AtS H (rsimH x) Z) (hk : ∀ b : Bool, (b = true ↔ stillB x.N (smR x) = true) → K (.bool b) (Z (rsimH x))) : VCall Try.cx.P w0 M H 65 [.pointer (some ⟨x.b, 0, none⟩)] K := by
  refine VCall.turnV (α := Bool) (fun b => .bool b) (fun b => b = true ↔ stillB x.N (smR x) = true) (fun _ => rsimH x) (fun _ => []) hat (fun w hw hs => ?_) (fun b hb => hk b hb)
  obtain ⟨b1, o1, g1, m1⟩ := hpar.oldOut hparM hw (HLe.of_perm hat.perm) (fun _ => rfl) (by omega)
  exact refStill_any x hx hst w b1 o1 hs g1 m1

theorem rot_mem {t : Nat} {D : List (List Int)} (h : D.length = 16) (r : List Int) : r ∈ rot t D ↔ r ∈ D := by
  constructor
  · intro hr
    unfold rot at hr
    obtain ⟨d, hd, rfl⟩ := List.mem_map.1 hr
    rw [List.getElem?_eq_getElem (by omega)]
    exact List.getElem_mem _
  · intro hr
    obtain ⟨i, hi⟩ := List.getElem?_of_mem hr
    have hlt := (List.getElem?_eq_some_iff.1 hi).1
    have := rot_get t D ((i + 16 * t - t) % 16)
    rw [if_pos (by omega), show (t + (i + 16 * t - t) % 16) % 16 = i by omega, hi] at this
    exact List.mem_of_getElem? this

theorem still_rot {N : Net} {X : Sm} (hX : SmOk N X) (t : Nat) : stillB N (smRot t X) = true ↔ stillB N X = true := by
  unfold stillB smRot
  simp only [Bool.and_eq_true, List.all_eq_true]
  refine and_congr ⟨fun h r hr => h r ((rot_mem hX.due r).2 hr), fun h r hr => h r ((rot_mem hX.due r).1 hr)⟩ Iff.rfl

theorem still_shift {N : Net} {X : Sm} (hX : SmOk N X) (h : stillB N X = true) (a b : Nat) : smRot a X = smRot b X := by
  have hz : ∀ r ∈ X.D, r = List.replicate N.ps.length 0 := by
    unfold stillB at h
    simp only [Bool.and_eq_true, List.all_eq_true] at h
    intro r hr
    have := zeros (l := r) (List.all_eq_true.2 (h.1 r hr))
    rw [← this, hX.rows r hr]
  have e : ∀ t, rot t X.D = List.replicate 16 (List.replicate N.ps.length 0) := by
    intro t
    apply List.ext_getElem?
    intro i
    rw [rot_get, List.getElem?_replicate]
    by_cases hi : i < 16
    · have hd := hX.due
      have h2 : (t + i) % 16 < X.D.length := by omega
      rw [if_pos hi, if_pos hi, List.getElem?_eq_getElem h2, Option.getD_some, hz _ (List.getElem_mem h2)]
    · rw [if_neg hi, if_neg hi]
  unfold smRot
  rw [e, e]

/-- Where nothing can change, all is as it was up to the next event. -/
theorem drv_skip {N : Net} (hN : NetOk N) {l : List Evt} {t k T : Nat} (hk : TkInv l t k) (h : stillB N (stAt N l t) = true) (hT : t ≤ T) (hr : ∀ e ∈ l.drop k, (T : Int) ≤ e.tick) :
    stAt N l T = stAt N l t ∧ outTo N l T = outTo N l t ∧ TkInv l T k := by
  have hin : ∀ s, t ≤ s → s < t + (T - t) → insAt l s = [] := by
    intro s h1 h2
    unfold insAt
    rw [List.map_eq_nil_iff, List.filter_eq_nil_iff]
    intro e he
    simp only [decide_eq_true_eq]
    rw [← List.take_append_drop k l] at he
    rcases List.mem_append.1 he with he | he
    · have := hk.past e he; omega
    · have := hr e he; omega
  have := skipTo hN h (T - t) hin
  rw [show t + (T - t) = T by omega] at this
  exact ⟨this.1, this.2, hk.le, fun e he => by have := hk.past e he; omega, hr⟩

end Go.Proofs
