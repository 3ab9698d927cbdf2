/- Lf: few, some, sameRows of layer 11's laws. -/

import Derived.Test.YtephkjicokbckaaGreatDoorVerifyBoundsLw
import Derived.Test.YtephkjicokbckaaGreatDoorVerifyBoundsCt

set_option linter.unusedVariables false

set_option linter.unusedSimpArgs false

namespace Go.Proofs

open Go Go.Vx Go.Gm

theorem vfew_any (pn qs : Option Addr) (n m cn cs : Nat) (x : Value) (w : World) : Calls Tryz.prog 15 #[.agg #[.slice pn n cn, x, .slice qs m cs]] w fun e w' => ∃ b : Bool, e = .returned (.bool b) ∧ (b = true → n ≤ 10 ∧ m ≤ 40) ∧ St w [] [] w' := by
  refine enter (C := Tryz.cx) (F := Tryz.fx15) (args := [_]) Tryz.func15 rfl rfl rfl Tryz.ok15 (St.start w []) ?_
  repeat' (conv => whnf); first | (refine VSeq.go ?_) | (refine VB.is ?_; refine VB.yes (by omega) fun _ => ?_) | (refine VB.is ?_; refine VB.no (by omega) fun _ => ?_) | (refine VB.split (fun _ => ?_) (fun _ => ?_)) | (refine boolE_split (fun h => ?_) (fun h => ?_) <;> subst h) | (refine VLd.is ?_; refine VLd.mk (.row aT (by rfl)) ?_) | (refine VSt.is ?_; refine VSt.row aT (by rfl) (by first | rfl | assumption) ?_) | (refine VNew.mk fun _ => ?_) | (refine VAr.is ?_; refine oA ?_) | (refine VIx.is ?_; refine VIx.mk rfl (by omega) (by omega) ?_) | (refine VKeep.is ?_; refine VKeep.mk aH ?_) | (refine VHs.mk _ (.refl _) ?_) | (refine VQ.is ?_; refine oQ ?_) | (refine VM.is ?_; refine oM ?_) | (refine And.intro ?_ ?_)
  all_goals (conv => whnf)
  all_goals exact ⟨fun w' hw' => ⟨_, rfl, by first | (intro h; cases h; done) | (intro _; omega), hw'.le .nil⟩⟩

theorem vsome_any (p : Option Addr) (n c : Nat) (w : World) : Calls Tryz.prog 22 #[.slice p n c] w fun e w' => ∃ b : Bool, e = .returned (.bool b) ∧ (b = true → n ≤ 65546) ∧ St w [] [] w' := by
  refine enter (C := Tryz.cx) (F := Tryz.fx22) (args := [_]) Tryz.func22 rfl rfl rfl Tryz.ok22 (St.start w []) ?_
  repeat' (conv => whnf); first | (refine VSeq.go ?_) | (refine VB.is ?_; refine VB.yes (by omega) fun _ => ?_) | (refine VB.is ?_; refine VB.no (by omega) fun _ => ?_) | (refine VB.split (fun _ => ?_) (fun _ => ?_)) | (refine boolE_split (fun h => ?_) (fun h => ?_) <;> subst h) | (refine VLd.is ?_; refine VLd.mk (.row aT (by rfl)) ?_) | (refine VSt.is ?_; refine VSt.row aT (by rfl) (by first | rfl | assumption) ?_) | (refine VNew.mk fun _ => ?_) | (refine VAr.is ?_; refine oA ?_) | (refine VIx.is ?_; refine VIx.mk rfl (by omega) (by omega) ?_) | (refine VKeep.is ?_; refine VKeep.mk aH ?_) | (refine VHs.mk _ (.refl _) ?_) | (refine VQ.is ?_; refine oQ ?_) | (refine VM.is ?_; refine oM ?_) | (refine And.intro ?_ ?_)
  all_goals (conv => whnf)
  all_goals exact ⟨fun w' hw' => ⟨_, rfl, by first | (intro h; cases h; done) | (intro _; omega), hw'.le .nil⟩⟩

theorem vsameRows_any (D E : List DRow) (h : D.map (·.l) = E.map (·.l)) (hl : D.length ≤ 1000000) (n : Nat) (hn : n ≤ 1000000) (q : Option Addr) (c b o : Nat) (r : Option Addr) (e b2 o2 : Nat) (w : World) (h1 : RowsAt w D q b o n) (h2 : RowsAt w E r b2 o2 n) :
    Calls Tryz.prog 25 #[.slice q D.length c, .slice r E.length e] w fun e w' => e = .returned (.bool true) ∧ St w [] [] w' := by
  have hlen : E.length = D.length := by have := congrArg List.length h; simpa using this.symm
  obtain ⟨ho1, hr1, hn1⟩ := h1
  obtain ⟨ho2, hr2, hn2⟩ := h2
  rw [hlen] at ho2 ⊢
  refine enter (C := Tryz.cx) (F := Tryz.fx25) (args := [_, _]) Tryz.func25 rfl rfl rfl Tryz.ok25 (St.start w []) ?_
  repeat' (conv => whnf); first | (refine VSeq.go ?_) | (refine VB.is ?_; refine VB.yes (by omega) fun _ => ?_) | (refine VB.is ?_; refine VB.no (by omega) fun _ => ?_) | (refine VB.split (fun _ => ?_) (fun _ => ?_)) | (refine boolE_split (fun h => ?_) (fun h => ?_) <;> subst h) | (refine VLd.is ?_; refine VLd.mk (.row aT (by rfl)) ?_) | (refine VSt.is ?_; refine VSt.row aT (by rfl) (by first | rfl | assumption) ?_) | (refine VNew.mk fun _ => ?_) | (refine VAr.is ?_; refine oA ?_) | (refine VIx.is ?_; refine VIx.mk rfl (by omega) (by omega) ?_) | (refine VKeep.is ?_; refine VKeep.mk aH ?_) | (refine VHs.mk _ (.refl _) ?_) | (refine VQ.is ?_; refine oQ ?_) | (refine VM.is ?_; refine oM ?_) | (refine And.intro ?_ ?_)
  all_goals (conv => whnf)
  refine VLoop.mk (α := Nat) (fun t => t ≤ D.length) (fun t => [(1000000, .tuple #[]), (0, .slice q D.length c), (1, .slice r D.length e), (4, .bool false), (5, .int .i64 (t : Int))]) (fun _ => []) (fun t => D.length - t) 0 (by omega) aE aH ?_
  intro t ht
  rcases Nat.lt_or_ge t D.length with hlt | hge
  rotate_left
  · repeat' (conv => whnf); first | (refine VSeq.go ?_) | (refine VB.is ?_; refine VB.yes (by omega) fun _ => ?_) | (refine VB.is ?_; refine VB.no (by omega) fun _ => ?_) | (refine VB.split (fun _ => ?_) (fun _ => ?_)) | (refine boolE_split (fun h => ?_) (fun h => ?_) <;> subst h) | (refine VLd.is ?_; refine VLd.mk (.row aT (by rfl)) ?_) | (refine VSt.is ?_; refine VSt.row aT (by rfl) (by first | rfl | assumption) ?_) | (refine VNew.mk fun _ => ?_) | (refine VAr.is ?_; refine oA ?_) | (refine VIx.is ?_; refine VIx.mk rfl (by omega) (by omega) ?_) | (refine VKeep.is ?_; refine VKeep.mk aH ?_) | (refine VHs.mk _ (.refl _) ?_) | (refine VQ.is ?_; refine oQ ?_) | (refine VM.is ?_; refine oM ?_) | (refine And.intro ?_ ?_)
    all_goals (conv => whnf)
    exact ⟨fun w' hw' => ⟨rfl, hw'.le .nil⟩⟩
  obtain ⟨d, hd⟩ := ho1.get hlt
  obtain ⟨f, hf⟩ := ho2.get hlt
  have hdf : d.l = f.l := by
    have := congrArg (fun l => l[t]?) h
    simpa [List.getElem?_map, hd, hf] using this
  have hdl := hn1 d (List.mem_of_getElem? hd)
  have hfl := hn2 f (List.mem_of_getElem? hf)
  have hrd := hr1 d (List.mem_of_getElem? hd)
  have hrf := hr2 f (List.mem_of_getElem? hf)
  have sd : sub (drV d) 0 1 = some [.slice (some ⟨d.g, 0, none⟩) n d.cap] := by rw [← hdl]; rfl
  have sf : sub (drV f) 0 1 = some [.slice (some ⟨f.g, 0, none⟩) n f.cap] := by rw [← hfl]; rfl
  rw [hdl] at hrd
  rw [hfl] at hrf
  repeat' (conv => whnf); first | (refine VIx.is ?_; refine VIx.mk (ho1.ptr (by omega)) (by omega) (by omega) ?_) | (refine VIx.is ?_; refine VIx.mk (ho2.ptr (by omega)) (by omega) (by omega) ?_) | (refine VLd.is ?_; refine VLd.mk (Rd.cast (ho1.rd (o := 0) (by simp) (fun _ => rfl) hd sd) (by first | omega | (dsimp only; omega) | rfl)) ?_) | (refine VLd.is ?_; refine VLd.mk (Rd.cast (ho2.rd (o := 0) (by simp) (fun _ => rfl) hf sf) (by first | omega | (dsimp only; omega) | rfl)) ?_) | (refine VSeq.go ?_) | (refine VB.is ?_; refine VB.yes (by omega) fun _ => ?_) | (refine VB.is ?_; refine VB.no (by omega) fun _ => ?_) | (refine VB.split (fun _ => ?_) (fun _ => ?_)) | (refine boolE_split (fun h => ?_) (fun h => ?_) <;> subst h) | (refine VLd.is ?_; refine VLd.mk (.row aT (by rfl)) ?_) | (refine VSt.is ?_; refine VSt.row aT (by rfl) (by first | rfl | assumption) ?_) | (refine VNew.mk fun _ => ?_) | (refine VAr.is ?_; refine oA ?_) | (refine VIx.is ?_; refine VIx.mk rfl (by omega) (by omega) ?_) | (refine VKeep.is ?_; refine VKeep.mk aH ?_) | (refine VHs.mk _ (.refl _) ?_) | (refine VQ.is ?_; refine oQ ?_) | (refine VM.is ?_; refine oM ?_) | (refine And.intro ?_ ?_)
  all_goals (conv => whnf)
  refine VLoop.mk (α := Nat) (fun i => i ≤ n) (fun i => [(1000000, .tuple #[]), (0, .slice q D.length c), (1, .slice r D.length e), (4, .bool false), (5, .int .i64 (t : Int)), (6, .int .i64 (i : Int))]) (fun _ => []) (fun i => n - i) 0 (by omega) aE aH ?_
  intro i hi
  rcases Nat.lt_or_ge i n with hin | hin
  · obtain ⟨x, hx⟩ := hrd.get hin
    have hy : f.l[i]? = some x := by rw [← hdf]; exact hx
    repeat' (conv => whnf); first | (refine VIx.is ?_; refine VIx.mk (ho1.ptr (by omega)) (by omega) (by omega) ?_) | (refine VIx.is ?_; refine VIx.mk (ho2.ptr (by omega)) (by omega) (by omega) ?_) | (refine VIx.is ?_; refine VIx.mk (hrd.ptr (by omega)) (by omega) (by omega) ?_) | (refine VIx.is ?_; refine VIx.mk (hrf.ptr (by omega)) (by omega) (by omega) ?_) | (refine VLd.is ?_; refine VLd.mk (Rd.cast (ho1.rd (o := 0) (by simp) (fun _ => rfl) hd sd) (by first | omega | (dsimp only; omega) | rfl)) ?_) | (refine VLd.is ?_; refine VLd.mk (Rd.cast (ho2.rd (o := 0) (by simp) (fun _ => rfl) hf sf) (by first | omega | (dsimp only; omega) | rfl)) ?_) | (refine VLd.is ?_; refine VLd.mk (Rd.cast (hrd.rd0 (by simp) (fun _ => rfl) hx rfl) (by first | omega | (dsimp only; omega) | rfl)) ?_) | (refine VLd.is ?_; refine VLd.mk (Rd.cast (hrf.rd0 (by simp) (fun _ => rfl) hy rfl) (by first | omega | (dsimp only; omega) | rfl)) ?_) | (refine VSeq.go ?_) | (refine VB.is ?_; refine VB.yes (by omega) fun _ => ?_) | (refine VB.is ?_; refine VB.no (by omega) fun _ => ?_) | (refine VB.split (fun _ => ?_) (fun _ => ?_)) | (refine boolE_split (fun h => ?_) (fun h => ?_) <;> subst h) | (refine VLd.is ?_; refine VLd.mk (.row aT (by rfl)) ?_) | (refine VSt.is ?_; refine VSt.row aT (by rfl) (by first | rfl | assumption) ?_) | (refine VNew.mk fun _ => ?_) | (refine VAr.is ?_; refine oA ?_) | (refine VIx.is ?_; refine VIx.mk rfl (by omega) (by omega) ?_) | (refine VKeep.is ?_; refine VKeep.mk aH ?_) | (refine VHs.mk _ (.refl _) ?_) | (refine VQ.is ?_; refine oQ ?_) | (refine VM.is ?_; refine oM ?_) | (refine And.intro ?_ ?_)
    all_goals (conv => whnf)
    exact VNext.mk (i + 1) (by omega) (by omega) aE aH
  · repeat' (conv => whnf); first | (refine VIx.is ?_; refine VIx.mk (ho1.ptr (by omega)) (by omega) (by omega) ?_) | (refine VLd.is ?_; refine VLd.mk (Rd.cast (ho1.rd (o := 0) (by simp) (fun _ => rfl) hd sd) (by first | omega | (dsimp only; omega) | rfl)) ?_) | (refine VSeq.go ?_) | (refine VB.is ?_; refine VB.yes (by omega) fun _ => ?_) | (refine VB.is ?_; refine VB.no (by omega) fun _ => ?_) | (refine VB.split (fun _ => ?_) (fun _ => ?_)) | (refine boolE_split (fun h => ?_) (fun h => ?_) <;> subst h) | (refine VLd.is ?_; refine VLd.mk (.row aT (by rfl)) ?_) | (refine VSt.is ?_; refine VSt.row aT (by rfl) (by first | rfl | assumption) ?_) | (refine VNew.mk fun _ => ?_) | (refine VAr.is ?_; refine oA ?_) | (refine VIx.is ?_; refine VIx.mk rfl (by omega) (by omega) ?_) | (refine VKeep.is ?_; refine VKeep.mk aH ?_) | (refine VHs.mk _ (.refl _) ?_) | (refine VQ.is ?_; refine oQ ?_) | (refine VM.is ?_; refine oM ?_) | (refine And.intro ?_ ?_)
    all_goals (conv => whnf)
    exact VNext.mk (t + 1) (by omega) (by omega) aE aH

end Go.Proofs
