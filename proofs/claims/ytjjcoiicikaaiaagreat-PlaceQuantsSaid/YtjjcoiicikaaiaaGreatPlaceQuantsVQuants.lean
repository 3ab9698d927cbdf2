import Derived.Test.YtjjcoiicikaaiaaGreatPlaceQuantsTo7
import Derived.Test.YtjjcoiicikaaiaaGreatPlaceQuantsSq1
import Derived.Test.YtjjcoiicikaaiaaGreatPlaceQuantsQr
set_option linter.unusedVariables false

set_option linter.unusedSimpArgs false

namespace Go.Proofs

open Go Go.Vx Go.Gm

theorem quantRes_few (N : Net) (bits : Int) : QFew (quantRes N bits) := by
  unfold quantRes
  split
  · constructor <;> simp [qNone]
  · rename_i h
    have h0 : netchk N = 0 := by
      refine Decidable.byContradiction fun hn => h ?_
      unfold qErr; rw [if_pos hn]; exact hn
    have hN := netchk_zero.1 h0
    have h1 := hN.few
    have h2 := hN.fewS
    unfold quantM
    constructor <;> simp [scalesM, errsM] <;> omega

theorem PlaceQuants_any (N : Net) (hN : N.wf) (pn : Option Addr) (cn bn on : Nat) (qs : Option Addr) (cs bs os : Nat) (bits : Int) (hb : I64 bits) (w : World) (h1 : Sl w parV 8 N.ps pn N.ps.length bn on) (h2 : Sl w synV 4 N.syns qs N.syns.length bs os) :
    Calls Tryz.prog 4 #[.agg #[.slice pn N.ps.length cn, .int .i64 N.inputs, .slice qs N.syns.length cs], .int .i64 bits] w fun e w' => e = .returned (.bool true) ∧ St w [] [] w' := by
  have hf := fun (w' : World) => few7_any ⟨⟨⟨0, 0, 0⟩, 0, 0, 0, 0, []⟩, none, 0, N, pn, cn, qs, cs⟩ w'
  have hq := fun (w' : World) h1 h2 => Quantise_any N hN bits hb pn cn bn on qs cs bs os w' h1 h2
  have hr := fun (w' : World) h1 h2 => refQuantise_any N hN bits hb pn cn bn on qs cs bs os w' h1 h2
  have hfew := quantRes_few N bits
  obtain ⟨R, hR⟩ : ∃ R, quantRes N bits = R := ⟨_, rfl⟩
  obtain ⟨E, hE⟩ : ∃ E, qErr N bits = E := ⟨_, rfl⟩
  rw [hR] at hfew hq hr
  rw [hE] at hq hr
  have hs := fun (y z : QP) (w' : World) => sameQuant_any R hfew y z w'
  unfold PlnX.net chpC at hf
  unfold quantC at hq hr hs
  dsimp only at hf
  refine enter (C := Tryz.cx) (F := Tryz.fx4) (args := [_, _]) Tryz.func4 rfl rfl rfl Tryz.ok4 (St.start w []) ?_
  repeat' (conv => whnf); first | (refine VCall.isF 15 ?_; (refine VCall.valR (fun w' _ => works7_any w') ?_)) | (refine VCall.isF 19 ?_; (refine VCall.genR (fun w' hw' => hf w') ?_; rintro r _)) | (refine VCall.isF 20 ?_; (refine VCall.genR (fun w' hw' => hq w' (h1.keep hw' (by simp)) (h2.keep hw' (by simp))) ?_; rintro y _)) | (refine VCall.isF 21 ?_; (refine VCall.genR (fun w' hw' => hr w' (h1.keep hw' (by simp)) (h2.keep hw' (by simp))) ?_; rintro z _)) | (refine VNew.mk fun bb => ?_) | (refine VCall.isF 22 ?_; (refine VCall.valR (fun w' hw' => hs y z w' ⟨(Exists.elim (Sl.own (f := parV) (k := 8) hw' (by unfold quantH; exact aT) (fun _ => rfl) rfl) fun bb hbb => ⟨bb, 0, hbb⟩), (Exists.elim (Sl.own (f := synV) (k := 4) hw' (by unfold quantH; exact aT) (fun _ => rfl) rfl) fun bb hbb => ⟨bb, 0, hbb⟩), (Exists.elim (Sl.own (f := intV) (k := 1) hw' (by unfold quantH; exact aT) (fun _ => rfl) rfl) fun bb hbb => ⟨bb, 0, hbb⟩), (Exists.elim (Sl.own (f := intV) (k := 1) hw' (by unfold quantH; exact aT) (fun _ => rfl) rfl) fun bb hbb => ⟨bb, 0, hbb⟩), (Exists.elim (Sl.own (f := intV) (k := 1) hw' (by unfold quantH; exact aT) (fun _ => rfl) rfl) fun bb hbb => ⟨bb, 0, hbb⟩)⟩ ⟨(Exists.elim (Sl.own (f := parV) (k := 8) hw' (by unfold quantH; exact aT) (fun _ => rfl) rfl) fun bb hbb => ⟨bb, 0, hbb⟩), (Exists.elim (Sl.own (f := synV) (k := 4) hw' (by unfold quantH; exact aT) (fun _ => rfl) rfl) fun bb hbb => ⟨bb, 0, hbb⟩), (Exists.elim (Sl.own (f := intV) (k := 1) hw' (by unfold quantH; exact aT) (fun _ => rfl) rfl) fun bb hbb => ⟨bb, 0, hbb⟩), (Exists.elim (Sl.own (f := intV) (k := 1) hw' (by unfold quantH; exact aT) (fun _ => rfl) rfl) fun bb hbb => ⟨bb, 0, hbb⟩), (Exists.elim (Sl.own (f := intV) (k := 1) hw' (by unfold quantH; exact aT) (fun _ => rfl) rfl) fun bb hbb => ⟨bb, 0, hbb⟩)⟩) ?_)) | (refine VSeq.go ?_) | (refine VB.is ?_; refine VB.yes (by omega) fun _ => ?_) | (refine VB.is ?_; refine VB.no (by omega) fun _ => ?_) | (refine VB.split (fun _ => ?_) (fun _ => ?_)) | (refine boolE_split (fun h => ?_) (fun h => ?_) <;> subst h) | (refine VLd.is ?_; refine VLd.mk (.row aT (by rfl)) ?_) | (refine VSt.is ?_; refine VSt.row aT (by rfl) (by first | rfl | assumption) ?_) | (refine VNew.mk fun _ => ?_) | (refine VAr.is ?_; refine oA ?_) | (refine VIx.is ?_; refine VIx.mk rfl (by omega) (by omega) ?_) | (refine VKeep.is ?_; refine VKeep.mk aH ?_) | (refine VHs.mk _ (.refl _) ?_) | (refine VQ.is ?_; refine oQ ?_) | (refine VM.is ?_; refine oM ?_) | (refine And.intro ?_ ?_)
  all_goals (conv => whnf)
  all_goals exact ⟨fun w' hw' => ⟨rfl, hw'.le .nil⟩⟩

end Go.Proofs
