import Derived.Test.YtjjcoiicikaaiaaGreatRows
import Derived.Stop.Joined
import Derived.Test.YtjjcoiicikaaiaaGreatPlaceWaysVb
set_option linter.unusedVariables false
set_option linter.unusedSimpArgs false
set_option maxHeartbeats 4000000
section

namespace Go.Proofs.YtjjcoiicikaaiaaGreat.placeWays

open Go Go.Proofs

theorem k1 : (Rows.placeWaysRow.wf (OpenSpec.ofChange Rows.placeWaysSpec)) = true := by kernel_rfl

theorem k2 : (laidOutB Tryz.pinned.checked.prog) = true := by kernel_rfl

theorem k3 : (mapsRowed Tryz.pinned.checked.prog) = true := by kernel_rfl

theorem k4 : (Tryz.f14.params.all (Tryz.pinned.checked.prog.readableRec ·)) = true := by kernel_rfl

theorem k5 : (namedTie Tryz.pinned.checked.prog Rows.placeWaysRow.named Rows.placeWaysSpec.vars) = true := by kernel_rfl

theorem k6 : ((Rows.placeWaysRow.stops == [])) = true := by kernel_rfl

theorem k7 : ((Tryz.pinned.checked.prog.stops == [])) = true := by kernel_rfl

theorem k8 : ((Rows.placeWaysRow.knobs == [])) = true := by kernel_rfl

theorem k9 : ((Tryz.pinned.checked.prog.stopKnobs == [])) = true := by kernel_rfl

theorem k10 : ((Rows.placeWaysRow.inPlace == Tryz.pinned.checked.prog.inPlace 14)) = true := by kernel_rfl

theorem k11 : ((Rows.placeWaysRow.unfollowed == Tryz.pinned.checked.prog.unfollowed 14)) = true := by kernel_rfl

theorem k12 : ((Rows.placeWaysRow.recurses == Tryz.pinned.checked.prog.recurses 14)) = true := by kernel_rfl

theorem k13 : ((Rows.placeWaysRow.named == Tryz.pinned.checked.prog.varsNamed 14)) = true := by kernel_rfl

theorem k14 : ((Rows.placeWaysRow.maps == (Tryz.f14.params.toList ++ Rows.placeWaysSpec.plain.varTypes Tryz.pinned.checked.prog).any (Tryz.pinned.checked.prog.mapsRec ·))) = true := by kernel_rfl

theorem k15 : ((Rows.placeWaysRow.ifaces == (Tryz.f14.params.toList ++ Rows.placeWaysSpec.plain.varTypes Tryz.pinned.checked.prog).any (Tryz.pinned.checked.prog.ifacesRec ·))) = true := by kernel_rfl

theorem k16 : ((Rows.placeWaysRow.mapsOut == Tryz.pinned.checked.prog.mapsAmong Tryz.f14.resultTypes.toList)) = true := by kernel_rfl

end Go.Proofs.YtjjcoiicikaaiaaGreat.placeWays
end

section

namespace Go.Proofs.YtjjcoiicikaaiaaGreat.placeWays

open Go Go.Proofs

theorem and2 {a b : Bool} (ha : a = true) (hb : b = true) : (a && b) = true := by rw [ha, hb]; rfl

theorem k17 : ((Rows.placeWaysRow.loops == (Tryz.f14.params.toList ++ Rows.placeWaysSpec.plain.varTypes Tryz.pinned.checked.prog).any (Tryz.pinned.checked.prog.loopsFrom ·))) = true := by kernel_rfl

theorem k17b : ((Rows.placeWaysRow.wideKeys == (Tryz.f14.params.toList ++ Rows.placeWaysSpec.plain.varTypes Tryz.pinned.checked.prog ++ Tryz.f14.resultTypes.toList).any (Tryz.pinned.checked.prog.wideKeysFrom ·))) = true := by kernel_rfl

theorem k18 : (Rows.placeWaysSpec.vars.all (Tryz.pinned.checked.prog.varReadable ·)) = true := by kernel_rfl

theorem k19 : (Tryz.f14.resultTypes.all (fun t => Tryz.pinned.checked.prog.readableRec t && decide (t < Tryz.pinned.checked.prog.types.size))) = true := by kernel_rfl

theorem k20 : ((Rows.placeWaysRow.ifacesOut == Tryz.f14.resultTypes.toList.any (Tryz.pinned.checked.prog.ifacesRec ·))) = true := by kernel_rfl

theorem k21 : ((Rows.placeWaysRow.loopsOut == Tryz.f14.resultTypes.toList.any (Tryz.pinned.checked.prog.loopsFrom ·))) = true := by kernel_rfl

theorem k22 : ((Rows.placeWaysRow.plainKeys == Tryz.pinned.checked.prog.plainKeys)) = true := by kernel_rfl

theorem k23 : (Rows.placeWaysRow.shortTexts.isNone) = true := by kernel_rfl

theorem k23b : (Tryz.pinned.checked.prog.stopsHeard) = true := by kernel_rfl

theorem k24 : (Tryz.pinned.checked.prog.mayEnter) = true := by kernel_rfl

theorem k24b : ((Rows.placeWaysRow.lifted == Tryz.pinned.checked.prog.liftsFinal)) = true := by kernel_rfl

theorem k24c : ((Tryz.pinned.checked.prog.make == some Rows.placeWaysRow.make)) = true := by kernel_rfl

theorem k25 : ((Rows.placeWaysRow.kinds == (if Rows.placeWaysRow.domain.isEmpty then [] else Tryz.f14.params.toList.map fun t => match Tryz.pinned.checked.prog.underlying t with | some (.int k) => some k | _ => none))) = true := by kernel_rfl

theorem k26 : ((Rows.placeWaysRow.pinned == Rows.placeWaysRow.pinnedBy)) = true := by kernel_rfl

theorem k27 : ((Rows.placeWaysRow.veiled == (Tryz.f14.params.toList ++ Rows.placeWaysSpec.plain.varTypes Tryz.pinned.checked.prog ++ Tryz.f14.resultTypes.toList).any (Tryz.pinned.checked.prog.veiledRec ·))) = true := by kernel_rfl

theorem k28 : (Rows.placeWaysRow.veiledFits Tryz.pinned.checked.prog Tryz.f14.params.toList (Tryz.f14.params.toList ++ Rows.placeWaysSpec.plain.varTypes Tryz.pinned.checked.prog ++ Tryz.f14.resultTypes.toList)) = true := by kernel_rfl

theorem named : Tryz.pinned.checked.prog.funcNamed Rows.placeWaysRow.func = some 14 := by kernel_rfl

theorem inst : Tryz.f14.isInstance Tryz.pinned.checked.prog Rows.placeWaysRow.origin Rows.placeWaysRow.targs := of_decide_eq_true (by kernel_rfl)

theorem wrap : Tryz.f14.isWrapper Tryz.pinned.checked.prog Rows.placeWaysRow.wrapper Rows.placeWaysRow.mainSum := by unfold Func.isWrapper; first | (rw [if_pos (by decide +kernel)]; kernel_rfl) | (rw [if_neg (by decide +kernel)]; exact ⟨rfl, rfl⟩)

end Go.Proofs.YtjjcoiicikaaiaaGreat.placeWays
end

section

namespace Go.Gm

open Go Go.Vx

def defE (d : Nat) : Ent := .obj d (.deferred (some []))

theorem _root_.Go.Vx.AtS.nil_eq {H S : HP} {Z : HP → HP} (h : AtS H S Z) : S = [] → H = Z [] := by
 induction h with
 | here => intro e; subst e; rfl
 | last => intro e; subst e; rfl
 | there h ih => intro e; show _ :: _ = _ :: _; rw [ih e]
 | app h ih => intro e; show _ ++ _ = _ ++ _; rw [ih e]

theorem _root_.Go.Vx.AtS.uncons {H X : HP} {Z : HP → HP} (h : AtS H X Z) : ∀ {x : Ent} {S : HP}, X = x :: S → ∃ u r Z', At H x u r ∧ AtS r S Z' ∧ Z' [] = Z [] := by
 induction h with
 | @here S' R => intro x S e; subst e; exact ⟨_, S ++ R, fun S' => S' ++ R, .here, .here, rfl⟩
 | last => intro x S e; subst e; exact ⟨_, S, fun S' => S', .here, .last, rfl⟩
 | @there H0 S' Z0 z h ih =>
  intro x S e
  obtain ⟨u, r, Z', h1, h2, h3⟩ := ih e
  exact ⟨_, z :: r, fun S' => z :: Z' S', .there h1, .there h2, by show z :: Z' [] = z :: Z0 []; rw [h3]⟩
 | @app H0 S' Z0 A h ih =>
  intro x S e
  obtain ⟨u, r, Z', h1, h2, h3⟩ := ih e
  exact ⟨_, A ++ r, fun S' => A ++ Z' S', At.app A h1, .app h2, by show A ++ Z' [] = A ++ Z0 []; rw [h3]⟩

theorem unE_is {DD : List Nat} {H : HP} {k : HP → Prop} (h : unE (DD.map markV) H k) : unE (DD.map markV) H k := h

theorem unE_marks : ∀ {DD : List Nat} {H : HP} {Z : HP → HP} {k : HP → Prop}, AtS H (DD.map defE) Z → k (Z []) → unE (DD.map markV) H k
 | [], H, Z, k, h, hk => by
  rw [← h.nil_eq rfl] at hk
  exact hk
 | d :: DD, H, Z, k, h, hk => by
  obtain ⟨u, r, Z', h1, h2, h3⟩ := h.uncons rfl
  show VUn H d _
  refine .mk h1 ?_
  rw [← h3] at hk
  exact unE_marks h2 hk

theorem _root_.Go.Vx.VCall.le {P : Program} {w0 : World} {M : List Nat} {H H' : HP} {f : Nat} {args : List Value} {K : Value → HP → Prop} (hl : HLe H' H) (h : VCall P w0 M H' f args K) : VCall P w0 M H f args K := by
 cases h with
 | mk h => exact .mk fun w hw => h w (hw.le hl)

theorem _root_.Go.Vx.VYield.weak {P : Program} {w0 : World} {M : List Nat} {H H' : HP} {l : Nat} {args : List Value} {K : Value → HP → Prop} (hl : HLe H' H) (h : VYield P w0 M H' l args K) : VYield P w0 M H l args K := by
 cases h with
 | mk h => exact .mk fun w hw => h w (hw.le hl)

theorem _root_.Go.Vx.VYield.mono {P : Program} {w0 : World} {M : List Nat} {H : HP} {l : Nat} {args : List Value} {K K' : Value → HP → Prop} (h : VYield P w0 M H l args K) (hk : ∀ r H', K r H' → K' r H') : VYield P w0 M H l args K' := by
 cases h with
 | mk h =>
  refine .mk fun w hw => ?_
  obtain ⟨fn, tmps, asg, bd, h1, h2⟩ := h w hw
  exact ⟨fn, tmps, asg, bd, h1, h2.mono fun e w' ⟨v, H', g1, g2, g3⟩ => ⟨v, H', g1, g2, hk v H' g3⟩⟩

theorem _root_.Go.Vx.VYield.hle {P : Program} {w0 : World} {M : List Nat} {H : HP} {l : Nat} {args : List Value} {K : Value → HP → Prop} (h : VYield P w0 M H l args fun v H' => ∃ H'', HLe H'' H' ∧ K v H'') : VYield P w0 M H l args K := by
 cases h with
 | mk h =>
  refine .mk fun w hw => ?_
  obtain ⟨fn, tmps, asg, bd, h1, h2⟩ := h w hw
  exact ⟨fn, tmps, asg, bd, h1, h2.mono fun e w' ⟨v, H', g1, g2, H'', g3, g4⟩ => ⟨v, H'', g1, g2.le g3, g4⟩⟩

theorem _root_.Go.Vx.VCall.hle {P : Program} {w0 : World} {M : List Nat} {H : HP} {f : Nat} {args : List Value} {K : Value → HP → Prop} (h : VCall P w0 M H f args fun v H' => ∃ H'', HLe H'' H' ∧ K v H'') : VCall P w0 M H f args K := by
 obtain ⟨h⟩ := h
 exact .mk fun w hw => (h w hw).mono fun e w' ⟨v, H', he, hw', H'', hl, hk⟩ => ⟨v, H'', he, hw'.le hl, hk⟩

theorem bits_or {a b : Nat} (ha : a < 2 ^ 63) (hb : b < 2 ^ 63) : bitsI .or .i64 (a : Int) (b : Int) = ((a ||| b : Nat) : Int) := by
 unfold bitsI
 dsimp only
 have hbb : IntKind.i64.bits = 64 := rfl
 have h1 : (BitVec.ofInt IntKind.i64.bits (a : Int) ||| BitVec.ofInt IntKind.i64.bits (b : Int)).toNat = a ||| b := by
  rw [BitVec.toNat_or]
  have e1 : (BitVec.ofInt IntKind.i64.bits (a : Int)).toNat = a := by rw [BitVec.toNat_ofInt, hbb]; omega
  have e2 : (BitVec.ofInt IntKind.i64.bits (b : Int)).toNat = b := by rw [BitVec.toNat_ofInt, hbb]; omega
  rw [e1, e2]
 have h2 : a ||| b < 2 ^ 63 := Nat.or_lt_two_pow ha hb
 rw [h1, wrap_i64 (by omega) (by omega)]

theorem _root_.Go.Vx.VBit.or {a b : Int} {k : Int → Prop} (ha : 0 ≤ a ∧ a ≤ 4611686018427387904) (hb : 0 ≤ b ∧ b ≤ 4611686018427387904) (hk : k ((a.toNat ||| b.toNat : Nat) : Int)) : VBit .or .i64 a b k := by
 refine .mk ?_
 have := bits_or (a := a.toNat) (b := b.toNat) (by omega) (by omega)
 rw [Int.toNat_of_nonneg ha.1, Int.toNat_of_nonneg hb.1] at this
 rw [this]
 exact hk

end Go.Gm
end
