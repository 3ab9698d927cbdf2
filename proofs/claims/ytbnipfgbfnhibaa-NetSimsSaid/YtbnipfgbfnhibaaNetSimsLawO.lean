/- LawO: NetOne, walked. -/

import Derived.Test.YtbnipfgbfnhibaaNetSimsLawH
import Derived.Test.YtbnipfgbfnhibaaNetSimsOne
import Derived.Test.YtbnipfgbfnhibaaNetSimsImg
import Derived.Test.YtbnipfgbfnhibaaNetSimsRs
import Derived.Test.YtbnipfgbfnhibaaNetSimsBig

set_option linter.unusedVariables false

set_option linter.unusedSimpArgs false

namespace Go.Proofs

open Go Go.Vx Go.Gm

/-- What is known of a simulation behind some ticks of a run. -/
structure Behind1 (N : Net) (l : List Evt) (t : Nat) (y : SimM) : Prop where
  run : SimRun y
  net : y.N = N
  tick : y.tick = t
  st : smOf y = stAt N l t

/-- The rows of an image as slices. -/
def imgL (y : ImgM) : List (SlD Int) := y.D.map fun d => ⟨some ⟨d.g, 0, none⟩, d.cap, d.l⟩

theorem imgL_flat (D : List DRow) : flat slVs (D.map fun d => (⟨some ⟨d.g, 0, none⟩, d.cap, d.l⟩ : SlD Int)) = flat drowVs D := by
  induction D with
  | nil => rfl
  | cons d D ih =>
    have h1 : flat slVs ((d :: D).map fun d => (⟨some ⟨d.g, 0, none⟩, d.cap, d.l⟩ : SlD Int)) = [drowV d] ++ flat slVs (D.map fun d => (⟨some ⟨d.g, 0, none⟩, d.cap, d.l⟩ : SlD Int)) := by simp [flat, slVs, slV, drowV]
    rw [h1, ih]
    simp [flat, drowVs]

theorem res_some {N : Net} {tick : Int} {sts : List Sta} {rows : List (List Int)} {z : Option SimM} (h0 : resErr N tick sts rows = 0) (h : resP N tick sts rows z) : ∃ y, z = some y ∧ ResSim N tick sts rows y := by
  cases z with
  | none => exact absurd h0 h
  | some y => exact ⟨y, rfl, h.2⟩

theorem resume_img (N : Net) (hN : N.wf) (im : ImgM) (htk : I64 im.tick) (hsw : ∀ s ∈ im.sts, s.wf) (hsl : im.sts.length < 9223372036854775807) (hDl : im.D.length < 9223372036854775807) (hLi : ∀ d ∈ im.D, (∀ k ∈ d.l, I64 k) ∧ d.l.length < 9223372036854775807)
    (pn : Option Addr) (cn bn on : Nat) (qs : Option Addr) (cs bs os : Nat) {w0 : World} {M : List Nat} {H : HP} (w : World) (hw : St w0 M H w) (hle : HLe (imgH im) H)
    (h1 : Sl w parV 8 N.ps pn N.ps.length bn on) (h2 : Sl w synV 4 N.syns qs N.syns.length bs os) :
    Calls Try.prog 38 #[.agg #[.slice pn N.ps.length cn, .int .i64 N.inputs, .slice qs N.syns.length cs], imgV im] w fun e w' => ∃ y : Option SimM,
      e = .returned (.tuple #[resV y, .int .i64 (resErr N im.tick im.sts (im.D.map (·.l)))]) ∧ resP N im.tick im.sts (im.D.map (·.l)) y ∧ St w [] (resG y) w' := by
  have hs := hw.le hle
  have hL : (imgL im).length = im.D.length := List.length_map _
  have hR : rowsOf (imgL im) = im.D.map (·.l) := by unfold rowsOf imgL; rw [List.map_map]; rfl
  obtain ⟨b3, h3⟩ := Sl.own hs (f := staV) (l := im.sts) (n := im.sts.length) (k := 2) (p := im.sp) .here (fun _ => rfl) rfl
  obtain ⟨b4, h4⟩ := Sl.own hs (f := slVs) (l := imgL im) (n := im.D.length) (k := 1) (p := im.dp) (cap := im.dc) (e := 46) (by unfold imgL; rw [imgL_flat]; exact .there .here) (fun _ => rfl) hL
  have h := Resume_any N hN im.tick htk im.sts hsw hsl (imgL im) (by rw [hL]; exact hDl) (fun d hd => by
      obtain ⟨d0, h0, rfl⟩ := List.mem_map.1 hd
      exact hLi d0 h0) pn cn bn on qs cs bs os im.sp im.sc b3 0 im.dp im.dc b4 0 w h1 h2 h3 (by rw [hL]; exact h4) (fun d hd => by
      obtain ⟨d0, h0, rfl⟩ := List.mem_map.1 hd
      exact ⟨d0.g, 0, Sl.own' (cap := d0.cap) (e := 3) hs (by simp only [imgH, List.mem_cons]; exact .inr (.inr (List.mem_map_of_mem h0))) (fun _ => rfl) rfl⟩)
  rw [hR, hL] at h
  exact h

theorem Behind1.start {N : Net} (l : List Evt) {x : SimM} (hx : SimOk x) (hxN : x.N = N) (hxt : x.tick = 0) (hxs : x.sts = List.replicate N.ps.length ⟨0, 0⟩) (hxD : x.D.map (·.l) = List.replicate 16 (List.replicate N.ps.length 0)) : Behind1 N l 0 x := by
  refine ⟨⟨hx, ?_, by omega⟩, hxN, hxt, ?_⟩
  · intro i p s g1 g2
    rw [hxs, List.getElem?_replicate] at g2
    split at g2
    · cases g2
      have := (hx.net.ps p (List.mem_of_getElem? g1))
      have h1 := this.fl
      have h2 := this.rest
      unfold staOk
      dsimp only
      omega
    · cases g2
  · show smOf x = sm0 N
    unfold smOf sm0
    rw [hxs, hxD]

end Go.Proofs
