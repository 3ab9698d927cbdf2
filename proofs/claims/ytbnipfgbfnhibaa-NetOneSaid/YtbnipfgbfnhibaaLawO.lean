/- LawO: NetOne, walked. -/
import Derived.Test.YtbnipfgbfnhibaaLawH
import Derived.Test.YtbnipfgbfnhibaaOne
import Derived.Test.YtbnipfgbfnhibaaImg
import Derived.Test.YtbnipfgbfnhibaaRs
import Derived.Test.YtbnipfgbfnhibaaBig
set_option linter.unusedVariables false
set_option linter.unusedSimpArgs false
namespace Go.Proofs
open Go Go.Vx Go.Gm

/-- What is known of a simulation behind some ticks of a run. -/
structure Behind1 (N : Net) (l : List Evt) (t : Nat) (y : SimM) : Prop where
  run : SimRun y
  net : y.N = N
  tick : y.tick = t
  st : smOf y = stAt N l t

theorem _root_.Go.Vx.Src.vecO {α : Type} {f : α → List Value} {k : Nat} {l : List α} {w0 : World} {M : List Nat} {H r : HP} {u : Ent → HP} {p : Option Addr} {n cap e : Nat} (hp : (∃ g, p = some ⟨g, 0, none⟩) ∨ (p = none ∧ n = 0)) (hat : At H (.vec p n cap e k (flat f l)) u r) (hk : ∀ x, (f x).length = k) (hl : l.length = n) : Src w0 M H p n k (flat f l) := by
  rcases hp with ⟨g, rfl⟩ | ⟨rfl, rfl⟩
  · refine .at_ (.vec hat ?_)
    have hfl : (flat f l).length = n * k := by rw [flat_length hk, hl]
    rw [sub_mk _ _ _ (by omega), List.drop_zero, List.take_of_length_le (by omega)]
  · have : l = [] := List.eq_nil_of_length_eq_zero hl
    subst this
    exact .empty

theorem steps_call {w0 : World} {M : List Nat} {H : HP} {Z : HP → HP} {K : Value → HP → Prop} (x : SimM) (N : Net) (l : List Evt) (a n : Nat) (hx : Behind1 N l a x) {limit : Int} (hl : EvOk N.inputs limit l) (hlim : limit ≤ 1073741824) (hn : a + n ≤ 10000) (hout : (seg N l a n).length ≤ 65536) (pe : Option Addr) (ce be oe : Nat)
    (v : Int) (hv : v = (n : Int)) (hat : AtS H (ownH x) Z) (hle : HLe (ownH x ++ shrH x) H) (h3 : Sl w0 evtV 2 l pe l.length be oe) (hM : be ∉ M)
    (hk : ∀ y p c, Behind1 N l (a + n) y → y.b = x.b → shrH y = shrH x → ((∃ g, p = some ⟨g, 0, none⟩) ∨ (p = none ∧ (seg N l a n).length = 0)) → K (.tuple #[.slice p (seg N l a n).length c, .bool true]) (.vec p (seg N l a n).length c 44 2 (flat evtV (seg N l a n)) :: Z (ownH y))) :
    VCall Try.cx.P w0 M H 47 [.pointer (some ⟨x.b, 0, none⟩), .slice pe l.length ce, .int .i64 v] K := by
  subst hv
  obtain ⟨hr, rfl, rfl, hs⟩ := hx
  refine VCall.turnV (α := SimM × Option Addr × Nat) (fun y => .tuple #[.slice y.2.1 (seg x.N l x.tick n).length y.2.2, .bool true]) (fun y => (SimRun y.1 ∧ y.1.N = x.N ∧ y.1.b = x.b ∧ shrH y.1 = shrH x ∧ y.1.tick = x.tick + n ∧ smOf y.1 = stAt x.N l (x.tick + n)) ∧ ((∃ g, y.2.1 = some ⟨g, 0, none⟩) ∨ (y.2.1 = none ∧ (seg x.N l x.tick n).length = 0))) (fun y => ownH y.1) (fun y => [.vec y.2.1 (seg x.N l x.tick n).length y.2.2 44 2 (flat evtV (seg x.N l x.tick n))]) hat (fun w hw hs1 => ?_) (fun y ⟨hy, hp⟩ => hk y.1 y.2.1 y.2.2 ⟨hy.1, hy.2.1, hy.2.2.2.2.1, hy.2.2.2.2.2⟩ hy.2.2.1 hy.2.2.2.1 hp)
  obtain ⟨b', off', h2, hb⟩ := h3.oldOut hM hw (S := ownH x) (HLe.last hat) (fun _ => rfl) (by omega)
  have hsh : ShOk w (ids (ownH x)) x := ShOk.of (hw.le hle) .here hr.ok.rows (fun y hy => by simpa using hy)
  refine (steps_any x hr l hl hlim n hn hs hout pe ce b' off' w hs1 hsh h2 hb).mono fun e w' ⟨y, he, hy, hy2⟩ => ⟨y, he, ⟨hy, ?_⟩, hy2⟩
  rcases vec_some_nil hy2 (List.mem_append_right _ (List.mem_singleton.2 rfl)) with h | ⟨h, h', _⟩
  · exact .inl h
  · exact .inr ⟨h, h'⟩

/-- The rows of an image as slices. -/
def imgL (y : ImgM) : List (SlD Int) := y.D.map fun d => ⟨some ⟨d.g, 0, none⟩, d.cap, d.l⟩

theorem imgL_flat (D : List DRow) : flat slVs (D.map fun d => (⟨some ⟨d.g, 0, none⟩, d.cap, d.l⟩ : SlD Int)) = flat drowVs D := by
  induction D with
  | nil => rfl
  | cons d D ih =>
    have h1 : flat slVs ((d :: D).map fun d => (⟨some ⟨d.g, 0, none⟩, d.cap, d.l⟩ : SlD Int)) = [drowV d] ++ flat slVs (D.map fun d => (⟨some ⟨d.g, 0, none⟩, d.cap, d.l⟩ : SlD Int)) := by simp [flat, slVs, slV, drowV]
    rw [h1, ih]
    simp [flat, drowVs]

theorem rot_inj {t : Nat} {A B : List (List Int)} (hA : A.length = 16) (hB : B.length = 16) (h : rot t A = rot t B) : A = B := by
  apply List.ext_getElem?
  intro i
  rcases Nat.lt_or_ge i 16 with hi | hi
  · have h1 := congrArg (fun l => l[(i + 16 * (t / 16 + 1) - t) % 16]?) h
    simp only [rot_get] at h1
    have e : (t + (i + 16 * (t / 16 + 1) - t) % 16) % 16 = i := by omega
    rw [if_pos (by omega), if_pos (by omega), e, List.getElem?_eq_getElem (by omega), List.getElem?_eq_getElem (by omega)] at h1
    simp only [Option.getD_some, Option.some.injEq] at h1
    rw [List.getElem?_eq_getElem (by omega), List.getElem?_eq_getElem (by omega), h1]
  · rw [List.getElem?_eq_none (by omega), List.getElem?_eq_none (by omega)]

theorem res_some {N : Net} {tick : Int} {sts : List Sta} {rows : List (List Int)} {z : Option SimM} (h0 : resErr N tick sts rows = 0) (h : resP N tick sts rows z) : ∃ y, z = some y ∧ ResSim N tick sts rows y := by
  cases z with
  | none => exact absurd h0 h
  | some y => exact ⟨y, rfl, h.2⟩

theorem resume_img (N : Net) (hN : N.wf) (im : ImgM) (htk : I64 im.tick) (hsw : ∀ s ∈ im.sts, s.wf) (hsl : im.sts.length < 9223372036854775807) (hDl : im.D.length < 9223372036854775807) (hLi : ∀ d ∈ im.D, (∀ k ∈ d.l, I64 k) ∧ d.l.length < 9223372036854775807)
    (pn : Option Addr) (cn bn on : Nat) (qs : Option Addr) (cs bs os : Nat) {w0 : World} {M : List Nat} {H : HP} (w : World) (hw : St w0 M H w) (hle : HLe (imgH im) H)
    (h1 : Sl w parV 8 N.ps pn N.ps.length bn on) (h2 : Sl w synV 4 N.syns qs N.syns.length bs os) :
    Calls Try.prog 38 #[.agg #[.slice pn N.ps.length cn, .int .i64 N.inputs, .slice qs N.syns.length cs], imgV im] w fun e w' => ∃ y : Option SimM,
      e = .returned (.tuple #[resV y, .int .i64 (resErr N im.tick im.sts (im.D.map (·.l)))]) ∧ resP N im.tick im.sts (im.D.map (·.l)) y ∧ St w [] (resG y) w' := by
  have hs := hw.le hle
  have hL : (imgL im).length = im.D.length := List.length_map _
  have hR : rowsOf (imgL im) = im.D.map (·.l) := by unfold rowsOf imgL; rw [List.map_map]; rfl
  obtain ⟨b3, h3⟩ := Sl.own hs (f := staV) (l := im.sts) (n := im.sts.length) (k := 2) (p := im.sp) .here (fun _ => rfl) rfl
  obtain ⟨b4, h4⟩ := Sl.own hs (f := slVs) (l := imgL im) (n := im.D.length) (k := 1) (p := im.dp) (cap := im.dc) (e := 46) (by unfold imgL; rw [imgL_flat]; exact .there .here) (fun _ => rfl) hL
  have h := Resume_any N hN im.tick htk im.sts hsw hsl (imgL im) (by rw [hL]; exact hDl) (fun d hd => by
      obtain ⟨d0, h0, rfl⟩ := List.mem_map.1 hd
      exact hLi d0 h0) pn cn bn on qs cs bs os im.sp im.sc b3 0 im.dp im.dc b4 0 w h1 h2 h3 (by rw [hL]; exact h4) (fun d hd => by
      obtain ⟨d0, h0, rfl⟩ := List.mem_map.1 hd
      exact ⟨d0.g, 0, Sl.own' (cap := d0.cap) (e := 3) hs (by simp only [imgH, List.mem_cons]; exact .inr (.inr (List.mem_map_of_mem h0))) (fun _ => rfl) rfl⟩)
  rw [hR, hL] at h
  exact h

theorem Behind1.start {N : Net} (l : List Evt) {x : SimM} (hx : SimOk x) (hxN : x.N = N) (hxt : x.tick = 0) (hxs : x.sts = List.replicate N.ps.length ⟨0, 0⟩) (hxD : x.D.map (·.l) = List.replicate 16 (List.replicate N.ps.length 0)) : Behind1 N l 0 x := by
  refine ⟨⟨hx, ?_, by omega⟩, hxN, hxt, ?_⟩
  · intro i p s g1 g2
    rw [hxs, List.getElem?_replicate] at g2
    split at g2
    · cases g2
      have := (hx.net.ps p (List.mem_of_getElem? g1))
      have h1 := this.fl
      have h2 := this.rest
      unfold staOk
      dsimp only
      omega
    · cases g2
  · show smOf x = sm0 N
    unfold smOf sm0
    rw [hxs, hxD]

theorem drv_of_run {N : Net} {l : List Evt} {ticks : Int} (h : (runRes N l ticks).2 = 0) : NetOk N ∧ (0 ≤ ticks ∧ ticks ≤ 10000) ∧ EvOk N.inputs 10000 l ∧ (outTo N l ticks.toNat).length ≤ 65536 ∧ runRes N l ticks = (outTo N l ticks.toNat, 0) ∧ drvRes N l ticks = (outTo N l ticks.toNat, 0) := by
  have h0 : prepErr N l ticks 10000 = 0 := by
    by_cases hp : prepErr N l ticks 10000 = 0
    · exact hp
    · unfold runRes at h; rw [if_pos hp] at h; exact absurd h hp
  obtain ⟨h1, h2, h3⟩ := prep_zero.1 h0
  have he := runRes_eq h0
  have hlen : (outTo N l ticks.toNat).length ≤ 65536 := by
    rcases Nat.lt_or_ge 65536 (outTo N l ticks.toNat).length with hh | hh
    · rw [he, if_pos hh] at h; cases h
    · exact hh
  rw [if_neg (by omega)] at he
  refine ⟨h1, h2, h3, hlen, he, ?_⟩
  have hd : prepErr N l ticks 1073741824 = 0 := prep_zero.2 ⟨h1, by omega, ⟨h3.few, fun x hx => by have := h3.range x hx; omega, h3.sorted⟩⟩
  unfold drvRes
  rw [if_neg (by omega), if_neg (by omega)]

theorem NetOne_any (N : Net) (hN : N.wf) (l : List Evt) (hl : ∀ x ∈ l, x.wf) (ticks : Int) (x3 : Nat) (hx3 : x3 < 65536) (pn : Option Addr) (cn bn on : Nat) (qs : Option Addr) (cs bs os : Nat) (pe : Option Addr) (ce be oe : Nat) (w : World)
    (h1 : Sl w parV 8 N.ps pn N.ps.length bn on) (h2 : Sl w synV 4 N.syns qs N.syns.length bs os) (h3 : Sl w evtV 2 l pe l.length be oe) (hce : l.length ≤ ce) :
    Calls Try.prog 14 #[.agg #[.slice pn N.ps.length cn, .int .i64 N.inputs, .slice qs N.syns.length cs], .slice pe l.length ce, .int .i64 ticks, .int .u16 (x3 : Int)] w fun e w' => e = .returned (.bool true) ∧ St w [] [] w' := by
  refine enter (C := Try.cx) (F := Try.fx14) (args := [_, _, _, _]) Try.func14 rfl rfl rfl Try.ok14 (St.start w []) ?_
  refine VSeq.go ?_
  repeat' (conv => whnf); first | (refine VB.is ?_; refine VB.yes (by omega) fun _ => ?_) | (refine VB.is ?_; refine VB.no (by omega) fun _ => ?_) | (refine VB.is ?_; refine VB.split (fun _ => ?_) (fun _ => ?_)) | (refine boolE_split (fun h => ?_) (fun h => ?_) <;> subst h) | (refine VLd.is ?_; refine VLd.mk (.row (by repeat (first | exact aT0 | apply aT1 | with_reducible apply aT2 | with_reducible apply aT3)) (by rfl)) ?_) | (refine VSt.is ?_; refine VSt.row (by repeat (first | exact aT0 | apply aT1 | with_reducible apply aT2 | with_reducible apply aT3)) (by rfl) (by first | rfl | assumption) ?_) | (refine VNew.is ?_; refine VNew.mk fun _ => ?_) | (refine VAr.is ?_; refine VAr.i64 (by omega) (by omega) ?_) | (refine VIx.is ?_; refine VIx.mk rfl (by omega) (by omega) ?_) | (refine VKeep.is ?_; refine VKeep.mk (by repeat (first | exact HLe.nil | exact HLe.refl _ | refine HLe.nilv ?_ | (with_reducible refine HLe.seg ?_ ?_; (focus (repeat (first | with_reducible exact sT0 | with_reducible exact sT1 | exact sT2 | apply sT3 | with_reducible apply sT4 | with_reducible apply sT5)))) | refine HLe.cons (by repeat (first | exact aT0 | apply aT1 | with_reducible apply aT2 | with_reducible apply aT3)) ?_ | refine HLe.seg (by repeat (first | with_reducible exact sT0 | with_reducible exact sT1 | exact sT2 | apply sT3 | with_reducible apply sT4 | with_reducible apply sT5)) ?_ | exact HLe.last (by repeat (first | with_reducible exact sT0 | with_reducible exact sT1 | exact sT2 | apply sT3 | with_reducible apply sT4 | with_reducible apply sT5)))) ?_) | (refine VHs.is ?_; refine VHs.mk _ (HLe.refl _) ?_) | (refine VQ.is ?_; refine VQ.pos (by omega) (by omega) (by omega) ?_) | (refine VM.is ?_; refine VM.pos (by omega) (by omega) ?_) | (refine And.intro ?_ ?_)
  all_goals (conv => whnf)
  rename_i b4
  repeat' (conv => whnf); first | (refine VCall.isF 27 ?_; (refine VCall.genR (fun w' hw' => run_any N hN l hl ticks _ _ _ _ _ _ _ _ _ _ _ _ w' (h1.keep hw' (by simp)) (h2.keep hw' (by simp)) (h3.keep hw' (by simp)) hce) ?_; rintro ⟨p1, c1, b⟩ hb; dsimp only at hb)) | (refine VCall.isF 18 ?_; refine VCall.val (fun w' => works_any _) ?_) | (refine VSeq.is ?_; refine VSeq.cut (at_ := 4) (α := Option Addr × Nat) (fun _ => (runRes N l ticks).2 = 0 ∧ 0 ≤ ticks ∧ ticks ≤ 300) (fun y => [(1000000, .tuple #[]), (1, .slice pe l.length ce), (2, .int .i64 ticks), (3, .int .u16 (x3 : Int)), (4, .pointer (some ⟨b4, 0, none⟩)), (9, .slice y.1 (runRes N l ticks).1.length y.2)]) (fun y => [.row b4 25 [.slice pn N.ps.length cn, .int .i64 N.inputs, .slice qs N.syns.length cs], .vec y.1 (runRes N l ticks).1.length y.2 44 2 (flat evtV (runRes N l ticks).1)]) ?_ ?_) | (refine VSeq.is ?_; refine VSeq.go ?_) | (refine VB.is ?_; refine VB.yes (by omega) fun _ => ?_) | (refine VB.is ?_; refine VB.no (by omega) fun _ => ?_) | (refine VB.is ?_; refine VB.split (fun _ => ?_) (fun _ => ?_)) | (refine boolE_split (fun h => ?_) (fun h => ?_) <;> subst h) | (refine VLd.is ?_; refine VLd.mk (.row (by repeat (first | exact aT0 | apply aT1 | with_reducible apply aT2 | with_reducible apply aT3)) (by rfl)) ?_) | (refine VSt.is ?_; refine VSt.row (by repeat (first | exact aT0 | apply aT1 | with_reducible apply aT2 | with_reducible apply aT3)) (by rfl) (by first | rfl | assumption) ?_) | (refine VNew.is ?_; refine VNew.mk fun _ => ?_) | (refine VAr.is ?_; refine VAr.i64 (by omega) (by omega) ?_) | (refine VIx.is ?_; refine VIx.mk rfl (by omega) (by omega) ?_) | (refine VKeep.is ?_; refine VKeep.mk (by repeat (first | exact HLe.nil | exact HLe.refl _ | refine HLe.nilv ?_ | (with_reducible refine HLe.seg ?_ ?_; (focus (repeat (first | with_reducible exact sT0 | with_reducible exact sT1 | exact sT2 | apply sT3 | with_reducible apply sT4 | with_reducible apply sT5)))) | refine HLe.cons (by repeat (first | exact aT0 | apply aT1 | with_reducible apply aT2 | with_reducible apply aT3)) ?_ | refine HLe.seg (by repeat (first | with_reducible exact sT0 | with_reducible exact sT1 | exact sT2 | apply sT3 | with_reducible apply sT4 | with_reducible apply sT5)) ?_ | exact HLe.last (by repeat (first | with_reducible exact sT0 | with_reducible exact sT1 | exact sT2 | apply sT3 | with_reducible apply sT4 | with_reducible apply sT5)))) ?_) | (refine VHs.is ?_; refine VHs.mk _ (HLe.refl _) ?_) | (refine VQ.is ?_; refine VQ.pos (by omega) (by omega) (by omega) ?_) | (refine VM.is ?_; refine VM.pos (by omega) (by omega) ?_) | (refine And.intro ?_ ?_)
  all_goals (conv => whnf)
  · obtain ⟨hb1, hb2⟩ := hb
    obtain ⟨r1, r2, r3, r4⟩ := hb1 rfl
    have hrl : runL N l ticks true = (runRes N l ticks).1 := rfl
    dsimp only
    rw [hrl]
    exact VMid.mk (p1, c1) ⟨r1, r3, r4⟩ (by repeat (first | exact trivial | refine ⟨rfl, ?_⟩)) (by repeat (first | exact HLe.nil | exact HLe.refl _ | refine HLe.nilv ?_ | (with_reducible refine HLe.seg ?_ ?_; (focus (repeat (first | with_reducible exact sT0 | with_reducible exact sT1 | exact sT2 | apply sT3 | with_reducible apply sT4 | with_reducible apply sT5)))) | refine HLe.cons (by repeat (first | exact aT0 | apply aT1 | with_reducible apply aT2 | with_reducible apply aT3)) ?_ | refine HLe.seg (by repeat (first | with_reducible exact sT0 | with_reducible exact sT1 | exact sT2 | apply sT3 | with_reducible apply sT4 | with_reducible apply sT5)) ?_ | exact HLe.last (by repeat (first | with_reducible exact sT0 | with_reducible exact sT1 | exact sT2 | apply sT3 | with_reducible apply sT4 | with_reducible apply sT5))))
  · exact ⟨fun w' hw' => ⟨rfl, hw'.le .nil⟩⟩
  rintro ⟨p1, c1⟩ ⟨hr0, ht0, ht1⟩
  obtain ⟨hNok, _, hev, hlen, hrun, hdrv⟩ := drv_of_run hr0
  obtain ⟨O, hO⟩ : ∃ O, outTo N l ticks.toNat = O := ⟨_, rfl⟩
  rw [hO] at hlen hrun hdrv
  have hOw : ∀ e ∈ O, e.wf := by
    rw [← hO]
    exact evt_wf_of (t := ticks.toNat) (n := N.ps.length) (by omega) (by have := hNok.few; omega) (outTo_range hNok l ticks.toNat)
  have hz : netchk N = 0 := netchk_zero.2 hNok
  rw [hrun]
  dsimp only
  obtain ⟨n, hn⟩ : ∃ n : Nat, ticks = (n : Int) := ⟨ticks.toNat, by omega⟩
  subst hn
  repeat' (conv => whnf); first | (refine VCall.isF 26 ?_; (refine VCall.genR (fun w' hw' => Driven_any N hN l hl (n : Int) _ _ _ _ _ _ _ _ _ _ _ _ w' (h1.keep hw' (by simp)) (h2.keep hw' (by simp)) (h3.keep hw' (by simp)) hce) ?_; rintro ⟨p2, c2⟩ _; rw [hdrv]; dsimp only)) | (refine VCall.isF 46 ?_; refine VCall.inl (F := Try.fx46) Try.func46 rfl rfl rfl Try.ok46 ?_) | (refine VCall.isF 19 ?_; (refine VCall.valR (fun w' hw' => Check_any N hN _ _ _ _ _ _ _ _ _ (h1.keep hw' (by simp)) (h2.keep hw' (by simp))) ?_; rw [hz])) | (refine VCall.is ?_; refine VCall.isF 59 ?_; refine VCall.genR (fun w' hw' => start_any N hNok _ _ _ _ _ _ _ _ _ (h1.keep hw' (by simp)) (h2.keep hw' (by simp))) ?_; rintro x ⟨hx, hxN, hxt, hxs, hxD⟩) | (refine VCall.isF 24 ?_; (refine same_call O O hOw hOw (by omega) _ _ _ _ _ _ _ _ rfl rfl (by repeat (first | exact aT0 | apply aT1 | with_reducible apply aT2 | with_reducible apply aT3)) (by repeat (first | exact aT0 | apply aT1 | with_reducible apply aT2 | with_reducible apply aT3)) ?_; intro r hr; have hr := hr.2 rfl; subst hr)) | (refine VSeq.is ?_; refine VSeq.cut (at_ := 11) (α := SimM × Nat) (fun y => Behind1 N l 0 y.1 ∧ y.2 ≤ n) (fun y => [(1000000, .tuple #[]), (1, .slice pe l.length ce), (2, .int .i64 (n : Int)), (4, .pointer (some ⟨b4, 0, none⟩)), (9, .slice p1 O.length c1), (13, .pointer (some ⟨y.1.b, 0, none⟩)), (15, .int .i64 (y.2 : Int))]) (fun y => .row b4 25 [.slice pn N.ps.length cn, .int .i64 N.inputs, .slice qs N.syns.length cs] :: .vec p1 O.length c1 44 2 (flat evtV O) :: (ownH y.1 ++ shrH y.1)) ?_ ?_) | (refine VSeq.is ?_; refine VSeq.go ?_) | (refine VB.is ?_; refine VB.yes (by omega) fun _ => ?_) | (refine VB.is ?_; refine VB.no (by omega) fun _ => ?_) | (refine VB.is ?_; refine VB.split (fun _ => ?_) (fun _ => ?_)) | (refine boolE_split (fun h => ?_) (fun h => ?_) <;> subst h) | (refine VLd.is ?_; refine VLd.mk (.row (by repeat (first | exact aT0 | apply aT1 | with_reducible apply aT2 | with_reducible apply aT3)) (by rfl)) ?_) | (refine VSt.is ?_; refine VSt.row (by repeat (first | exact aT0 | apply aT1 | with_reducible apply aT2 | with_reducible apply aT3)) (by rfl) (by first | rfl | assumption) ?_) | (refine VNew.is ?_; refine VNew.mk fun _ => ?_) | (refine VAr.is ?_; refine VAr.i64 (by omega) (by omega) ?_) | (refine VIx.is ?_; refine VIx.mk rfl (by omega) (by omega) ?_) | (refine VKeep.is ?_; refine VKeep.mk (by repeat (first | exact HLe.nil | exact HLe.refl _ | refine HLe.nilv ?_ | (with_reducible refine HLe.seg ?_ ?_; (focus (repeat (first | with_reducible exact sT0 | with_reducible exact sT1 | exact sT2 | apply sT3 | with_reducible apply sT4 | with_reducible apply sT5)))) | refine HLe.cons (by repeat (first | exact aT0 | apply aT1 | with_reducible apply aT2 | with_reducible apply aT3)) ?_ | refine HLe.seg (by repeat (first | with_reducible exact sT0 | with_reducible exact sT1 | exact sT2 | apply sT3 | with_reducible apply sT4 | with_reducible apply sT5)) ?_ | exact HLe.last (by repeat (first | with_reducible exact sT0 | with_reducible exact sT1 | exact sT2 | apply sT3 | with_reducible apply sT4 | with_reducible apply sT5)))) ?_) | (refine VHs.is ?_; refine VHs.mk _ (HLe.refl _) ?_) | (refine VQ.is ?_; refine VQ.pos (by omega) (by omega) (by omega) ?_) | (refine VM.is ?_; refine VM.pos (by omega) (by omega) ?_) | (refine And.intro ?_ ?_)
  all_goals (conv => whnf)
  · refine VMid.mk (x, x3 % n) ⟨Behind1.start l hx hxN hxt hxs hxD, ?_⟩ ?_ ?_
    · exact Nat.le_of_lt (Nat.mod_lt _ (by omega))
    · dsimp only
      rw [show ((x3 % n : Nat) : Int) = (x3 : Int) % (n : Int) by omega]
      repeat (first | exact trivial | refine ⟨rfl, ?_⟩)
    · unfold simH
      rw [List.append_assoc]
      repeat (first | exact HLe.nil | exact HLe.refl _ | refine HLe.nilv ?_ | (with_reducible refine HLe.seg ?_ ?_; (focus (repeat (first | with_reducible exact sT0 | with_reducible exact sT1 | exact sT2 | apply sT3 | with_reducible apply sT4 | with_reducible apply sT5)))) | refine HLe.cons (by repeat (first | exact aT0 | apply aT1 | with_reducible apply aT2 | with_reducible apply aT3)) ?_ | refine HLe.seg (by repeat (first | with_reducible exact sT0 | with_reducible exact sT1 | exact sT2 | apply sT3 | with_reducible apply sT4 | with_reducible apply sT5)) ?_ | exact HLe.last (by repeat (first | with_reducible exact sT0 | with_reducible exact sT1 | exact sT2 | apply sT3 | with_reducible apply sT4 | with_reducible apply sT5)))
  · refine VMid.mk (x, 0) ⟨Behind1.start l hx hxN hxt hxs hxD, by dsimp only; omega⟩ ?_ ?_
    · repeat (first | exact trivial | refine ⟨rfl, ?_⟩)
    · unfold simH
      rw [List.append_assoc]
      repeat (first | exact HLe.nil | exact HLe.refl _ | refine HLe.nilv ?_ | (with_reducible refine HLe.seg ?_ ?_; (focus (repeat (first | with_reducible exact sT0 | with_reducible exact sT1 | exact sT2 | apply sT3 | with_reducible apply sT4 | with_reducible apply sT5)))) | refine HLe.cons (by repeat (first | exact aT0 | apply aT1 | with_reducible apply aT2 | with_reducible apply aT3)) ?_ | refine HLe.seg (by repeat (first | with_reducible exact sT0 | with_reducible exact sT1 | exact sT2 | apply sT3 | with_reducible apply sT4 | with_reducible apply sT5)) ?_ | exact HLe.last (by repeat (first | with_reducible exact sT0 | with_reducible exact sT1 | exact sT2 | apply sT3 | with_reducible apply sT4 | with_reducible apply sT5)))
  rintro ⟨x, k⟩ ⟨hx, hk⟩
  dsimp only at hx hk ⊢
  have hseg : ∀ a m, a + m ≤ n → (seg N l a m).length ≤ 65536 := by
    intro a m hm
    have e1 := outTo_seg N l a m
    have e2 := outTo_mono N l hm
    rw [e1, List.length_append] at e2
    have e3 : (outTo N l n).length = O.length := by rw [← hO]; rfl
    omega
  have hon : O = seg N l 0 k ++ seg N l k (n - k) := by
    rw [← hO]
    have e1 := outTo_seg N l k (n - k)
    rw [show k + (n - k) = n by omega] at e1
    rw [seg_zero, ← e1]
    rfl
  repeat' (conv => whnf); first | (refine VCall.isF 47 ?_; (refine steps_call x N l 0 k hx hev (by omega) (by omega) (hseg 0 k (by omega)) pe ce be oe _ rfl (by repeat (first | with_reducible exact sT0 | with_reducible exact sT1 | exact sT2 | apply sT3 | with_reducible apply sT4 | with_reducible apply sT5)) (by repeat (first | exact HLe.nil | exact HLe.refl _ | refine HLe.nilv ?_ | (with_reducible refine HLe.seg ?_ ?_; (focus (repeat (first | with_reducible exact sT0 | with_reducible exact sT1 | exact sT2 | apply sT3 | with_reducible apply sT4 | with_reducible apply sT5)))) | refine HLe.cons (by repeat (first | exact aT0 | apply aT1 | with_reducible apply aT2 | with_reducible apply aT3)) ?_ | refine HLe.seg (by repeat (first | with_reducible exact sT0 | with_reducible exact sT1 | exact sT2 | apply sT3 | with_reducible apply sT4 | with_reducible apply sT5)) ?_ | exact HLe.last (by repeat (first | with_reducible exact sT0 | with_reducible exact sT1 | exact sT2 | apply sT3 | with_reducible apply sT4 | with_reducible apply sT5)))) h3 (by simp) ?_; intro y p3 c3 hy hyb hys hp3; rw [← hys])) | (refine VCall.is ?_; refine VCall.isF 42 ?_; rw [← hyb]; refine VCall.genR (fun w' hw' => Image_any y hy.run w' (SimRd.of hw' (by repeat (first | exact HLe.nil | exact HLe.refl _ | refine HLe.nilv ?_ | (with_reducible refine HLe.seg ?_ ?_; (focus (repeat (first | with_reducible exact sT0 | with_reducible exact sT1 | exact sT2 | apply sT3 | with_reducible apply sT4 | with_reducible apply sT5)))) | refine HLe.cons (by repeat (first | exact aT0 | apply aT1 | with_reducible apply aT2 | with_reducible apply aT3)) ?_ | refine HLe.seg (by repeat (first | with_reducible exact sT0 | with_reducible exact sT1 | exact sT2 | apply sT3 | with_reducible apply sT4 | with_reducible apply sT5)) ?_ | exact HLe.last (by repeat (first | with_reducible exact sT0 | with_reducible exact sT1 | exact sT2 | apply sT3 | with_reducible apply sT4 | with_reducible apply sT5)))))) ?_; rintro im ⟨hm1, hm2, hm3⟩) | (refine VSeq.is ?_; refine VSeq.go ?_) | (refine VB.is ?_; refine VB.yes (by omega) fun _ => ?_) | (refine VB.is ?_; refine VB.no (by omega) fun _ => ?_) | (refine VB.is ?_; refine VB.split (fun _ => ?_) (fun _ => ?_)) | (refine boolE_split (fun h => ?_) (fun h => ?_) <;> subst h) | (refine VLd.is ?_; refine VLd.mk (.row (by repeat (first | exact aT0 | apply aT1 | with_reducible apply aT2 | with_reducible apply aT3)) (by rfl)) ?_) | (refine VSt.is ?_; refine VSt.row (by repeat (first | exact aT0 | apply aT1 | with_reducible apply aT2 | with_reducible apply aT3)) (by rfl) (by first | rfl | assumption) ?_) | (refine VNew.is ?_; refine VNew.mk fun _ => ?_) | (refine VAr.is ?_; refine VAr.i64 (by omega) (by omega) ?_) | (refine VIx.is ?_; refine VIx.mk rfl (by omega) (by omega) ?_) | (refine VKeep.is ?_; refine VKeep.mk (by repeat (first | exact HLe.nil | exact HLe.refl _ | refine HLe.nilv ?_ | (with_reducible refine HLe.seg ?_ ?_; (focus (repeat (first | with_reducible exact sT0 | with_reducible exact sT1 | exact sT2 | apply sT3 | with_reducible apply sT4 | with_reducible apply sT5)))) | refine HLe.cons (by repeat (first | exact aT0 | apply aT1 | with_reducible apply aT2 | with_reducible apply aT3)) ?_ | refine HLe.seg (by repeat (first | with_reducible exact sT0 | with_reducible exact sT1 | exact sT2 | apply sT3 | with_reducible apply sT4 | with_reducible apply sT5)) ?_ | exact HLe.last (by repeat (first | with_reducible exact sT0 | with_reducible exact sT1 | exact sT2 | apply sT3 | with_reducible apply sT4 | with_reducible apply sT5)))) ?_) | (refine VHs.is ?_; refine VHs.mk _ (HLe.refl _) ?_) | (refine VQ.is ?_; refine VQ.pos (by omega) (by omega) (by omega) ?_) | (refine VM.is ?_; refine VM.pos (by omega) (by omega) ?_) | (refine And.intro ?_ ?_)
  all_goals (conv => whnf)
  have hyk := hy.run
  have hyN := hy.net
  have hyt : y.tick = k := by rw [hy.tick]; omega
  have hyc : ∀ d ∈ im.D, d.l.length = N.ps.length ∧ ∀ v ∈ d.l, -268435456 ≤ v ∧ v ≤ 268435456 := by
    intro d hd
    have hmem : d.l ∈ rot y.tick (y.D.map (·.l)) := by rw [← hm3]; exact List.mem_map_of_mem hd
    have hst := hy.st
    have hDD : y.D.map (·.l) = (stAt N l k).D := by
      have := congrArg Sm.D hst
      rw [Nat.zero_add] at this
      exact this
    constructor
    · unfold rot at hmem
      obtain ⟨i, hi, hiv⟩ := List.mem_map.1 hmem
      have hd16 : (y.D.map (·.l)).length = 16 := by rw [List.length_map]; exact hyk.ok.due
      rw [List.getElem?_eq_getElem (by omega)] at hiv
      simp only [Option.getD_some, List.getElem_map] at hiv
      rw [← hiv, ← hyN]
      exact hyk.ok.cells _ (List.getElem_mem _)
    · have hb := stAt_big hNok hev k
      rw [← hDD, ← hyt] at hb
      exact DueB.few hNok hb d.l hmem
  have hsl : im.sts.length = N.ps.length := by rw [hm2, ← hyN]; exact hyk.ok.sts
  have h16 : im.D.length = 16 := by
    have := congrArg List.length hm3
    rw [List.length_map, rot_length] at this
    exact this
  have hfew := hNok.few
  have hsta : StaAll N im.sts := by rw [hm2, ← hyN]; exact hyk.sta
  have he0 : resErr N im.tick im.sts (im.D.map (·.l)) = 0 := by
    rw [resErr_zero]
    refine ⟨hNok, by rw [hm1, hyt]; omega, hsl, by rw [List.length_map]; exact h16, fun r hr => ?_, hsta, fun r hr v hv => ?_⟩
    · obtain ⟨d, hd, rfl⟩ := List.mem_map.1 hr
      exact (hyc d hd).1
    · obtain ⟨d, hd, rfl⟩ := List.mem_map.1 hr
      exact (hyc d hd).2 v hv
  have hsw : ∀ s ∈ im.sts, s.wf := by
    intro s hs
    obtain ⟨i, hi⟩ := List.getElem?_of_mem hs
    have hlt := (List.getElem?_eq_some_iff.1 hi).1
    have hp : N.ps[i]? = some N.ps[i] := List.getElem?_eq_getElem (by omega)
    have h1 := hsta i _ s hp hi
    have h2 := hNok.ps _ (List.mem_of_getElem? hp)
    have h3 := h2.fl
    have h4 := h2.rest
    unfold staOk at h1
    unfold Sta.wf I64
    omega
  repeat' (conv => whnf); first | (refine VCall.is ?_; refine VCall.isF 38 ?_; refine VCall.genR (fun w' hw' => resume_img N hN im (by unfold I64; omega) hsw (by omega) (by omega) (fun d hd => ⟨fun v hv => by have := (hyc d hd).2 v hv; unfold I64; omega, by have := (hyc d hd).1; omega⟩) _ _ _ _ _ _ _ _ w' hw' (by repeat (first | exact HLe.nil | exact HLe.refl _ | refine HLe.nilv ?_ | (with_reducible refine HLe.seg ?_ ?_; (focus (repeat (first | with_reducible exact sT0 | with_reducible exact sT1 | exact sT2 | apply sT3 | with_reducible apply sT4 | with_reducible apply sT5)))) | refine HLe.cons (by repeat (first | exact aT0 | apply aT1 | with_reducible apply aT2 | with_reducible apply aT3)) ?_ | refine HLe.seg (by repeat (first | with_reducible exact sT0 | with_reducible exact sT1 | exact sT2 | apply sT3 | with_reducible apply sT4 | with_reducible apply sT5)) ?_ | exact HLe.last (by repeat (first | with_reducible exact sT0 | with_reducible exact sT1 | exact sT2 | apply sT3 | with_reducible apply sT4 | with_reducible apply sT5)))) (h1.keep hw' (by simp)) (h2.keep hw' (by simp))) ?_; intro z hz; obtain ⟨y2, rfl, hy2⟩ := res_some he0 hz; rw [he0, show resG (some y2) = ownH y2 ++ shrH y2 from rfl, List.append_assoc]; dsimp only [resV]) | (refine VSeq.is ?_; refine VSeq.go ?_) | (refine VB.is ?_; refine VB.yes (by omega) fun _ => ?_) | (refine VB.is ?_; refine VB.no (by omega) fun _ => ?_) | (refine VB.is ?_; refine VB.split (fun _ => ?_) (fun _ => ?_)) | (refine boolE_split (fun h => ?_) (fun h => ?_) <;> subst h) | (refine VLd.is ?_; refine VLd.mk (.row (by repeat (first | exact aT0 | apply aT1 | with_reducible apply aT2 | with_reducible apply aT3)) (by rfl)) ?_) | (refine VSt.is ?_; refine VSt.row (by repeat (first | exact aT0 | apply aT1 | with_reducible apply aT2 | with_reducible apply aT3)) (by rfl) (by first | rfl | assumption) ?_) | (refine VNew.is ?_; refine VNew.mk fun _ => ?_) | (refine VAr.is ?_; refine VAr.i64 (by omega) (by omega) ?_) | (refine VIx.is ?_; refine VIx.mk rfl (by omega) (by omega) ?_) | (refine VKeep.is ?_; refine VKeep.mk (by repeat (first | exact HLe.nil | exact HLe.refl _ | refine HLe.nilv ?_ | (with_reducible refine HLe.seg ?_ ?_; (focus (repeat (first | with_reducible exact sT0 | with_reducible exact sT1 | exact sT2 | apply sT3 | with_reducible apply sT4 | with_reducible apply sT5)))) | refine HLe.cons (by repeat (first | exact aT0 | apply aT1 | with_reducible apply aT2 | with_reducible apply aT3)) ?_ | refine HLe.seg (by repeat (first | with_reducible exact sT0 | with_reducible exact sT1 | exact sT2 | apply sT3 | with_reducible apply sT4 | with_reducible apply sT5)) ?_ | exact HLe.last (by repeat (first | with_reducible exact sT0 | with_reducible exact sT1 | exact sT2 | apply sT3 | with_reducible apply sT4 | with_reducible apply sT5)))) ?_) | (refine VHs.is ?_; refine VHs.mk _ (HLe.refl _) ?_) | (refine VQ.is ?_; refine VQ.pos (by omega) (by omega) (by omega) ?_) | (refine VM.is ?_; refine VM.pos (by omega) (by omega) ?_) | (refine And.intro ?_ ?_)
  all_goals (conv => whnf)
  have hb2 : Behind1 N l k y2 := by
    refine ⟨hy2.run, hy2.net, by have := hy2.tick; omega, ?_⟩
    have e1 : y2.tick = y.tick := by have := hy2.tick; omega
    have e2 : y2.D.map (·.l) = y.D.map (·.l) := by
      refine rot_inj (t := y.tick) (by rw [List.length_map]; exact hy2.run.ok.due) (by rw [List.length_map]; exact hyk.ok.due) ?_
      rw [← e1, hy2.due, hm3, e1]
    have e3 := hy.st
    rw [Nat.zero_add] at e3
    rw [← e3]
    unfold smOf
    rw [hy2.sts, hm2, e2]
  have hl0 : (seg N l 0 k).length ≤ 65536 := hseg 0 k (by omega)
  have hl1 : (seg N l k (n - k)).length ≤ 65536 := hseg k (n - k) (by omega)
  repeat' (conv => whnf); first | (refine VCall.isF 47 ?_; (refine steps_call y2 N l k (n - k) hb2 hev (by omega) (by omega) (hseg k (n - k) (by omega)) pe ce be oe _ (by omega) (by repeat (first | with_reducible exact sT0 | with_reducible exact sT1 | exact sT2 | apply sT3 | with_reducible apply sT4 | with_reducible apply sT5)) (by repeat (first | exact HLe.nil | exact HLe.refl _ | refine HLe.nilv ?_ | (with_reducible refine HLe.seg ?_ ?_; (focus (repeat (first | with_reducible exact sT0 | with_reducible exact sT1 | exact sT2 | apply sT3 | with_reducible apply sT4 | with_reducible apply sT5)))) | refine HLe.cons (by repeat (first | exact aT0 | apply aT1 | with_reducible apply aT2 | with_reducible apply aT3)) ?_ | refine HLe.seg (by repeat (first | with_reducible exact sT0 | with_reducible exact sT1 | exact sT2 | apply sT3 | with_reducible apply sT4 | with_reducible apply sT5)) ?_ | exact HLe.last (by repeat (first | with_reducible exact sT0 | with_reducible exact sT1 | exact sT2 | apply sT3 | with_reducible apply sT4 | with_reducible apply sT5)))) h3 (by simp) ?_; intro y3 p4 c4 _ _ _ hp4)) | (refine VAp.is ?_; refine VAp.own (p := p3) (by repeat (first | exact aT0 | apply aT1 | with_reducible apply aT2 | with_reducible apply aT3)) (Src.vecO hp4 (by repeat (first | exact aT0 | apply aT1 | with_reducible apply aT2 | with_reducible apply aT3)) (fun _ => rfl) rfl) (flat_one_cell (by simp [evtV, Value.oneCell'])) (by (try dsimp only); omega) (by simp only [maxLen]; omega) fun p5 c5 hp5 => ?_; dsimp only; rw [← flat_append, ← hon]) | (refine VCall.isF 24 ?_; (refine same_call O O hOw hOw (by omega) _ _ _ _ _ _ _ _ (by rw [hon, List.length_append]) rfl (by repeat (first | exact aT0 | apply aT1 | with_reducible apply aT2 | with_reducible apply aT3)) (by repeat (first | exact aT0 | apply aT1 | with_reducible apply aT2 | with_reducible apply aT3)) ?_; intro r hr; have hr := hr.2 rfl; subst hr)) | (refine VCall.isF 18 ?_; refine VCall.val (fun w' => works_any _) ?_) | (refine VSeq.is ?_; refine VSeq.go ?_) | (refine VB.is ?_; refine VB.yes (by omega) fun _ => ?_) | (refine VB.is ?_; refine VB.no (by omega) fun _ => ?_) | (refine VB.is ?_; refine VB.split (fun _ => ?_) (fun _ => ?_)) | (refine boolE_split (fun h => ?_) (fun h => ?_) <;> subst h) | (refine VLd.is ?_; refine VLd.mk (.row (by repeat (first | exact aT0 | apply aT1 | with_reducible apply aT2 | with_reducible apply aT3)) (by rfl)) ?_) | (refine VSt.is ?_; refine VSt.row (by repeat (first | exact aT0 | apply aT1 | with_reducible apply aT2 | with_reducible apply aT3)) (by rfl) (by first | rfl | assumption) ?_) | (refine VNew.is ?_; refine VNew.mk fun _ => ?_) | (refine VAr.is ?_; refine VAr.i64 (by omega) (by omega) ?_) | (refine VIx.is ?_; refine VIx.mk rfl (by omega) (by omega) ?_) | (refine VKeep.is ?_; refine VKeep.mk (by repeat (first | exact HLe.nil | exact HLe.refl _ | refine HLe.nilv ?_ | (with_reducible refine HLe.seg ?_ ?_; (focus (repeat (first | with_reducible exact sT0 | with_reducible exact sT1 | exact sT2 | apply sT3 | with_reducible apply sT4 | with_reducible apply sT5)))) | refine HLe.cons (by repeat (first | exact aT0 | apply aT1 | with_reducible apply aT2 | with_reducible apply aT3)) ?_ | refine HLe.seg (by repeat (first | with_reducible exact sT0 | with_reducible exact sT1 | exact sT2 | apply sT3 | with_reducible apply sT4 | with_reducible apply sT5)) ?_ | exact HLe.last (by repeat (first | with_reducible exact sT0 | with_reducible exact sT1 | exact sT2 | apply sT3 | with_reducible apply sT4 | with_reducible apply sT5)))) ?_) | (refine VHs.is ?_; refine VHs.mk _ (HLe.refl _) ?_) | (refine VQ.is ?_; refine VQ.pos (by omega) (by omega) (by omega) ?_) | (refine VM.is ?_; refine VM.pos (by omega) (by omega) ?_) | (refine And.intro ?_ ?_)
  all_goals (conv => whnf)
  exact ⟨fun w' hw' => ⟨rfl, hw'.le .nil⟩⟩

end Go.Proofs
