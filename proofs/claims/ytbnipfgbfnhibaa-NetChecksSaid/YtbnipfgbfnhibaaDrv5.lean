/- Drv5: sending, walked. -/
import Derived.Test.YtbnipfgbfnhibaaDrv4
set_option linter.unusedVariables false
set_option linter.unusedSimpArgs false
namespace Go.Proofs
open Go Go.Vx Go.Gm

/-- The synapses by their sources, as they are known in a world. -/
structure WiOk (w : World) (M : List Nat) (bw : Nat) (R : List WRow) : Prop where
  map : mapIs w bw (R.map wrowM)
  mapM : bw ∉ M
  rows : ∀ r ∈ R, ∃ g, r.p = some ⟨g, 0, none⟩ ∧ Sl w synV 4 r.l r.p r.l.length g 0 ∧ g ∉ M

theorem WiOk.look {w : World} {M : List Nat} {bw : Nat} {R : List WRow} (h : WiOk w M bw R) (k : Int) : ∃ (p : Option Addr) (c g : Nat), (mfind (R.map wrowM) k = some (.slice p (wfind (R.map wrowK) k).length c) ∨ (mfind (R.map wrowM) k = none ∧ Value.slice p (wfind (R.map wrowK) k).length c = nilS)) ∧
    Sl w synV 4 (wfind (R.map wrowK) k) p (wfind (R.map wrowK) k).length g 0 ∧ g ∉ M := by
  rcases look_cases R k with ⟨r, h1, h2, h3⟩ | ⟨h2, h3⟩
  · obtain ⟨g, hg, hsl, hM⟩ := h.rows r h1
    rw [h3]
    exact ⟨r.p, r.cap, g, .inl h2, hsl, hM⟩
  · rw [h3]
    exact ⟨none, 0, bw, .inr ⟨h2, rfl⟩, .nil (.inl rfl), h.mapM⟩

/-- What many synapses add, in their order. -/
inductive Adds (T : Int) (Q : List DueRow) (A : List Evt) : List Syn → List DueRow → List Evt → Prop
  | nil : Adds T Q A [] Q A
  | snoc {l : List Syn} {s : Syn} {Q1 Q2 : List DueRow} {A1 A2 : List Evt} (h : Adds T Q A l Q1 A1) (h2 : AddRel Q1 A1 (T + s.dl) s.to s.wt Q2 A2) : Adds T Q A (l ++ [s]) Q2 A2

theorem AddRel.heap {Q Q' : List DueRow} {A A' : List Evt} {t i wt : Int} (h : AddRel Q A t i wt Q' A') (hA : HeapOk A) : HeapOk A' ∧ A'.length ≤ A.length + 1 := by
  obtain ⟨Q1, j, r, _, _, _, _, _, h | h⟩ := h
  · rw [h.2]; exact ⟨hA, by omega⟩
  · refine ⟨h.2.1, ?_⟩
    have := h.2.2.length_eq
    simp at this
    omega

theorem Adds.heap {T : Int} {Q Q' : List DueRow} {A A' : List Evt} {l : List Syn} (h : Adds T Q A l Q' A') (hA : HeapOk A) : HeapOk A' ∧ A'.length ≤ A.length + l.length := by
  induction h with
  | nil => exact ⟨hA, by simp⟩
  | snoc _ h2 ih =>
    have := h2.heap ih.1
    exact ⟨this.1, by simp; omega⟩

/-- A state of a course on its way. -/
structure DueY where
  p : Option Addr
  cap : Nat
  A : List Evt
  Q : List DueRow


set_option maxHeartbeats 400000 in
theorem send_any (N : Net) (hN : NetOk N) (bc : Nat) (vc : Value) (bw bd : Nat) (R : List WRow) (hW : R.map wrowK = wire N.syns) (p : Option Addr) (cap : Nat) (A : List Evt) (Q : List DueRow) (T : Nat) (hT : T ≤ 1073741824) (sp ins : List Int) (pn : Option Addr) (cn bn : Nat) (pi : Option Addr) (ci bi : Nat)
    (hsl : sp.length ≤ 65536) (hil : ins.length ≤ 65536) (hinr : ∀ k ∈ ins, 0 ≤ k ∧ k ≤ 256) (hA : HeapOk A) (hAl : A.length + (yields (wire N.syns) (sp ++ ins.map fun k => -1 - k)).length ≤ 4398046511104) (hpp : 0 < A.length → ∃ g, p = some ⟨g, 0, none⟩) (w : World)
    (hs : St w (ids (dueS bc vc (.map (some bw)) bd p cap A Q)) (dueS bc vc (.map (some bw)) bd p cap A Q) w) (hwi : WiOk w (ids (dueS bc vc (.map (some bw)) bd p cap A Q)) bw R)
    (h1 : Sl w intV 1 sp pn sp.length bn 0) (hbn : bn ∉ ids (dueS bc vc (.map (some bw)) bd p cap A Q)) (h2 : Sl w intV 1 ins pi ins.length bi 0) (hbi : bi ∉ ids (dueS bc vc (.map (some bw)) bd p cap A Q)) :
    Calls Try.prog 73 #[.pointer (some ⟨bc, 0, none⟩), .int .i64 (T : Int), .slice pn sp.length cn, .slice pi ins.length ci] w fun e w' => ∃ y : DueY, e = .returned (.tuple #[]) ∧
      (Adds T Q A (yields (wire N.syns) (sp ++ ins.map fun k => -1 - k)) y.Q y.A ∧ (0 < y.A.length → ∃ g, y.p = some ⟨g, 0, none⟩)) ∧ St w (ids (dueS bc vc (.map (some bw)) bd p cap A Q)) (dueS bc vc (.map (some bw)) bd y.p y.cap y.A y.Q) w' := by
  obtain ⟨Mx, hMx⟩ : ∃ Mx, ids (dueS bc vc (.map (some bw)) bd p cap A Q) = Mx := ⟨_, rfl⟩
  rw [hMx] at hs hwi hbn hbi ⊢
  have hwl : (wire N.syns).length ≤ 8192 ∨ True := .inr trivial
  obtain ⟨ys0, hys0⟩ : ∃ ys0, yields (wire N.syns) (sp ++ ins.map fun k => -1 - k) = ys0 := ⟨_, rfl⟩
  rw [hys0] at hAl ⊢
  refine enter (C := Try.cx) (args := [_, _, _, _]) (F := Try.fx73) Try.func73 rfl rfl rfl Try.ok73 hs ?_
  repeat' (conv => whnf); first
    | (refine VCall.isF 100 ?_; refine VCall.inl (F := Try.fx100) Try.func100 rfl rfl rfl Try.ok100 ?_)
    | (refine VLd.is ?_; refine VLd.mk (.row (b := bc) (cs := courseV vc (.map (some bw)) (.map (some bd)) p A.length cap) (by unfold dueS; repeat (first | exact At.here | apply At.there | with_reducible apply At.app | with_reducible apply At.app2)) (by rfl)) ?_)
    | (refine VRange.is ?_; refine VRange.go (ms := []) rfl fun hokx hoky l d L hL => ?_)
    | (refine VCall.isF 117 ?_; refine VCall.inl (F := Try.fx117) Try.func117 rfl rfl rfl Try.ok117 ?_)
    | (refine VSeq.is ?_; refine VSeq.go ?_)
    | (refine VB.is ?_; refine VB.split (fun _ => ?_) (fun h => absurd (by omega) h))
    | (refine VB.is ?_; refine VB.split (fun h => absurd h (by omega)) (fun _ => ?_))
    | (refine VB.is ?_; refine VB.split (fun _ => ?_) (fun _ => ?_))
    | (refine boolE_split (fun h => ?_) (fun h => ?_) <;> subst h)
    | (refine VLd.is ?_; refine VLd.mk (.row (by repeat (first | exact At.here | apply At.there | with_reducible apply At.app | with_reducible apply At.app2)) (by rfl)) ?_)
    | (refine VSt.is ?_; refine VSt.row (by repeat (first | exact At.here | apply At.there | with_reducible apply At.app | with_reducible apply At.app2)) (by rfl) (by first | rfl | assumption) ?_)
    | (refine VNew.is ?_; refine VNew.mk fun _ => ?_)
    | (refine VAr.is ?_; refine VAr.i64 (by omega) (by omega) ?_)
    | (refine VIx.is ?_; refine VIx.mk rfl (by omega) (by omega) ?_)
    | (refine VKeep.is ?_; refine VKeep.mk (by repeat (first | exact HLe.nil | exact HLe.refl _ | refine HLe.nilv ?_ | (with_reducible refine HLe.seg ?_ ?_; (focus (repeat (first | with_reducible exact AtS.here | with_reducible exact AtS.here2 | exact AtS.last | apply AtS.there | with_reducible apply AtS.app | with_reducible apply AtS.app2)))) | refine HLe.cons (by repeat (first | exact At.here | apply At.there | with_reducible apply At.app | with_reducible apply At.app2)) ?_ | refine HLe.seg (by repeat (first | with_reducible exact AtS.here | with_reducible exact AtS.here2 | exact AtS.last | apply AtS.there | with_reducible apply AtS.app | with_reducible apply AtS.app2)) ?_ | exact HLe.last (by repeat (first | with_reducible exact AtS.here | with_reducible exact AtS.here2 | exact AtS.last | apply AtS.there | with_reducible apply AtS.app | with_reducible apply AtS.app2)))) ?_)
    | (refine VHs.is ?_; refine VHs.mk _ (HLe.refl _) ?_)
    | (refine VQ.is ?_; refine VQ.pos (by omega) (by omega) (by omega) ?_)
    | (refine VM.is ?_; refine VM.pos (by omega) (by omega) ?_)
    | (refine And.intro ?_ ?_)
  all_goals (conv => whnf)
  rename_i b2 b3 b5 b6 b7 b8
  have hheap : ∀ {l : List Syn} {y : DueY}, Adds T Q A l y.Q y.A → l.length ≤ ys0.length → HeapOk y.A ∧ y.A.length ≤ 4398046511104 := fun h hl => ⟨(h.heap hA).1, by have := (h.heap hA).2; omega⟩
  have each : ∀ (l0 : List Syn) (y : DueY) (k : Int) (K : Value → HP → Prop), (l0 ++ wfind (wire N.syns) k).length ≤ ys0.length → Adds T Q A l0 y.Q y.A → (0 < y.A.length → ∃ g, y.p = some ⟨g, 0, none⟩) →
      (∀ y', Adds T Q A (l0 ++ wfind (wire N.syns) k) (DueY.Q y') (DueY.A y') → (0 < (DueY.A y').length → ∃ g, DueY.p y' = some ⟨g, 0, none⟩) → K (.bool true) (.row b8 190 [.func (.yield l) #[] #[]] :: L .ready none :: .obj d (.deferred (some [])) :: .row b7 46 [.slice pi ins.length ci] :: .row b6 46 [.slice pn sp.length cn] :: .row b5 100 [.map (some bw)] :: (dueS bc vc (.map (some bw)) bd (DueY.p y') (DueY.cap y') (DueY.A y') (DueY.Q y') ++ [.row b3 3 [.int .i64 (T : Int)], .row b2 118 [.pointer (some ⟨bc, 0, none⟩)]]))) →
      VCall Try.cx.P w Mx (.row b8 190 [.func (.yield l) #[] #[]] :: L .ready none :: .obj d (.deferred (some [])) :: .row b7 46 [.slice pi ins.length ci] :: .row b6 46 [.slice pn sp.length cn] :: .row b5 100 [.map (some bw)] :: (dueS bc vc (.map (some bw)) bd (DueY.p y) (DueY.cap y) (DueY.A y) (DueY.Q y) ++ [.row b3 3 [.int .i64 (T : Int)], .row b2 118 [.pointer (some ⟨bc, 0, none⟩)]])) 118 [.int .i64 k, .pointer (some ⟨b5, 0, none⟩), .pointer (some ⟨b8, 0, none⟩)] K := by
    intro l0 y k K hlen hadd hyp hK
    obtain ⟨ps, cps, g, hlk, hsl', hgM⟩ := hwi.look k
    rw [hW] at hlk hsl'
    obtain ⟨ys, hys⟩ : ∃ ys, wfind (wire N.syns) k = ys := ⟨_, rfl⟩
    have hyok : ∀ s ∈ ys, synOk N s := by
      intro s h
      rw [← hys, wfind_wire] at h
      exact hN.syns s (List.mem_filter.1 h).1
    have hylen : ys.length ≤ 8192 := by
      rw [← hys, wfind_wire]
      have := List.length_filter_le (fun s : Syn => decide (s.frm = k)) N.syns
      have := hN.fewS
      omega
    rw [hys] at hlk hsl' hK hlen
    rw [List.length_append] at hlen
    refine VCall.inl (F := Try.fx118) Try.func118 rfl rfl rfl Try.ok118 ?_
    repeat' (conv => whnf); first
      | (refine VMp.is ?_; refine VMp.old hwi.map hwi.mapM ?_)
      | (refine VLk.is ?_; refine VLk.val hlk ?_)
      | (refine VSeq.is ?_; refine VSeq.go ?_)
      | (refine VB.is ?_; refine VB.split (fun _ => ?_) (fun h => absurd (by omega) h))
      | (refine VB.is ?_; refine VB.split (fun h => absurd h (by omega)) (fun _ => ?_))
      | (refine VB.is ?_; refine VB.split (fun _ => ?_) (fun _ => ?_))
      | (refine boolE_split (fun h => ?_) (fun h => ?_) <;> subst h)
      | (refine VLd.is ?_; refine VLd.mk (.row (by repeat (first | exact At.here | apply At.there | with_reducible apply At.app | with_reducible apply At.app2)) (by rfl)) ?_)
      | (refine VSt.is ?_; refine VSt.row (by repeat (first | exact At.here | apply At.there | with_reducible apply At.app | with_reducible apply At.app2)) (by rfl) (by first | rfl | assumption) ?_)
      | (refine VNew.is ?_; refine VNew.mk fun _ => ?_)
      | (refine VAr.is ?_; refine VAr.i64 (by omega) (by omega) ?_)
      | (refine VIx.is ?_; refine VIx.mk rfl (by omega) (by omega) ?_)
      | (refine VKeep.is ?_; refine VKeep.mk (by repeat (first | exact HLe.nil | exact HLe.refl _ | refine HLe.nilv ?_ | (with_reducible refine HLe.seg ?_ ?_; (focus (repeat (first | with_reducible exact AtS.here | with_reducible exact AtS.here2 | exact AtS.last | apply AtS.there | with_reducible apply AtS.app | with_reducible apply AtS.app2)))) | refine HLe.cons (by repeat (first | exact At.here | apply At.there | with_reducible apply At.app | with_reducible apply At.app2)) ?_ | refine HLe.seg (by repeat (first | with_reducible exact AtS.here | with_reducible exact AtS.here2 | exact AtS.last | apply AtS.there | with_reducible apply AtS.app | with_reducible apply AtS.app2)) ?_ | exact HLe.last (by repeat (first | with_reducible exact AtS.here | with_reducible exact AtS.here2 | exact AtS.last | apply AtS.there | with_reducible apply AtS.app | with_reducible apply AtS.app2)))) ?_)
      | (refine VHs.is ?_; refine VHs.mk _ (HLe.refl _) ?_)
      | (refine VQ.is ?_; refine VQ.pos (by omega) (by omega) (by omega) ?_)
      | (refine VM.is ?_; refine VM.pos (by omega) (by omega) ?_)
      | (refine And.intro ?_ ?_)
    all_goals (conv => whnf)
    refine VLoop.kr (α := Nat × DueY) [1000000, 2, 4, 9, 10] rfl (fun j => j.1 ≤ ys.length ∧ Adds T Q A (l0 ++ ys.take j.1) j.2.Q j.2.A ∧ (0 < j.2.A.length → ∃ g, j.2.p = some ⟨g, 0, none⟩)) (fun j K => (11, .int .i64 (j.1 : Int)) :: K)
      (fun j => (.row b8 190 [.func (.yield l) #[] #[]] :: L .ready none :: .obj d (.deferred (some [])) :: .row b7 46 [.slice pi ins.length ci] :: .row b6 46 [.slice pn sp.length cn] :: .row b5 100 [.map (some bw)] :: (dueS bc vc (.map (some bw)) bd (DueY.p j.2) (DueY.cap j.2) (DueY.A j.2) (DueY.Q j.2) ++ [.row b3 3 [.int .i64 (T : Int)], .row b2 118 [.pointer (some ⟨bc, 0, none⟩)]]))) (fun j => ys.length - j.1) (0, y) ⟨by simp, by simpa using hadd, hyp⟩ (by repeat (first | exact trivial | refine ⟨rfl, ?_⟩)) (by repeat (first | exact HLe.nil | exact HLe.refl _ | refine HLe.nilv ?_ | (with_reducible refine HLe.seg ?_ ?_; (focus (repeat (first | with_reducible exact AtS.here | with_reducible exact AtS.here2 | exact AtS.last | apply AtS.there | with_reducible apply AtS.app | with_reducible apply AtS.app2)))) | refine HLe.cons (by repeat (first | exact At.here | apply At.there | with_reducible apply At.app | with_reducible apply At.app2)) ?_ | refine HLe.seg (by repeat (first | with_reducible exact AtS.here | with_reducible exact AtS.here2 | exact AtS.last | apply AtS.there | with_reducible apply AtS.app | with_reducible apply AtS.app2)) ?_ | exact HLe.last (by repeat (first | with_reducible exact AtS.here | with_reducible exact AtS.here2 | exact AtS.last | apply AtS.there | with_reducible apply AtS.app | with_reducible apply AtS.app2)))) ?_
    rintro ⟨j, z⟩ ⟨hj, hadd', hyp'⟩
    dsimp only at hj hadd' hyp' ⊢
    rcases Nat.lt_or_ge j ys.length with hlt | hge
    · obtain ⟨s, hs'⟩ : ∃ s, ys[j]? = some s := ⟨ys[j], List.getElem?_eq_getElem _⟩
      have hso := hyok s (List.mem_of_getElem? hs')
      unfold synOk srcOk at hso
      have hh := hheap hadd' (by rw [List.length_append, List.length_take]; omega)
      repeat' (conv => whnf); first
        | (refine VIx.is ?_; refine VIx.mk (hsl'.ptr (by omega)) (by omega) (by omega) ?_)
        | (refine VLd.is ?_; refine VLd.mk (Rd.cast (hsl'.rd0 hgM (fun _ => rfl) hs' rfl) (by first | omega | (dsimp only; omega) | rfl)) ?_)
        | (refine VYield.is ?_; refine VYield.go hL hokx hoky (by repeat (first | exact At.here | apply At.there | with_reducible apply At.app | with_reducible apply At.app2)) rfl ?_)
        | (refine VBegin.is ?_; refine VBegin.mk (by repeat (first | exact At.here | apply At.there | with_reducible apply At.app | with_reducible apply At.app2)) ?_)
        | (refine VRound.is ?_; refine VRound.mk (by repeat (first | exact At.here | apply At.there | with_reducible apply At.app | with_reducible apply At.app2)) ?_)
        | (refine VCall.isF 106 ?_; refine add_call bc vc (.map (some bw)) bd (DueY.p z) (DueY.cap z) (DueY.A z) (DueY.Q z) ((T : Int) + s.dl) s.to s.wt hh.1 hh.2 hyp' (by repeat (first | exact Take.nil | (with_reducible apply Take.seg; (focus (repeat (first | with_reducible exact AtS.here | with_reducible exact AtS.here2 | exact AtS.last | apply AtS.there | with_reducible apply AtS.app | with_reducible apply AtS.app2)))) | (apply Take.cons; (focus (repeat (first | exact At.here | apply At.there | with_reducible apply At.app | with_reducible apply At.app2)))) | (apply Take.last; (focus (repeat (first | with_reducible exact AtS.here | with_reducible exact AtS.here2 | exact AtS.last | apply AtS.there | with_reducible apply AtS.app | with_reducible apply AtS.app2)))))) fun p' cap' A' Q' hA' hp' => ?_)
        | (refine VSeq.is ?_; refine VSeq.go ?_)
        | (refine VB.is ?_; refine VB.split (fun _ => ?_) (fun h => absurd (by omega) h))
        | (refine VB.is ?_; refine VB.split (fun h => absurd h (by omega)) (fun _ => ?_))
        | (refine VB.is ?_; refine VB.split (fun _ => ?_) (fun _ => ?_))
        | (refine boolE_split (fun h => ?_) (fun h => ?_) <;> subst h)
        | (refine VLd.is ?_; refine VLd.mk (.row (by repeat (first | exact At.here | apply At.there | with_reducible apply At.app | with_reducible apply At.app2)) (by rfl)) ?_)
        | (refine VSt.is ?_; refine VSt.row (by repeat (first | exact At.here | apply At.there | with_reducible apply At.app | with_reducible apply At.app2)) (by rfl) (by first | rfl | assumption) ?_)
        | (refine VNew.is ?_; refine VNew.mk fun _ => ?_)
        | (refine VAr.is ?_; refine VAr.i64 (by omega) (by omega) ?_)
        | (refine VIx.is ?_; refine VIx.mk rfl (by omega) (by omega) ?_)
        | (refine VKeep.is ?_; refine VKeep.mk (by repeat (first | exact HLe.nil | exact HLe.refl _ | refine HLe.nilv ?_ | (with_reducible refine HLe.seg ?_ ?_; (focus (repeat (first | with_reducible exact AtS.here | with_reducible exact AtS.here2 | exact AtS.last | apply AtS.there | with_reducible apply AtS.app | with_reducible apply AtS.app2)))) | refine HLe.cons (by repeat (first | exact At.here | apply At.there | with_reducible apply At.app | with_reducible apply At.app2)) ?_ | refine HLe.seg (by repeat (first | with_reducible exact AtS.here | with_reducible exact AtS.here2 | exact AtS.last | apply AtS.there | with_reducible apply AtS.app | with_reducible apply AtS.app2)) ?_ | exact HLe.last (by repeat (first | with_reducible exact AtS.here | with_reducible exact AtS.here2 | exact AtS.last | apply AtS.there | with_reducible apply AtS.app | with_reducible apply AtS.app2)))) ?_)
        | (refine VHs.is ?_; refine VHs.mk _ (HLe.refl _) ?_)
        | (refine VQ.is ?_; refine VQ.pos (by omega) (by omega) (by omega) ?_)
        | (refine VM.is ?_; refine VM.pos (by omega) (by omega) ?_)
        | (refine And.intro ?_ ?_)
      all_goals (conv => whnf)
      refine VNext.mk (j + 1, ⟨p', cap', A', Q'⟩) ⟨by dsimp only; omega, ?_, hp'⟩ (by dsimp only; omega) (by repeat (first | exact trivial | refine ⟨rfl, ?_⟩)) (by unfold dueS; repeat (first | exact HLe.nil | exact HLe.refl _ | refine HLe.nilv ?_ | (with_reducible refine HLe.seg ?_ ?_; (focus (repeat (first | with_reducible exact AtS.here | with_reducible exact AtS.here2 | exact AtS.last | apply AtS.there | with_reducible apply AtS.app | with_reducible apply AtS.app2)))) | refine HLe.cons (by repeat (first | exact At.here | apply At.there | with_reducible apply At.app | with_reducible apply At.app2)) ?_ | refine HLe.seg (by repeat (first | with_reducible exact AtS.here | with_reducible exact AtS.here2 | exact AtS.last | apply AtS.there | with_reducible apply AtS.app | with_reducible apply AtS.app2)) ?_ | exact HLe.last (by repeat (first | with_reducible exact AtS.here | with_reducible exact AtS.here2 | exact AtS.last | apply AtS.there | with_reducible apply AtS.app | with_reducible apply AtS.app2))))
      dsimp only
      rw [List.take_add_one, hs', Option.toList_some, ← List.append_assoc]
      exact .snoc hadd' hA'
    · have hfull : ys.take j = ys := List.take_of_length_le hge
      rw [hfull] at hadd'
      repeat' (conv => whnf); first
        | (refine VSeq.is ?_; refine VSeq.go ?_)
        | (refine VB.is ?_; refine VB.split (fun _ => ?_) (fun h => absurd (by omega) h))
        | (refine VB.is ?_; refine VB.split (fun h => absurd h (by omega)) (fun _ => ?_))
        | (refine VB.is ?_; refine VB.split (fun _ => ?_) (fun _ => ?_))
        | (refine boolE_split (fun h => ?_) (fun h => ?_) <;> subst h)
        | (refine VLd.is ?_; refine VLd.mk (.row (by repeat (first | exact At.here | apply At.there | with_reducible apply At.app | with_reducible apply At.app2)) (by rfl)) ?_)
        | (refine VSt.is ?_; refine VSt.row (by repeat (first | exact At.here | apply At.there | with_reducible apply At.app | with_reducible apply At.app2)) (by rfl) (by first | rfl | assumption) ?_)
        | (refine VNew.is ?_; refine VNew.mk fun _ => ?_)
        | (refine VAr.is ?_; refine VAr.i64 (by omega) (by omega) ?_)
        | (refine VIx.is ?_; refine VIx.mk rfl (by omega) (by omega) ?_)
        | (refine VKeep.is ?_; refine VKeep.mk (by repeat (first | exact HLe.nil | exact HLe.refl _ | refine HLe.nilv ?_ | (with_reducible refine HLe.seg ?_ ?_; (focus (repeat (first | with_reducible exact AtS.here | with_reducible exact AtS.here2 | exact AtS.last | apply AtS.there | with_reducible apply AtS.app | with_reducible apply AtS.app2)))) | refine HLe.cons (by repeat (first | exact At.here | apply At.there | with_reducible apply At.app | with_reducible apply At.app2)) ?_ | refine HLe.seg (by repeat (first | with_reducible exact AtS.here | with_reducible exact AtS.here2 | exact AtS.last | apply AtS.there | with_reducible apply AtS.app | with_reducible apply AtS.app2)) ?_ | exact HLe.last (by repeat (first | with_reducible exact AtS.here | with_reducible exact AtS.here2 | exact AtS.last | apply AtS.there | with_reducible apply AtS.app | with_reducible apply AtS.app2)))) ?_)
        | (refine VHs.is ?_; refine VHs.mk _ (HLe.refl _) ?_)
        | (refine VQ.is ?_; refine VQ.pos (by omega) (by omega) (by omega) ?_)
        | (refine VM.is ?_; refine VM.pos (by omega) (by omega) ?_)
        | (refine And.intro ?_ ?_)
      all_goals (conv => whnf)
      exact hK z hadd' hyp'
  have hpre : ∀ a b : List Int, a ++ b = sp ++ ins.map (fun k => -1 - k) → (yields (wire N.syns) a).length ≤ ys0.length := by
    intro a b h
    rw [← hys0, ← h, yields_app, List.length_append]
    omega
  refine VLoop.kr (α := Nat × DueY) [1000000, 3, 5, 11, 12] rfl (fun j => j.1 ≤ sp.length ∧ Adds T Q A (yields (wire N.syns) (sp.take j.1)) j.2.Q j.2.A ∧ (0 < j.2.A.length → ∃ g, j.2.p = some ⟨g, 0, none⟩)) (fun j K => (13, .int .i64 (j.1 : Int)) :: K)
    (fun j => (.row b8 190 [.func (.yield l) #[] #[]] :: L .ready none :: .obj d (.deferred (some [])) :: .row b7 46 [.slice pi ins.length ci] :: .row b6 46 [.slice pn sp.length cn] :: .row b5 100 [.map (some bw)] :: (dueS bc vc (.map (some bw)) bd (DueY.p j.2) (DueY.cap j.2) (DueY.A j.2) (DueY.Q j.2) ++ [.row b3 3 [.int .i64 (T : Int)], .row b2 118 [.pointer (some ⟨bc, 0, none⟩)]]))) (fun j => sp.length - j.1) (0, ⟨p, cap, A, Q⟩) ⟨by simp, .nil, hpp⟩ (by repeat (first | exact trivial | refine ⟨rfl, ?_⟩)) (by unfold dueS; repeat (first | exact HLe.nil | exact HLe.refl _ | refine HLe.nilv ?_ | (with_reducible refine HLe.seg ?_ ?_; (focus (repeat (first | with_reducible exact AtS.here | with_reducible exact AtS.here2 | exact AtS.last | apply AtS.there | with_reducible apply AtS.app | with_reducible apply AtS.app2)))) | refine HLe.cons (by repeat (first | exact At.here | apply At.there | with_reducible apply At.app | with_reducible apply At.app2)) ?_ | refine HLe.seg (by repeat (first | with_reducible exact AtS.here | with_reducible exact AtS.here2 | exact AtS.last | apply AtS.there | with_reducible apply AtS.app | with_reducible apply AtS.app2)) ?_ | exact HLe.last (by repeat (first | with_reducible exact AtS.here | with_reducible exact AtS.here2 | exact AtS.last | apply AtS.there | with_reducible apply AtS.app | with_reducible apply AtS.app2)))) ?_
  rintro ⟨j, z⟩ ⟨hj, hadd, hyp⟩
  dsimp only at hj hadd hyp ⊢
  rcases Nat.lt_or_ge j sp.length with hlt | hge
  · obtain ⟨k, hk⟩ := h1.get hlt
    have hsn : yields (wire N.syns) (sp.take j) ++ wfind (wire N.syns) k = yields (wire N.syns) (sp.take (j + 1)) := by
      rw [List.take_add_one, hk, Option.toList_some, yields_snoc]
    have hlen := hpre (sp.take (j + 1)) (sp.drop (j + 1) ++ ins.map (fun k => -1 - k)) (by rw [← List.append_assoc, List.take_append_drop])
    have he := each (yields (wire N.syns) (sp.take j)) z k
    rw [hsn] at he
    repeat' (conv => whnf); first
      | (refine VIx.is ?_; refine VIx.mk (h1.ptr (by omega)) (by omega) (by omega) ?_)
      | (refine VLd.is ?_; refine VLd.mk (Rd.cast (h1.rd0 hbn (fun _ => rfl) hk rfl) (by first | omega | (dsimp only; omega) | rfl)) ?_)
      | (refine VCall.isF 118 ?_; refine he _ hlen hadd hyp fun z' hz1 hz2 => ?_)
      | (refine VSeq.is ?_; refine VSeq.go ?_)
      | (refine VB.is ?_; refine VB.split (fun _ => ?_) (fun h => absurd (by omega) h))
      | (refine VB.is ?_; refine VB.split (fun h => absurd h (by omega)) (fun _ => ?_))
      | (refine VB.is ?_; refine VB.split (fun _ => ?_) (fun _ => ?_))
      | (refine boolE_split (fun h => ?_) (fun h => ?_) <;> subst h)
      | (refine VLd.is ?_; refine VLd.mk (.row (by repeat (first | exact At.here | apply At.there | with_reducible apply At.app | with_reducible apply At.app2)) (by rfl)) ?_)
      | (refine VSt.is ?_; refine VSt.row (by repeat (first | exact At.here | apply At.there | with_reducible apply At.app | with_reducible apply At.app2)) (by rfl) (by first | rfl | assumption) ?_)
      | (refine VNew.is ?_; refine VNew.mk fun _ => ?_)
      | (refine VAr.is ?_; refine VAr.i64 (by omega) (by omega) ?_)
      | (refine VIx.is ?_; refine VIx.mk rfl (by omega) (by omega) ?_)
      | (refine VKeep.is ?_; refine VKeep.mk (by repeat (first | exact HLe.nil | exact HLe.refl _ | refine HLe.nilv ?_ | (with_reducible refine HLe.seg ?_ ?_; (focus (repeat (first | with_reducible exact AtS.here | with_reducible exact AtS.here2 | exact AtS.last | apply AtS.there | with_reducible apply AtS.app | with_reducible apply AtS.app2)))) | refine HLe.cons (by repeat (first | exact At.here | apply At.there | with_reducible apply At.app | with_reducible apply At.app2)) ?_ | refine HLe.seg (by repeat (first | with_reducible exact AtS.here | with_reducible exact AtS.here2 | exact AtS.last | apply AtS.there | with_reducible apply AtS.app | with_reducible apply AtS.app2)) ?_ | exact HLe.last (by repeat (first | with_reducible exact AtS.here | with_reducible exact AtS.here2 | exact AtS.last | apply AtS.there | with_reducible apply AtS.app | with_reducible apply AtS.app2)))) ?_)
      | (refine VHs.is ?_; refine VHs.mk _ (HLe.refl _) ?_)
      | (refine VQ.is ?_; refine VQ.pos (by omega) (by omega) (by omega) ?_)
      | (refine VM.is ?_; refine VM.pos (by omega) (by omega) ?_)
      | (refine And.intro ?_ ?_)
    all_goals (conv => whnf)
    exact VNext.mk (j + 1, z') ⟨by dsimp only; omega, hz1, hz2⟩ (by dsimp only; omega) (by repeat (first | exact trivial | refine ⟨rfl, ?_⟩)) (by repeat (first | exact HLe.nil | exact HLe.refl _ | refine HLe.nilv ?_ | (with_reducible refine HLe.seg ?_ ?_; (focus (repeat (first | with_reducible exact AtS.here | with_reducible exact AtS.here2 | exact AtS.last | apply AtS.there | with_reducible apply AtS.app | with_reducible apply AtS.app2)))) | refine HLe.cons (by repeat (first | exact At.here | apply At.there | with_reducible apply At.app | with_reducible apply At.app2)) ?_ | refine HLe.seg (by repeat (first | with_reducible exact AtS.here | with_reducible exact AtS.here2 | exact AtS.last | apply AtS.there | with_reducible apply AtS.app | with_reducible apply AtS.app2)) ?_ | exact HLe.last (by repeat (first | with_reducible exact AtS.here | with_reducible exact AtS.here2 | exact AtS.last | apply AtS.there | with_reducible apply AtS.app | with_reducible apply AtS.app2))))
  · have hfull : sp.take j = sp := List.take_of_length_le hge
    rw [hfull] at hadd
    repeat' (conv => whnf); first
      | (refine VSeq.is ?_; refine VSeq.go ?_)
      | (refine VB.is ?_; refine VB.split (fun _ => ?_) (fun h => absurd (by omega) h))
      | (refine VB.is ?_; refine VB.split (fun h => absurd h (by omega)) (fun _ => ?_))
      | (refine VB.is ?_; refine VB.split (fun _ => ?_) (fun _ => ?_))
      | (refine boolE_split (fun h => ?_) (fun h => ?_) <;> subst h)
      | (refine VLd.is ?_; refine VLd.mk (.row (by repeat (first | exact At.here | apply At.there | with_reducible apply At.app | with_reducible apply At.app2)) (by rfl)) ?_)
      | (refine VSt.is ?_; refine VSt.row (by repeat (first | exact At.here | apply At.there | with_reducible apply At.app | with_reducible apply At.app2)) (by rfl) (by first | rfl | assumption) ?_)
      | (refine VNew.is ?_; refine VNew.mk fun _ => ?_)
      | (refine VAr.is ?_; refine VAr.i64 (by omega) (by omega) ?_)
      | (refine VIx.is ?_; refine VIx.mk rfl (by omega) (by omega) ?_)
      | (refine VKeep.is ?_; refine VKeep.mk (by repeat (first | exact HLe.nil | exact HLe.refl _ | refine HLe.nilv ?_ | (with_reducible refine HLe.seg ?_ ?_; (focus (repeat (first | with_reducible exact AtS.here | with_reducible exact AtS.here2 | exact AtS.last | apply AtS.there | with_reducible apply AtS.app | with_reducible apply AtS.app2)))) | refine HLe.cons (by repeat (first | exact At.here | apply At.there | with_reducible apply At.app | with_reducible apply At.app2)) ?_ | refine HLe.seg (by repeat (first | with_reducible exact AtS.here | with_reducible exact AtS.here2 | exact AtS.last | apply AtS.there | with_reducible apply AtS.app | with_reducible apply AtS.app2)) ?_ | exact HLe.last (by repeat (first | with_reducible exact AtS.here | with_reducible exact AtS.here2 | exact AtS.last | apply AtS.there | with_reducible apply AtS.app | with_reducible apply AtS.app2)))) ?_)
      | (refine VHs.is ?_; refine VHs.mk _ (HLe.refl _) ?_)
      | (refine VQ.is ?_; refine VQ.pos (by omega) (by omega) (by omega) ?_)
      | (refine VM.is ?_; refine VM.pos (by omega) (by omega) ?_)
      | (refine And.intro ?_ ?_)
    all_goals (conv => whnf)
    refine VLoop.kr (α := Nat × DueY) [1000000, 5, 22, 23] rfl (fun j => j.1 ≤ ins.length ∧ Adds T Q A (yields (wire N.syns) (sp ++ (ins.map (fun k => -1 - k)).take j.1)) j.2.Q j.2.A ∧ (0 < j.2.A.length → ∃ g, j.2.p = some ⟨g, 0, none⟩)) (fun j K => (24, .int .i64 (j.1 : Int)) :: K)
      (fun j => (.row b8 190 [.func (.yield l) #[] #[]] :: L .ready none :: .obj d (.deferred (some [])) :: .row b7 46 [.slice pi ins.length ci] :: .row b6 46 [.slice pn sp.length cn] :: .row b5 100 [.map (some bw)] :: (dueS bc vc (.map (some bw)) bd (DueY.p j.2) (DueY.cap j.2) (DueY.A j.2) (DueY.Q j.2) ++ [.row b3 3 [.int .i64 (T : Int)], .row b2 118 [.pointer (some ⟨bc, 0, none⟩)]]))) (fun j => ins.length - j.1) (0, z) ⟨by simp, by simpa using hadd, hyp⟩ (by repeat (first | exact trivial | refine ⟨rfl, ?_⟩)) (by repeat (first | exact HLe.nil | exact HLe.refl _ | refine HLe.nilv ?_ | (with_reducible refine HLe.seg ?_ ?_; (focus (repeat (first | with_reducible exact AtS.here | with_reducible exact AtS.here2 | exact AtS.last | apply AtS.there | with_reducible apply AtS.app | with_reducible apply AtS.app2)))) | refine HLe.cons (by repeat (first | exact At.here | apply At.there | with_reducible apply At.app | with_reducible apply At.app2)) ?_ | refine HLe.seg (by repeat (first | with_reducible exact AtS.here | with_reducible exact AtS.here2 | exact AtS.last | apply AtS.there | with_reducible apply AtS.app | with_reducible apply AtS.app2)) ?_ | exact HLe.last (by repeat (first | with_reducible exact AtS.here | with_reducible exact AtS.here2 | exact AtS.last | apply AtS.there | with_reducible apply AtS.app | with_reducible apply AtS.app2)))) ?_
    rintro ⟨j, z⟩ ⟨hj, hadd, hyp⟩
    dsimp only at hj hadd hyp ⊢
    rcases Nat.lt_or_ge j ins.length with hlt | hge
    · obtain ⟨k, hk⟩ := h2.get hlt
      have hkb := hinr k (List.mem_of_getElem? hk)
      have hsn : yields (wire N.syns) (sp ++ (ins.map (fun k => -1 - k)).take j) ++ wfind (wire N.syns) (-1 - k) = yields (wire N.syns) (sp ++ (ins.map (fun k => -1 - k)).take (j + 1)) := by
        rw [List.take_add_one, List.getElem?_map, hk, Option.map_some, Option.toList_some, ← List.append_assoc, yields_snoc]
      have hlen := hpre (sp ++ (ins.map (fun k => -1 - k)).take (j + 1)) ((ins.map (fun k => -1 - k)).drop (j + 1)) (by rw [List.append_assoc, List.take_append_drop])
      have he := each (yields (wire N.syns) (sp ++ (ins.map (fun k => -1 - k)).take j)) z (-1 - k)
      rw [hsn] at he
      repeat' (conv => whnf); first
        | (refine VIx.is ?_; refine VIx.mk (h2.ptr (by omega)) (by omega) (by omega) ?_)
        | (refine VLd.is ?_; refine VLd.mk (Rd.cast (h2.rd0 hbi (fun _ => rfl) hk rfl) (by first | omega | (dsimp only; omega) | rfl)) ?_)
        | (refine VCall.isF 118 ?_; refine he _ hlen hadd hyp fun z' hz1 hz2 => ?_)
        | (refine VSeq.is ?_; refine VSeq.go ?_)
        | (refine VB.is ?_; refine VB.split (fun _ => ?_) (fun h => absurd (by omega) h))
        | (refine VB.is ?_; refine VB.split (fun h => absurd h (by omega)) (fun _ => ?_))
        | (refine VB.is ?_; refine VB.split (fun _ => ?_) (fun _ => ?_))
        | (refine boolE_split (fun h => ?_) (fun h => ?_) <;> subst h)
        | (refine VLd.is ?_; refine VLd.mk (.row (by repeat (first | exact At.here | apply At.there | with_reducible apply At.app | with_reducible apply At.app2)) (by rfl)) ?_)
        | (refine VSt.is ?_; refine VSt.row (by repeat (first | exact At.here | apply At.there | with_reducible apply At.app | with_reducible apply At.app2)) (by rfl) (by first | rfl | assumption) ?_)
        | (refine VNew.is ?_; refine VNew.mk fun _ => ?_)
        | (refine VAr.is ?_; refine VAr.i64 (by omega) (by omega) ?_)
        | (refine VIx.is ?_; refine VIx.mk rfl (by omega) (by omega) ?_)
        | (refine VKeep.is ?_; refine VKeep.mk (by repeat (first | exact HLe.nil | exact HLe.refl _ | refine HLe.nilv ?_ | (with_reducible refine HLe.seg ?_ ?_; (focus (repeat (first | with_reducible exact AtS.here | with_reducible exact AtS.here2 | exact AtS.last | apply AtS.there | with_reducible apply AtS.app | with_reducible apply AtS.app2)))) | refine HLe.cons (by repeat (first | exact At.here | apply At.there | with_reducible apply At.app | with_reducible apply At.app2)) ?_ | refine HLe.seg (by repeat (first | with_reducible exact AtS.here | with_reducible exact AtS.here2 | exact AtS.last | apply AtS.there | with_reducible apply AtS.app | with_reducible apply AtS.app2)) ?_ | exact HLe.last (by repeat (first | with_reducible exact AtS.here | with_reducible exact AtS.here2 | exact AtS.last | apply AtS.there | with_reducible apply AtS.app | with_reducible apply AtS.app2)))) ?_)
        | (refine VHs.is ?_; refine VHs.mk _ (HLe.refl _) ?_)
        | (refine VQ.is ?_; refine VQ.pos (by omega) (by omega) (by omega) ?_)
        | (refine VM.is ?_; refine VM.pos (by omega) (by omega) ?_)
        | (refine And.intro ?_ ?_)
      all_goals (conv => whnf)
      exact VNext.mk (j + 1, z') ⟨by dsimp only; omega, hz1, hz2⟩ (by dsimp only; omega) (by repeat (first | exact trivial | refine ⟨rfl, ?_⟩)) (by repeat (first | exact HLe.nil | exact HLe.refl _ | refine HLe.nilv ?_ | (with_reducible refine HLe.seg ?_ ?_; (focus (repeat (first | with_reducible exact AtS.here | with_reducible exact AtS.here2 | exact AtS.last | apply AtS.there | with_reducible apply AtS.app | with_reducible apply AtS.app2)))) | refine HLe.cons (by repeat (first | exact At.here | apply At.there | with_reducible apply At.app | with_reducible apply At.app2)) ?_ | refine HLe.seg (by repeat (first | with_reducible exact AtS.here | with_reducible exact AtS.here2 | exact AtS.last | apply AtS.there | with_reducible apply AtS.app | with_reducible apply AtS.app2)) ?_ | exact HLe.last (by repeat (first | with_reducible exact AtS.here | with_reducible exact AtS.here2 | exact AtS.last | apply AtS.there | with_reducible apply AtS.app | with_reducible apply AtS.app2))))
    · have hfull : (ins.map fun k => -1 - k).take j = ins.map fun k => -1 - k := List.take_of_length_le (by simpa using hge)
      rw [hfull, hys0] at hadd
      repeat' (conv => whnf); first
        | (refine VEnd.is ?_; refine VEnd.mk (by repeat (first | exact At.here | apply At.there | with_reducible apply At.app | with_reducible apply At.app2)) (by simp) ?_)
        | (refine VUn.is ?_; refine VUn.mk (by repeat (first | exact At.here | apply At.there | with_reducible apply At.app | with_reducible apply At.app2)) ?_)
        | (refine VSeq.is ?_; refine VSeq.go ?_)
        | (refine VB.is ?_; refine VB.split (fun _ => ?_) (fun h => absurd (by omega) h))
        | (refine VB.is ?_; refine VB.split (fun h => absurd h (by omega)) (fun _ => ?_))
        | (refine VB.is ?_; refine VB.split (fun _ => ?_) (fun _ => ?_))
        | (refine boolE_split (fun h => ?_) (fun h => ?_) <;> subst h)
        | (refine VLd.is ?_; refine VLd.mk (.row (by repeat (first | exact At.here | apply At.there | with_reducible apply At.app | with_reducible apply At.app2)) (by rfl)) ?_)
        | (refine VSt.is ?_; refine VSt.row (by repeat (first | exact At.here | apply At.there | with_reducible apply At.app | with_reducible apply At.app2)) (by rfl) (by first | rfl | assumption) ?_)
        | (refine VNew.is ?_; refine VNew.mk fun _ => ?_)
        | (refine VAr.is ?_; refine VAr.i64 (by omega) (by omega) ?_)
        | (refine VIx.is ?_; refine VIx.mk rfl (by omega) (by omega) ?_)
        | (refine VKeep.is ?_; refine VKeep.mk (by repeat (first | exact HLe.nil | exact HLe.refl _ | refine HLe.nilv ?_ | (with_reducible refine HLe.seg ?_ ?_; (focus (repeat (first | with_reducible exact AtS.here | with_reducible exact AtS.here2 | exact AtS.last | apply AtS.there | with_reducible apply AtS.app | with_reducible apply AtS.app2)))) | refine HLe.cons (by repeat (first | exact At.here | apply At.there | with_reducible apply At.app | with_reducible apply At.app2)) ?_ | refine HLe.seg (by repeat (first | with_reducible exact AtS.here | with_reducible exact AtS.here2 | exact AtS.last | apply AtS.there | with_reducible apply AtS.app | with_reducible apply AtS.app2)) ?_ | exact HLe.last (by repeat (first | with_reducible exact AtS.here | with_reducible exact AtS.here2 | exact AtS.last | apply AtS.there | with_reducible apply AtS.app | with_reducible apply AtS.app2)))) ?_)
        | (refine VHs.is ?_; refine VHs.mk _ (HLe.refl _) ?_)
        | (refine VQ.is ?_; refine VQ.pos (by omega) (by omega) (by omega) ?_)
        | (refine VM.is ?_; refine VM.pos (by omega) (by omega) ?_)
        | (refine And.intro ?_ ?_)
      all_goals (conv => whnf)
      exact ⟨fun w' hw' => ⟨z, rfl, ⟨hadd, hyp⟩, hw'.le (by unfold dueS; repeat (first | exact HLe.nil | exact HLe.refl _ | refine HLe.nilv ?_ | (with_reducible refine HLe.seg ?_ ?_; (focus (repeat (first | with_reducible exact AtS.here | with_reducible exact AtS.here2 | exact AtS.last | apply AtS.there | with_reducible apply AtS.app | with_reducible apply AtS.app2)))) | refine HLe.cons (by repeat (first | exact At.here | apply At.there | with_reducible apply At.app | with_reducible apply At.app2)) ?_ | refine HLe.seg (by repeat (first | with_reducible exact AtS.here | with_reducible exact AtS.here2 | exact AtS.last | apply AtS.there | with_reducible apply AtS.app | with_reducible apply AtS.app2)) ?_ | exact HLe.last (by repeat (first | with_reducible exact AtS.here | with_reducible exact AtS.here2 | exact AtS.last | apply AtS.there | with_reducible apply AtS.app | with_reducible apply AtS.app2))))⟩⟩

end Go.Proofs
