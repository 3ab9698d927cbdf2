import Derived.Test.YtephkjicokbckaaGreatDoorVerifyKnownOt
import Derived.Test.YtephkjicokbckaaGreatDoorVerifyKnownWe
import Derived.Test.YtephkjicokbckaaGreatDoorVerifyKnownWg
set_option linter.unusedVariables false

set_option linter.unusedSimpArgs false

namespace Go.Proofs

open Go Go.Vx Go.Gm

def robErr (N : Net) (l : List Evt) (jit los ticks : Int) (c : Clm) : Int :=
  if netchk N ≠ 0 then netchk N else if evEr N l ≠ 0 then evEr N l else if (runsRes l jit los).2 ≠ 0 then (runsRes l jit los).2 else if tmE ticks ≠ 0 then tmE ticks else if clmErr N.ps.length c ≠ 0 then clmErr N.ps.length c else if ticks < c.to then 3 else 0

noncomputable def robRes (N : Net) (l : List Evt) (jit los ticks : Int) (c : Clm) : Bool × List Evt × Int :=
  if robErr N l jit los ticks c ≠ 0 then (false, [], robErr N l jit los ticks c)
  else match firstB (robB N c ticks) jit.toNat [] l los.toNat with
    | none => (true, [], 0)
    | some (D, er) => if er ≠ 0 then (false, [], er) else (false, D, 0)

theorem runsRes_zero {l : List Evt} {jit los : Int} (h : (runsRes l jit los).2 = 0) : l.length ≤ 64 ∧ ((0 ≤ jit ∧ jit ≤ 64) ∧ 0 ≤ los ∧ los ≤ 64) ∧ (∀ x ∈ l, 0 ≤ x.tick ∧ x.tick < 10000) ∧ ∃ n, runsC los.toNat jit.toNat (l.map (·.tick)) [1] = some n ∧ (runsRes l jit los).1 = n := by
  unfold runsRes at h ⊢
  by_cases h1 : 64 < l.length
  · rw [if_pos h1] at h; cases h
  rw [if_neg h1] at h ⊢
  by_cases h2 : ¬ ((0 ≤ jit ∧ jit ≤ 64) ∧ 0 ≤ los ∧ los ≤ 64)
  · rw [if_pos h2] at h; cases h
  rw [if_neg h2] at h ⊢
  by_cases h3 : ∃ x ∈ l, ¬ (0 ≤ x.tick ∧ x.tick < 10000)
  · rw [if_pos h3] at h; cases h
  rw [if_neg h3] at h ⊢
  refine ⟨by omega, Decidable.not_not.1 h2, fun x hx => Decidable.not_not.1 fun hn => h3 ⟨x, hx, hn⟩, ?_⟩
  cases hr : runsC los.toNat jit.toNat (l.map (·.tick)) [1] with
  | none => rw [hr] at h; cases h
  | some n => exact ⟨n, rfl, rfl⟩

set_option maxHeartbeats 4000000 in
theorem Robust_any (N : Net) (hN : N.wf) (hnl : N.ps.length ≤ 1000000000) (l : List Evt) (hlw : ∀ x ∈ l, x.wf) (jit los ticks : Int) (hj : I64 jit) (hlo : I64 los) (hti : I64 ticks) (c : Clm) (hc : c.wf) (hns : c.ns.length ≤ 1000) (hfew : tmE ticks = 0 → ∀ X : List Evt, X.length ≤ 64 → (runRes N X ticks).1.length ≤ 65536)
    (pn : Option Addr) (cn bn on : Nat) (qs : Option Addr) (cs bs os : Nat) (pe : Option Addr) (ce be oe : Nat) (pc : Option Addr) (cc bc oc : Nat) (w : World)
    (h1 : Sl w parV 8 N.ps pn N.ps.length bn on) (h2 : Sl w synV 4 N.syns qs N.syns.length bs os) (h3 : Sl w evtV 2 l pe l.length be oe) (hce : l.length ≤ ce) (h5 : Sl w intV 1 c.ns pc c.ns.length bc oc) (hcc : c.ns.length ≤ cc) :
    Calls Tryz.prog 42 #[.agg #[.slice pn N.ps.length cn, .int .i64 N.inputs, .slice qs N.syns.length cs], .slice pe l.length ce, .int .i64 jit, .int .i64 los, .int .i64 ticks, clmA c pc cc] w fun e w' => ∃ y : Option Addr × Nat,
      e = .returned (.tuple #[.bool (robRes N l jit los ticks c).1, .slice y.1 (robRes N l jit los ticks c).2.1.length y.2, .int .i64 (robRes N l jit los ticks c).2.2]) ∧ (0 < (robRes N l jit los ticks c).2.1.length → ∃ g, y.1 = some ⟨g, 0, none⟩) ∧
      St w [] [.vec y.1 (robRes N l jit los ticks c).2.1.length y.2 64 2 (flat evtV (robRes N l jit los ticks c).2.1)] w' := by
  have hti' := hti
  unfold I64 at hti
  have hfin : ∀ w' H, St w [] H w' → ∀ E, E ≠ 0 → robErr N l jit los ticks c = E → ∃ y : Option Addr × Nat, Ending.returned (.tuple #[.bool false, .slice none 0 0, .int .i64 E]) = .returned (.tuple #[.bool (robRes N l jit los ticks c).1, .slice y.1 (robRes N l jit los ticks c).2.1.length y.2, .int .i64 (robRes N l jit los ticks c).2.2]) ∧ (0 < (robRes N l jit los ticks c).2.1.length → ∃ g, y.1 = some ⟨g, 0, none⟩) ∧
      St w [] [.vec y.1 (robRes N l jit los ticks c).2.1.length y.2 64 2 (flat evtV (robRes N l jit los ticks c).2.1)] w' := by
    intro w' H hw' E hE he
    have hr : robRes N l jit los ticks c = (false, [], E) := by unfold robRes; rw [if_pos (by omega), he]
    rw [hr]
    exact ⟨(none, 0), rfl, by simp, hw'.le (HLe.nilv .nil)⟩
  have hone : oneAll [.slice pn N.ps.length cn, .int .i64 N.inputs, .slice qs N.syns.length cs] = true := rfl
  refine enter (C := Tryz.cx) (F := Tryz.fx42) (args := [_, _, _, _, _, _]) Tryz.func42 rfl rfl rfl Tryz.ok42 (St.start w []) ?_
  repeat' (conv => whnf); first | (refine VCall.isF 54 ?_; refine VCall.inl (F := Tryz.fx54) Tryz.func54 rfl rfl rfl Tryz.ok54 ?_) | (refine VCall.isF 47 ?_; refine VCall.inl (F := Tryz.fx47) Tryz.func47 rfl rfl rfl Tryz.ok47 ?_) | (refine VSeq.go ?_) | (refine VLd.is ?_; refine VLd.mk (.row aT (by rfl)) ?_) | (refine VNew.mk fun _ => ?_)
  all_goals (conv => whnf)
  rename_i b6 b7 b8 b9 b10 b11 bt gf
  refine VLoop.mk (α := Nat) (fun i => i ≤ 6 ∧ (1 ≤ i → netchk N = 0) ∧ (2 ≤ i → evEr N l = 0) ∧ (3 ≤ i → (runsRes l jit los).2 = 0) ∧ (4 ≤ i → tmE ticks = 0) ∧ (5 ≤ i → clmErr N.ps.length c = 0) ∧ (6 ≤ i → c.to ≤ ticks))
    (fun i => [(1000000, .tuple #[]), (2, .int .i64 0), (6, .slice (some ⟨gf, 0, none⟩) 6 6), (7, .int .i64 6), (8, .int .i64 (i : Int))])
    (fun _ => [.vec (some ⟨gf, 0, none⟩) 6 6 93 1 [.func (.func 103) #[] #[.pointer (some ⟨b6, 0, none⟩)], .func (.func 104) #[] #[.pointer (some ⟨b6, 0, none⟩), .pointer (some ⟨b7, 0, none⟩)], .func (.func 105) #[] #[.pointer (some ⟨b7, 0, none⟩), .pointer (some ⟨b8, 0, none⟩), .pointer (some ⟨b9, 0, none⟩)], .func (.func 121) #[] #[.pointer (some ⟨bt, 0, none⟩)], .func (.func 106) #[] #[.pointer (some ⟨b11, 0, none⟩), .pointer (some ⟨b6, 0, none⟩)], .func (.func 107) #[] #[.pointer (some ⟨b11, 0, none⟩), .pointer (some ⟨b10, 0, none⟩)]],
      .row b6 25 (cellsL (.agg #[.slice pn N.ps.length cn, .int .i64 N.inputs, .slice qs N.syns.length cs])), .row b7 27 [.slice pe l.length ce], .row b8 3 [.int .i64 jit], .row b9 3 [.int .i64 los], .row b10 3 [.int .i64 ticks], .row b11 50 (clmV c pc cc), .row bt 3 [.int .i64 ticks]]) (fun i => 6 - i) 0 (by omega) aE aH ?_
  rintro i ⟨hi, f1, f2, f3, f4, f5, f6⟩
  have hi7 : i = 0 ∨ i = 1 ∨ i = 2 ∨ i = 3 ∨ i = 4 ∨ i = 5 ∨ i = 6 := by omega
  rcases hi7 with rfl | rfl | rfl | rfl | rfl | rfl | rfl
  · repeat' (conv => whnf); first | (refine VLd.is ?_; refine VLd.mk (.vec aT rfl) ?_) | (refine VCall.isF 103 ?_; refine VCall.inl (F := Tryz.fx103) Tryz.func103 rfl rfl rfl Tryz.ok103 ?_) | (refine VCall.isF 49 ?_; refine VCall.valR (fun w' hw' => Check_any N hN _ _ _ _ _ _ _ _ _ (h1.keep hw' (by simp)) (h2.keep hw' (by simp))) ?_) | (refine VSeq.go ?_) | (refine VB.is ?_; refine VB.yes (by omega) fun _ => ?_) | (refine VB.split (fun _ => ?_) (fun _ => ?_)) | (refine VLd.is ?_; refine VLd.mk (.row aT (by rfl)) ?_) | (refine VSt.is ?_; refine VSt.row aT (by rfl) (by first | rfl | assumption) ?_) | (refine VNew.mk fun _ => ?_) | (refine VAr.is ?_; refine oA ?_) | (refine VIx.is ?_; refine VIx.mk rfl (by omega) (by omega) ?_) | (refine VHs.mk _ (.refl _) ?_)
    all_goals (conv => whnf)
    all_goals first
      | exact VNext.mk 1 (by omega) (by omega) aE aH
      | exact ⟨fun w' hw' => hfin w' _ hw' _ (by omega) (by unfold robErr; rw [if_pos (by omega)])⟩
  · repeat' (conv => whnf); first | (refine VLd.is ?_; refine VLd.mk (.vec aT rfl) ?_) | (refine VCall.isF 104 ?_; refine VCall.inl (F := Tryz.fx104) Tryz.func104 rfl rfl rfl Tryz.ok104 ?_) | (refine VCall.isF 77 ?_; refine VCall.valR (fun w' hw' => events_any N hN l hlw _ _ _ _ _ _ _ (h3.keep hw' (by simp)) hce) ?_) | (refine VSeq.go ?_) | (refine VB.is ?_; refine VB.yes (by omega) fun _ => ?_) | (refine VB.split (fun _ => ?_) (fun _ => ?_)) | (refine VLd.is ?_; refine VLd.mk (.row aT (by rfl)) ?_) | (refine VSt.is ?_; refine VSt.row aT (by rfl) (by first | rfl | assumption) ?_) | (refine VNew.mk fun _ => ?_) | (refine VAr.is ?_; refine oA ?_) | (refine VIx.is ?_; refine VIx.mk rfl (by omega) (by omega) ?_) | (refine VHs.mk _ (.refl _) ?_)
    all_goals (conv => whnf)
    all_goals first
      | exact VNext.mk 2 (by omega) (by omega) aE aH
      | exact ⟨fun w' hw' => hfin w' _ hw' _ (by omega) (by unfold robErr; rw [if_neg (by omega), if_pos (by omega)])⟩
  · repeat' (conv => whnf); first | (refine VLd.is ?_; refine VLd.mk (.vec aT rfl) ?_) | (refine VCall.isF 105 ?_; refine VCall.inl (F := Tryz.fx105) Tryz.func105 rfl rfl rfl Tryz.ok105 ?_) | (refine VCall.isF 28 ?_; refine VCall.valR (fun w' hw' => Runs_any l hlw jit los hj hlo pe ce be oe w' (h3.keep hw' (by simp))) ?_) | (refine VSeq.go ?_) | (refine VB.is ?_; refine VB.yes (by omega) fun _ => ?_) | (refine VB.split (fun _ => ?_) (fun _ => ?_)) | (refine VLd.is ?_; refine VLd.mk (.row aT (by rfl)) ?_) | (refine VSt.is ?_; refine VSt.row aT (by rfl) (by first | rfl | assumption) ?_) | (refine VNew.mk fun _ => ?_) | (refine VAr.is ?_; refine oA ?_) | (refine VIx.is ?_; refine VIx.mk rfl (by omega) (by omega) ?_) | (refine VHs.mk _ (.refl _) ?_)
    all_goals (conv => whnf)
    all_goals first
      | exact VNext.mk 3 (by omega) (by omega) aE aH
      | exact ⟨fun w' hw' => hfin w' _ hw' _ (by omega) (by unfold robErr; rw [if_neg (by omega), if_neg (by omega), if_pos (by omega)])⟩
  · have htm : tmE ticks = if 0 ≤ ticks ∧ ticks ≤ 10000 then 0 else 3 := rfl
    repeat' (conv => whnf); first | (refine VLd.is ?_; refine VLd.mk (.vec aT rfl) ?_) | (refine VCall.isF 121 ?_; refine VCall.inl (F := Tryz.fx121) Tryz.func121 rfl rfl rfl Tryz.ok121 ?_) | (refine VCall.isF 90 ?_; refine VCall.inl (F := Tryz.fx90) Tryz.func90 rfl rfl rfl Tryz.ok90 ?_) | (refine VCall.isF 86 ?_; refine VCall.inl (F := Tryz.fx86) Tryz.func86 rfl rfl rfl Tryz.ok86 ?_) | (refine VSeq.go ?_) | (refine VB.is ?_; refine VB.yes (by omega) fun _ => ?_) | (refine VB.is ?_; refine VB.no (by omega) fun _ => ?_) | (refine VB.split (fun _ => ?_) (fun _ => ?_)) | (refine VLd.is ?_; refine VLd.mk (.row aT (by rfl)) ?_) | (refine VSt.is ?_; refine VSt.row aT (by rfl) (by first | rfl | assumption) ?_) | (refine VNew.mk fun _ => ?_) | (refine VAr.is ?_; refine oA ?_) | (refine VIx.is ?_; refine VIx.mk rfl (by omega) (by omega) ?_) | (refine VHs.mk _ (.refl _) ?_)
    all_goals (conv => whnf)
    all_goals first
      | (rw [if_pos (by omega)] at htm; exact VNext.mk 4 ⟨by omega, by omega, by omega, by omega, fun _ => htm, by omega, by omega⟩ (by omega) aE aH)
      | (rw [if_neg (by omega)] at htm; exact ⟨fun w' hw' => hfin w' _ hw' 3 (by omega) (by unfold robErr; rw [if_neg (by omega), if_neg (by omega), if_neg (by omega), if_pos (by omega)]; exact htm)⟩)
  · repeat' (conv => whnf); first | (refine VLd.is ?_; refine VLd.mk (.vec aT rfl) ?_) | (refine VCall.isF 106 ?_; refine VCall.inl (F := Tryz.fx106) Tryz.func106 rfl rfl rfl Tryz.ok106 ?_) | (refine VCall.isF 84 ?_; refine VCall.valR (fun w' hw' => vcheck_any c hc (by omega) pc cc bc oc hcc N.ps.length hnl pn cn _ _ hone w' (h5.keep hw' (by simp))) ?_) | (refine VSeq.go ?_) | (refine VB.is ?_; refine VB.yes (by omega) fun _ => ?_) | (refine VB.split (fun _ => ?_) (fun _ => ?_)) | (refine VLd.is ?_; refine VLd.mk (.row aT (by rfl)) ?_) | (refine VSt.is ?_; refine VSt.row aT (by rfl) (by first | rfl | assumption) ?_) | (refine VNew.mk fun _ => ?_) | (refine VAr.is ?_; refine oA ?_) | (refine VIx.is ?_; refine VIx.mk rfl (by omega) (by omega) ?_) | (refine VHs.mk _ (.refl _) ?_)
    all_goals (conv => whnf)
    all_goals first
      | exact VNext.mk 5 (by omega) (by omega) aE aH
      | exact ⟨fun w' hw' => hfin w' _ hw' _ (by omega) (by unfold robErr; rw [if_neg (by omega), if_neg (by omega), if_neg (by omega), if_neg (by omega), if_pos (by omega)])⟩
  · repeat' (conv => whnf); first | (refine VLd.is ?_; refine VLd.mk (.vec aT rfl) ?_) | (refine VCall.isF 107 ?_; refine VCall.inl (F := Tryz.fx107) Tryz.func107 rfl rfl rfl Tryz.ok107 ?_) | (refine VCall.isF 86 ?_; refine VCall.inl (F := Tryz.fx86) Tryz.func86 rfl rfl rfl Tryz.ok86 ?_) | (refine VSeq.go ?_) | (refine VB.is ?_; refine VB.yes (by omega) fun _ => ?_) | (refine VB.is ?_; refine VB.no (by omega) fun _ => ?_) | (refine VB.split (fun _ => ?_) (fun _ => ?_)) | (refine VLd.is ?_; refine VLd.mk (.row aT (by rfl)) ?_) | (refine VSt.is ?_; refine VSt.row aT (by rfl) (by first | rfl | assumption) ?_) | (refine VNew.mk fun _ => ?_) | (refine VAr.is ?_; refine oA ?_) | (refine VIx.is ?_; refine VIx.mk rfl (by omega) (by omega) ?_) | (refine VHs.mk _ (.refl _) ?_)
    all_goals (conv => whnf)
    all_goals first
      | exact VNext.mk 6 (by omega) (by omega) aE aH
      | exact ⟨fun w' hw' => hfin w' _ hw' 3 (by omega) (by unfold robErr; rw [if_neg (by omega), if_neg (by omega), if_neg (by omega), if_neg (by omega), if_neg (by omega), if_pos (by omega)])⟩
      | trace_state
  have g1 := f1 (by omega)
  have g2 := f2 (by omega)
  have g3 := f3 (by omega)
  have g4 := f4 (by omega)
  have g5 := f5 (by omega)
  have g6 := f6 (by omega)
  have hz : robErr N l jit los ticks c = 0 := by
    unfold robErr
    rw [if_neg (by omega), if_neg (by omega), if_neg (by omega), if_neg (by omega), if_neg (by omega), if_neg (by omega)]
  have hres : robRes N l jit los ticks c = (match firstB (robB N c ticks) jit.toNat [] l los.toNat with
    | none => (true, [], 0)
    | some (D, er) => if er ≠ 0 then (false, [], er) else (false, D, 0)) := by unfold robRes; rw [if_neg (by omega)]
  obtain ⟨r1, ⟨r2, r3⟩, r4, _⟩ := runsRes_zero g3
  obtain ⟨hkind, hn0, _, _⟩ := clmErr_zero g5
  obtain ⟨one, hone1⟩ : ∃ one, c.ns[0]? = some one := ⟨c.ns[0]'(by omega), List.getElem?_eq_getElem _⟩
  obtain ⟨J, rfl⟩ : ∃ J : Nat, jit = J := ⟨jit.toNat, by omega⟩
  obtain ⟨L, rfl⟩ : ∃ L : Nat, los = L := ⟨los.toNat, by omega⟩
  rw [Int.toNat_natCast, Int.toNat_natCast] at hres
  have hk := kinds_any c.kind
  obtain ⟨fa, fb, e1, hkf⟩ : ∃ fa fb, kindA c.kind = .agg #[.func (.func fa) #[] #[], .func (.func fb) #[] #[]] ∧ ((c.kind = 1 ∧ fa = 146) ∨ (c.kind = 2 ∧ fa = 148)) := by
    rcases hkind with hk1 | hk2
    · exact ⟨146, 147, by unfold kindA; rw [if_pos hk1], .inl ⟨hk1, rfl⟩⟩
    · exact ⟨148, 149, by unfold kindA; rw [if_neg (by omega), if_pos hk2], .inr ⟨hk2, rfl⟩⟩
  have e2 : decide (c.kind = 1 ∨ c.kind = 2) = true := decide_eq_true hkind
  rw [e1, e2] at hk
  have hfw := hfew g4
  clear hfin hi f1 f2 f3 f4 f5 f6 e1 e2
  repeat' (conv => whnf); first | (refine VNew.mk fun b99 => ?_) | (refine VMk.is ?_; refine VMk.mk (by omega) (by omega) (by (try dsimp only); omega) (by omega) fun b98 => ?_) | (refine VCall.isF 87 ?_; refine VCall.val hk ?_) | (refine VSeq.go ?_) | (refine VB.is ?_; refine VB.no (by omega) fun _ => ?_) | (refine VLd.is ?_; refine VLd.mk (.row aT (by rfl)) ?_) | (refine VSt.is ?_; refine VSt.row aT (by rfl) (by first | rfl | assumption) ?_)
  all_goals (conv => whnf)
  rename_i bE hzz bK bB bF bC
  have e0 : (0 : Int) = ((0 : Nat) : Int) := rfl
  refine try_vc N hN l (fun x hx => ⟨hlw x hx, r4 x hx⟩) r1 J (by omega) ticks hti' c hc (by omega) one hone1 fa fb hkf hfw pn cn bn on qs cs bs os pe ce be oe pc cc bc oc h1 h2 h3 hce h5 hcc ⟨b7, bC, b6, b10, bK, b11, bB, bF, bE, b8, b99⟩ l.length 0 L [] (some ⟨b98, 0, none⟩) l.length _ _ _ (by omega) (by omega) (by simp) (by simp) (by unfold tryS; dsimp only; repeat (first | exact Take.nil | (with_reducible apply Take.seg; (focus (exact aS))) | (apply Take.cons; (focus (exact aT))) | (apply Take.last; (focus (exact aS))))) (fun hnone q3 cq3 => ?_) (fun D er pb cb q3 cq3 hsome => ?_)
  · rw [List.drop_zero] at hnone
    rw [hnone] at hres
    dsimp only at hres
    unfold tryS
    dsimp only [List.cons_append, List.nil_append]
    repeat' (conv => whnf); first | (refine VSeq.go ?_) | (refine VB.is ?_; refine VB.no (by omega) fun _ => ?_) | (refine VB.split (fun _ => ?_) (fun _ => ?_)) | (refine VLd.is ?_; refine VLd.mk (.row aT (by rfl)) ?_) | (refine VHs.mk _ (.refl _) ?_)
    all_goals (conv => whnf)
    rw [hres]
    exact ⟨fun w' hw' => ⟨(none, 0), rfl, by simp, hw'.le (HLe.nilv .nil)⟩⟩
  · rw [List.drop_zero] at hsome
    rw [hsome] at hres
    dsimp only at hres
    unfold tryS
    dsimp only [List.cons_append, List.nil_append]
    repeat' (conv => whnf); first | (refine VSeq.go ?_) | (refine VB.is ?_; refine VB.no (by omega) fun _ => ?_) | (refine VB.split (fun _ => ?_) (fun _ => ?_)) | (refine VLd.is ?_; refine VLd.mk (.row aT (by rfl)) ?_) | (refine VHs.mk _ (.refl _) ?_)
    all_goals (conv => whnf)
    · rw [hres, if_pos ‹_›]
      exact ⟨fun w' hw' => ⟨(none, 0), rfl, by simp, hw'.le (HLe.nilv .nil)⟩⟩
    · rw [hres, if_neg ‹_›]
      exact ⟨fun w' hw' => ⟨(pb, cb), rfl, (vec_facts (hw'.own (.vec pb D.length cb 64 2 (flat evtV D)) (by simp))).2.1, hw'.le aH⟩⟩

end Go.Proofs
