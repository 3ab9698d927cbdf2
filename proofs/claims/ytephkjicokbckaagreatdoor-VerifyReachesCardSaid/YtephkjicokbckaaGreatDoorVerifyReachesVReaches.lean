import Derived.Test.YtephkjicokbckaaGreatDoorVerifyReachesLm
import Derived.Test.YtephkjicokbckaaGreatDoorVerifyReachesRj
import Derived.Test.YtephkjicokbckaaGreatDoorVerifyReachesFd
set_option linter.unusedVariables false

set_option linter.unusedSimpArgs false

namespace Go.Proofs

open Go Go.Vx Go.Gm

structure MomIn (w : World) (x : MomD) : Prop where
  m : ∃ b o, Sl w intV 1 x.m.l x.m.p x.m.l.length b o
  n : ∃ b o, Sl w intV 1 x.n.l x.n.p x.n.l.length b o

theorem Searched.ok {v : Sur} {Ls : List MomD} {ticks : Int} (h : Searched v Ls ticks) {w : World} (h6 : ∀ x ∈ Ls, MomIn w x) : ∀ x ∈ Ls, MomOk w x := fun x hx => by
  have := h.mom x hx
  exact ⟨(h6 x hx).m, (h6 x hx).n, by omega, by omega⟩

set_option maxHeartbeats 4000000 in
theorem VerifyReaches_any (N : Net) (hN : N.wf) (v : Sur) (hv : (∀ x ∈ v.fixed, x.wf) ∧ I64 v.most) (Ls : List MomD) (ticks : Int) (hti : I64 ticks) (pn : Option Addr) (cn bn on : Nat) (qs : Option Addr) (cs bs os : Nat) (pf : Option Addr) (cf bf of : Nat) (px : Option Addr) (cx bx ox : Nat) (pl : Option Addr) (cl bl ol : Nat) (w : World) (htab : PowTab w)
    (h1 : Sl w parV 8 N.ps pn N.ps.length bn on) (h2 : Sl w synV 4 N.syns qs N.syns.length bs os) (h3 : Sl w intV 1 v.free pf v.free.length bf of) (h4 : Sl w evtV 2 v.fixed px v.fixed.length bx ox) (hcx : v.fixed.length ≤ cx) (h5 : Sl w momV 2 Ls pl Ls.length bl ol) (h6 : ∀ x ∈ Ls, MomIn w x) :
    Calls Tryz.prog 3 #[.agg #[.slice pn N.ps.length cn, .int .i64 N.inputs, .slice qs N.syns.length cs], .agg (envC pf cf px cx v).toArray, .slice pl Ls.length cl, .int .i64 ticks] w fun e w' => e = .returned (.bool true) ∧ St w [] [] w' := by
  obtain ⟨hfw, hmo⟩ := hv
  obtain ⟨R, hR⟩ : ∃ R, rchRes N v (Ls.map (·.mom)) ticks = R := ⟨_, rfl⟩
  have hfine := rch_fine N v (Ls.map (·.mom)) ticks
  have hV := vReach_any N hN v hfw hmo Ls ticks hti pn cn bn on qs cs bs os pf cf bf of px cx bx ox pl cl bl ol
  have hF := rrch_any N hN v hfw hmo Ls ticks hti pn cn bn on qs cs bs os pf cf bf of px cx bx ox
  rw [hR] at hfine hV hF
  obtain ⟨R1, R2, R3, R4⟩ := R
  dsimp only at hfine hV hF
  refine enter (C := Tryz.cx) (F := Tryz.fx3) (args := [_, _, _, _]) Tryz.func3 rfl rfl rfl Tryz.ok3 (St.start w []) ?_
  repeat' (conv => whnf); first | (refine VNew.mk fun b5 => ?_) | (refine VCall.isF 15 ?_; (refine VCall.genR (fun w' _ => vfew_any _ _ _ _ _ _ _ w') ?_; intro bf hbf)) | (refine VCall.isF 16 ?_; (refine VCall.genR (fun w' hw' => vsearched_any v Ls ticks pf cf px cx pl cl bl ol w' (h5.keep hw' (by simp))) ?_; intro bs1 hbs1)) | (refine VCall.isF 17 ?_; (refine VCall.valR (fun w' hw' => vworks_any w' (Lib.tabBelow_of_tabIs htab w' hw'.below)) ?_)) | (refine VCall.isF 18 ?_; (refine VCall.genR (fun w' hw' => hV w' (h1.keep hw' (by simp)) (h2.keep hw' (by simp)) (h3.keep hw' (by simp)) (h4.keep hw' (by simp)) hcx (h5.keep hw' (by simp)) (fun x hx => ((hbs1 rfl).ok h6 x hx).keep hw') (by have := hbf rfl; omega) (Lib.tabBelow_of_tabIs htab w' hw'.below)) ?_; rintro ⟨p1, c1⟩ hp1; dsimp only at hp1 ⊢)) | (refine VCall.isF 20 ?_; (refine VCall.genR (fun w' hw' => vmoments_any Ls (by have := (hbs1 rfl).pat; omega) pl cl bl ol w' (h5.keep hw' (by simp))) ?_; rintro ⟨p2, c2⟩ _; dsimp only)) | (refine VCall.isF 19 ?_; (refine VCall.genR (fun w' hw' => Exists.elim (Sl.own (f := momV) (l := Ls) (cap := c2) (e := 125) (p := p2) (k := 2) hw' aT (fun _ => rfl) rfl) fun bq hbq => hF p2 c2 bq 0 w' (h1.keep hw' (by simp)) (h2.keep hw' (by simp)) (h3.keep hw' (by simp)) (h4.keep hw' (by simp)) hbq (fun x hx => ((hbs1 rfl).ok h6 x hx).keep hw') (by have := hbf rfl; omega)) ?_; rintro ⟨p3, c3⟩ hp3; dsimp only at hp3 ⊢)) | (refine VCall.isF 21 ?_; (refine vsame_call R1 R1 hfine.1 hfine.1 (by omega) _ _ _ _ _ _ _ _ rfl rfl aT aT ?_; intro r hr; have hr := hr.2 rfl; subst hr)) | (refine VSeq.go ?_) | (refine VB.is ?_; refine VB.yes (by omega) fun _ => ?_) | (refine VB.split (fun _ => ?_) (fun _ => ?_)) | (refine boolE_split (fun h => ?_) (fun h => ?_) <;> subst h) | (refine VLd.is ?_; refine VLd.mk (.row aT (by rfl)) ?_) | (refine VKeep.is ?_; refine VKeep.mk aH ?_) | (refine VHs.mk _ (.refl _) ?_)
  all_goals (conv => whnf)
  all_goals first
    | exact ⟨fun w' hw' => ⟨rfl, hw'.le .nil⟩⟩
    | (exfalso; cases R3 <;> simp_all; done)

end Go.Proofs
