import Derived.Test.YtephkjicokbckaaGreatDoorVerifyKnownMk
import Derived.Test.YtephkjicokbckaaGreatDoorVerifyKnownNa
import Derived.Test.YtephkjicokbckaaGreatDoorVerifyKnownNb
import Derived.Test.YtephkjicokbckaaGreatDoorVerifyKnownGa
import Derived.Test.YtephkjicokbckaaGreatDoorVerifyKnownGd
section
section

set_option linter.unusedVariables false

set_option linter.unusedSimpArgs false

set_option linter.unnecessarySimpa false

namespace Go.Proofs

open Go Go.Vx Go.Gm

structure RSim where
  b : Nat
  N : Net
  pn : Option Addr
  cn : Nat
  qs : Option Addr
  cs : Nat
  tick : Nat
  sb : Nat
  sc : Nat
  sts : List Sta
  dp : Option Addr
  dc : Nat
  D : List DRow

end Go.Proofs

end

section

set_option linter.unusedVariables false

set_option linter.unusedSimpArgs false

set_option linter.unnecessarySimpa false

namespace Go.Proofs

open Go Go.Vx Go.Gm

def goFire (x : RSim) : List (Sta × Bool) := fire x.N.ps x.sts ((x.D[0]?.map (·.l)).getD [])

structure RGoY where
  p : Option Addr
  cap : Nat
  dp : Option Addr
  dc : Nat
  D : List DRow

def RSim.put (x : RSim) (t : Nat) (sts : List Sta) (dp : Option Addr) (dc : Nat) (D : List DRow) : RSim := { x with tick := t, sts := sts, dp := dp, dc := dc, D := D }

def RSim.next (x : RSim) (y : RGoY) : RSim := x.put (x.tick + 1) ((goFire x).map (·.1)) y.dp y.dc y.D

end Go.Proofs

end

section

set_option linter.unusedVariables false

set_option linter.unusedSimpArgs false

namespace Go.Proofs

open Go Go.Vx Go.Gm

theorem rot0 {D : List (List Int)} (h : D.length = 16) : rot 0 D = D := by
  apply List.ext_getElem?
  intro i
  rw [rot_get]
  by_cases hi : i < 16
  · have h2 : (0 + i) % 16 = i := by omega
    rw [if_pos hi, h2, List.getElem?_eq_getElem (by omega)]
    rfl
  · rw [if_neg hi, List.getElem?_eq_none (by omega)]

end Go.Proofs

end
end

section
set_option linter.unusedVariables false

set_option linter.unusedSimpArgs false

namespace Go.Proofs

open Go Go.Vx Go.Gm

theorem _root_.Go.Vx.VSeq.isA {at_ : Nat} (n : Nat) (e : at_ = n) {H : HP} {A : (Env → HP → Prop) → Prop} {B : Env → HP → Prop} (hh : VSeq at_ H A B) : VSeq at_ H A B := hh

def tinyN (N : Net) : Net := ⟨[⟨0, 0, 0, 1, 0, 0, 0, 0⟩], N.inputs, []⟩

theorem tinyN_wf {N : Net} (h : N.wf) : (tinyN N).wf := by
  refine ⟨fun p hp => ?_, h.inputs, by simp [tinyN]⟩
  simp only [tinyN, List.mem_singleton] at hp
  subst hp
  constructor <;> unfold I64 <;> dsimp only <;> omega

def evEr (N : Net) (l : List Evt) : Int := (runRes (tinyN N) l 0).2

theorem evEr_zero {N : Net} {l : List Evt} (h : evEr N l = 0) : EvOk N.inputs 10000 l := by
  unfold evEr runRes at h
  by_cases hp : prepErr (tinyN N) l 0 10000 = 0
  · exact (prep_zero.1 hp).2.2
  · rw [if_pos hp] at h
    exact absurd h hp

theorem events_any (N : Net) (hN : N.wf) (l : List Evt) (hl : ∀ x ∈ l, x.wf) (pv qv : Value) (pe : Option Addr) (ce be oe : Nat) (w : World) (h3 : Sl w evtV 2 l pe l.length be oe) (hce : l.length ≤ ce) :
    Calls Tryz.prog 77 #[.agg #[pv, .int .i64 N.inputs, qv], .slice pe l.length ce] w fun e w' => e = .returned (.int .i64 (evEr N l)) ∧ St w [] [] w' := by
  refine enter (C := Tryz.cx) (F := Tryz.fx77) (args := [_, _]) Tryz.func77 rfl rfl rfl Tryz.ok77 (St.start w []) ?_
  repeat' (conv => whnf); first | (refine VNew.mk fun g => ?_) | (refine VCall.isF 30 ?_; (refine VCall.genR (fun w' hw' => Run_any (tinyN N) (tinyN_wf hN) l hl 0 (some ⟨_, 0, none⟩) 1 _ 0 none 0 0 0 pe ce be oe w' (Sl.own' (cap := 1) (e := 136) hw' (by exact List.mem_cons_self) (fun _ => rfl) rfl) (.nil (.inl rfl)) (h3.keep hw' (by simp)) hce) ?_; rintro ⟨q, c⟩ -)) | (refine VSeq.go ?_) | (refine VLd.is ?_; refine VLd.mk (.row aT (by rfl)) ?_)
  all_goals (conv => whnf)
  all_goals exact ⟨fun w' hw' => ⟨rfl, hw'.le .nil⟩⟩

def tmE (ticks : Int) : Int := if 0 ≤ ticks ∧ ticks ≤ 10000 then 0 else 3

end Go.Proofs
end
