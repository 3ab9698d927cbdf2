import Derived.Test.YtjjcoiicikaaiaaGreatPlaceWaysNeuron
import Derived.Test.YtjjcoiicikaaiaaGreatPlaceWaysVb
import Derived.Test.YtjjcoiicikaaiaaGreatPlaceWaysGa
section

set_option linter.unusedVariables false

namespace Go.Proofs

open Go Go.Vx Go.Gm

theorem _root_.Go.Vx.Rd.cast {w0 : World} {M : List Nat} {H : HP} {b off off' s : Nat} {vs : List Value} (h : Rd w0 M H b off s vs) (he : off' = off) : Rd w0 M H b off' s vs := he ▸ h

def synV (s : Syn) : List Value := [.int .i64 s.frm, .int .i64 s.to, .int .i64 s.wt, .int .i64 s.dl]

theorem source_any (N : Net) (hi : 0 ≤ N.inputs ∧ N.inputs ≤ 256) (hl : N.ps.length ≤ 1024) (pn : Option Addr) (cn : Nat) (sv : Value) (k : Int) (w : World) :
  Calls Tryz.prog 89 #[.agg #[.slice pn N.ps.length cn, .int .i64 N.inputs, sv], .int .i64 k] w fun e w' => ∃ b : Bool, e = .returned (.bool b) ∧ (b = true ↔ srcOk N k) ∧ St w [] [] w' := by
 refine enter (C := Tryz.cx) (F := Tryz.fx89) (args := [_, _]) Tryz.func89 rfl rfl rfl Tryz.ok89 (St.start w []) ?_
 repeat' (conv => whnf); first | (refine VCall.is ?_; refine VCall.ex (within_net _ _ _) fun b hb => ?_) | (refine VSeq.go ?_) | (refine VLd.is ?_; refine VLd.mk (.row aT (by rfl)) ?_) | (refine VNew.mk fun _ => ?_) | (refine VAr.is ?_; refine oA ?_)
 all_goals (conv => whnf)
 all_goals exact ⟨fun w' hw' => ⟨_, rfl, by unfold srcOk; rw [hb]; omega, hw'.le .nil⟩⟩

theorem Check_any (N : Net) (hN : N.wf) (pn : Option Addr) (cn bn on : Nat) (qs : Option Addr) (cs bs os : Nat) (w : World) (h1 : Sl w parV 8 N.ps pn N.ps.length bn on) (h2 : Sl w synV 4 N.syns qs N.syns.length bs os) :
  Calls Tryz.prog 30 #[.agg #[.slice pn N.ps.length cn, .int .i64 N.inputs, .slice qs N.syns.length cs]] w fun e w' => e = .returned (.int .i64 (netchk N)) ∧ St w [] [] w' := by
 have hin := hN.inputs
 unfold I64 at hin
 refine enter (C := Tryz.cx) (F := Tryz.fx30) (args := [_]) Tryz.func30 rfl rfl rfl Tryz.ok30 (St.start w []) ?_
 repeat' (conv => whnf); first | (refine VNew.mk fun b1 => ?_) | (refine VSeq.go ?_) | (refine VB.split (fun _ => ?_) (fun _ => ?_)) | (refine VLd.is ?_; refine VLd.mk (.row aT (by rfl)) ?_)
 all_goals (conv => whnf)
 ·exact ⟨fun w' hw' => ⟨by rw [netchk_arg (by omega)]; rfl, hw'.le .nil⟩⟩
 ·exact ⟨fun w' hw' => ⟨by rw [netchk_many (by omega) (by omega)]; rfl, hw'.le .nil⟩⟩
 ·exact ⟨fun w' hw' => ⟨by rw [netchk_many (by omega) (by omega)]; rfl, hw'.le .nil⟩⟩
 ·exact ⟨fun w' hw' => ⟨by rw [netchk_many (by omega) (by omega)]; rfl, hw'.le .nil⟩⟩
 ·exact ⟨fun w' hw' => ⟨by rw [netchk_range (by omega) (by omega) (by omega)]; rfl, hw'.le .nil⟩⟩
 refine VLoop.mk (α := Nat) (fun i => i ≤ N.ps.length ∧ firstErr N.ps = firstErr (N.ps.drop i))
  (fun i => [(1000000, .tuple #[]), (1, .pointer (some ⟨b1, 0, none⟩)), (34, .slice pn N.ps.length cn), (35, .int .i64 (N.ps.length : Int)), (36, .int .i64 (i : Int))])
  (fun _ => [.row b1 39 [.slice pn N.ps.length cn, .int .i64 N.inputs, .slice qs N.syns.length cs]]) (fun i => N.ps.length - i) 0 ⟨by omega, rfl⟩ aE aH ?_
 rintro i ⟨hi, hf⟩
 rcases Nat.lt_or_ge i N.ps.length with hlt | hge
 ·obtain ⟨p, hp⟩ := h1.get hlt
  have hwf := hN.ps p (List.mem_of_getElem? hp)
  repeat' (conv => whnf); first | (refine VIx.is ?_; refine VIx.mk (h1.ptr (by omega)) (by omega) (by omega) ?_) | (refine VLd.is ?_; refine VLd.mk (h1.rd0 (by simp) (fun _ => rfl) hp rfl) ?_) | (refine VCall.is ?_; refine VCall.val (check_any p hwf) ?_) | (refine VSeq.go ?_) | (refine VB.is ?_; refine VB.yes (by omega) fun _ => ?_) | (refine VB.split (fun _ => ?_) (fun _ => ?_)) | (refine VLd.is ?_; refine VLd.mk (.row aT (by rfl)) ?_) | (refine VSt.is ?_; refine VSt.row aT (by rfl) (by first | rfl | assumption) ?_) | (refine VNew.mk fun _ => ?_) | (refine VAr.is ?_; refine oA ?_)
  all_goals (conv => whnf)
  ·have := firstErr_err hp ‹_›
   exact ⟨fun w' hw' => ⟨by rw [netchk_par (by omega) (by omega) (by omega) (by rw [hf, this]; assumption), hf, this]; rfl, hw'.le .nil⟩⟩
  ·refine VNext.mk (i + 1) ⟨by omega, ?_⟩ (by omega) aE aH
   rw [hf, firstErr_drop hp (by omega)]
 ·have hf0 : firstErr N.ps = 0 := by rw [hf, List.drop_eq_nil_of_le hge]; rfl
  repeat' (conv => whnf); first | (refine VSeq.go ?_) | (refine VB.is ?_; refine VB.no (by omega) fun _ => ?_) | (refine VLd.is ?_; refine VLd.mk (.row aT (by rfl)) ?_)
  all_goals (conv => whnf)
  refine VLoop.mk (α := Nat) (fun i => i ≤ N.syns.length ∧ synsOk N N.syns = synsOk N (N.syns.drop i))
   (fun i => [(1000000, .tuple #[]), (1, .pointer (some ⟨b1, 0, none⟩)), (47, .slice qs N.syns.length cs), (48, .int .i64 (N.syns.length : Int)), (49, .int .i64 (i : Int))])
   (fun _ => [.row b1 39 [.slice pn N.ps.length cn, .int .i64 N.inputs, .slice qs N.syns.length cs]]) (fun i => N.syns.length - i) 0 ⟨by omega, rfl⟩ aE aH ?_
  rintro j ⟨hj, hg⟩
  rcases Nat.lt_or_ge j N.syns.length with hlt | hge
  ·obtain ⟨s, hs⟩ := h2.get hlt
   have hwf := hN.syns s (List.mem_of_getElem? hs)
   unfold Syn.wf I64 at hwf
   repeat' (conv => whnf); first | (refine VIx.is ?_; refine VIx.mk (h2.ptr (by omega)) (by omega) (by omega) ?_) | (refine VLd.is ?_; refine VLd.mk (h2.rd0 (by simp) (fun _ => rfl) hs rfl) ?_) | (refine VCall.is ?_; refine VCall.bool (source_any N (by omega) (by omega) _ _ _ _) ?_) | (refine VCall.is ?_; refine VCall.bool (within_net _ _ _) ?_) | (refine VSeq.go ?_) | (refine VB.is ?_; refine VB.yes (by omega) fun _ => ?_) | (refine VB.split (fun _ => ?_) (fun _ => ?_)) | (refine VLd.is ?_; refine VLd.mk (.row aT (by rfl)) ?_) | (refine VSt.is ?_; refine VSt.row aT (by rfl) (by first | rfl | assumption) ?_) | (refine VNew.mk fun _ => ?_) | (refine VAr.is ?_; refine oA ?_)
   all_goals (conv => whnf)
   all_goals first
    | exact ⟨fun w' hw' => ⟨by rw [netchk_syn (by omega) (by omega) (by omega) hf0, hg, synsOk_not hs (by simp only [synOk, srcOk] at *; omega)]; rfl, hw'.le .nil⟩⟩
    | (refine VNext.mk (j + 1) ⟨by omega, ?_⟩ (by omega) aE aH
       rw [hg, synsOk_drop hs (by simp only [synOk, srcOk] at *; omega)])
  ·repeat' (conv => whnf); first | (refine VSeq.go ?_) | (refine VB.is ?_; refine VB.no (by omega) fun _ => ?_)
   all_goals (conv => whnf)
   exact ⟨fun w' hw' => ⟨by rw [netchk_syn (by omega) (by omega) (by omega) hf0, hg, List.drop_eq_nil_of_le hge]; rfl, hw'.le .nil⟩⟩

end Go.Proofs

end

section

set_option linter.unusedVariables false

namespace Go.Proofs

open Go Go.Vx Go.Gm

def intV (k : Int) : List Value := [.int .i64 k]

end Go.Proofs

end

section

set_option linter.unusedVariables false

namespace Go.Proofs

open Go Go.Vx Go.Gm

theorem clonePar_any (l : List Par) (p : Option Addr) (c b o : Nat) (w : World) (h1 : Sl w parV 8 l p l.length b o) (hb : l.length ≤ 65536) :
  Calls Tryz.prog 53 #[.slice p l.length c] w fun e w' => ∃ x : Option Addr × Nat, e = .returned (.slice x.1 l.length x.2) ∧ (0 < l.length → ∃ g, x.1 = some ⟨g, 0, none⟩) ∧ St w [] [.vec x.1 l.length x.2 74 8 (flat parV l)] w' := by
 have hs := h1.src (w0 := w) (M := []) (H := []) (by simp) (fun _ => rfl)
 clear hs
 rcases h1.cases with ⟨a, h2⟩ | ⟨h2, h3⟩
 ·subst h2
  refine enter (C := Tryz.cx) (F := Tryz.fx53) (args := [_]) Tryz.func53 rfl rfl rfl Tryz.ok53 (St.start w []) ?_
  repeat' (conv => whnf); first | (refine VAp.is ?_; refine VAp.own aT (h1.src (by simp) (fun _ => rfl)) (flat_one_cell (by simp [parV, Value.oneCell'])) ((by (try dsimp only); omega)) (by simp only [maxLen]; omega) fun p' cap' hp' => ?_) | (refine VSeq.go ?_) | (refine VNew.mk fun _ => ?_)
  all_goals (conv => whnf)
  refine ⟨fun w' hw' => ⟨(p', cap'), by simp [packE], fun h => hp' (by omega), ?_⟩⟩
  rw [Nat.zero_add] at hw'
  exact hw'.le aH
 ·subst h2
  have hl : l = [] := List.eq_nil_of_length_eq_zero h3
  subst hl
  refine enter (C := Tryz.cx) (F := Tryz.fx53) (args := [_]) Tryz.func53 rfl rfl rfl Tryz.ok53 (St.start w []) ?_
  repeat' (conv => whnf); first | (refine VSeq.go ?_) | (refine VB.is ?_; refine VB.no (by omega) fun _ => ?_) | (refine VLd.is ?_; refine VLd.mk (.row aT (by rfl)) ?_)
  all_goals (conv => whnf)
  exact ⟨fun w' hw' => ⟨(none, 0), rfl, fun h => absurd h (by simp), hw'.le (.nilv .nil)⟩⟩

theorem cloneSyn_any (l : List Syn) (p : Option Addr) (c b o : Nat) (w : World) (h1 : Sl w synV 4 l p l.length b o) (hb : l.length ≤ 65536) :
  Calls Tryz.prog 54 #[.slice p l.length c] w fun e w' => ∃ x : Option Addr × Nat, e = .returned (.slice x.1 l.length x.2) ∧ (0 < l.length → ∃ g, x.1 = some ⟨g, 0, none⟩) ∧ St w [] [.vec x.1 l.length x.2 70 4 (flat synV l)] w' := by
 have hs := h1.src (w0 := w) (M := []) (H := []) (by simp) (fun _ => rfl)
 clear hs
 rcases h1.cases with ⟨a, h2⟩ | ⟨h2, h3⟩
 ·subst h2
  refine enter (C := Tryz.cx) (F := Tryz.fx54) (args := [_]) Tryz.func54 rfl rfl rfl Tryz.ok54 (St.start w []) ?_
  repeat' (conv => whnf); first | (refine VAp.is ?_; refine VAp.own aT (h1.src (by simp) (fun _ => rfl)) (flat_one_cell (by simp [synV, Value.oneCell'])) ((by (try dsimp only); omega)) (by simp only [maxLen]; omega) fun p' cap' hp' => ?_) | (refine VSeq.go ?_) | (refine VB.is ?_; refine VB.yes (by omega) fun _ => ?_) | (refine VB.is ?_; refine VB.no (by omega) fun _ => ?_) | (refine VB.split (fun _ => ?_) (fun _ => ?_)) | (refine boolE_split (fun h => ?_) (fun h => ?_) <;> subst h) | (refine VLd.is ?_; refine VLd.mk (.row aT (by rfl)) ?_) | (refine VSt.is ?_; refine VSt.row aT (by rfl) (by first | rfl | assumption) ?_) | (refine VNew.mk fun _ => ?_) | (refine VAr.is ?_; refine oA ?_) | (refine VIx.is ?_; refine VIx.mk rfl (by omega) (by omega) ?_) | (refine VKeep.is ?_; refine VKeep.mk aH ?_) | (refine VHs.mk _ (.refl _) ?_) | (refine VQ.is ?_; refine oQ ?_) | (refine VM.is ?_; refine oM ?_) | (refine And.intro ?_ ?_)
  all_goals (conv => whnf)
  refine ⟨fun w' hw' => ⟨(p', cap'), by simp [packE], fun h => hp' (by omega), ?_⟩⟩
  rw [Nat.zero_add] at hw'
  exact hw'.le aH
 ·subst h2
  have hl : l = [] := List.eq_nil_of_length_eq_zero h3
  subst hl
  refine enter (C := Tryz.cx) (F := Tryz.fx54) (args := [_]) Tryz.func54 rfl rfl rfl Tryz.ok54 (St.start w []) ?_
  repeat' (conv => whnf); first | (refine VSeq.go ?_) | (refine VB.is ?_; refine VB.no (by omega) fun _ => ?_) | (refine VLd.is ?_; refine VLd.mk (.row aT (by rfl)) ?_)
  all_goals (conv => whnf)
  exact ⟨fun w' hw' => ⟨(none, 0), rfl, fun h => absurd h (by simp), hw'.le (.nilv .nil)⟩⟩

theorem cloneInt_any (l : List Int) (p : Option Addr) (c b o : Nat) (w : World) (h1 : Sl w intV 1 l p l.length b o) (hb : l.length ≤ 65536) :
  Calls Tryz.prog 69 #[.slice p l.length c] w fun e w' => ∃ x : Option Addr × Nat, e = .returned (.slice x.1 l.length x.2) ∧ (0 < l.length → ∃ g, x.1 = some ⟨g, 0, none⟩) ∧ St w [] [.vec x.1 l.length x.2 3 1 (flat intV l)] w' := by
 have hs := h1.src (w0 := w) (M := []) (H := []) (by simp) (fun _ => rfl)
 clear hs
 rcases h1.cases with ⟨a, h2⟩ | ⟨h2, h3⟩
 ·subst h2
  refine enter (C := Tryz.cx) (F := Tryz.fx69) (args := [_]) Tryz.func69 rfl rfl rfl Tryz.ok69 (St.start w []) ?_
  repeat' (conv => whnf); first | (refine VAp.is ?_; refine VAp.own aT (h1.src (by simp) (fun _ => rfl)) (flat_one_cell (by simp [intV, Value.oneCell'])) ((by (try dsimp only); omega)) (by simp only [maxLen]; omega) fun p' cap' hp' => ?_) | (refine VSeq.go ?_) | (refine VNew.mk fun _ => ?_)
  all_goals (conv => whnf)
  refine ⟨fun w' hw' => ⟨(p', cap'), by simp [packE], fun h => hp' (by omega), ?_⟩⟩
  rw [Nat.zero_add] at hw'
  exact hw'.le aH
 ·subst h2
  have hl : l = [] := List.eq_nil_of_length_eq_zero h3
  subst hl
  refine enter (C := Tryz.cx) (F := Tryz.fx69) (args := [_]) Tryz.func69 rfl rfl rfl Tryz.ok69 (St.start w []) ?_
  repeat' (conv => whnf); first | (refine VSeq.go ?_) | (refine VB.is ?_; refine VB.no (by omega) fun _ => ?_) | (refine VLd.is ?_; refine VLd.mk (.row aT (by rfl)) ?_)
  all_goals (conv => whnf)
  exact ⟨fun w' hw' => ⟨(none, 0), rfl, fun h => absurd h (by simp), hw'.le (.nilv .nil)⟩⟩

end Go.Proofs

end

section

set_option linter.unusedVariables false
set_option linter.unusedSimpArgs false
set_option maxHeartbeats 4000000

set_option linter.unnecessarySimpa false

namespace Go.Proofs

open Go Go.Vx Go.Gm

structure WRow where
 key : Int
 p : Option Addr
 cap : Nat
 l : List Syn

def wrowV (r : WRow) : Value := .slice r.p r.l.length r.cap

def wrowM (r : WRow) : Int × Value := (r.key, wrowV r)

def wrowK (r : WRow) : Int × List Syn := (r.key, r.l)

structure WOk (R : List WRow) : Prop where
 pos : ∀ r ∈ R, 0 < r.l.length
 ptr : ∀ r ∈ R, ∃ g, r.p = some ⟨g, 0, none⟩

end Go.Proofs

end

section


set_option linter.unnecessarySimpa false

namespace Go.Proofs

open Go Go.Vx Go.Gm

structure DRow where
 g : Nat
 cap : Nat
 l : List Int

def drowV (d : DRow) : Value := .slice (some ⟨d.g, 0, none⟩) d.l.length d.cap

structure SimM where
 b : Nat
 N : Net
 pb : Nat
 pc : Nat
 sv : Value
 bw : Nat
 R : List WRow
 tick : Nat
 sb : Nat
 sc : Nat
 sts : List Sta
 D : List DRow

theorem _root_.Go.Vx.Cells.row {w0 w : World} {M : List Nat} {H r : HP} {b e : Nat} {cs : List Value} {u : Ent → HP} (hs : St w0 M H w) (hat : At H (.row b e cs) u r) : Cells w b 0 cs := by
 have h : w.heap[b]? = some (.cells cs.toArray e (0, 0)) := hs.own _ hat.mem
 intro j v hj
 simpa [World.cell?, h] using hj

def nilS : Value := .slice none 0 0

structure SimOk (x : SimM) : Prop where
 net : NetOk x.N
 rows : WOk x.R
 wired : x.R.map wrowK = wire x.N.syns
 sts : x.sts.length = x.N.ps.length
 due : x.D.length = 16
 cells : ∀ d ∈ x.D, d.l.length = x.N.ps.length
 sv : x.sv.oneCell' = true

end Go.Proofs

end
